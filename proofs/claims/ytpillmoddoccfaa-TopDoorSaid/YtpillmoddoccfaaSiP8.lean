import Derived.Test.YtpillmoddoccfaaSiP7
set_option linter.unusedVariables false
set_option linter.unusedSimpArgs false
set_option linter.unusedSectionVars false
set_option maxHeartbeats 0
set_option maxRecDepth 100000
namespace Go.Proofs.Ytpillmoddoccfaa
namespace Si
open Go.Sx
open Classical
noncomputable section
variable {R : Type}
theorem nmS_n : ∀ i : Fin 12, ∀ j : Fin 12, i.val < j.val → nmS i.val ≠ nmS j.val := by decide +kernel
theorem nmS_k : ∀ i : Fin 12, brk ≠ nmS i.val := by decide +kernel
theorem nmS_w : ∀ i : Fin 12, ∀ x ∈ words, nmS i.val ≠ x := by decide +kernel
theorem nmS_b : ∀ i : Fin 12, ∀ j : Fin 2, 97 ≤ byteI (nmS i.val) j.val ∧ byteI (nmS i.val) j.val ≤ 122 := by decide +kernel
theorem brk_w : ∀ x ∈ words, brk ≠ x := by decide +kernel
theorem brk_b : ∀ j : Fin 6, 97 ≤ byteI brk j.val ∧ byteI brk j.val ≤ 122 := by decide +kernel
theorem nmS_word {i : Nat} (h : i < 12) : WordP (nmS i) ∧ (nmS i).size ≤ 8 :=
  ⟨⟨by show 1 ≤ 2; omega, fun j hj => nmS_b ⟨i, h⟩ ⟨j, hj⟩, nmS_w ⟨i, h⟩⟩, by show 2 ≤ 8; omega⟩
theorem brk_word : WordP brk ∧ brk.size ≤ 8 :=
  ⟨⟨by show 1 ≤ 6; omega, fun j hj => brk_b ⟨j, hj⟩, brk_w⟩, by show 6 ≤ 8; omega⟩
def fromF (W K : Nat) (i : Nat) : Int := if i < W then i else if i < W + 2 * K then W - 1 + ((i - W) / 2 + 1 : Nat) else W + K - 1 + ((i - (W + 2 * K)) / 2 + 1 : Nat)
def kindF (W K : Nat) (i : Nat) : Arr (Arr pLi) := if i < W then cA else if i < W + 2 * K then (if (i - W) % 2 = 0 then cB else cF) else (if (i - (W + 2 * K)) % 2 = 0 then cB else cF)
theorem rule_all {W K : Nat} (i : Nat) : (ruleF W K cA cB cF i).From = fromF W K i ∧ (ruleF W K cA cB cF i).When = kindF W K i ∧ (ruleF W K cA cB cF i).Sets = SE := by
  unfold ruleF fromF kindF
  split
  · exact ⟨rfl, rfl, rfl⟩
  · split
    · split <;> exact ⟨rfl, rfl, rfl⟩
    · split <;> exact ⟨rfl, rfl, rfl⟩
theorem opE_ok {W K : Nat} (h1 : 1 ≤ W) : 0 ≤ opE W K ∧ opE W K ≤ 2 * W + K := by unfold opE; split <;> omega
theorem agE_ok {W K : Nat} (h1 : 1 ≤ W) : 0 ≤ agE W K ∧ agE W K ≤ 2 * W + K := by unfold agE; split <;> omega
theorem lessE_ok {W K a : Nat} (h1 : 1 ≤ W) (h : a ≤ W) : 0 ≤ lessE W K a ∧ lessE W K a ≤ 2 * W + K := by unfold lessE; split <;> omega
theorem backE_ok {W K a : Nat} (h1 : 1 ≤ W) (h : a ≤ W) : 0 ≤ backE W K a ∧ backE W K a ≤ 2 * W + K := by
  have := opE_ok (K := K) h1
  have := agE_ok (K := K) h1
  have := lessE_ok (K := K) h1 h
  unfold backE
  split
  · assumption
  · split
    · split <;> assumption
    · omega
theorem rule_to {W K : Nat} (h1 : 1 ≤ W) {i : Nat} (hi : i < W + 2 * K + 2 * W) : 0 ≤ (ruleF W K cA cB cF i).To ∧ (ruleF W K cA cB cF i).To ≤ 2 * W + K := by
  have := opE_ok (K := K) h1
  have := agE_ok (K := K) h1
  have hl := lessE_ok (W := W) (K := K) (a := (i - (W + 2 * K)) / 2 + 1) h1
  have hb := backE_ok (W := W) (K := K) (a := (i - (W + 2 * K)) / 2 + 1) h1
  unfold ruleF
  split
  · show 0 ≤ (if i + 1 = W then opE W K else (i : Int) + 1) ∧ (if i + 1 = W then opE W K else (i : Int) + 1) ≤ _
    split <;> omega
  · split
    · split
      · exact this
      · show 0 ≤ (if 1 < (i - W) / 2 + 1 then (W : Int) + ((i - W) / 2 + 1 : Nat) - 2 else 2 * W + K - 1) ∧ (if 1 < (i - W) / 2 + 1 then (W : Int) + ((i - W) / 2 + 1 : Nat) - 2 else 2 * W + K - 1) ≤ _
        split <;> omega
    · split
      · exact hb (by omega)
      · exact hl (by omega)
theorem dm_ok {W K : Nat} (h1 : 1 ≤ W) (h2 : 2 * W + K ≤ 11) {m : pMa} {w : Arr Int} (h : DM W K m w) : VM m where
  i := by rw [h.i.len]; omega
  o := by rw [h.o]; omega
  c := by rw [h.c]; omega
  s := by rw [h.s.len]; omega
  r := by rw [h.r.len]; omega
  names := by
    have e : nN m = 1 + (2 * W + K + 1) := by unfold nN; rw [h.i.len, h.o, h.c, h.s.len]
    have g : ∀ i, i < nN m → nmF m i = if i = 0 then brk else nmS (i - 1) := by
      intro i hi
      unfold nmF
      rw [h.i.len, h.o, h.c]
      by_cases c : i = 0
      · rw [if_pos (by omega), if_pos c, c, h.i.get 0 (by omega)]
      · rw [if_neg (by omega), if_neg (by omega), if_neg (by omega), if_neg c, h.s.get _ (by omega)]
        rfl
    refine ⟨fun i hi => ?_, fun i j hij hj => ?_⟩
    · rw [g i hi]
      split
      · exact brk_word
      · exact nmS_word (by omega)
    · rw [g i (by omega), g j hj]
      rw [if_neg (show ¬ j = 0 by omega)]
      split
      · exact nmS_k ⟨j - 1, by omega⟩
      · exact nmS_n ⟨i - 1, by omega⟩ ⟨j - 1, by omega⟩ (by show i - 1 < j - 1; omega)
  cm := fun i hi => by rw [h.c] at hi; omega
  sh := fun i hi => by
    rw [h.s.len] at hi
    rw [h.s.get i hi, h.o]
    exact ⟨Int.le_refl 0, Int.le_refl 0⟩
  rules := fun i hi => by
    rw [h.r.len] at hi
    rw [h.r.get i hi]
    obtain ⟨r1, r2, r3⟩ := rule_all (W := W) (K := K) i
    obtain ⟨t1, t2⟩ := rule_to (K := K) h1 hi
    obtain ⟨k1, k2, k3⟩ := cond_ok h.i.len
    refine ⟨?_, ?_, ?_, ?_, ?_⟩
    · rw [r1, h.s.len]; unfold fromF; split
      · omega
      · split <;> omega
    · rw [h.s.len]; omega
    · rw [r2]; unfold kindF
      split
      · exact k1
      · split <;> split <;> assumption
    · rw [r3]; show 0 ≤ 4; omega
    · rw [r3]; exact fun i hi => absurd (show i < 0 from hi) (by omega)
theorem cA_v {m : pMa} {p : pPl} {inp : Nat} : condV m p inp cA := ⟨0, by show 0 < 1; omega, fun j hj => absurd (show j < 0 from hj) (by omega)⟩
theorem one_v {m : pMa} {p : pPl} {inp : Nat} {c : Arr (Arr pLi)} (x : Bool) (h1 : c.n = 1) (h2 : (c.f 0).n = 1) (h3 : (c.f 0).f 0 = ⟨1, 0, 0, x⟩) : condV m p inp c ↔ inp.testBit 0 = !x := by
  have e : litV m p inp ⟨1, 0, 0, x⟩ = true ↔ inp.testBit 0 = !x := by
    unfold litV rawL
    rw [if_pos rfl]
    show (!(inp.testBit 0 == x)) = true ↔ _
    cases inp.testBit 0 <;> cases x <;> simp
  constructor
  · rintro ⟨i, hi, ht⟩
    rw [h1] at hi
    obtain rfl : i = 0 := by omega
    have := ht 0 (by rw [h2]; omega)
    rw [h3] at this
    exact e.1 this
  · intro h
    refine ⟨0, by rw [h1]; omega, fun j hj => ?_⟩
    rw [h2] at hj
    obtain rfl : j = 0 := by omega
    rw [h3]
    exact e.2 h
theorem cB_v {m : pMa} {p : pPl} {inp : Nat} : condV m p inp cB ↔ inp.testBit 0 = true := one_v false rfl rfl rfl
theorem cF_v {m : pMa} {p : pPl} {inp : Nat} : condV m p inp cF ↔ inp.testBit 0 = false := one_v true rfl rfl rfl
theorem stepV_at {m : pMa} {p : pPl} {inp r : Nat} (hr : fires m p inp r) (hn : (m.Rules.f r).Sets.n = 0) : ∀ (q i : Nat), i ≤ r → r < i + q → (∀ j, i ≤ j → j < r → ¬ fires m p inp j) → stepV m p inp q i = ⟨(m.Rules.f r).To, p.Values⟩ := by
  intro q
  induction q with
  | zero => intro i h1 h2; omega
  | succ q ih =>
    intro i h1 h2 h3
    by_cases c : i = r
    · subst c
      unfold stepV
      rw [if_pos hr, hn]
      rfl
    · unfold stepV
      rw [if_neg (h3 i (by omega) (by omega))]
      exact ih (i + 1) (by omega) (by omega) (fun j j1 j2 => h3 j (by omega) j2)
def lessI (W K : Nat) (a : Int) : Int := if 1 < a then W + K + a - 2 else 2 * W + K
def backI (W K : Nat) (a : Int) : Int := if a + 1 = W then opE W K else if a = W then (if 0 < K then agE W K else lessI W K a) else a + 1
def nextI (W K : Nat) (b : Bool) (q : Int) : Int :=
  if q < W then (if q + 1 = W then opE W K else q + 1)
  else if q < W + K then (if b = true then agE W K else if W < q then q - 1 else 2 * W + K - 1)
  else (if b = true then backI W K (q - (W + K - 1)) else lessI W K (q - (W + K - 1)))
theorem less_eq {W K a : Nat} : lessE W K a = lessI W K (a : Int) := by unfold lessE lessI; split <;> split <;> omega
theorem back_eq {W K a : Nat} : backE W K a = backI W K (a : Int) := by
  unfold backE backI
  rw [less_eq]
  by_cases c1 : a + 1 = W
  · rw [if_pos c1, if_pos (show (a : Int) + 1 = W by omega)]
  · rw [if_neg c1, if_neg (show ¬ (a : Int) + 1 = W by omega)]
    by_cases c2 : a = W
    · rw [if_pos c2, if_pos (show (a : Int) = W by omega)]
    · rw [if_neg c2, if_neg (show ¬ (a : Int) = W by omega)]
theorem fire_iff {W K : Nat} {m : pMa} {w : Arr Int} (h : DM W K m w) (p : pPl) (inp : Nat) {i : Nat} (hi : i < W + 2 * K + 2 * W) : fires m p inp i ↔ fromF W K i = p.State ∧ condV m p inp (kindF W K i) := by
  obtain ⟨r1, r2, r3⟩ := rule_all (W := W) (K := K) i
  unfold fires
  rw [h.r.get i hi, r1, r2]
  have : fromF W K i ≠ -1 := by unfold fromF; split; omega; split <;> omega
  constructor
  · rintro ⟨h1 | h1, h2⟩
    · exact absurd h1 this
    · exact ⟨h1, h2⟩
  · rintro ⟨h1, h2⟩
    exact ⟨.inr h1, h2⟩
theorem step_next {W K : Nat} (h1 : 1 ≤ W) {m : pMa} {w : Arr Int} (h : DM W K m w) {p : pPl} {inp q : Nat} (hp : p.State = (q : Int)) (hq : q < 2 * W + K) : stepE m p inp = ⟨nextI W K (inp.testBit 0) q, p.Values⟩ := by
  have fi := fun i hi => fire_iff h p inp (i := i) hi
  have hr3 := fun i => (rule_all (W := W) (K := K) i).2.2
  have go : ∀ r, r < W + 2 * K + 2 * W → fromF W K r = (q : Int) → condV m p inp (kindF W K r) → (∀ j, j < r → fromF W K j = (q : Int) → ¬ condV m p inp (kindF W K j)) → stepE m p inp = ⟨(ruleF W K cA cB cF r).To, p.Values⟩ := by
    intro r g1 g2 g3 g4
    unfold stepE
    have g := stepV_at (m := m) (p := p) (inp := inp) (r := r) ((fi r g1).2 ⟨by rw [hp]; exact g2, g3⟩) (by rw [h.r.get r g1, hr3]; rfl) m.Rules.n 0 (by omega) (by rw [h.r.len]; omega) (fun j _ j2 hf => by
      obtain ⟨f1, f2⟩ := (fi j (by omega)).1 hf
      exact g4 j j2 (by rw [f1, hp]) f2)
    rw [g, h.r.get r g1]
  by_cases c1 : q < W
  · rw [go q (by omega) (by unfold fromF; rw [if_pos c1]) (by unfold kindF; rw [if_pos c1]; exact cA_v) (fun j hj hf => by unfold fromF at hf; rw [if_pos (by omega)] at hf; omega)]
    congr 1
    unfold ruleF nextI
    rw [if_pos c1, if_pos (by omega)]
    show (if q + 1 = W then opE W K else (q : Int) + 1) = _
    split <;> split <;> omega
  · by_cases c2 : q < W + K
    · obtain ⟨k, rfl⟩ : ∃ k, q = W + k := ⟨q - W, by omega⟩
      cases hb : inp.testBit 0
      · rw [go (W + 2 * k + 1) (by omega) (by unfold fromF; rw [if_neg (by omega), if_pos (by omega)]; omega) (by unfold kindF; rw [if_neg (by omega), if_pos (by omega), if_neg (by omega)]; exact cF_v.2 hb) (fun j hj hf hc => by
          unfold fromF at hf
          split at hf
          · omega
          · rw [if_pos (by omega)] at hf
            have : j = W + 2 * k := by omega
            subst this
            unfold kindF at hc
            rw [if_neg (by omega), if_pos (by omega), if_pos (by omega), cB_v, hb] at hc
            simp at hc)]
        congr 1
        unfold ruleF nextI
        rw [if_neg (show ¬ W + 2 * k + 1 < W by omega), if_pos (show W + 2 * k + 1 < W + 2 * K by omega), if_neg (show ¬ (W + 2 * k + 1 - W) % 2 = 0 by omega), if_neg (by omega), if_pos (by omega), if_neg (by simp)]
        show (if 1 < (W + 2 * k + 1 - W) / 2 + 1 then (W : Int) + ((W + 2 * k + 1 - W) / 2 + 1 : Nat) - 2 else 2 * W + K - 1) = _
        split <;> split <;> omega
      · rw [go (W + 2 * k) (by omega) (by unfold fromF; rw [if_neg (by omega), if_pos (by omega)]; omega) (by unfold kindF; rw [if_neg (by omega), if_pos (by omega), if_pos (by omega)]; exact cB_v.2 hb) (fun j hj hf hc => by
          unfold fromF at hf
          split at hf
          · omega
          · rw [if_pos (by omega)] at hf
            omega)]
        congr 1
        unfold ruleF nextI
        rw [if_neg (show ¬ W + 2 * k < W by omega), if_pos (show W + 2 * k < W + 2 * K by omega), if_pos (show (W + 2 * k - W) % 2 = 0 by omega), if_neg (by omega), if_pos (by omega), if_pos rfl]
        rfl
    · obtain ⟨k, rfl⟩ : ∃ k, q = W + K + k := ⟨q - (W + K), by omega⟩
      cases hb : inp.testBit 0
      · rw [go (W + 2 * K + 2 * k + 1) (by omega) (by unfold fromF; rw [if_neg (by omega), if_neg (by omega)]; omega) (by unfold kindF; rw [if_neg (by omega), if_neg (by omega), if_neg (by omega)]; exact cF_v.2 hb) (fun j hj hf hc => by
          unfold fromF at hf
          split at hf
          · omega
          · split at hf
            · omega
            · have : j = W + 2 * K + 2 * k := by omega
              subst this
              unfold kindF at hc
              rw [if_neg (by omega), if_neg (by omega), if_pos (by omega), cB_v, hb] at hc
              simp at hc)]
        congr 1
        unfold ruleF nextI
        rw [if_neg (show ¬ W + 2 * K + 2 * k + 1 < W by omega), if_neg (show ¬ W + 2 * K + 2 * k + 1 < W + 2 * K by omega), if_neg (show ¬ (W + 2 * K + 2 * k + 1 - (W + 2 * K)) % 2 = 0 by omega), if_neg (by omega), if_neg (by omega), if_neg (by simp)]
        show lessE W K ((W + 2 * K + 2 * k + 1 - (W + 2 * K)) / 2 + 1) = _
        rw [less_eq]; congr 1; omega
      · rw [go (W + 2 * K + 2 * k) (by omega) (by unfold fromF; rw [if_neg (by omega), if_neg (by omega)]; omega) (by unfold kindF; rw [if_neg (by omega), if_neg (by omega), if_pos (by omega)]; exact cB_v.2 hb) (fun j hj hf hc => by
          unfold fromF at hf
          split at hf
          · omega
          · split at hf
            · omega
            · omega)]
        congr 1
        unfold ruleF nextI
        rw [if_neg (show ¬ W + 2 * K + 2 * k < W by omega), if_neg (show ¬ W + 2 * K + 2 * k < W + 2 * K by omega), if_pos (show (W + 2 * K + 2 * k - (W + 2 * K)) % 2 = 0 by omega), if_neg (by omega), if_neg (by omega), if_pos rfl]
        show backE W K ((W + 2 * K + 2 * k - (W + 2 * K)) / 2 + 1) = _
        rw [back_eq]; congr 1; omega
end
end Si
end Go.Proofs.Ytpillmoddoccfaa
