/-
  Wear and readings: what the checks compute, in plain terms.
-/
import Derived.Test.YtpillmoddoccfabCaP1
import Derived.Test.YtpillmoddoccfabSxMath
set_option linter.unusedVariables false
set_option linter.unusedSimpArgs false
set_option maxHeartbeats 0
namespace Go.Proofs.Ytpillmoddoccfab
namespace Ch
open Go.Sx
section
variable {R : Type}
theorem rFrom_eq (N : Nat) (n lo hi : Int) (k : Bool → Option R) : newelref02_from N n lo hi k = k (decide (lo ≤ n ∧ n ≤ hi)) := by
  rw [newelref02_from_def]
  unfold newelref02_from_m
  by_cases h : n ≥ lo
  · have : lo ≤ n := h
    simp only [h, decide_true, cond_true, this, true_and]
  · have : ¬ (lo ≤ n ∧ n ≤ hi) := fun g => h g.1
    rw [decide_eq_false this]
    simp only [h, decide_false, cond_false]
theorem cIn_eq (N : Nat) (n lo hi : Int) (k : Bool → Option R) : chain_within N n lo hi k = k (decide (lo ≤ n ∧ n ≤ hi)) := by
  rw [chain_within_def]
  unfold chain_within_m
  by_cases h : n ≥ lo
  · have : lo ≤ n := h
    simp only [h, decide_true, cond_true, this, true_and]
  · have : ¬ (lo ≤ n ∧ n ≤ hi) := fun g => h g.1
    rw [decide_eq_false this]
    simp only [h, decide_false, cond_false]
theorem ltF {a b : Nat} (h : b ≤ a) : decide ((a : Int) < (b : Int)) = false := by simp; omega
theorem ltT {a b : Nat} (h : a < b) : decide ((a : Int) < (b : Int)) = true := by simp; omega

/-! ### Parts and uses that are valid -/
def rateP (r : api_Span) : Prop := (0 ≤ r.Low ∧ r.Low ≤ r.High) ∧ r.High ≤ 1000000
structure VP (p : api_Part) : Prop where
  n : 1 ≤ (p.Rates.n : Int) ∧ (p.Rates.n : Int) ≤ 4
  w : 0 ≤ p.Worn ∧ p.Worn ≤ 1000
  t : 0 ≤ p.Turns ∧ p.Turns ≤ 1000000
  a : 0 ≤ p.Age ∧ p.Age ≤ 100000
  r : ∀ j, j < p.Rates.n → rateP (p.Rates.f j)
def dayB (l : Arr api_Use) : Nat → Int
  | 0 => 0
  | i + 1 => (l.f i).Day
structure useP (p : api_Part) (l : Arr api_Use) (i : Nat) : Prop where
  d : dayB l i ≤ (l.f i).Day ∧ (l.f i).Day ≤ 100000
  d0 : 0 ≤ (l.f i).Day
  t : 0 ≤ (l.f i).Turns ∧ (l.f i).Turns ≤ 1000000
  c : 0 ≤ (l.f i).Class ∧ (l.f i).Class ≤ (p.Rates.n : Int) - 1
  s : 0 ≤ (l.f i).Says.Low ∧ (l.f i).Says.Low ≤ (l.f i).Says.High ∧ (l.f i).Says.High ≤ 2000000000
  z : (l.f i).Measured = false → (l.f i).Says.Low = 0 ∧ (l.f i).Says.High = 0
structure VU (p : api_Part) (l : Arr api_Use) : Prop where
  n : l.n ≤ 40
  u : ∀ i, i < l.n → useP p l i

theorem rp_l4 (N : Nat) (p : api_Part) (l : Arr api_Use) (hn : p.Rates.n ≤ 4) (kr : Int → Option R) (k0 : Unit → Option R) : ∀ (r i n : Nat), i + r = p.Rates.n → r < n →
    (newelref02_CheckPart_l4 N n l (i : Int) p kr k0 = kr 22) ∨ ((∀ j, i ≤ j → j < p.Rates.n → rateP (p.Rates.f j)) ∧ newelref02_CheckPart_l4 N n l (i : Int) p kr k0 = k0 ()) := by
  intro r
  induction r with
  | zero =>
    intro i n h1 h2
    obtain ⟨n, rfl⟩ : ∃ m, n = m + 1 := ⟨n - 1, by omega⟩
    refine .inr ⟨fun j _ _ => by omega, ?_⟩
    unfold newelref02_CheckPart_l4 newelref02_CheckPart_b4
    simp only [ltF (show p.Rates.n ≤ i by omega), cond_false]
  | succ r ih =>
    intro i n h1 h2
    obtain ⟨n, rfl⟩ : ∃ m, n = m + 1 := ⟨n - 1, by omega⟩
    unfold newelref02_CheckPart_l4 newelref02_CheckPart_b4
    simp only [ltT (show i < p.Rates.n by omega), nat_nonneg, Bool.and_self, cond_true, Int.toNat_natCast, rFrom_eq, w64_succ (show i < 1000000000000 by omega)]
    by_cases c1 : 0 ≤ (p.Rates.f i).Low ∧ (p.Rates.f i).Low ≤ (p.Rates.f i).High
    rotate_left
    · left; simp only [c1, decide_false, Bool.not_false, cond_true]
    by_cases c2 : (p.Rates.f i).High > 1000000
    · left; simp only [c1, c2, and_self, decide_true, Bool.not_true, cond_true, cond_false]
    simp only [c1, c2, and_self, decide_true, decide_false, Bool.not_true, cond_false]
    rcases ih (i + 1) n (by omega) (by omega) with h | ⟨h3, h4⟩
    · exact .inl h
    · refine .inr ⟨fun j h5 h6 => ?_, h4⟩
      by_cases e : j = i
      · subst e; exact ⟨c1, by omega⟩
      · exact h3 j (by omega) h6

theorem rp_l11 (N : Nat) (p : api_Part) (hp : (p.Rates.n : Int) ≤ 4) (l : Arr api_Use) (hn : l.n ≤ 40) (kr : Int → Option R) (k2 : Unit → Option R) : ∀ (r i n : Nat), i + r = l.n → r < n → (∀ j, j < i → useP p l j) →
    (newelref02_CheckPart_l11 N n l (i : Int) p kr k2 = kr 23) ∨ ((∀ j, j < l.n → useP p l j) ∧ newelref02_CheckPart_l11 N n l (i : Int) p kr k2 = k2 ()) := by
  intro r
  induction r with
  | zero =>
    intro i n h1 h2 h3
    obtain ⟨n, rfl⟩ : ∃ m, n = m + 1 := ⟨n - 1, by omega⟩
    refine .inr ⟨fun j hj => h3 j (by omega), ?_⟩
    unfold newelref02_CheckPart_l11 newelref02_CheckPart_b11
    simp only [ltF (show l.n ≤ i by omega), cond_false]
  | succ r ih =>
    intro i n h1 h2 h3
    obtain ⟨n, rfl⟩ : ∃ m, n = m + 1 := ⟨n - 1, by omega⟩
    unfold newelref02_CheckPart_l11 newelref02_CheckPart_b11
    have hi : i < l.n := by omega
    rw [w64_eq (n := (p.Rates.n : Int) - 1) (by omega) (by omega)]
    simp only [ltT hi, nat_nonneg, Bool.and_self, cond_true, Int.toNat_natCast, rFrom_eq, w64_succ (show i < 1000000000000 by omega)]
    by_cases c1 : 0 ≤ (l.f i).Day ∧ (l.f i).Day ≤ 100000
    rotate_left
    · left; simp only [c1, decide_false, Bool.not_false, cond_true]
    simp only [c1, and_self, decide_true, Bool.not_true, cond_false]
    -- what follows the days
    have tail : dayB l i ≤ (l.f i).Day → ∀ X : Option R, X = (bif !decide (0 ≤ (l.f i).Turns ∧ (l.f i).Turns ≤ 1000000) then kr 23 else bif !decide (0 ≤ (l.f i).Class ∧ (l.f i).Class ≤ (p.Rates.n : Int) - 1) then kr 23 else
        bif (l.f i).Measured then bif !decide (0 ≤ (l.f i).Says.Low ∧ (l.f i).Says.Low ≤ (l.f i).Says.High) then kr 23 else bif decide ((l.f i).Says.High > 2000000000) then kr 23 else
          bif !(l.f i).Measured then bif !((l.f i).Says.Low == 0 && ((l.f i).Says.High == 0 && true)) then kr 23 else newelref02_CheckPart_l11 N n l ((i + 1 : Nat) : Int) p kr k2 else newelref02_CheckPart_l11 N n l ((i + 1 : Nat) : Int) p kr k2
        else bif !(l.f i).Measured then bif !((l.f i).Says.Low == 0 && ((l.f i).Says.High == 0 && true)) then kr 23 else newelref02_CheckPart_l11 N n l ((i + 1 : Nat) : Int) p kr k2 else newelref02_CheckPart_l11 N n l ((i + 1 : Nat) : Int) p kr k2) →
        (X = kr 23) ∨ ((∀ j, j < l.n → useP p l j) ∧ X = k2 ()) := by
      intro hd X hX
      by_cases c2 : 0 ≤ (l.f i).Turns ∧ (l.f i).Turns ≤ 1000000
      rotate_left
      · left; rw [hX]; simp only [c2, decide_false, Bool.not_false, cond_true]
      by_cases c3 : 0 ≤ (l.f i).Class ∧ (l.f i).Class ≤ (p.Rates.n : Int) - 1
      rotate_left
      · left; rw [hX]; simp only [c2, c3, and_self, decide_true, decide_false, Bool.not_false, Bool.not_true, cond_true, cond_false]
      simp only [c2, c3, and_self, decide_true, Bool.not_true, cond_false] at hX
      have go : useP p l i → ((newelref02_CheckPart_l11 N n l ((i + 1 : Nat) : Int) p kr k2 = kr 23) ∨ ((∀ j, j < l.n → useP p l j) ∧ newelref02_CheckPart_l11 N n l ((i + 1 : Nat) : Int) p kr k2 = k2 ())) := fun hu =>
        ih (i + 1) n (by omega) (by omega) (fun j hj => by
          by_cases e : j = i
          · subst e; exact hu
          · exact h3 j (by omega))
      cases hm : (l.f i).Measured with
      | true =>
        rw [hm] at hX
        simp only [cond_true, Bool.not_true, cond_false] at hX
        by_cases c4 : 0 ≤ (l.f i).Says.Low ∧ (l.f i).Says.Low ≤ (l.f i).Says.High
        rotate_left
        · left; rw [hX]; simp only [c4, decide_false, Bool.not_false, cond_true]
        by_cases c5 : (l.f i).Says.High > 2000000000
        · left; rw [hX]; simp only [c4, c5, and_self, decide_true, Bool.not_true, cond_true, cond_false]
        simp only [c4, c5, and_self, decide_true, decide_false, Bool.not_true, cond_false] at hX
        rw [hX]
        exact go ⟨⟨hd, c1.2⟩, c1.1, c2, c3, ⟨c4.1, c4.2, by omega⟩, fun h => by rw [hm] at h; cases h⟩
      | false =>
        rw [hm] at hX
        simp only [cond_true, Bool.not_false, cond_false] at hX
        by_cases c4 : (l.f i).Says.Low = 0 ∧ (l.f i).Says.High = 0
        · have e : ((l.f i).Says.Low == 0 && ((l.f i).Says.High == 0 && true)) = true := by simp [c4.1, c4.2]
          rw [e] at hX
          simp only [Bool.not_true, cond_false] at hX
          rw [hX]
          exact go ⟨⟨hd, c1.2⟩, c1.1, c2, c3, ⟨by omega, by omega, by omega⟩, fun _ => c4⟩
        · have e : ((l.f i).Says.Low == 0 && ((l.f i).Says.High == 0 && true)) = false := by
            cases hb : ((l.f i).Says.Low == 0 && ((l.f i).Says.High == 0 && true))
            · rfl
            · simp at hb; exact absurd hb c4
          rw [e] at hX
          simp only [Bool.not_false, cond_true] at hX
          exact .inl hX
    by_cases c0 : (i : Int) > 0
    · have hi1 : w64 ((i : Int) - 1) = ((i - 1 : Nat) : Int) := by rw [w64_eq (by omega) (by omega)]; omega
      have hb : dayB l i = (l.f (i - 1)).Day := by obtain ⟨j, rfl⟩ : ∃ j, i = j + 1 := ⟨i - 1, by omega⟩; rfl
      simp only [c0, decide_true, cond_true, hi1, nat_nonneg, ltT (show i - 1 < l.n by omega), Bool.and_self, Int.toNat_natCast]
      by_cases c6 : (l.f i).Day < (l.f (i - 1)).Day
      · left; simp only [c6, decide_true, cond_true]
      · simp only [c6, decide_false, cond_false]
        exact tail (by omega) _ rfl
    · have hi0 : i = 0 := by omega
      have hb : dayB l i = 0 := by subst hi0; rfl
      simp only [c0, decide_false, cond_false]
      exact tail (by omega) _ rfl

theorem refPart (N : Nat) (hN : 100 ≤ N) (p : api_Part) (l : Arr api_Use) (k : Int → Option R) : (∃ v : Int, v ≠ 0 ∧ newelref02_CheckPart N p l k = k v) ∨ ((VP p ∧ VU p l) ∧ newelref02_CheckPart N p l k = k 0) := by
  rw [newelref02_CheckPart_def]
  unfold newelref02_CheckPart_m
  simp only [rFrom_eq]
  by_cases c1 : 1 ≤ (p.Rates.n : Int) ∧ (p.Rates.n : Int) ≤ 4
  rotate_left
  · exact .inl ⟨22, by decide, by simp only [c1, decide_false, Bool.not_false, cond_true]⟩
  by_cases c2 : 0 ≤ p.Worn ∧ p.Worn ≤ 1000
  rotate_left
  · exact .inl ⟨22, by decide, by simp only [c1, c2, and_self, decide_true, decide_false, Bool.not_true, Bool.not_false, cond_true, cond_false]⟩
  by_cases c3 : 0 ≤ p.Turns ∧ p.Turns ≤ 1000000
  rotate_left
  · exact .inl ⟨22, by decide, by simp only [c1, c2, c3, and_self, decide_true, decide_false, Bool.not_true, Bool.not_false, cond_true, cond_false]⟩
  by_cases c4 : 0 ≤ p.Age ∧ p.Age ≤ 100000
  rotate_left
  · exact .inl ⟨22, by decide, by simp only [c1, c2, c3, c4, and_self, decide_true, decide_false, Bool.not_true, Bool.not_false, cond_true, cond_false]⟩
  simp only [c1, c2, c3, c4, and_self, decide_true, Bool.not_true, cond_false]
  rcases rp_l4 N p l (by omega) (fun r => k r) (fun _ => bif decide ((l.n : Int) > 40) then k 23 else newelref02_CheckPart_l11 N N l 0 p (fun r => k r) fun _ => k 0) p.Rates.n 0 N (by omega) (by omega) with h | ⟨h1, h2⟩
  · exact .inl ⟨22, by decide, h⟩
  by_cases c5 : (l.n : Int) > 40
  · refine .inl ⟨23, by decide, h2.trans ?_⟩
    simp only [c5, decide_true, cond_true]
  · simp only [c5, decide_false, cond_false] at h2
    rcases rp_l11 N p c1.2 l (by omega) (fun r => k r) (fun _ => k 0) l.n 0 N (by omega) (by omega) (fun j hj => by omega) with h | ⟨h3, h4⟩
    · exact .inl ⟨23, by decide, by simp only [c5, decide_false, cond_false]; exact h2.trans h⟩
    · exact .inr ⟨⟨⟨c1, c2, c3, c4, fun j hj => h1 j (Nat.zero_le _) hj⟩, ⟨by omega, h3⟩⟩, by simp only [c5, decide_false, cond_false]; exact h2.trans h4⟩

theorem cp_l4 (N : Nat) {p : api_Part} (hp : VP p) (l : Arr api_Use) (kr : Int → Option R) (k0 : Unit → Option R) : ∀ (r i n : Nat), i + r = p.Rates.n → r < n →
    chain_CheckPart_l4 N n l p.Rates (p.Rates.n : Int) (i : Int) p kr k0 = k0 () := by
  have hn := hp.n
  intro r
  induction r with
  | zero =>
    intro i n h1 h2
    obtain ⟨n, rfl⟩ : ∃ m, n = m + 1 := ⟨n - 1, by omega⟩
    unfold chain_CheckPart_l4 chain_CheckPart_b4
    simp only [ltF (show p.Rates.n ≤ i by omega), cond_false]
  | succ r ih =>
    intro i n h1 h2
    obtain ⟨n, rfl⟩ : ∃ m, n = m + 1 := ⟨n - 1, by omega⟩
    unfold chain_CheckPart_l4 chain_CheckPart_b4
    obtain ⟨⟨r1, r2⟩, r3⟩ := hp.r i (by omega)
    have c1 : ¬ (p.Rates.f i).Low < 0 := by omega
    have c2 : ¬ (p.Rates.f i).High < (p.Rates.f i).Low := by omega
    have c3 : ¬ (p.Rates.f i).High > 1000000 := by omega
    simp only [ltT (show i < p.Rates.n by omega), nat_nonneg, Bool.and_self, cond_true, Int.toNat_natCast, w64_succ (show i < 1000000000000 by omega), c1, c2, c3, decide_false, cond_false]
    exact ih (i + 1) n (by omega) (by omega)

theorem cp_l13 (N : Nat) {p : api_Part} (hp : VP p) {l : Arr api_Use} (hl : VU p l) (kr : Int → Option R) (k2 : Unit → Option R) : ∀ (r i n : Nat), i + r = l.n → r < n →
    chain_CheckPart_l13 N n (dayB l i) l (l.n : Int) (i : Int) p kr k2 = k2 () := by
  have hn := hp.n
  have hln := hl.n
  intro r
  induction r with
  | zero =>
    intro i n h1 h2
    obtain ⟨n, rfl⟩ : ∃ m, n = m + 1 := ⟨n - 1, by omega⟩
    unfold chain_CheckPart_l13 chain_CheckPart_b13
    simp only [ltF (show l.n ≤ i by omega), cond_false]
  | succ r ih =>
    intro i n h1 h2
    obtain ⟨n, rfl⟩ : ∃ m, n = m + 1 := ⟨n - 1, by omega⟩
    unfold chain_CheckPart_l13 chain_CheckPart_b13
    have hu := hl.u i (by omega)
    obtain ⟨s1, s2, s3⟩ := hu.s
    have c1 : ¬ (l.f i).Says.Low < 0 := by omega
    have c2 : ¬ (l.f i).Says.High < (l.f i).Says.Low := by omega
    have c3 : ¬ (l.f i).Says.High > 2000000000 := by omega
    rw [w64_eq (n := (p.Rates.n : Int) - 1) (by omega) (by omega)]
    simp only [ltT (show i < l.n by omega), nat_nonneg, Bool.and_self, cond_true, Int.toNat_natCast, w64_succ (show i < 1000000000000 by omega), cIn_eq, hu.d, hu.t, hu.c, and_self, decide_true, Bool.not_true, c1, c2, c3, decide_false, cond_false]
    have go := ih (i + 1) n (by omega) (by omega)
    cases hm : (l.f i).Measured with
    | true => simp only [Bool.not_true, cond_false]; exact go
    | false =>
      have e : ((l.f i).Says.Low == 0 && ((l.f i).Says.High == 0 && true)) = true := by simp [hu.z hm]
      simp only [Bool.not_false, cond_true, e, Bool.not_true, cond_false]
      exact go

theorem chainPart {N : Nat} (hN : 100 ≤ N) {p : api_Part} (hp : VP p) {l : Arr api_Use} (hl : VU p l) (k : Int → Option R) : chain_CheckPart N p l k = k 0 := by
  rw [chain_CheckPart_def]
  unfold chain_CheckPart_m
  have hn := hp.n
  have hln := hl.n
  have c5 : ¬ (l.n : Int) > 40 := by omega
  simp only [cIn_eq, hp.n, hp.w, hp.t, hp.a, and_self, decide_true, Bool.not_true, cond_false]
  refine (cp_l4 N hp l _ _ p.Rates.n 0 N (by omega) (by omega)).trans ?_
  simp only [c5, decide_false, cond_false]
  exact cp_l13 N hp hl _ _ l.n 0 N (by omega) (by omega)

/-! ### Wears that may be -/
def gL (p : api_Part) (l : Arr api_Use) (i : Nat) : Int := (l.f i).Turns * (p.Rates.f (l.f i).Class.toNat).Low
def gH (p : api_Part) (l : Arr api_Use) (i : Nat) : Int := (l.f i).Turns * (p.Rates.f (l.f i).Class.toNat).High
def wB (w : Nat → Int) : Nat → Int
  | 0 => 0
  | i + 1 => w i
def histP (p : api_Part) (l : Arr api_Use) (w : Nat → Int) (i : Nat) : Prop :=
  (wB w i + gL p l i ≤ w i ∧ w i ≤ wB w i + gH p l i) ∧ ((l.f i).Measured = true → (l.f i).Says.Low ≤ w i ∧ w i ≤ (l.f i).Says.High)

theorem g_bounds {p : api_Part} (hp : VP p) {l : Arr api_Use} {i : Nat} (hu : useP p l i) : 0 ≤ gL p l i ∧ gL p l i ≤ gH p l i ∧ gH p l i ≤ 1000000000000 := by
  have hn := hp.n
  have hc := hu.c
  obtain ⟨⟨r1, r2⟩, r3⟩ := hp.r (l.f i).Class.toNat (by omega)
  have h1 := mul_range hu.t.1 hu.t.2 r1 (show (p.Rates.f (l.f i).Class.toNat).Low ≤ 1000000 by omega)
  have h2 := mul_range hu.t.1 hu.t.2 (show 0 ≤ (p.Rates.f (l.f i).Class.toNat).High by omega) r3
  have h3 := Int.mul_le_mul_of_nonneg_left r2 hu.t.1
  unfold gL gH
  omega

theorem zero_bit (i : Nat) : (w64 (↑(BitVec.toNat (BitVec.ofInt (IntKind.bits IntKind.i64) (Int.fdiv 0 ((2 : Int) ^ min i (IntKind.bits IntKind.i64))) &&& BitVec.ofInt (IntKind.bits IntKind.i64) (1 : Int))) : Int) == (0 : Int)) = true := by
  rw [Int.zero_fdiv]
  have : BitVec.ofInt (IntKind.bits IntKind.i64) 0 &&& BitVec.ofInt (IntKind.bits IntKind.i64) (1 : Int) = 0 := by
    have e : BitVec.ofInt (IntKind.bits IntKind.i64) 0 = 0 := rfl
    rw [e]
    exact BitVec.zero_and
  rw [this]
  rfl

end
end Ch
end Go.Proofs.Ytpillmoddoccfab
