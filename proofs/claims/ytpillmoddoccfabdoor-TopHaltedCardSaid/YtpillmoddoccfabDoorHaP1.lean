import Derived.Test.YtpillmoddoccfabDoorSiP4
set_option linter.unusedVariables false
set_option linter.unusedSimpArgs false
set_option linter.unusedSectionVars false
set_option maxHeartbeats 0
set_option maxRecDepth 100000
namespace Go.Proofs.YtpillmoddoccfabDoor
namespace Ha
open Go.Sx Si
open Classical
noncomputable section
variable {R : Type}
theorem scan (L : Nat → Nat → Option R) (len : Nat) (P : Nat → Prop) (bad ok : Option R) (hend : ∀ n, L (n + 1) len = ok) (hstep : ∀ n i X, i < len → (∀ j, j < i → P j) → X = L n (i + 1) → L (n + 1) i = bad ∨ (P i ∧ L (n + 1) i = X)) :
    ∀ q i n, i + q = len → q < n → (∀ j, j < i → P j) → L n i = bad ∨ ((∀ j, j < len → P j) ∧ L n i = ok) := by
  intro q
  induction q with
  | zero =>
    intro i n h1 h2 h3
    obtain ⟨n, rfl⟩ : ∃ m, n = m + 1 := ⟨n - 1, by omega⟩
    have : i = len := by omega
    subst this
    exact .inr ⟨h3, hend n⟩
  | succ q ih =>
    intro i n h1 h2 h3
    obtain ⟨n, rfl⟩ : ∃ m, n = m + 1 := ⟨n - 1, by omega⟩
    rcases hstep n i _ (by omega) h3 rfl with h | ⟨h, h'⟩
    · exact .inl h
    · rw [h']
      refine ih (i + 1) n (by omega) (by omega) fun j hj => ?_
      by_cases e : j = i
      · subst e; exact h
      · exact h3 j (by omega)
theorem from_eq (N : Nat) (n lo hi : Int) (k : Bool → Option R) : r4_from N n lo hi k = k (decide (lo ≤ n ∧ n ≤ hi)) := by
  rw [r4_from_def]
  unfold r4_from_m
  by_cases h1 : n ≥ lo
  · by_cases h2 : n ≤ hi
    · simp only [h1, h2, decide_true, cond_true, show lo ≤ n from h1, and_self]
    · simp only [h1, h2, decide_true, decide_false, cond_true, and_false]
  · have : ¬ lo ≤ n := h1
    simp only [h1, this, decide_false, cond_false, false_and]
theorem word_at {i : Nat} (h : i < 8) : ∃ x, words[i]? = some x ∧ toS (litC [SV.str ByteArray.empty] [[SV.str (ByteArray.mk #[(97 : UInt8), (110 : UInt8), (121 : UInt8)])], [SV.str (ByteArray.mk #[(116 : UInt8), (111 : UInt8)])], [SV.str (ByteArray.mk #[(122 : UInt8), (101 : UInt8), (114 : UInt8), (111 : UInt8)])], [SV.str (ByteArray.mk #[(109 : UInt8), (111 : UInt8), (114 : UInt8), (101 : UInt8)])], [SV.str (ByteArray.mk #[(108 : UInt8), (101 : UInt8), (115 : UInt8), (115 : UInt8)])], [SV.str (ByteArray.mk #[(105 : UInt8), (102 : UInt8)])], [SV.str (ByteArray.mk #[(121 : UInt8), (101 : UInt8), (115 : UInt8)])], [SV.str (ByteArray.mk #[(110 : UInt8), (111 : UInt8)])]] i 0) = x := by
  match i, h with
  | 0, _ => exact ⟨_, rfl, rfl⟩
  | 1, _ => exact ⟨_, rfl, rfl⟩
  | 2, _ => exact ⟨_, rfl, rfl⟩
  | 3, _ => exact ⟨_, rfl, rfl⟩
  | 4, _ => exact ⟨_, rfl, rfl⟩
  | 5, _ => exact ⟨_, rfl, rfl⟩
  | 6, _ => exact ⟨_, rfl, rfl⟩
  | 7, _ => exact ⟨_, rfl, rfl⟩
theorem beqT {a b : ByteArray} (h : a = b) : (a.toList == b.toList) = true := (bytes_beq a b).2 h
theorem word_l2 (N : Nat) (hN : 100 ≤ N) (w : ByteArray) (kr : Bool → Option R) (k0 : Unit → Option R) :
    r4_Word_l2 N N w 0 kr k0 = kr false ∨ ((∀ x ∈ words, w ≠ x) ∧ r4_Word_l2 N N w 0 kr k0 = k0 ()) := by
  have key := scan (fun n i => r4_Word_l2 N n w (i : Int) kr k0) 8 (fun i => ∀ x, words[i]? = some x → w ≠ x) (kr false) (k0 ()) (fun n => by
    show r4_Word_l2 N (n + 1) w ((8 : Nat) : Int) kr k0 = _
    unfold r4_Word_l2 r4_Word_b2
    rfl) (fun n i X hi _ hX => by
    have hX : X = r4_Word_l2 N n w ((i + 1 : Nat) : Int) kr k0 := hX
    show r4_Word_l2 N (n + 1) w (i : Int) kr k0 = _ ∨ (_ ∧ r4_Word_l2 N (n + 1) w (i : Int) kr k0 = X)
    obtain ⟨x, hx, hy⟩ := word_at hi
    unfold r4_Word_l2 r4_Word_b2
    simp only [ltT hi, nat_nonneg, Bool.and_self, cond_true, Int.toNat_natCast, w64_succ (show i < 1000000000000 by omega), hy]
    by_cases e : w = x
    · left; rw [beqT e]; rfl
    · right
      refine ⟨fun y hy2 => ?_, by rw [beqF e, hX]; rfl⟩
      rw [hx] at hy2
      injection hy2 with hy2
      subst hy2; exact e) 8 0 N (by omega) (by omega) (fun j hj => by omega)
  rcases key with h | ⟨h, h'⟩
  · exact .inl h
  · refine .inr ⟨fun x hx => ?_, h'⟩
    obtain ⟨i, hi, he⟩ := List.mem_iff_getElem.1 hx
    exact h i (by have : words.length = 8 := rfl; omega) x (by rw [List.getElem?_eq_getElem hi, he])
theorem word_eq {N : Nat} (hN : 100 ≤ N) {w : ByteArray} (hs : w.size ≤ 8) (k : Bool → Option R) : r4_Word N w k = k false ∨ (WordP w ∧ r4_Word N w k = k true) := by
  rw [r4_Word_def]
  unfold r4_Word_m
  rcases word_l2 N hN w (fun r => k r) (fun _ => r4_Word_l7 N N w 0 (fun r => k r) fun _ => k (decide ((w.size : Int) > 0))) with h | ⟨h1, h2⟩
  · exact .inl h
  · have key := scan (fun n i => r4_Word_l7 N n w (i : Int) (fun r => k r) fun _ => k (decide ((w.size : Int) > 0))) w.size (fun i => 97 ≤ byteI w i ∧ byteI w i ≤ 122) (k false) (k (decide ((w.size : Int) > 0))) (fun n => by
      show r4_Word_l7 N (n + 1) w (w.size : Int) _ _ = _
      unfold r4_Word_l7 r4_Word_b7
      simp only [ltF (Nat.le_refl w.size), cond_false]) (fun n i X hi _ hX => by
      have hX : X = r4_Word_l7 N n w ((i + 1 : Nat) : Int) (fun r => k r) (fun _ => k (decide ((w.size : Int) > 0))) := hX
      show r4_Word_l7 N (n + 1) w (i : Int) _ _ = _ ∨ (_ ∧ r4_Word_l7 N (n + 1) w (i : Int) _ _ = X)
      unfold r4_Word_l7 r4_Word_b7
      simp only [ltT hi, nat_nonneg, Bool.and_self, cond_true, Int.toNat_natCast, w64_succ (show i < 1000000000000 by omega)]
      by_cases c1 : byteI w i < 97
      · left; simp only [c1, decide_true, cond_true]
      · by_cases c2 : byteI w i > 122
        · left; simp only [c1, c2, decide_true, decide_false, cond_true, cond_false]
        · right; simp only [c1, c2, decide_false, cond_false]; exact ⟨⟨by omega, by omega⟩, hX.symm⟩) w.size 0 N (by omega) (by omega) (fun j hj => by omega)
    rcases key with h3 | ⟨h3, h4⟩
    · exact .inl (h2.trans h3)
    · by_cases c : (w.size : Int) > 0
      · refine .inr ⟨⟨by omega, h3, h1⟩, h2.trans (h4.trans ?_)⟩
        simp only [c, decide_true]
      · refine .inl (h2.trans (h4.trans ?_))
        simp only [c, decide_false]
theorem names_l3 (N : Nat) {m : api_Machine} (hc : m.Counters.n ≤ 2) {p : Nat} (hp : p ≤ 20) {nm : Nat → ByteArray} (hnm : ∀ j, j < m.Counters.n → (m.Counters.f j).Name = nm (p + j)) : ∀ (q i n : Nat) (b : Bool) (a : Arr ByteArray), i + q = m.Counters.n → q < n → a.Is (p + i) nm →
    ∃ (b' : Bool) (a' : Arr ByteArray), a'.Is (p + m.Counters.n) nm ∧ ∀ (k0 : Bool → Arr ByteArray → Option R), r4_names_l3 N n (i : Int) m b a k0 = k0 b' a' := by
  intro q
  induction q with
  | zero =>
    intro i n b a h1 h2 h3
    obtain ⟨n, rfl⟩ : ∃ m, n = m + 1 := ⟨n - 1, by omega⟩
    have : i = m.Counters.n := by omega
    subst this
    refine ⟨b, a, h3, fun k0 => ?_⟩
    unfold r4_names_l3 r4_names_b3
    simp only [ltF (Nat.le_refl m.Counters.n), cond_false]
  | succ q ih =>
    intro i n b a h1 h2 h3
    obtain ⟨n, rfl⟩ : ∃ m, n = m + 1 := ⟨n - 1, by omega⟩
    have hr : room (a.n + 1) = true := room_of (by rw [h3.len]; omega)
    obtain ⟨b', a', g1, g2⟩ := ih (i + 1) n false _ (by omega) (by omega) (push_is (z := [SV.str (ByteArray.mk (Array.mk []))]) h3 (hnm i (by omega)))
    refine ⟨b', a', g1, fun k0 => ?_⟩
    unfold r4_names_l3 r4_names_b3
    simp only [ltT (show i < m.Counters.n by omega), nat_nonneg, Bool.and_self, cond_true, Int.toNat_natCast, w64_succ (show i < 1000000000000 by omega), hr]
    exact g2 k0
theorem names_l7 (N : Nat) {m : api_Machine} (hc : m.States.n ≤ 12) {p : Nat} (hp : p ≤ 20) {nm : Nat → ByteArray} (hnm : ∀ j, j < m.States.n → (m.States.f j).Name = nm (p + j)) : ∀ (q i n : Nat) (b : Bool) (a : Arr ByteArray), i + q = m.States.n → q < n → a.Is (p + i) nm →
    ∃ (b' : Bool) (a' : Arr ByteArray), a'.Is (p + m.States.n) nm ∧ ∀ (k0 : Bool → Arr ByteArray → Option R), r4_names_l7 N n (i : Int) m b a k0 = k0 b' a' := by
  intro q
  induction q with
  | zero =>
    intro i n b a h1 h2 h3
    obtain ⟨n, rfl⟩ : ∃ m, n = m + 1 := ⟨n - 1, by omega⟩
    have : i = m.States.n := by omega
    subst this
    refine ⟨b, a, h3, fun k0 => ?_⟩
    unfold r4_names_l7 r4_names_b7
    simp only [ltF (Nat.le_refl m.States.n), cond_false]
  | succ q ih =>
    intro i n b a h1 h2 h3
    obtain ⟨n, rfl⟩ : ∃ m, n = m + 1 := ⟨n - 1, by omega⟩
    have hr : room (a.n + 1) = true := room_of (by rw [h3.len]; omega)
    obtain ⟨b', a', g1, g2⟩ := ih (i + 1) n false _ (by omega) (by omega) (push_is (z := [SV.str (ByteArray.mk (Array.mk []))]) h3 (hnm i (by omega)))
    refine ⟨b', a', g1, fun k0 => ?_⟩
    unfold r4_names_l7 r4_names_b7
    simp only [ltT (show i < m.States.n by omega), nat_nonneg, Bool.and_self, cond_true, Int.toNat_natCast, w64_succ (show i < 1000000000000 by omega), hr]
    exact g2 k0
theorem names_eq {N : Nat} (hN : 2000 ≤ N) {m : api_Machine} (hi : m.Inputs.n ≤ 4) (ho : m.Outputs.n ≤ 6) (hc : m.Counters.n ≤ 2) (hs : m.States.n ≤ 12) : ∃ (b : Bool) (a : Arr ByteArray), a.Is (nN m) (nmF m) ∧ ∀ (k : Bool → Arr ByteArray → Option R), r4_names N m k = k b a := by
  have h1' : Arr.Is (lst strC ((0 : Nat) + m.Inputs.n + m.Outputs.n) (catC ((0 : Nat) + m.Inputs.n) (catC (0 : Nat) (litC [SV.str (ByteArray.mk (Array.mk []))] []) (Cod.cell strC m.Inputs.f)) (Cod.cell strC m.Outputs.f))) (m.Inputs.n + m.Outputs.n + 0) (nmF m) := by
    refine ⟨by show 0 + m.Inputs.n + m.Outputs.n = _; omega, fun i hi => ?_⟩
    unfold nmF
    by_cases e : i < m.Inputs.n
    · rw [if_pos e]
      have e1 : Nat.blt i (0 + m.Inputs.n) = true := by rw [Nat.zero_add, Nat.blt_eq]; exact e
      have e2 : Nat.blt i 0 = false := Bool.eq_false_iff.2 (fun h => by rw [Nat.blt_eq] at h; omega)
      show strC.dec (fun k => catC (0 + m.Inputs.n) (catC 0 _ (Cod.cell strC m.Inputs.f)) (Cod.cell strC m.Outputs.f) i k) = _
      simp only [catC, e1, e2, cond_true, cond_false]
      rfl
    · rw [if_neg e, if_pos (by omega)]
      have e1 : Nat.blt i (0 + m.Inputs.n) = false := Bool.eq_false_iff.2 (fun h => by rw [Nat.blt_eq] at h; omega)
      show strC.dec (fun k => catC (0 + m.Inputs.n) (catC 0 _ (Cod.cell strC m.Inputs.f)) (Cod.cell strC m.Outputs.f) i k) = _
      rw [Nat.zero_add] at e1
      simp only [catC, Nat.zero_add, e1, cond_false]
      rfl
  obtain ⟨b2, a2, h2, g2⟩ := names_l3 (R := R) N hc (p := m.Inputs.n + m.Outputs.n) (by omega) (nm := nmF m) (fun j hj => by
    unfold nmF
    rw [if_neg (by omega), if_neg (by omega), if_pos (by omega)]
    congr 2; omega) m.Counters.n 0 N _ _ (by omega) (by omega) h1'
  obtain ⟨b3, a3, h3, g3⟩ := names_l7 (R := R) N hs (p := m.Inputs.n + m.Outputs.n + m.Counters.n) (by omega) (nm := nmF m) (fun j hj => by
    unfold nmF
    rw [if_neg (by omega), if_neg (by omega), if_neg (by omega)]
    congr 2; omega) m.States.n 0 N b2 a2 (by omega) (by omega) ⟨by rw [h2.len]; omega, fun i hi => h2.get i (by omega)⟩
  refine ⟨b3, a3, h3, fun k => ?_⟩
  rw [r4_names_def]
  unfold r4_names_m
  have r1 : room (0 + m.Inputs.n) = true := room_of (by omega)
  have r2 : room (0 + m.Inputs.n + m.Outputs.n) = true := room_of (by omega)
  rw [r1, r2, cond_true, cond_true]
  refine (g2 _).trans ?_
  exact g3 k
theorem chk_l10 (N : Nat) {m : api_Machine} {a : Arr ByteArray} {nn : Nat} {nm : Nat → ByteArray} (ha : a.Is nn nm) (hnn : nn ≤ 100) (b : Bool) {i : Nat} (hi : i < nn) (hN : 200 ≤ N) (kr : Int → Option R) (k2 : Unit → Option R) :
    r4_Check_l10 N N (i : Int) 0 m b a kr k2 = kr 41 ∨ ((∀ j, j < i → nm j ≠ nm i) ∧ r4_Check_l10 N N (i : Int) 0 m b a kr k2 = k2 ()) := by
  exact scan (fun n j => r4_Check_l10 N n (i : Int) (j : Int) m b a kr k2) i (fun j => nm j ≠ nm i) (kr 41) (k2 ()) (fun n => by
    show r4_Check_l10 N (n + 1) (i : Int) (i : Int) m b a kr k2 = _
    unfold r4_Check_l10 r4_Check_b10
    simp only [ltF (Nat.le_refl i), cond_false]) (fun n j X hj _ hX => by
    have hX : X = r4_Check_l10 N n (i : Int) ((j + 1 : Nat) : Int) m b a kr k2 := hX
    show r4_Check_l10 N (n + 1) (i : Int) (j : Int) m b a kr k2 = _ ∨ (_ ∧ r4_Check_l10 N (n + 1) (i : Int) (j : Int) m b a kr k2 = X)
    unfold r4_Check_l10 r4_Check_b10
    simp only [ha.len, ltT hj, ltT hi, ltT (show j < nn by omega), nat_nonneg, Bool.and_self, cond_true, Int.toNat_natCast, w64_succ (show j < 1000000000000 by omega), ha.get j (by omega), ha.get i hi]
    by_cases e : nm j = nm i
    · left; rw [beqT e]; rfl
    · right; exact ⟨e, by rw [beqF e, hX]; rfl⟩) i 0 N (by omega) (by omega) (fun j hj => by omega)
theorem chk_l5 (N : Nat) (hN : 2000 ≤ N) {m : api_Machine} {a : Arr ByteArray} {nn : Nat} {nm : Nat → ByteArray} (ha : a.Is nn nm) (hnn : nn ≤ 100) (b : Bool) (kr : Int → Option R) (k0 : Unit → Option R) :
    r4_Check_l5 N N 0 m b a kr k0 = kr 41 ∨ ((∀ i, i < nn → (WordP (nm i) ∧ (nm i).size ≤ 8) ∧ ∀ j, j < i → nm j ≠ nm i) ∧ r4_Check_l5 N N 0 m b a kr k0 = k0 ()) := by
  exact scan (fun n i => r4_Check_l5 N n (i : Int) m b a kr k0) nn (fun i => (WordP (nm i) ∧ (nm i).size ≤ 8) ∧ ∀ j, j < i → nm j ≠ nm i) (kr 41) (k0 ()) (fun n => by
    show r4_Check_l5 N (n + 1) (nn : Int) m b a kr k0 = _
    unfold r4_Check_l5 r4_Check_b5
    simp only [ha.len, ltF (Nat.le_refl nn), cond_false]) (fun n i X hi _ hX => by
    have hX : X = r4_Check_l5 N n ((i + 1 : Nat) : Int) m b a kr k0 := hX
    show r4_Check_l5 N (n + 1) (i : Int) m b a kr k0 = _ ∨ (_ ∧ r4_Check_l5 N (n + 1) (i : Int) m b a kr k0 = X)
    unfold r4_Check_l5 r4_Check_b5
    simp only [ha.len, ltT hi, nat_nonneg, Bool.and_self, cond_true, Int.toNat_natCast, w64_succ (show i < 1000000000000 by omega), ha.get i hi]
    by_cases c : ((nm i).size : Int) > 8
    · left; simp only [c, decide_true, cond_true]
    · simp only [c, decide_false, cond_false]
      rcases word_eq (R := R) (N := N) (by omega) (w := nm i) (by omega) (fun r36 => bif !r36 then kr 41 else r4_Check_l10 N N (i : Int) 0 m b a (fun r42 => kr r42) (fun _ => r4_Check_l5 N n ((i + 1 : Nat) : Int) m b a kr k0)) with h | ⟨h1, h2⟩
      · left; exact h
      · rcases chk_l10 N ha hnn b hi (by omega) (fun r42 => kr r42) (fun _ => r4_Check_l5 N n ((i + 1 : Nat) : Int) m b a kr k0) with h3 | ⟨h3, h4⟩
        · left; exact h2.trans h3
        · right; exact ⟨⟨⟨h1, by omega⟩, h3⟩, h2.trans (h4.trans hX.symm)⟩) nn 0 N (by omega) (by omega) (fun j hj => by omega)
end
end Ha
end Go.Proofs.YtpillmoddoccfabDoor
