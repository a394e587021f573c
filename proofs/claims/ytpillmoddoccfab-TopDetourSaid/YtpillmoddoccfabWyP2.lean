/-
  Stations: the checks, and ways without steps.
-/
import Derived.Test.YtpillmoddoccfabWyP1
import Derived.Test.YtpillmoddoccfabWkR1
set_option linter.unusedVariables false
set_option linter.unusedSimpArgs false
set_option linter.unusedSectionVars false
set_option maxHeartbeats 0
set_option maxRecDepth 100000
namespace Go.Proofs.Ytpillmoddoccfab
namespace Wy
open Go.Sx
open Classical
noncomputable section
variable {R : Type}
theorem ltF {a b : Nat} (h : b ≤ a) : decide ((a : Int) < (b : Int)) = false := by simp; omega
theorem ltT {a b : Nat} (h : a < b) : decide ((a : Int) < (b : Int)) = true := by simp; omega
theorem rIn_eq (N : Nat) (n lo hi : Int) (k : Bool → Option R) : newelref08_from N n lo hi k = k (decide (lo ≤ n ∧ n ≤ hi)) := by
  rw [newelref08_from_def]
  unfold newelref08_from_m
  by_cases h : n ≥ lo
  · have : lo ≤ n := h
    simp only [h, decide_true, cond_true, this, true_and]
  · have : ¬ (lo ≤ n ∧ n ≤ hi) := fun g => h g.1
    rw [decide_eq_false this]
    simp only [h, decide_false, cond_false]
theorem sIn_eq (N : Nat) (n lo hi : Int) (k : Bool → Option R) : ways_within N n lo hi k = k (decide (lo ≤ n ∧ n ≤ hi)) := by
  rw [ways_within_def]
  unfold ways_within_m
  by_cases h : n ≥ lo
  · have : lo ≤ n := h
    simp only [h, decide_true, cond_true, this, true_and]
  · have : ¬ (lo ≤ n ∧ n ≤ hi) := fun g => h g.1
    rw [decide_eq_false this]
    simp only [h, decide_false, cond_false]

/-- A passage as it should be. -/
def kindP (p : api_Passage) : Prop := ((p.Kind = 1 ∨ p.Kind = 2 ∨ p.Kind = 5) ∧ p.Machine = -1 ∧ p.Still = 0) ∨ (p.Kind = 3 ∧ (0 ≤ p.Machine ∧ p.Machine ≤ 11) ∧ (1 ≤ p.Still ∧ p.Still ≤ 20)) ∨ (p.Kind = 4 ∧ (0 ≤ p.Machine ∧ p.Machine ≤ 11) ∧ p.Still = 0)
structure passP (P : Int) (p : api_Passage) : Prop where
  a : 0 ≤ p.A ∧ p.A ≤ P - 1
  b : 0 ≤ p.B ∧ p.B ≤ P - 1
  ab : p.A ≠ p.B
  t : 1 ≤ p.Ticks ∧ p.Ticks ≤ 20
  w : 1 ≤ p.Wide ∧ p.Wide ≤ 50
  k : kindP p
structure VS (s : api_Station) : Prop where
  p : 1 ≤ s.Places ∧ s.Places ≤ 10
  n : s.Passages.n ≤ 24
  pass : ∀ i, i < s.Passages.n → passP s.Places (s.Passages.f i)
  m : ∀ i j, i < j → j < s.Passages.n → 0 ≤ (s.Passages.f j).Machine → (s.Passages.f i).Machine ≠ (s.Passages.f j).Machine
  e : ∀ i, i < s.Exits.n → (0 ≤ s.Exits.f i ∧ s.Exits.f i ≤ s.Places - 1) ∧ (0 < i → s.Exits.f (i - 1) < s.Exits.f i)

theorem has_l2 (N : Nat) {a : Arr Int} (hn : a.n ≤ 100) (x : Int) (kr : Bool → Option R) (k0 : Unit → Option R) : ∀ (q i n : Nat), i + q = a.n → q < n → (∀ j, j < i → a.f j ≠ x) →
    (newelref08_has_l2 N n a x (i : Int) kr k0 = kr true ∧ ∃ j, j < a.n ∧ a.f j = x) ∨ (newelref08_has_l2 N n a x (i : Int) kr k0 = k0 () ∧ ∀ j, j < a.n → a.f j ≠ x) := by
  intro q
  induction q with
  | zero =>
    intro i n h1 h2 h3
    obtain ⟨n, rfl⟩ : ∃ m, n = m + 1 := ⟨n - 1, by omega⟩
    right
    refine ⟨?_, fun j hj => h3 j (by omega)⟩
    unfold newelref08_has_l2 newelref08_has_b2
    simp only [ltF (show a.n ≤ i by omega), cond_false]
  | succ q ih =>
    intro i n h1 h2 h3
    obtain ⟨n, rfl⟩ : ∃ m, n = m + 1 := ⟨n - 1, by omega⟩
    unfold newelref08_has_l2 newelref08_has_b2
    simp only [ltT (show i < a.n by omega), nat_nonneg, Bool.and_self, cond_true, Int.toNat_natCast, w64_succ (show i < 1000000000000 by omega)]
    by_cases e : a.f i = x
    · left
      have : (a.f i == x) = true := by simpa using e
      simp only [this, cond_true]
      exact ⟨trivial, i, by omega, e⟩
    · have : (a.f i == x) = false := by simpa using e
      simp only [this, cond_false]
      exact ih (i + 1) n (by omega) (by omega) fun j hj => by
        by_cases ej : j = i
        · subst ej; exact e
        · exact h3 j (by omega)
theorem has_eq {N : Nat} (hN : 200 ≤ N) {a : Arr Int} (hn : a.n ≤ 100) (x : Int) (k : Bool → Option R) :
    newelref08_has N a x k = k (decide (∃ j, j < a.n ∧ a.f j = x)) := by
  rw [newelref08_has_def]
  unfold newelref08_has_m
  rcases has_l2 N hn x (fun r => k r) (fun _ => k false) a.n 0 N (by omega) (by omega) (fun j hj => by omega) with ⟨g1, g2⟩ | ⟨g1, g2⟩
  · rw [decide_eq_true g2]; exact g1
  · rw [decide_eq_false (fun ⟨j, h1, h2⟩ => g2 j h1 h2)]; exact g1

/-- The machines that have been seen. -/
def seenP (s : api_Station) (a : Arr Int) (i : Nat) : Prop := a.n ≤ i ∧ ∀ j, j < i → 0 ≤ (s.Passages.f j).Machine → ∃ q, q < a.n ∧ a.f q = (s.Passages.f j).Machine

theorem seen_push {s : api_Station} {a : Arr Int} {i : Nat} (h : seenP s a i) : seenP s (lst intC (a.n + 1) (catC a.n (Cod.cell intC a.f) (litC [SV.int IntKind.i64 (0 : Int)] [[SV.int IntKind.i64 (s.Passages.f i).Machine]]))) (i + 1) := by
  have hp : (lst intC (a.n + 1) (catC a.n (Cod.cell intC a.f) (litC [SV.int IntKind.i64 (0 : Int)] [[SV.int IntKind.i64 (s.Passages.f i).Machine]]))).Is (a.n + 1) (fun q => if q < a.n then a.f q else (s.Passages.f i).Machine) :=
    Arr.Is.push_int (g := fun q => if q < a.n then a.f q else (s.Passages.f i).Machine) ⟨rfl, fun q hq => by simp [hq]⟩ (by simp)
  refine ⟨by rw [hp.len]; have := h.1; omega, fun j hj h0 => ?_⟩
  by_cases e : j = i
  · subst e
    exact ⟨a.n, by rw [hp.len]; omega, by rw [hp.get _ (by omega)]; simp⟩
  · obtain ⟨q, h1, h2⟩ := h.2 j (by omega) h0
    exact ⟨q, by rw [hp.len]; omega, by rw [hp.get _ (by omega)]; simp [h1, h2]⟩

theorem rc_l5 (N : Nat) (hN : 200 ≤ N) {s : api_Station} (hP : 1 ≤ s.Places ∧ s.Places ≤ 10) (hn : s.Passages.n ≤ 24) (kr : Int → Option R) (k0 : Unit → Option R) : ∀ (q i n : Nat) (b : Bool) (a : Arr Int), i + q = s.Passages.n → q < n → seenP s a i → (∀ j, j < i → passP s.Places (s.Passages.f j)) → (∀ j j', j < j' → j' < i → 0 ≤ (s.Passages.f j').Machine → (s.Passages.f j).Machine ≠ (s.Passages.f j').Machine) →
    newelref08_Check_l5 N n (i : Int) s b a kr k0 = kr 80 ∨ (newelref08_Check_l5 N n (i : Int) s b a kr k0 = k0 () ∧ (∀ j, j < s.Passages.n → passP s.Places (s.Passages.f j)) ∧ ∀ j j', j < j' → j' < s.Passages.n → 0 ≤ (s.Passages.f j').Machine → (s.Passages.f j).Machine ≠ (s.Passages.f j').Machine) := by
  intro q
  induction q with
  | zero =>
    intro i n b a h1 h2 h3 h4 h5
    obtain ⟨n, rfl⟩ : ∃ m, n = m + 1 := ⟨n - 1, by omega⟩
    right
    refine ⟨?_, fun j hj => h4 j (by omega), fun j j' e1 e2 => h5 j j' e1 (by omega)⟩
    unfold newelref08_Check_l5 newelref08_Check_b5
    simp only [ltF (show s.Passages.n ≤ i by omega), cond_false]
  | succ q ih =>
    intro i n b a h1 h2 h3 h4 h5
    obtain ⟨n, rfl⟩ : ∃ m, n = m + 1 := ⟨n - 1, by omega⟩
    have hw : w64 (s.Places - 1) = s.Places - 1 := w64_eq (by omega) (by omega)
    have hr : room (a.n + 1) = true := room_of (by have := h3.1; omega)
    unfold newelref08_Check_l5 newelref08_Check_b5
    simp only [ltT (show i < s.Passages.n by omega), nat_nonneg, Bool.and_self, cond_true, Int.toNat_natCast, w64_succ (show i < 1000000000000 by omega), rIn_eq, hw]
    generalize hp : s.Passages.f i = p
    by_cases c1 : 0 ≤ p.A ∧ p.A ≤ s.Places - 1
    case neg => left; simp only [c1, decide_false, Bool.not_false, cond_true]
    by_cases c2 : 0 ≤ p.B ∧ p.B ≤ s.Places - 1
    case neg => left; simp only [c1, c2, and_self, decide_true, decide_false, Bool.not_true, Bool.not_false, cond_true, cond_false]
    by_cases c3 : p.A = p.B
    · left; have : (p.A == p.B) = true := by simpa using c3
      simp only [c1, c2, and_self, decide_true, Bool.not_true, cond_false, this, cond_true]
    have c3' : (p.A == p.B) = false := by simpa using c3
    by_cases c4 : 1 ≤ p.Ticks ∧ p.Ticks ≤ 20
    case neg => left; simp only [c1, c2, c3', c4, and_self, decide_true, decide_false, Bool.not_true, Bool.not_false, cond_true, cond_false]
    by_cases c5 : 1 ≤ p.Wide ∧ p.Wide ≤ 50
    case neg => left; simp only [c1, c2, c3', c4, c5, and_self, decide_true, decide_false, Bool.not_true, Bool.not_false, cond_true, cond_false]
    by_cases c6 : 1 ≤ p.Kind ∧ p.Kind ≤ 5
    case neg => left; simp only [c1, c2, c3', c4, c5, c6, and_self, decide_true, decide_false, Bool.not_true, Bool.not_false, cond_true, cond_false]
    simp only [c1, c2, c3', c4, c5, c6, and_self, decide_true, Bool.not_true, cond_false]
    have next : ∀ (hk : kindP p) (b' : Bool) (a' : Arr Int), seenP s a' (i + 1) → (0 ≤ p.Machine → ∀ j, j < i → (s.Passages.f j).Machine ≠ p.Machine) →
        newelref08_Check_l5 N n ((i + 1 : Nat) : Int) s b' a' kr k0 = kr 80 ∨ (newelref08_Check_l5 N n ((i + 1 : Nat) : Int) s b' a' kr k0 = k0 () ∧ (∀ j, j < s.Passages.n → passP s.Places (s.Passages.f j)) ∧ ∀ j j', j < j' → j' < s.Passages.n → 0 ≤ (s.Passages.f j').Machine → (s.Passages.f j).Machine ≠ (s.Passages.f j').Machine) := by
      intro hk b' a' hs hd
      refine ih (i + 1) n b' a' (by omega) (by omega) hs (fun j hj => ?_) (fun j j' e1 e2 e3 => ?_)
      · by_cases e : j = i
        · subst e; rw [hp]; exact ⟨c1, c2, c3, c4, c5, hk⟩
        · exact h4 j (by omega)
      · by_cases e : j' = i
        · subst e; rw [hp] at e3 ⊢; exact hd e3 j e1
        · exact h5 j j' e1 (by omega) e3
    have hpush : seenP s (lst intC (a.n + 1) (catC a.n (Cod.cell intC a.f) (litC [SV.int IntKind.i64 (0 : Int)] [[SV.int IntKind.i64 p.Machine]]))) (i + 1) := by rw [← hp]; exact seen_push h3
    by_cases k3 : p.Kind = 3
    · have e3 : (p.Kind == 3) = true := by simpa using k3
      simp only [e3, cond_true]
      by_cases c7 : 0 ≤ p.Machine ∧ p.Machine ≤ 11
      case neg => left; simp only [c7, decide_false, Bool.not_false, cond_true]
      simp only [c7, and_self, decide_true, Bool.not_true, cond_false]
      rw [has_eq hN (show a.n ≤ 100 by have := h3.1; omega)]
      by_cases g0 : ∃ j, j < a.n ∧ a.f j = p.Machine
      · left; rw [decide_eq_true g0]; rfl
      have g2 : ∀ j, j < a.n → a.f j ≠ p.Machine := fun j h1 h2 => g0 ⟨j, h1, h2⟩
      rw [decide_eq_false g0]
      simp only [cond_false, hr, cond_true]
      by_cases c8 : 1 ≤ p.Still ∧ p.Still ≤ 20
      case neg => left; simp only [c8, decide_false, Bool.not_false, cond_true]
      simp only [c8, and_self, decide_true, Bool.not_true, cond_false]
      exact next (.inr (.inl ⟨k3, c7, c8⟩)) _ _ hpush fun _ j hj e => by
        obtain ⟨q', w1, w2⟩ := h3.2 j hj (by rw [e]; exact c7.1)
        exact g2 q' w1 (by rw [w2, e])
    have e3 : (p.Kind == 3) = false := by simpa using k3
    simp only [e3, cond_false]
    by_cases k4 : p.Kind = 4
    · have e4 : (p.Kind == 4) = true := by simpa using k4
      simp only [e4, cond_true]
      by_cases c7 : 0 ≤ p.Machine ∧ p.Machine ≤ 11
      case neg => left; simp only [c7, decide_false, Bool.not_false, cond_true]
      simp only [c7, and_self, decide_true, Bool.not_true, cond_false]
      rw [has_eq hN (show a.n ≤ 100 by have := h3.1; omega)]
      by_cases g0 : ∃ j, j < a.n ∧ a.f j = p.Machine
      · left; rw [decide_eq_true g0]; rfl
      have g2 : ∀ j, j < a.n → a.f j ≠ p.Machine := fun j h1 h2 => g0 ⟨j, h1, h2⟩
      rw [decide_eq_false g0]
      simp only [cond_false, hr, cond_true]
      by_cases c8 : p.Still = 0
      case neg => left; have : (p.Still != 0) = true := by simpa using c8
                  simp only [this, cond_true]
      simp only [c8, bne_self_eq_false, cond_false]
      exact next (.inr (.inr ⟨k4, c7, c8⟩)) _ _ hpush fun _ j hj e => by
        obtain ⟨q', w1, w2⟩ := h3.2 j hj (by rw [e]; exact c7.1)
        exact g2 q' w1 (by rw [w2, e])
    have e4 : (p.Kind == 4) = false := by simpa using k4
    simp only [e4, cond_false]
    by_cases c7 : p.Machine = -1
    case neg => left; have : (p.Machine != -1) = true := by simpa using c7
                simp only [this, cond_true]
    have e7 : (p.Machine != -1) = false := by simpa using c7
    simp only [e7, cond_false]
    by_cases c8 : p.Still = 0
    case neg => left; have : (p.Still != 0) = true := by simpa using c8
                simp only [this, cond_true]
    simp only [c8, bne_self_eq_false, cond_false]
    exact next (.inl ⟨by omega, c7, c8⟩) _ _ ⟨by have := h3.1; omega, fun j hj h0 => by
      by_cases e : j = i
      · subst e; rw [hp, c7] at h0; omega
      · exact h3.2 j (by omega) h0⟩ (fun h0 => by omega)

theorem rc_l22 (N : Nat) {s : api_Station} (hP : 1 ≤ s.Places ∧ s.Places ≤ 10) (kr : Int → Option R) (k2 : Unit → Option R) : ∀ (q i n : Nat), i + q = 12 → q < n → i ≤ s.Exits.n → (∀ j, j < i → (0 ≤ s.Exits.f j ∧ s.Exits.f j ≤ s.Places - 1) ∧ (0 < j → s.Exits.f (j - 1) < s.Exits.f j)) → (0 < i → (i : Int) - 1 ≤ s.Exits.f (i - 1)) →
    newelref08_Check_l22 N n (i : Int) s kr k2 = kr 80 ∨ (newelref08_Check_l22 N n (i : Int) s kr k2 = k2 () ∧ ∀ j, j < s.Exits.n → (0 ≤ s.Exits.f j ∧ s.Exits.f j ≤ s.Places - 1) ∧ (0 < j → s.Exits.f (j - 1) < s.Exits.f j)) := by
  intro q
  induction q with
  | zero =>
    intro i n h1 h2 h3 h4 h5
    have := (h4 (i - 1) (by omega)).1
    have := h5 (by omega)
    omega
  | succ q ih =>
    intro i n h1 h2 h3 h4 h5
    obtain ⟨n, rfl⟩ : ∃ m, n = m + 1 := ⟨n - 1, by omega⟩
    have hw : w64 (s.Places - 1) = s.Places - 1 := w64_eq (by omega) (by omega)
    unfold newelref08_Check_l22 newelref08_Check_b22
    by_cases hi : i < s.Exits.n
    case neg =>
      right
      simp only [ltF (show s.Exits.n ≤ i by omega), cond_false]
      exact ⟨trivial, fun j hj => h4 j (by omega)⟩
    simp only [ltT hi, nat_nonneg, Bool.and_self, cond_true, Int.toNat_natCast, w64_succ (show i < 1000000000000 by omega), rIn_eq, hw]
    by_cases c1 : 0 ≤ s.Exits.f i ∧ s.Exits.f i ≤ s.Places - 1
    case neg => left; simp only [c1, decide_false, Bool.not_false, cond_true]
    simp only [c1, and_self, decide_true, Bool.not_true, cond_false]
    by_cases i0 : i = 0
    · subst i0
      have : ¬ (((0 : Nat) : Int) > 0) := by omega
      simp only [this, decide_false, cond_false]
      exact ih 1 n (by omega) (by omega) (by omega) (fun j hj => by
        have : j = 0 := by omega
        subst this
        exact ⟨c1, fun h => by omega⟩) (fun _ => by show ((1 : Nat) : Int) - 1 ≤ s.Exits.f 0; omega)
    · have e1 : ((i : Int) > 0) := by omega
      have e2 : w64 ((i : Int) - 1) = ((i - 1 : Nat) : Int) := by rw [w64_eq (by omega) (by omega)]; omega
      simp only [e1, decide_true, cond_true, e2, ltT (show i - 1 < s.Exits.n by omega), nat_nonneg, Bool.and_self, Int.toNat_natCast]
      by_cases c2 : s.Exits.f i ≤ s.Exits.f (i - 1)
      · left; simp only [c2, decide_true, cond_true]
      · simp only [c2, decide_false, cond_false]
        have h6 := h5 (by omega)
        exact ih (i + 1) n (by omega) (by omega) (by omega) (fun j hj => by
          by_cases e : j = i
          · subst e; exact ⟨c1, fun _ => by omega⟩
          · exact h4 j (by omega)) (fun _ => by rw [Nat.add_sub_cancel]; omega)

theorem refChk {N : Nat} (hN : 200 ≤ N) (s : api_Station) (k : Int → Option R) : newelref08_Check N s k = k 80 ∨ (VS s ∧ newelref08_Check N s k = k 0) := by
  rw [newelref08_Check_def]
  unfold newelref08_Check_m
  rw [rIn_eq]
  by_cases c1 : 1 ≤ s.Places ∧ s.Places ≤ 10
  case neg => left; simp only [c1, decide_false, Bool.not_false, cond_true]
  simp only [c1, and_self, decide_true, Bool.not_true, cond_false]
  by_cases c2 : (s.Passages.n : Int) > 24
  · left; simp only [c2, decide_true, cond_true]
  simp only [c2, decide_false, cond_false]
  refine (rc_l5 N hN c1 (by omega) (fun r33 => k r33) _ s.Passages.n 0 N true (lst intC 0 (zeroC [SV.int IntKind.i64 0])) (by omega) (by omega) ⟨Nat.le_refl _, fun j hj => by omega⟩ (fun j hj => by omega) (fun j j' _ hj => by omega)).elim (fun g => .inl g) (fun ⟨g1, g2, g3⟩ => ?_)
  refine (rc_l22 N c1 (fun r37 => k r37) (fun _ => k 0) 12 0 N (by omega) (by omega) (by omega) (fun j hj => by omega) (fun h => by omega)).elim (fun g => .inl (g1.trans g)) (fun ⟨g4, g5⟩ => .inr ⟨⟨c1, by omega, g2, g3, g5⟩, g1.trans g4⟩)
end
end Wy
end Go.Proofs.Ytpillmoddoccfab
