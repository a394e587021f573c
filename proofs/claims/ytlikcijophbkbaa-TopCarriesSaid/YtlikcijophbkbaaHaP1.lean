import Derived.Test.YtlikcijophbkbaaG1
import Derived.Test.YtlikcijophbkbaaSxMath
set_option linter.unusedVariables false
set_option linter.unusedSimpArgs false
set_option maxHeartbeats 0
set_option maxRecDepth 100000
namespace Go.Proofs.Ytlikcijophbkbaa
open Go.Sx
namespace Ha
section
theorem ltF {a b : Nat} (h : b ≤ a) : decide ((a : Int) < (b : Int)) = false := by simp; omega
theorem ltT {a b : Nat} (h : a < b) : decide ((a : Int) < (b : Int)) = true := by simp; omega
theorem ws {i : Nat} (h : i < 100000) : w64 ((i : Int) + 1) = ((i + 1 : Nat) : Int) := w64_succ (by omega)
theorem within_eq (N : Nat) (a b c : Int) {R : Type} (k : Bool → Option R) : newelref06_within N a b c k = k (decide (b ≤ a ∧ a ≤ c)) := by
  rw [newelref06_within_def]
  unfold newelref06_within_m
  by_cases h : b ≤ a
  · rw [decide_eq_true (show a ≥ b from h), cond_true]
    by_cases h2 : a ≤ c
    · rw [decide_eq_true h2, decide_eq_true (show b ≤ a ∧ a ≤ c from ⟨h, h2⟩)]
    · rw [decide_eq_false h2, decide_eq_false (show ¬ (b ≤ a ∧ a ≤ c) from fun x => h2 x.2)]
  · rw [decide_eq_false (show ¬ a ≥ b from h), cond_false, decide_eq_false (show ¬ (b ≤ a ∧ a ≤ c) from fun x => h x.1)]
def spanP (s : api_Span) (lo hi : Int) : Prop := lo ≤ s.Low ∧ s.Low ≤ s.High ∧ s.High ≤ hi
instance (s : api_Span) (lo hi : Int) : Decidable (spanP s lo hi) := by unfold spanP; infer_instance
theorem spanned_eq (N : Nat) (s : api_Span) (a b : Int) {R : Type} (k : Bool → Option R) : newelref06_spanned N s a b k = k (decide (spanP s a b)) := by
  rw [newelref06_spanned_def]
  unfold newelref06_spanned_m
  by_cases h : a ≤ s.Low
  · rw [decide_eq_true (show s.Low ≥ a from h), cond_true]
    by_cases h1 : s.Low ≤ s.High
    · rw [decide_eq_true h1, cond_true]
      by_cases h2 : s.High ≤ b
      · rw [decide_eq_true h2, decide_eq_true (show spanP s a b from ⟨h, h1, h2⟩)]
      · rw [decide_eq_false h2, decide_eq_false (show ¬ spanP s a b from fun x => h2 x.2.2)]
    · rw [decide_eq_false h1, cond_false, decide_eq_false (show ¬ spanP s a b from fun x => h1 x.2.1)]
  · rw [decide_eq_false (show ¬ s.Low ≥ a from h), cond_false, decide_eq_false (show ¬ spanP s a b from fun x => h x.1)]
theorem span_eq (N : Nat) (s : api_Span) (a b : Int) {R : Type} (k : Bool → Option R) : halls_span N s a b k = k (decide (spanP s a b)) := by
  rw [halls_span_def]
  unfold halls_span_m
  by_cases h : a ≤ s.Low
  · rw [decide_eq_true h, cond_true]
    by_cases h1 : s.Low ≤ s.High
    · rw [decide_eq_true h1, cond_true]
      by_cases h2 : s.High ≤ b
      · rw [decide_eq_true h2, decide_eq_true (show spanP s a b from ⟨h, h1, h2⟩)]
      · rw [decide_eq_false h2, decide_eq_false (show ¬ spanP s a b from fun x => h2 x.2.2)]
    · rw [decide_eq_false h1, cond_false, decide_eq_false (show ¬ spanP s a b from fun x => h1 x.2.1)]
  · rw [decide_eq_false h, cond_false, decide_eq_false (show ¬ spanP s a b from fun x => h x.1)]
theorem in_eq (N : Nat) (a : Int) (s : api_Span) {R : Type} (k : Bool → Option R) : halls_in N a s k = k (decide (s.Low ≤ a ∧ a ≤ s.High)) := by
  rw [halls_in_def]
  unfold halls_in_m
  by_cases h : s.Low ≤ a
  · rw [decide_eq_true h, cond_true]
    by_cases h2 : a ≤ s.High
    · rw [decide_eq_true h2, decide_eq_true (show s.Low ≤ a ∧ a ≤ s.High from ⟨h, h2⟩)]
    · rw [decide_eq_false h2, decide_eq_false (show ¬ (s.Low ≤ a ∧ a ≤ s.High) from fun x => h2 x.2)]
  · rw [decide_eq_false h, cond_false, decide_eq_false (show ¬ (s.Low ≤ a ∧ a ≤ s.High) from fun x => h x.1)]
structure CombOk (h : api_Hall) (i : Nat) : Prop where
  rate : 0 ≤ (h.Combs.f i).Rate ∧ (h.Combs.f i).Rate ≤ 1000
  limit : 0 ≤ (h.Combs.f i).Limit ∧ (h.Combs.f i).Limit ≤ 100000
  next : (h.Combs.f i).Next = -1 ∨ ((i + 1 : Nat) : Int) ≤ (h.Combs.f i).Next ∧ (h.Combs.f i).Next ≤ (h.Combs.n : Int) - 1
  walk : spanP (h.Combs.f i).Walk 1 20
def lastC (t : api_Train) : Nat → Int
  | 0 => -1
  | k + 1 => (t.Crowds.f k).Comb
def CrowdOk (h : api_Hall) (t : api_Train) (k : Nat) : Prop := (lastC t k + 1 ≤ (t.Crowds.f k).Comb ∧ (t.Crowds.f k).Comb ≤ (h.Combs.n : Int) - 1) ∧ spanP (t.Crowds.f k).People 0 1000
structure TrainOk (h : api_Hall) (t : api_Train) : Prop where
  at_ : spanP t.At 0 (h.Until - 1)
  n : t.Crowds.n ≤ 4
  c : ∀ k, k < t.Crowds.n → CrowdOk h t k
structure ShiftOk (h : api_Hall) (i : Nat) : Prop where
  at_ : 0 ≤ (h.Shifts.f i).At ∧ (h.Shifts.f i).At ≤ h.Until - 1
  comb : 0 ≤ (h.Shifts.f i).Comb ∧ (h.Shifts.f i).Comb ≤ (h.Combs.n : Int) - 1
  rate : 0 ≤ (h.Shifts.f i).Rate ∧ (h.Shifts.f i).Rate ≤ 1000
  ord : 0 < i → (h.Shifts.f (i - 1)).At ≤ (h.Shifts.f i).At
structure HallV (h : api_Hall) : Prop where
  u : 1 ≤ h.Until ∧ h.Until ≤ 100
  cn : 1 ≤ h.Combs.n ∧ h.Combs.n ≤ 8
  tn : h.Trains.n ≤ 12
  sn : h.Shifts.n ≤ 20
  c : ∀ i, i < h.Combs.n → CombOk h i
  t : ∀ i, i < h.Trains.n → TrainOk h (h.Trains.f i)
  s : ∀ i, i < h.Shifts.n → ShiftOk h i
theorem CrowdOk.low {h : api_Hall} {t : api_Train} (ht : ∀ k, k < t.Crowds.n → CrowdOk h t k) : ∀ k, k < t.Crowds.n → (k : Int) ≤ (t.Crowds.f k).Comb := by
  intro k
  induction k with
  | zero => intro hk; have := (ht 0 hk).1.1; simp only [lastC] at this; omega
  | succ k ih =>
    intro hk
    have h1 := ih (by omega)
    have := (ht (k + 1) hk).1.1
    simp only [lastC] at this
    omega
theorem rc_l5 (N : Nat) (h : api_Hall) (hn : h.Combs.n ≤ 8) {R : Type} (kr : Int → Option R) (k0 : Unit → Option R) : ∀ (q i n : Nat), i + q = h.Combs.n → q < n → (∀ j, j < i → CombOk h j) →
    newelref06_Check_l5 N n (h.Combs.n : Int) (i : Int) h kr k0 = kr 60 ∨ ((∀ j, j < h.Combs.n → CombOk h j) ∧ newelref06_Check_l5 N n (h.Combs.n : Int) (i : Int) h kr k0 = k0 ()) := by
  intro q
  induction q with
  | zero =>
    intro i n h1 h2 h3
    obtain ⟨n, rfl⟩ : ∃ m, n = m + 1 := ⟨n - 1, by omega⟩
    right
    refine ⟨fun j hj => h3 j (by omega), ?_⟩
    unfold newelref06_Check_l5 newelref06_Check_b5
    simp only [ltF (show h.Combs.n ≤ i by omega), cond_false]
  | succ q ih =>
    intro i n h1 h2 h3
    obtain ⟨n, rfl⟩ : ∃ m, n = m + 1 := ⟨n - 1, by omega⟩
    unfold newelref06_Check_l5 newelref06_Check_b5
    simp only [ltT (show i < h.Combs.n by omega), nat_nonneg, Bool.and_self, cond_true, Int.toNat_natCast, ws (show i < 100000 by omega), within_eq, spanned_eq, w64_eq (n := (h.Combs.n : Int) - 1) (by omega) (by omega)]
    by_cases c1 : 0 ≤ (h.Combs.f i).Rate ∧ (h.Combs.f i).Rate ≤ 1000
    rotate_left
    · left; simp only [decide_eq_false c1, Bool.not_false, cond_true]
    by_cases c2 : 0 ≤ (h.Combs.f i).Limit ∧ (h.Combs.f i).Limit ≤ 100000
    rotate_left
    · left; simp only [decide_eq_true c1, decide_eq_false c2, Bool.not_false, Bool.not_true, cond_true, cond_false]
    simp only [decide_eq_true c1, decide_eq_true c2, Bool.not_true, cond_false]
    have go : CombOk h i → (newelref06_Check_l5 N n (h.Combs.n : Int) ((i + 1 : Nat) : Int) h kr k0 = kr 60 ∨ ((∀ j, j < h.Combs.n → CombOk h j) ∧ newelref06_Check_l5 N n (h.Combs.n : Int) ((i + 1 : Nat) : Int) h kr k0 = k0 ())) := fun hc => ih (i + 1) n (by omega) (by omega) fun j hj => by
      by_cases e : j = i
      · subst e; exact hc
      · exact h3 j (by omega)
    by_cases c4 : spanP (h.Combs.f i).Walk 1 20
    · by_cases c3 : (h.Combs.f i).Next = -1
      · have e3 : ((h.Combs.f i).Next != -1) = false := by simp [c3]
        simp only [e3, decide_eq_true c4, Bool.not_true, cond_false]
        exact go ⟨c1, c2, .inl c3, c4⟩
      · have e3 : ((h.Combs.f i).Next != -1) = true := by simpa using c3
        by_cases c5 : ((i + 1 : Nat) : Int) ≤ (h.Combs.f i).Next ∧ (h.Combs.f i).Next ≤ (h.Combs.n : Int) - 1
        · simp only [e3, decide_eq_true c5, decide_eq_true c4, Bool.not_true, cond_false, cond_true]
          exact go ⟨c1, c2, .inr c5, c4⟩
        · left; simp only [e3, decide_eq_false c5, Bool.not_false, cond_true]
    · left
      cases ((h.Combs.f i).Next != -1)
      · simp only [decide_eq_false c4, Bool.not_false, cond_true, cond_false]
      · cases decide (((i + 1 : Nat) : Int) ≤ (h.Combs.f i).Next ∧ (h.Combs.f i).Next ≤ (h.Combs.n : Int) - 1) <;> simp only [decide_eq_false c4, Bool.not_false, Bool.not_true, cond_true, cond_false]
theorem rc_l18 (N : Nat) (h : api_Hall) (hn : h.Combs.n ≤ 8) (t : api_Train) (hk : t.Crowds.n ≤ 4) (v : Int) {R : Type} (kr : Int → Option R) (k0 : Unit → Option R) : ∀ (q i n : Nat), i + q = t.Crowds.n → q < n → (∀ j, j < i → CrowdOk h t j) → (-1 ≤ lastC t i ∧ lastC t i ≤ 8) →
    newelref06_Check_l18 N n (h.Combs.n : Int) v (lastC t i) (i : Int) h t kr k0 = kr 60 ∨ ((∀ j, j < t.Crowds.n → CrowdOk h t j) ∧ newelref06_Check_l18 N n (h.Combs.n : Int) v (lastC t i) (i : Int) h t kr k0 = k0 ()) := by
  intro q
  induction q with
  | zero =>
    intro i n h1 h2 h3 h4
    obtain ⟨n, rfl⟩ : ∃ m, n = m + 1 := ⟨n - 1, by omega⟩
    right
    refine ⟨fun j hj => h3 j (by omega), ?_⟩
    unfold newelref06_Check_l18 newelref06_Check_b18
    simp only [ltF (show t.Crowds.n ≤ i by omega), cond_false]
  | succ q ih =>
    intro i n h1 h2 h3 h4
    obtain ⟨n, rfl⟩ : ∃ m, n = m + 1 := ⟨n - 1, by omega⟩
    unfold newelref06_Check_l18 newelref06_Check_b18
    simp only [ltT (show i < t.Crowds.n by omega), nat_nonneg, Bool.and_self, cond_true, Int.toNat_natCast, ws (show i < 100000 by omega), within_eq, spanned_eq, w64_eq (n := (h.Combs.n : Int) - 1) (by omega) (by omega), w64_eq (n := lastC t i + 1) (by omega) (by omega)]
    by_cases c1 : lastC t i + 1 ≤ (t.Crowds.f i).Comb ∧ (t.Crowds.f i).Comb ≤ (h.Combs.n : Int) - 1
    rotate_left
    · left; simp only [decide_eq_false c1, Bool.not_false, cond_true]
    by_cases c2 : spanP (t.Crowds.f i).People 0 1000
    rotate_left
    · left; simp only [decide_eq_true c1, decide_eq_false c2, Bool.not_false, Bool.not_true, cond_true, cond_false]
    simp only [decide_eq_true c1, decide_eq_true c2, Bool.not_true, cond_false]
    exact ih (i + 1) n (by omega) (by omega) (fun j hj => by
      by_cases e : j = i
      · subst e; exact ⟨c1, c2⟩
      · exact h3 j (by omega)) (by simp only [lastC]; omega)
theorem rc_l11 (N : Nat) (hN : 200 ≤ N) (h : api_Hall) (hu : 1 ≤ h.Until ∧ h.Until ≤ 100) (hn : h.Combs.n ≤ 8) (ht : h.Trains.n ≤ 12) {R : Type} (kr : Int → Option R) (k0 : Unit → Option R) : ∀ (q i n : Nat), i + q = h.Trains.n → q < n → (∀ j, j < i → TrainOk h (h.Trains.f j)) →
    newelref06_Check_l11 N n (h.Combs.n : Int) (i : Int) h kr k0 = kr 60 ∨ ((∀ j, j < h.Trains.n → TrainOk h (h.Trains.f j)) ∧ newelref06_Check_l11 N n (h.Combs.n : Int) (i : Int) h kr k0 = k0 ()) := by
  intro q
  induction q with
  | zero =>
    intro i n h1 h2 h3
    obtain ⟨n, rfl⟩ : ∃ m, n = m + 1 := ⟨n - 1, by omega⟩
    right
    refine ⟨fun j hj => h3 j (by omega), ?_⟩
    unfold newelref06_Check_l11 newelref06_Check_b11
    simp only [ltF (show h.Trains.n ≤ i by omega), cond_false]
  | succ q ih =>
    intro i n h1 h2 h3
    obtain ⟨n, rfl⟩ : ∃ m, n = m + 1 := ⟨n - 1, by omega⟩
    unfold newelref06_Check_l11 newelref06_Check_b11
    simp only [ltT (show i < h.Trains.n by omega), nat_nonneg, Bool.and_self, cond_true, Int.toNat_natCast, ws (show i < 100000 by omega), spanned_eq, w64_eq (n := h.Until - 1) (by omega) (by omega)]
    by_cases c1 : spanP (h.Trains.f i).At 0 (h.Until - 1)
    rotate_left
    · left; simp only [decide_eq_false c1, Bool.not_false, cond_true]
    by_cases c2 : (((h.Trains.f i).Crowds.n : Nat) : Int) > 4
    · left; simp only [decide_eq_true c1, decide_eq_true c2, Bool.not_true, cond_true, cond_false]
    simp only [decide_eq_true c1, decide_eq_false c2, Bool.not_true, cond_false]
    have hc4 : (h.Trains.f i).Crowds.n ≤ 4 := by omega
    rcases rc_l18 N h hn (h.Trains.f i) hc4 (i : Int) kr (fun (_ : Unit) => newelref06_Check_l11 N n (h.Combs.n : Int) ((i + 1 : Nat) : Int) h kr k0) (h.Trains.f i).Crowds.n 0 N (by omega) (by omega) (fun j hj => by omega) (by simp [lastC]) with e | ⟨hcr, e⟩
    · left; exact e
    · have e : newelref06_Check_l18 N N (h.Combs.n : Int) (i : Int) (-1 : Int) (0 : Int) h (h.Trains.f i) kr (fun (_ : Unit) => newelref06_Check_l11 N n (h.Combs.n : Int) ((i + 1 : Nat) : Int) h kr k0) = _ := e
      have go := ih (i + 1) n (by omega) (by omega) (fun j hj => by
        by_cases e : j = i
        · subst e; exact ⟨c1, hc4, hcr⟩
        · exact h3 j (by omega))
      rcases go with g | ⟨g1, g⟩
      · left; exact e.trans g
      · right; exact ⟨g1, e.trans g⟩
theorem rc_l24 (N : Nat) (h : api_Hall) (hu : 1 ≤ h.Until ∧ h.Until ≤ 100) (hn : h.Combs.n ≤ 8) (hs : h.Shifts.n ≤ 20) {R : Type} (kr : Int → Option R) (k0 : Unit → Option R) : ∀ (q i n : Nat), i + q = h.Shifts.n → q < n → (∀ j, j < i → ShiftOk h j) →
    newelref06_Check_l24 N n (h.Combs.n : Int) (i : Int) h kr k0 = kr 60 ∨ ((∀ j, j < h.Shifts.n → ShiftOk h j) ∧ newelref06_Check_l24 N n (h.Combs.n : Int) (i : Int) h kr k0 = k0 ()) := by
  intro q
  induction q with
  | zero =>
    intro i n h1 h2 h3
    obtain ⟨n, rfl⟩ : ∃ m, n = m + 1 := ⟨n - 1, by omega⟩
    right
    refine ⟨fun j hj => h3 j (by omega), ?_⟩
    unfold newelref06_Check_l24 newelref06_Check_b24
    simp only [ltF (show h.Shifts.n ≤ i by omega), cond_false]
  | succ q ih =>
    intro i n h1 h2 h3
    obtain ⟨n, rfl⟩ : ∃ m, n = m + 1 := ⟨n - 1, by omega⟩
    unfold newelref06_Check_l24 newelref06_Check_b24
    simp only [ltT (show i < h.Shifts.n by omega), nat_nonneg, Bool.and_self, cond_true, Int.toNat_natCast, ws (show i < 100000 by omega), within_eq, w64_eq (n := h.Until - 1) (by omega) (by omega), w64_eq (n := (h.Combs.n : Int) - 1) (by omega) (by omega)]
    by_cases c1 : 0 ≤ (h.Shifts.f i).At ∧ (h.Shifts.f i).At ≤ h.Until - 1
    rotate_left
    · left; simp only [decide_eq_false c1, Bool.not_false, cond_true]
    by_cases c2 : 0 ≤ (h.Shifts.f i).Comb ∧ (h.Shifts.f i).Comb ≤ (h.Combs.n : Int) - 1
    rotate_left
    · left; simp only [decide_eq_true c1, decide_eq_false c2, Bool.not_true, Bool.not_false, cond_true, cond_false]
    by_cases c3 : 0 ≤ (h.Shifts.f i).Rate ∧ (h.Shifts.f i).Rate ≤ 1000
    rotate_left
    · left; simp only [decide_eq_true c1, decide_eq_true c2, decide_eq_false c3, Bool.not_true, Bool.not_false, cond_true, cond_false]
    simp only [decide_eq_true c1, decide_eq_true c2, decide_eq_true c3, Bool.not_true, cond_false]
    have go : ShiftOk h i → (newelref06_Check_l24 N n (h.Combs.n : Int) ((i + 1 : Nat) : Int) h kr k0 = kr 60 ∨ ((∀ j, j < h.Shifts.n → ShiftOk h j) ∧ newelref06_Check_l24 N n (h.Combs.n : Int) ((i + 1 : Nat) : Int) h kr k0 = k0 ())) := fun hc => ih (i + 1) n (by omega) (by omega) fun j hj => by
      by_cases e : j = i
      · subst e; exact hc
      · exact h3 j (by omega)
    by_cases hi : i = 0
    · subst hi
      have e0 : decide (((0 : Nat) : Int) > 0) = false := by simp
      simp only [e0, cond_false]
      exact go ⟨c1, c2, c3, fun h => by omega⟩
    · have e0 : decide ((i : Int) > 0) = true := by simp; omega
      have e1 : w64 ((i : Int) - 1) = ((i - 1 : Nat) : Int) := by rw [w64_eq (by omega) (by omega)]; omega
      simp only [e0, cond_true, e1, nat_nonneg, ltT (show i - 1 < h.Shifts.n by omega), Bool.and_self, Int.toNat_natCast]
      by_cases c4 : (h.Shifts.f i).At < (h.Shifts.f (i - 1)).At
      · left; simp only [decide_eq_true c4, cond_true]
      · simp only [decide_eq_false c4, cond_false]
        exact go ⟨c1, c2, c3, fun _ => by omega⟩
theorem refCheck_or {N : Nat} (hN : 200 ≤ N) (h : api_Hall) {R : Type} (k : Int → Option R) : newelref06_Check N h k = k 60 ∨ (HallV h ∧ newelref06_Check N h k = k 0) := by
  rw [newelref06_Check_def]
  unfold newelref06_Check_m
  simp only [within_eq]
  by_cases c1 : 1 ≤ h.Until ∧ h.Until ≤ 100
  rotate_left
  · left; simp only [decide_eq_false c1, Bool.not_false, cond_true]
  by_cases c2 : 1 ≤ (h.Combs.n : Int) ∧ (h.Combs.n : Int) ≤ 8
  rotate_left
  · left; simp only [decide_eq_true c1, decide_eq_false c2, Bool.not_true, Bool.not_false, cond_true, cond_false]
  by_cases c3 : (h.Trains.n : Int) > 12
  · left; simp only [decide_eq_true c1, decide_eq_true c2, decide_eq_true c3, Bool.not_true, cond_true, cond_false]
  by_cases c4 : (h.Shifts.n : Int) > 20
  · left; simp only [decide_eq_true c1, decide_eq_true c2, decide_eq_false c3, decide_eq_true c4, Bool.not_true, cond_true, cond_false]
  simp only [decide_eq_true c1, decide_eq_true c2, decide_eq_false c3, decide_eq_false c4, Bool.not_true, cond_false]
  rcases rc_l5 N h (by omega) (fun r17 => k r17) (fun (_ : Unit) =>
       newelref06_Check_l11 N N ((↑(Arr.n (api_Hall.Combs h)) : Int)) (0 : Int) h (fun r31 =>
        k r31) (fun (_ : Unit) =>
        newelref06_Check_l24 N N ((↑(Arr.n (api_Hall.Combs h)) : Int)) (0 : Int) h (fun r38 =>
         k r38) (fun (_ : Unit) =>
         k (0 : Int)))) h.Combs.n 0 N (by omega) (by omega) (fun j hj => by omega) with e | ⟨hc, e⟩
  · left; exact e
  rcases rc_l11 N hN h c1 (by omega) (by omega) (fun r31 => k r31) (fun (_ : Unit) =>
        newelref06_Check_l24 N N ((↑(Arr.n (api_Hall.Combs h)) : Int)) (0 : Int) h (fun r38 =>
         k r38) (fun (_ : Unit) =>
         k (0 : Int))) h.Trains.n 0 N (by omega) (by omega) (fun j hj => by omega) with e1 | ⟨ht, e1⟩
  · left; exact e.trans e1
  rcases rc_l24 N h c1 (by omega) (by omega) (fun r38 => k r38) (fun (_ : Unit) => k (0 : Int)) h.Shifts.n 0 N (by omega) (by omega) (fun j hj => by omega) with e2 | ⟨hs, e2⟩
  · left; exact e.trans (e1.trans e2)
  right
  exact ⟨⟨c1, by omega, by omega, by omega, hc, ht, hs⟩, e.trans (e1.trans e2)⟩
theorem isComb_eq (N : Nat) {h : api_Hall} {i : Nat} (hi : i < h.Combs.n) (hc : CombOk h i) {R : Type} (k : Bool → Option R) : halls_isComb N h (i : Int) k = k true := by
  rw [halls_isComb_def]
  unfold halls_isComb_m
  have c1 : (api_Span.mk (0 : Int) (1000 : Int)).Low ≤ (h.Combs.f i).Rate ∧ (h.Combs.f i).Rate ≤ (api_Span.mk (0 : Int) (1000 : Int)).High := hc.rate
  have c2 : (api_Span.mk (0 : Int) (100000 : Int)).Low ≤ (h.Combs.f i).Limit ∧ (h.Combs.f i).Limit ≤ (api_Span.mk (0 : Int) (100000 : Int)).High := hc.limit
  simp only [ltT hi, nat_nonneg, Bool.and_self, cond_true, Int.toNat_natCast, in_eq, span_eq, decide_eq_true c1, decide_eq_true c2, decide_eq_true hc.walk]
  rcases hc.next with e | ⟨e1, e2⟩
  · have : ((h.Combs.f i).Next == -1) = true := by simp [e]
    simp only [this, cond_true]
  · have a1 : ((h.Combs.f i).Next == -1) = false := by rw [beq_eq_false_iff_ne]; omega
    have a2 : decide ((h.Combs.f i).Next > (i : Int)) = true := by simp; omega
    have a3 : decide ((h.Combs.f i).Next < (h.Combs.n : Int)) = true := by simp; omega
    simp only [a1, a2, a3, cond_true, cond_false]
theorem pc_l4 (N : Nat) {h : api_Hall} (hv : HallV h) {R : Type} (kr : Int → Option R) (k0 : Unit → Option R) : ∀ (q i n : Nat), i + q = h.Combs.n → q < n → halls_Check_l4 N n (h.Combs.n : Int) (i : Int) h kr k0 = k0 () := by
  have hn := hv.cn
  intro q
  induction q with
  | zero =>
    intro i n h1 h2
    obtain ⟨n, rfl⟩ : ∃ m, n = m + 1 := ⟨n - 1, by omega⟩
    unfold halls_Check_l4 halls_Check_b4
    simp only [ltF (show h.Combs.n ≤ i by omega), cond_false]
  | succ q ih =>
    intro i n h1 h2
    obtain ⟨n, rfl⟩ : ∃ m, n = m + 1 := ⟨n - 1, by omega⟩
    unfold halls_Check_l4 halls_Check_b4
    simp only [ltT (show i < h.Combs.n by omega), cond_true, isComb_eq N (show i < h.Combs.n by omega) (hv.c i (by omega)), Bool.not_true, cond_false, ws (show i < 100000 by omega)]
    exact ih (i + 1) n (by omega) (by omega)
theorem pt_l3 (N : Nat) {h : api_Hall} (hv : HallV h) {t : api_Train} (ht : TrainOk h t) {R : Type} (kr : Bool → Option R) (k0 : Unit → Option R) : ∀ (q i n : Nat), i + q = t.Crowds.n → q < n → halls_isTrain_l3 N n (lastC t i) t.Crowds (t.Crowds.n : Int) (i : Int) h t kr k0 = k0 () := by
  have hn := hv.cn
  have h4 := ht.n
  intro q
  induction q with
  | zero =>
    intro i n h1 h2
    obtain ⟨n, rfl⟩ : ∃ m, n = m + 1 := ⟨n - 1, by omega⟩
    unfold halls_isTrain_l3 halls_isTrain_b3
    simp only [ltF (show t.Crowds.n ≤ i by omega), cond_false]
  | succ q ih =>
    intro i n h1 h2
    obtain ⟨n, rfl⟩ : ∃ m, n = m + 1 := ⟨n - 1, by omega⟩
    obtain ⟨⟨c1, c2⟩, c3⟩ := ht.c i (by omega)
    have a1 : decide ((t.Crowds.f i).Comb ≤ lastC t i) = false := by simp; omega
    have a2 : decide ((t.Crowds.f i).Comb ≥ (h.Combs.n : Int)) = false := by simp; omega
    unfold halls_isTrain_l3 halls_isTrain_b3
    simp only [ltT (show i < t.Crowds.n by omega), nat_nonneg, Bool.and_self, cond_true, Int.toNat_natCast, a1, a2, span_eq, decide_eq_true c3, Bool.not_true, cond_false, ws (show i < 100000 by omega)]
    exact ih (i + 1) n (by omega) (by omega)
theorem isTrain_eq {N : Nat} (hN : 200 ≤ N) {h : api_Hall} (hv : HallV h) {t : api_Train} (ht : TrainOk h t) {R : Type} (k : Bool → Option R) : halls_isTrain N h t k = k true := by
  have h4 := ht.n
  have hu := hv.u
  rw [halls_isTrain_def]
  unfold halls_isTrain_m
  refine (pt_l3 N hv ht (fun r84 => k r84) _ t.Crowds.n 0 N (by omega) (by omega)).trans ?_
  have a4 : decide (((t.Crowds.n : Nat) : Int) ≤ 4) = true := by simp; omega
  simp only [span_eq, w64_eq (n := h.Until - 1) (by omega) (by omega), decide_eq_true ht.at_, cond_true, a4]
theorem idxT_l2 {N : Nat} (hN : 200 ≤ N) {h : api_Hall} (hv : HallV h) {R : Type} (kr : Int → Option R) (k0 : Unit → Option R) : ∀ (q i n : Nat), i + q = h.Trains.n → q < n → slices_IndexFunc___api_Train_api_Train__l2 N n h.Trains (h.Trains.n : Int) (i : Int) h kr k0 = k0 () := by
  have hn := hv.tn
  intro q
  induction q with
  | zero =>
    intro i n h1 h2
    obtain ⟨n, rfl⟩ : ∃ m, n = m + 1 := ⟨n - 1, by omega⟩
    unfold slices_IndexFunc___api_Train_api_Train__l2 slices_IndexFunc___api_Train_api_Train__b2
    simp only [ltF (show h.Trains.n ≤ i by omega), cond_false]
  | succ q ih =>
    intro i n h1 h2
    obtain ⟨n, rfl⟩ : ∃ m, n = m + 1 := ⟨n - 1, by omega⟩
    unfold slices_IndexFunc___api_Train_api_Train__l2 slices_IndexFunc___api_Train_api_Train__b2
    simp only [ltT (show i < h.Trains.n by omega), nat_nonneg, Bool.and_self, cond_true, Int.toNat_natCast, halls_Check_1_def, ws (show i < 100000 by omega)]
    unfold halls_Check_1_m
    simp only [isTrain_eq hN hv (hv.t i (by omega)), Bool.not_true, cond_false]
    exact ih (i + 1) n (by omega) (by omega)
theorem pc_l12 (N : Nat) {h : api_Hall} (hv : HallV h) {R : Type} (kr : Int → Option R) (k0 : Unit → Option R) : ∀ (q i n : Nat), i + q = h.Shifts.n → q < n → halls_Check_l12 N n h.Shifts (h.Shifts.n : Int) (i : Int) h kr k0 = k0 () := by
  have hn := hv.sn
  intro q
  induction q with
  | zero =>
    intro i n h1 h2
    obtain ⟨n, rfl⟩ : ∃ m, n = m + 1 := ⟨n - 1, by omega⟩
    unfold halls_Check_l12 halls_Check_b12
    simp only [ltF (show h.Shifts.n ≤ i by omega), cond_false]
  | succ q ih =>
    intro i n h1 h2
    obtain ⟨n, rfl⟩ : ∃ m, n = m + 1 := ⟨n - 1, by omega⟩
    have hs := hv.s i (by omega)
    have a1 : decide ((h.Shifts.f i).At < 0) = false := by have := hs.at_; simp; omega
    have a2 : decide ((h.Shifts.f i).At ≥ h.Until) = false := by have := hs.at_; simp; omega
    have a3 : decide ((h.Shifts.f i).Comb < 0) = false := by have := hs.comb; simp; omega
    have a4 : decide ((h.Shifts.f i).Comb ≥ (h.Combs.n : Int)) = false := by have := hs.comb; simp; omega
    have c1 : (api_Span.mk (0 : Int) (1000 : Int)).Low ≤ (h.Shifts.f i).Rate ∧ (h.Shifts.f i).Rate ≤ (api_Span.mk (0 : Int) (1000 : Int)).High := hs.rate
    unfold halls_Check_l12 halls_Check_b12
    simp only [ltT (show i < h.Shifts.n by omega), nat_nonneg, Bool.and_self, cond_true, Int.toNat_natCast, a1, a2, a3, a4, cond_false, in_eq, decide_eq_true c1, Bool.not_true, ws (show i < 100000 by omega)]
    by_cases hi : i = 0
    · subst hi
      have e0 : decide (((0 : Nat) : Int) > 0) = false := by simp
      simp only [e0, cond_false]
      exact ih 1 n (by omega) (by omega)
    · have e0 : decide ((i : Int) > 0) = true := by simp; omega
      have e1 : w64 ((i : Int) - 1) = ((i - 1 : Nat) : Int) := by rw [w64_eq (by omega) (by omega)]; omega
      have e2 : decide ((h.Shifts.f i).At < (h.Shifts.f (i - 1)).At) = false := by have := hs.ord (by omega); simp; omega
      simp only [e0, cond_true, e1, nat_nonneg, ltT (show i - 1 < h.Shifts.n by omega), Bool.and_self, Int.toNat_natCast, e2, cond_false]
      exact ih (i + 1) n (by omega) (by omega)
theorem check_eq {N : Nat} (hN : 200 ≤ N) {h : api_Hall} (hv : HallV h) {R : Type} (k : Int → Option R) : halls_Check N h k = k 0 := by
  have h1 := hv.u
  have h2 := hv.cn
  have h3 := hv.tn
  have h4 := hv.sn
  rw [halls_Check_def]
  unfold halls_Check_m
  have a1 : decide (h.Until < 1) = false := by simp; omega
  have a2 : decide (h.Until > 100) = false := by simp; omega
  have a3 : decide ((h.Combs.n : Int) < 1) = false := by simp; omega
  have a4 : decide ((h.Combs.n : Int) > 8) = false := by simp; omega
  have a5 : decide ((h.Trains.n : Int) > 12) = false := by simp; omega
  have a6 : decide ((h.Shifts.n : Int) > 20) = false := by simp; omega
  simp only [a1, a2, a3, a4, a5, a6, cond_false]
  refine (pc_l4 N hv (fun r91 => k r91) _ h.Combs.n 0 N (by omega) (by omega)).trans ?_
  rw [slices_ContainsFunc___api_Train_api_Train__def]
  unfold slices_ContainsFunc___api_Train_api_Train__m
  rw [slices_IndexFunc___api_Train_api_Train__def]
  unfold slices_IndexFunc___api_Train_api_Train__m
  refine (idxT_l2 hN hv _ _ h.Trains.n 0 N (by omega) (by omega)).trans ?_
  have a7 : decide ((-1 : Int) ≥ 0) = false := rfl
  simp only [a7, cond_false]
  exact pc_l12 N hv (fun r113 => k r113) (fun (_ : Unit) => k 0) h.Shifts.n 0 N (by omega) (by omega)
structure DayV (h : api_Hall) (d : api_Day) : Prop where
  an : d.At.n = h.Trains.n
  pn : d.People.n = h.Trains.n
  wn : d.Walks.n = h.Combs.n
  a : ∀ i, i < h.Trains.n → (h.Trains.f i).At.Low ≤ d.At.f i ∧ d.At.f i ≤ (h.Trains.f i).At.High
  qn : ∀ i, i < h.Trains.n → (d.People.f i).n = (h.Trains.f i).Crowds.n
  q : ∀ i k, i < h.Trains.n → k < (h.Trains.f i).Crowds.n → ((h.Trains.f i).Crowds.f k).People.Low ≤ (d.People.f i).f k ∧ (d.People.f i).f k ≤ ((h.Trains.f i).Crowds.f k).People.High
  vn : ∀ i, i < h.Combs.n → 1 ≤ (d.Walks.f i).n ∧ (d.Walks.f i).n ≤ 20
  v : ∀ i k, i < h.Combs.n → k < (d.Walks.f i).n → (h.Combs.f i).Walk.Low ≤ (d.Walks.f i).f k ∧ (d.Walks.f i).f k ≤ (h.Combs.f i).Walk.High
theorem rf_l10 (N : Nat) {h : api_Hall} (hv : HallV h) {d : api_Day} (hp : d.People.n = h.Trains.n) {x : Nat} (hx : x < h.Trains.n) (hq : (d.People.f x).n = (h.Trains.f x).Crowds.n) {R : Type} (kr : Bool → Option R) (k0 : Unit → Option R) : ∀ (q i n : Nat), i + q = (h.Trains.f x).Crowds.n → q < n →
    (∀ k, k < i → ((h.Trains.f x).Crowds.f k).People.Low ≤ (d.People.f x).f k ∧ (d.People.f x).f k ≤ ((h.Trains.f x).Crowds.f k).People.High) →
    newelref06_Fits_l10 N n (x : Int) (i : Int) h d (h.Trains.f x) kr k0 = kr false ∨ ((∀ k, k < (h.Trains.f x).Crowds.n → ((h.Trains.f x).Crowds.f k).People.Low ≤ (d.People.f x).f k ∧ (d.People.f x).f k ≤ ((h.Trains.f x).Crowds.f k).People.High) ∧ newelref06_Fits_l10 N n (x : Int) (i : Int) h d (h.Trains.f x) kr k0 = k0 ()) := by
  have h4 := (hv.t x hx).n
  intro q
  induction q with
  | zero =>
    intro i n h1 h2 h3
    obtain ⟨n, rfl⟩ : ∃ m, n = m + 1 := ⟨n - 1, by omega⟩
    right
    refine ⟨fun j hj => h3 j (by omega), ?_⟩
    unfold newelref06_Fits_l10 newelref06_Fits_b10
    simp only [ltF (show (h.Trains.f x).Crowds.n ≤ i by omega), cond_false]
  | succ q ih =>
    intro i n h1 h2 h3
    obtain ⟨n, rfl⟩ : ∃ m, n = m + 1 := ⟨n - 1, by omega⟩
    unfold newelref06_Fits_l10 newelref06_Fits_b10
    simp only [ltT (show i < (h.Trains.f x).Crowds.n by omega), ltT (show x < d.People.n by omega), nat_nonneg, Bool.and_self, cond_true, Int.toNat_natCast, ltT (show i < (d.People.f x).n by omega), within_eq, ws (show i < 100000 by omega)]
    by_cases c1 : ((h.Trains.f x).Crowds.f i).People.Low ≤ (d.People.f x).f i ∧ (d.People.f x).f i ≤ ((h.Trains.f x).Crowds.f i).People.High
    · simp only [decide_eq_true c1, Bool.not_true, cond_false]
      exact ih (i + 1) n (by omega) (by omega) fun j hj => by
        by_cases e : j = i
        · subst e; exact c1
        · exact h3 j (by omega)
    · left; simp only [decide_eq_false c1, Bool.not_false, cond_true]
theorem rf_l4 {N : Nat} (hN : 200 ≤ N) {h : api_Hall} (hv : HallV h) {d : api_Day} (ha : d.At.n = h.Trains.n) (hp : d.People.n = h.Trains.n) {R : Type} (kr : Bool → Option R) (k0 : Unit → Option R) : ∀ (q i n : Nat), i + q = h.Trains.n → q < n →
    (∀ x, x < i → ((h.Trains.f x).At.Low ≤ d.At.f x ∧ d.At.f x ≤ (h.Trains.f x).At.High) ∧ (d.People.f x).n = (h.Trains.f x).Crowds.n ∧ ∀ k, k < (h.Trains.f x).Crowds.n → ((h.Trains.f x).Crowds.f k).People.Low ≤ (d.People.f x).f k ∧ (d.People.f x).f k ≤ ((h.Trains.f x).Crowds.f k).People.High) →
    newelref06_Fits_l4 N n (i : Int) h d kr k0 = kr false ∨ ((∀ x, x < h.Trains.n → ((h.Trains.f x).At.Low ≤ d.At.f x ∧ d.At.f x ≤ (h.Trains.f x).At.High) ∧ (d.People.f x).n = (h.Trains.f x).Crowds.n ∧ ∀ k, k < (h.Trains.f x).Crowds.n → ((h.Trains.f x).Crowds.f k).People.Low ≤ (d.People.f x).f k ∧ (d.People.f x).f k ≤ ((h.Trains.f x).Crowds.f k).People.High) ∧ newelref06_Fits_l4 N n (i : Int) h d kr k0 = k0 ()) := by
  have hn := hv.tn
  intro q
  induction q with
  | zero =>
    intro i n h1 h2 h3
    obtain ⟨n, rfl⟩ : ∃ m, n = m + 1 := ⟨n - 1, by omega⟩
    right
    refine ⟨fun j hj => h3 j (by omega), ?_⟩
    unfold newelref06_Fits_l4 newelref06_Fits_b4
    simp only [ltF (show h.Trains.n ≤ i by omega), cond_false]
  | succ q ih =>
    intro i n h1 h2 h3
    obtain ⟨n, rfl⟩ : ∃ m, n = m + 1 := ⟨n - 1, by omega⟩
    have hi : i < h.Trains.n := by omega
    unfold newelref06_Fits_l4 newelref06_Fits_b4
    simp only [ltT hi, ltT (show i < d.At.n by omega), ltT (show i < d.People.n by omega), nat_nonneg, Bool.and_self, cond_true, Int.toNat_natCast, within_eq, ws (show i < 100000 by omega)]
    by_cases c1 : (h.Trains.f i).At.Low ≤ d.At.f i ∧ d.At.f i ≤ (h.Trains.f i).At.High
    rotate_left
    · left; simp only [decide_eq_false c1, Bool.not_false, cond_true]
    by_cases c2 : (d.People.f i).n = (h.Trains.f i).Crowds.n
    rotate_left
    · left
      have : (((d.People.f i).n : Int) != ((h.Trains.f i).Crowds.n : Int)) = true := by simp only [bne_iff_ne, ne_eq]; omega
      simp only [decide_eq_true c1, this, Bool.not_true, cond_true, cond_false]
    have e2 : (((d.People.f i).n : Int) != ((h.Trains.f i).Crowds.n : Int)) = false := by rw [c2]; simp
    simp only [decide_eq_true c1, e2, Bool.not_true, cond_false]
    have h4 := (hv.t i hi).n
    rcases rf_l10 N hv hp hi c2 kr (fun (_ : Unit) => newelref06_Fits_l4 N n ((i + 1 : Nat) : Int) h d kr k0) (h.Trains.f i).Crowds.n 0 N (by omega) (by omega) (fun j hj => by omega) with e | ⟨hq, e⟩
    · left; exact e
    · rcases ih (i + 1) n (by omega) (by omega) (fun j hj => by
        by_cases e : j = i
        · subst e; exact ⟨c1, c2, hq⟩
        · exact h3 j (by omega)) with g | ⟨g1, g⟩
      · left; exact e.trans g
      · right; exact ⟨g1, e.trans g⟩
theorem rf_l20 (N : Nat) {h : api_Hall} {d : api_Day} (hw : d.Walks.n = h.Combs.n) {x : Nat} (hx : x < h.Combs.n) (h20 : (d.Walks.f x).n ≤ 20) {R : Type} (kr : Bool → Option R) (k0 : Unit → Option R) : ∀ (q i n : Nat), i + q = (d.Walks.f x).n → q < n →
    (∀ k, k < i → (h.Combs.f x).Walk.Low ≤ (d.Walks.f x).f k ∧ (d.Walks.f x).f k ≤ (h.Combs.f x).Walk.High) →
    newelref06_Fits_l20 N n (x : Int) (i : Int) h d kr k0 = kr false ∨ ((∀ k, k < (d.Walks.f x).n → (h.Combs.f x).Walk.Low ≤ (d.Walks.f x).f k ∧ (d.Walks.f x).f k ≤ (h.Combs.f x).Walk.High) ∧ newelref06_Fits_l20 N n (x : Int) (i : Int) h d kr k0 = k0 ()) := by
  intro q
  induction q with
  | zero =>
    intro i n h1 h2 h3
    obtain ⟨n, rfl⟩ : ∃ m, n = m + 1 := ⟨n - 1, by omega⟩
    right
    refine ⟨fun j hj => h3 j (by omega), ?_⟩
    unfold newelref06_Fits_l20 newelref06_Fits_b20
    simp only [ltT (show x < d.Walks.n by omega), nat_nonneg, Bool.and_self, cond_true, Int.toNat_natCast, ltF (show (d.Walks.f x).n ≤ i by omega), cond_false]
  | succ q ih =>
    intro i n h1 h2 h3
    obtain ⟨n, rfl⟩ : ∃ m, n = m + 1 := ⟨n - 1, by omega⟩
    unfold newelref06_Fits_l20 newelref06_Fits_b20
    simp only [ltT (show x < d.Walks.n by omega), ltT hx, nat_nonneg, Bool.and_self, cond_true, Int.toNat_natCast, ltT (show i < (d.Walks.f x).n by omega), within_eq, ws (show i < 100000 by omega)]
    by_cases c1 : (h.Combs.f x).Walk.Low ≤ (d.Walks.f x).f i ∧ (d.Walks.f x).f i ≤ (h.Combs.f x).Walk.High
    · simp only [decide_eq_true c1, Bool.not_true, cond_false]
      exact ih (i + 1) n (by omega) (by omega) fun j hj => by
        by_cases e : j = i
        · subst e; exact c1
        · exact h3 j (by omega)
    · left; simp only [decide_eq_false c1, Bool.not_false, cond_true]
theorem rf_l15 {N : Nat} (hN : 200 ≤ N) {h : api_Hall} (hv : HallV h) {d : api_Day} (hw : d.Walks.n = h.Combs.n) {R : Type} (kr : Bool → Option R) (k0 : Unit → Option R) : ∀ (q i n : Nat), i + q = h.Combs.n → q < n →
    (∀ x, x < i → (1 ≤ (d.Walks.f x).n ∧ (d.Walks.f x).n ≤ 20) ∧ ∀ k, k < (d.Walks.f x).n → (h.Combs.f x).Walk.Low ≤ (d.Walks.f x).f k ∧ (d.Walks.f x).f k ≤ (h.Combs.f x).Walk.High) →
    newelref06_Fits_l15 N n (i : Int) h d kr k0 = kr false ∨ ((∀ x, x < h.Combs.n → (1 ≤ (d.Walks.f x).n ∧ (d.Walks.f x).n ≤ 20) ∧ ∀ k, k < (d.Walks.f x).n → (h.Combs.f x).Walk.Low ≤ (d.Walks.f x).f k ∧ (d.Walks.f x).f k ≤ (h.Combs.f x).Walk.High) ∧ newelref06_Fits_l15 N n (i : Int) h d kr k0 = k0 ()) := by
  have hn := hv.cn
  intro q
  induction q with
  | zero =>
    intro i n h1 h2 h3
    obtain ⟨n, rfl⟩ : ∃ m, n = m + 1 := ⟨n - 1, by omega⟩
    right
    refine ⟨fun j hj => h3 j (by omega), ?_⟩
    unfold newelref06_Fits_l15 newelref06_Fits_b15
    simp only [ltF (show h.Combs.n ≤ i by omega), cond_false]
  | succ q ih =>
    intro i n h1 h2 h3
    obtain ⟨n, rfl⟩ : ∃ m, n = m + 1 := ⟨n - 1, by omega⟩
    have hi : i < h.Combs.n := by omega
    unfold newelref06_Fits_l15 newelref06_Fits_b15
    simp only [ltT hi, ltT (show i < d.Walks.n by omega), nat_nonneg, Bool.and_self, cond_true, Int.toNat_natCast, within_eq, ws (show i < 100000 by omega)]
    by_cases c1 : 1 ≤ ((d.Walks.f i).n : Int) ∧ ((d.Walks.f i).n : Int) ≤ 20
    rotate_left
    · left; simp only [decide_eq_false c1, Bool.not_false, cond_true]
    simp only [decide_eq_true c1, Bool.not_true, cond_false]
    rcases rf_l20 N hw hi (by omega) kr (fun (_ : Unit) => newelref06_Fits_l15 N n ((i + 1 : Nat) : Int) h d kr k0) (d.Walks.f i).n 0 N (by omega) (by omega) (fun j hj => by omega) with e | ⟨hq, e⟩
    · left; exact e
    · rcases ih (i + 1) n (by omega) (by omega) (fun j hj => by
        by_cases e : j = i
        · subst e; exact ⟨by omega, hq⟩
        · exact h3 j (by omega)) with g | ⟨g1, g⟩
      · left; exact e.trans g
      · right; exact ⟨g1, e.trans g⟩
theorem refFits_or {N : Nat} (hN : 200 ≤ N) {h : api_Hall} (hv : HallV h) (d : api_Day) {R : Type} (k : Bool → Option R) : newelref06_Fits N h d k = k false ∨ (DayV h d ∧ newelref06_Fits N h d k = k true) := by
  rw [newelref06_Fits_def]
  unfold newelref06_Fits_m
  have hn := hv.cn
  have hn2 := hv.tn
  by_cases c1 : d.At.n = h.Trains.n
  rotate_left
  · left
    have : ((d.At.n : Int) != (h.Trains.n : Int)) = true := by simp only [bne_iff_ne, ne_eq]; omega
    simp only [this, cond_true]
  by_cases c2 : d.People.n = h.Trains.n
  rotate_left
  · left
    have : ((d.People.n : Int) != (h.Trains.n : Int)) = true := by simp only [bne_iff_ne, ne_eq]; omega
    simp only [c1, bne_self_eq_false, this, cond_true, cond_false]
  by_cases c3 : d.Walks.n = h.Combs.n
  rotate_left
  · left
    have : ((d.Walks.n : Int) != (h.Combs.n : Int)) = true := by simp only [bne_iff_ne, ne_eq]; omega
    simp only [c1, c2, bne_self_eq_false, this, cond_true, cond_false]
  simp only [c1, c2, c3, bne_self_eq_false, cond_false]
  rcases rf_l4 hN hv c1 c2 (fun r52 => k r52) (fun (_ : Unit) =>
      newelref06_Fits_l15 N N (0 : Int) h d (fun r63 =>
       k r63) (fun (_ : Unit) =>
       k true)) h.Trains.n 0 N (by omega) (by omega) (fun j hj => by omega) with e | ⟨h1, e⟩
  · left; exact e
  rcases rf_l15 hN hv c3 (fun r63 => k r63) (fun (_ : Unit) => k true) h.Combs.n 0 N (by omega) (by omega) (fun j hj => by omega) with e2 | ⟨h2, e2⟩
  · left; exact e.trans e2
  right
  exact ⟨⟨c1, c2, c3, fun i hi => (h1 i hi).1, fun i hi => (h1 i hi).2.1, fun i k hi hk => (h1 i hi).2.2 k hk, fun i hi => (h2 i hi).1, fun i k hi hk => (h2 i hi).2 k hk⟩, e.trans e2⟩
theorem id_l9 (N : Nat) {h : api_Hall} (hv : HallV h) {d : api_Day} (hd : DayV h d) {x : Nat} (hx : x < h.Trains.n) (v1 v2 : Int) {R : Type} (kr : Bool → Option R) (k0 : Unit → Option R) : ∀ (q i n : Nat), i + q = (h.Trains.f x).Crowds.n → q < n →
    halls_isDay_l9 N n (x : Int) h.Trains v1 v2 (h.Trains.f x).Crowds ((h.Trains.f x).Crowds.n : Int) (i : Int) h d kr k0 = k0 () := by
  have h4 := (hv.t x hx).n
  have hp := hd.pn
  have hq := hd.qn x hx
  intro q
  induction q with
  | zero =>
    intro i n h1 h2
    obtain ⟨n, rfl⟩ : ∃ m, n = m + 1 := ⟨n - 1, by omega⟩
    unfold halls_isDay_l9 halls_isDay_b9
    simp only [ltF (show (h.Trains.f x).Crowds.n ≤ i by omega), cond_false]
  | succ q ih =>
    intro i n h1 h2
    obtain ⟨n, rfl⟩ : ∃ m, n = m + 1 := ⟨n - 1, by omega⟩
    unfold halls_isDay_l9 halls_isDay_b9
    simp only [ltT (show i < (h.Trains.f x).Crowds.n by omega), ltT (show x < d.People.n by omega), nat_nonneg, Bool.and_self, cond_true, Int.toNat_natCast, ltT (show i < (d.People.f x).n by omega), in_eq, decide_eq_true (hd.q x i hx (by omega)), Bool.not_true, cond_false, ws (show i < 100000 by omega)]
    exact ih (i + 1) n (by omega) (by omega)
theorem id_l4 {N : Nat} (hN : 200 ≤ N) {h : api_Hall} (hv : HallV h) {d : api_Day} (hd : DayV h d) {R : Type} (kr : Bool → Option R) (k0 : Unit → Option R) : ∀ (q i n : Nat), i + q = h.Trains.n → q < n →
    halls_isDay_l4 N n h.Trains (h.Trains.n : Int) (i : Int) h d kr k0 = k0 () := by
  have hn := hv.tn
  have ha := hd.an
  have hp := hd.pn
  intro q
  induction q with
  | zero =>
    intro i n h1 h2
    obtain ⟨n, rfl⟩ : ∃ m, n = m + 1 := ⟨n - 1, by omega⟩
    unfold halls_isDay_l4 halls_isDay_b4
    simp only [ltF (show h.Trains.n ≤ i by omega), cond_false]
  | succ q ih =>
    intro i n h1 h2
    obtain ⟨n, rfl⟩ : ∃ m, n = m + 1 := ⟨n - 1, by omega⟩
    have hi : i < h.Trains.n := by omega
    have h4 := (hv.t i hi).n
    unfold halls_isDay_l4 halls_isDay_b4
    simp only [ltT hi, ltT (show i < d.At.n by omega), ltT (show i < d.People.n by omega), nat_nonneg, Bool.and_self, cond_true, Int.toNat_natCast, in_eq, decide_eq_true (hd.a i hi), hd.qn i hi, bne_self_eq_false, Bool.not_true, cond_false, ws (show i < 100000 by omega)]
    refine (id_l9 N hv hd hi _ _ kr _ (h.Trains.f i).Crowds.n 0 N (by omega) (by omega)).trans ?_
    exact ih (i + 1) n (by omega) (by omega)
theorem idxW_l2 (N : Nat) {w : Arr Int} (hw : w.n ≤ 20) {c : api_Comb} (hc : ∀ k, k < w.n → c.Walk.Low ≤ w.f k ∧ w.f k ≤ c.Walk.High) {R : Type} (kr : Int → Option R) (k0 : Unit → Option R) : ∀ (q i n : Nat), i + q = w.n → q < n →
    slices_IndexFunc___int_int__v2_l2 N n w (w.n : Int) (i : Int) c kr k0 = k0 () := by
  intro q
  induction q with
  | zero =>
    intro i n h1 h2
    obtain ⟨n, rfl⟩ : ∃ m, n = m + 1 := ⟨n - 1, by omega⟩
    unfold slices_IndexFunc___int_int__v2_l2 slices_IndexFunc___int_int__v2_b2
    simp only [ltF (show w.n ≤ i by omega), cond_false]
  | succ q ih =>
    intro i n h1 h2
    obtain ⟨n, rfl⟩ : ∃ m, n = m + 1 := ⟨n - 1, by omega⟩
    unfold slices_IndexFunc___int_int__v2_l2 slices_IndexFunc___int_int__v2_b2
    simp only [ltT (show i < w.n by omega), nat_nonneg, Bool.and_self, cond_true, Int.toNat_natCast, halls_isDay_1_def, ws (show i < 100000 by omega)]
    unfold halls_isDay_1_m
    simp only [in_eq, decide_eq_true (hc i (by omega)), Bool.not_true, cond_false]
    exact ih (i + 1) n (by omega) (by omega)
theorem id_l16 {N : Nat} (hN : 200 ≤ N) {h : api_Hall} (hv : HallV h) {d : api_Day} (hd : DayV h d) {R : Type} (kr : Bool → Option R) (k0 : Unit → Option R) : ∀ (q i n : Nat), i + q = h.Combs.n → q < n →
    halls_isDay_l16 N n h.Combs (h.Combs.n : Int) (i : Int) d kr k0 = k0 () := by
  have hn := hv.cn
  have hw := hd.wn
  intro q
  induction q with
  | zero =>
    intro i n h1 h2
    obtain ⟨n, rfl⟩ : ∃ m, n = m + 1 := ⟨n - 1, by omega⟩
    unfold halls_isDay_l16 halls_isDay_b16
    simp only [ltF (show h.Combs.n ≤ i by omega), cond_false]
  | succ q ih =>
    intro i n h1 h2
    obtain ⟨n, rfl⟩ : ∃ m, n = m + 1 := ⟨n - 1, by omega⟩
    have hi : i < h.Combs.n := by omega
    obtain ⟨w1, w2⟩ := hd.vn i hi
    have a1 : decide (((d.Walks.f i).n : Int) < 1) = false := by simp; omega
    have a2 : decide (((d.Walks.f i).n : Int) > 20) = false := by simp; omega
    unfold halls_isDay_l16 halls_isDay_b16
    simp only [ltT hi, ltT (show i < d.Walks.n by omega), nat_nonneg, Bool.and_self, cond_true, Int.toNat_natCast, a1, a2, cond_false, ws (show i < 100000 by omega)]
    rw [slices_ContainsFunc___int_int__v2_def]
    unfold slices_ContainsFunc___int_int__v2_m
    rw [slices_IndexFunc___int_int__v2_def]
    unfold slices_IndexFunc___int_int__v2_m
    refine (idxW_l2 N w2 (fun k hk => hd.v i k hi hk) _ _ (d.Walks.f i).n 0 N (by omega) (by omega)).trans ?_
    have a7 : decide ((-1 : Int) ≥ 0) = false := rfl
    simp only [a7, cond_false]
    exact ih (i + 1) n (by omega) (by omega)
theorem isDay_eq {N : Nat} (hN : 200 ≤ N) {h : api_Hall} (hv : HallV h) {d : api_Day} (hd : DayV h d) {R : Type} (k : Bool → Option R) : halls_isDay N h d k = k true := by
  have hn := hv.cn
  have hn2 := hv.tn
  rw [halls_isDay_def]
  unfold halls_isDay_m
  simp only [hd.an, hd.pn, hd.wn, bne_self_eq_false, cond_false]
  refine (id_l4 hN hv hd _ _ h.Trains.n 0 N (by omega) (by omega)).trans ?_
  exact id_l16 hN hv hd _ _ h.Combs.n 0 N (by omega) (by omega)
theorem rt_l6 (N : Nat) {h : api_Hall} (hv : HallV h) (c : Int) (t v1 v2 : Int) (b : Bool) (out : Arr Int) {R : Type} (k2 : Int → Int → Option R) : ∀ (q i n : Nat) (now : Int), i + q = h.Shifts.n → q < n → (0 ≤ now ∧ now ≤ 1000) →
    ∃ (now' : Int) (i' : Nat), (0 ≤ now' ∧ now' ≤ 1000) ∧ i' ≤ h.Shifts.n ∧ halls_rates_l6 N n c now (i : Int) t v1 v2 h b out k2 = k2 now' (i' : Int) := by
  have hn := hv.sn
  intro q
  induction q with
  | zero =>
    intro i n now h1 h2 h3
    obtain ⟨n, rfl⟩ : ∃ m, n = m + 1 := ⟨n - 1, by omega⟩
    refine ⟨now, i, h3, by omega, ?_⟩
    unfold halls_rates_l6 halls_rates_b6
    simp only [ltF (show h.Shifts.n ≤ i by omega), cond_false]
  | succ q ih =>
    intro i n now h1 h2 h3
    obtain ⟨n, rfl⟩ : ∃ m, n = m + 1 := ⟨n - 1, by omega⟩
    have hi : i < h.Shifts.n := by omega
    by_cases c1 : (h.Shifts.f i).At ≤ t
    · obtain ⟨now', i', g1, g2, g3⟩ := ih (i + 1) n (if (h.Shifts.f i).Comb = c then (h.Shifts.f i).Rate else now) (by omega) (by omega) (by
        split
        · exact (hv.s i hi).rate
        · exact h3)
      refine ⟨now', i', g1, g2, ?_⟩
      unfold halls_rates_l6 halls_rates_b6
      simp only [ltT hi, nat_nonneg, Bool.and_self, cond_true, Int.toNat_natCast, decide_eq_true c1, ws (show i < 100000 by omega)]
      by_cases c2 : (h.Shifts.f i).Comb = c
      · have e : ((h.Shifts.f i).Comb == c) = true := by simpa using c2
        rw [if_pos c2] at g3
        simp only [e, cond_true]
        exact g3
      · have e : ((h.Shifts.f i).Comb == c) = false := by simpa using c2
        rw [if_neg c2] at g3
        simp only [e, cond_false]
        exact g3
    · refine ⟨now, i, h3, by omega, ?_⟩
      unfold halls_rates_l6 halls_rates_b6
      simp only [ltT hi, nat_nonneg, Bool.and_self, cond_true, Int.toNat_natCast, decide_eq_false c1, cond_false]
theorem setI_f {a : Arr Int} {m : Nat} {v : Int} (j : Nat) : (lst intC a.n (setCs m 0 (Cod.cell intC a.f) [SV.int IntKind.i64 v])).f j = if j = m then v else a.f j := by
  show toI (setCs m 0 (Cod.cell intC a.f) [SV.int IntKind.i64 v] j 0) = _
  by_cases h : j = m
  · subst h
    rw [if_pos rfl]
    simp [setCs, setC, toI]
  · rw [if_neg h]
    have : (j == m) = false := by simpa using h
    simp only [setCs, setC, this, Bool.false_and, cond_false]
    rfl
theorem rt_l4 {N : Nat} (hN : 200 ≤ N) {h : api_Hall} (hv : HallV h) (c : Int) (b : Bool) (U : Nat) (hU : U ≤ 100) {R : Type} (k0 : Arr Int → Option R) : ∀ (q t n at_ : Nat) (now : Int) (out : Arr Int), t + q = U → q < n → at_ ≤ h.Shifts.n → (0 ≤ now ∧ now ≤ 1000) → out.n = U → (∀ j, j < t → 0 ≤ out.f j ∧ out.f j ≤ 1000) →
    ∃ out' : Arr Int, out'.n = U ∧ (∀ j, j < U → 0 ≤ out'.f j ∧ out'.f j ≤ 1000) ∧ halls_rates_l4 N n c now (at_ : Int) (U : Int) (t : Int) h b out k0 = k0 out' := by
  have hn := hv.sn
  intro q
  induction q with
  | zero =>
    intro t n at_ now out h1 h2 h3 h4 h5 h6
    obtain ⟨n, rfl⟩ : ∃ m, n = m + 1 := ⟨n - 1, by omega⟩
    refine ⟨out, h5, fun j hj => h6 j (by omega), ?_⟩
    unfold halls_rates_l4 halls_rates_b4
    simp only [ltF (show U ≤ t by omega), cond_false]
  | succ q ih =>
    intro t n at_ now out h1 h2 h3 h4 h5 h6
    obtain ⟨n, rfl⟩ : ∃ m, n = m + 1 := ⟨n - 1, by omega⟩
    obtain ⟨now', i', g1, g2, g3⟩ := rt_l6 N hv c (t : Int) (U : Int) (t : Int) b out (fun r133 r134 =>
    bif decide ((0 : Int) ≤ (t : Int)) && decide ((t : Int) < (↑(Arr.n out) : Int)) then
     halls_rates_l4 N n c r133 r134 (U : Int) (w64 ((t : Int) + (1 : Int))) h b (lst intC (Arr.n out) (setCs (Int.toNat (t : Int)) (0 : Nat) (Cod.cell intC (Arr.f out)) [SV.int IntKind.i64 r133])) k0
    else
     Option.none) (h.Shifts.n - at_) at_ N now (by omega) (by omega) h4
    obtain ⟨out', k1, k2, k3⟩ := ih (t + 1) n i' now' (lst intC (Arr.n out) (setCs t (0 : Nat) (Cod.cell intC (Arr.f out)) [SV.int IntKind.i64 now'])) (by omega) (by omega) g2 g1 h5 (fun j hj => by
      rw [setI_f]
      split
      · exact g1
      · exact h6 j (by omega))
    refine ⟨out', k1, k2, ?_⟩
    unfold halls_rates_l4 halls_rates_b4
    rw [ltT (show t < U by omega), cond_true]
    refine g3.trans ?_
    rw [nat_nonneg, ltT (show t < out.n by omega), Bool.and_self, cond_true, ws (show t < 100000 by omega), Int.toNat_natCast]
    exact k3
theorem rates_eq {N : Nat} (hN : 200 ≤ N) {h : api_Hall} (hv : HallV h) {c : Nat} (hc : c < h.Combs.n) {R : Type} (k : Bool → Arr Int → Option R) : ∃ out : Arr Int, out.n = h.Until.toNat ∧ (∀ j, j < h.Until.toNat → 0 ≤ out.f j ∧ out.f j ≤ 1000) ∧ halls_rates N h (c : Int) k = k false out := by
  have hu := hv.u
  obtain ⟨out, g1, g2, g3⟩ := rt_l4 hN hv (c : Int) false h.Until.toNat (by omega) (fun r135 => k false r135) h.Until.toNat 0 N 0 (h.Combs.f c).Rate (lst intC (Int.toNat (api_Hall.Until h)) (zeroC [SV.int IntKind.i64 (0 : Int)])) (by omega) (by omega) (by omega) (hv.c c hc).rate rfl (fun j hj => by omega)
  refine ⟨out, g1, g2, ?_⟩
  rw [halls_rates_def]
  unfold halls_rates_m
  have a1 : (decide ((0 : Int) ≤ h.Until) && decide (h.Until ≤ h.Until) && decide (h.Until ≤ 1073741824)) = true := by simp; omega
  simp only [a1, cond_true, ltT hc, nat_nonneg, Bool.and_self, Int.toNat_natCast]
  exact g3
theorem Rates_eq {N : Nat} (hN : 200 ≤ N) {h : api_Hall} (hv : HallV h) {c : Nat} (hc : c < h.Combs.n) {R : Type} (k : Int → Bool → Arr Int → Option R) : ∃ out : Arr Int, out.n = h.Until.toNat ∧ (∀ j, j < h.Until.toNat → 0 ≤ out.f j ∧ out.f j ≤ 1000) ∧ halls_Rates N h (c : Int) k = k 0 false out := by
  obtain ⟨out, g1, g2, g3⟩ := rates_eq hN hv hc (fun r157 r158 => k 0 r157 r158)
  refine ⟨out, g1, g2, ?_⟩
  rw [halls_Rates_def]
  unfold halls_Rates_m
  rw [halls_check_def]
  unfold halls_check_m
  have a1 : decide ((c : Int) < 0) = false := by simp
  have a2 : decide ((c : Int) ≥ (h.Combs.n : Int)) = false := by simp; omega
  simp only [check_eq hN hv, bne_self_eq_false, cond_false, a1, a2]
  rw [slices_ContainsFunc___int_int__def]
  unfold slices_ContainsFunc___int_int__m
  rw [slices_IndexFunc___int_int__def]
  unfold slices_IndexFunc___int_int__m
  obtain ⟨n, rfl⟩ : ∃ m, N = m + 1 := ⟨N - 1, by omega⟩
  have e0 : ∀ (kr : Int → Option R) (k0 : Unit → Option R), slices_IndexFunc___int_int__l2 (n + 1) (n + 1) (lst intC (0 : Nat) (zeroC [SV.int IntKind.i64 (0 : Int)])) ((↑(Arr.n (lst intC (0 : Nat) (zeroC [SV.int IntKind.i64 (0 : Int)]))) : Int)) (0 : Int) h kr k0 = k0 () := fun kr k0 => by
    unfold slices_IndexFunc___int_int__l2 slices_IndexFunc___int_int__b2
    rfl
  rw [e0]
  exact g3
end
end Ha
end Go.Proofs.Ytlikcijophbkbaa
