/-
  Wear and readings: what the checks compute, in plain terms.
-/
import Derived.Test.YtpillmoddoccfabDoorDsP9
import Derived.Test.YtpillmoddoccfabDoorSxMath
set_option linter.unusedVariables false
set_option linter.unusedSimpArgs false
set_option maxHeartbeats 0
namespace Go.Proofs.YtpillmoddoccfabDoor
namespace We
open Go.Sx
section
variable {R : Type}
theorem fFrom_eq (N : Nat) (n lo hi : Int) (k : Bool → Option R) : newelref10_from N n lo hi k = k (decide (lo ≤ n ∧ n ≤ hi)) := by
  rw [newelref10_from_def]
  unfold newelref10_from_m
  by_cases h : n ≥ lo
  · have : lo ≤ n := h
    simp only [h, decide_true, cond_true, this, true_and]
  · have : ¬ (lo ≤ n ∧ n ≤ hi) := fun g => h g.1
    rw [decide_eq_false this]
    simp only [h, decide_false, cond_false]
theorem fIn_eq (N : Nat) (n lo hi : Int) (k : Bool → Option R) : faults_within N n lo hi k = k (decide (lo ≤ n ∧ n ≤ hi)) := by
  rw [faults_within_def]
  unfold faults_within_m
  by_cases h : n ≥ lo
  · have : lo ≤ n := h
    simp only [h, decide_true, cond_true, this, true_and]
  · have : ¬ (lo ≤ n ∧ n ≤ hi) := fun g => h g.1
    rw [decide_eq_false this]
    simp only [h, decide_false, cond_false]
theorem ltF {a b : Nat} (h : b ≤ a) : decide ((a : Int) < (b : Int)) = false := by simp; omega
theorem ltT {a b : Nat} (h : a < b) : decide ((a : Int) < (b : Int)) = true := by simp; omega

/-! ### Parts and uses that are valid -/
def rateP (r : api_Span) : Prop := (0 ≤ r.Low ∧ r.Low ≤ r.High) ∧ r.High ≤ 1000000
def wB (w : Nat → Int) : Nat → Int
  | 0 => 0
  | i + 1 => w i
/-! ### What sensors say -/
structure readP (r : api_Reading) : Prop where
  s : -100000 ≤ r.Says ∧ r.Says ≤ 100000
  e : 0 ≤ r.Error ∧ r.Error ≤ 1000
  d : 0 ≤ r.Drift ∧ r.Drift ≤ 1000
  t : 0 ≤ r.Days ∧ r.Days ≤ 1000
def wide (r : api_Reading) : Int := r.Error + r.Drift * r.Days
theorem wide_bounds {r : api_Reading} (h : readP r) : 0 ≤ wide r ∧ wide r ≤ 1001000 := by
  have := mul_range h.d.1 h.d.2 h.t.1 h.t.2
  have := h.e
  unfold wide; omega
theorem wide_w {r : api_Reading} (h : readP r) : w64 (r.Says - w64 (r.Error + w64 (r.Drift * r.Days))) = r.Says - wide r ∧ w64 (r.Says + w64 (r.Error + w64 (r.Drift * r.Days))) = r.Says + wide r := by
  have h1 := mul_range h.d.1 h.d.2 h.t.1 h.t.2
  have h2 := wide_bounds h
  have h3 := h.e
  have h4 := h.s
  rw [w64_eq (n := r.Drift * r.Days) (by omega) (by omega), w64_eq (n := r.Error + r.Drift * r.Days) (by omega) (by omega)]
  unfold wide at h2 ⊢
  exact ⟨w64_eq (by omega) (by omega), w64_eq (by omega) (by omega)⟩

theorem rc_l4 (N : Nat) {a : Arr api_Reading} (hn : a.n ≤ 8) (kr : Int → Option R) (k0 : Unit → Option R) : ∀ (r i n : Nat), i + r = a.n → r < n → (∀ j, j < i → readP (a.f j)) →
    (newelref10_Check_l4 N n a (i : Int) kr k0 = kr 100) ∨ ((∀ j, j < a.n → readP (a.f j)) ∧ newelref10_Check_l4 N n a (i : Int) kr k0 = k0 ()) := by
  intro r
  induction r with
  | zero =>
    intro i n h1 h2 h3
    obtain ⟨n, rfl⟩ : ∃ m, n = m + 1 := ⟨n - 1, by omega⟩
    refine .inr ⟨fun j hj => h3 j (by omega), ?_⟩
    unfold newelref10_Check_l4 newelref10_Check_b4
    simp only [ltF (show a.n ≤ i by omega), cond_false]
  | succ r ih =>
    intro i n h1 h2 h3
    obtain ⟨n, rfl⟩ : ∃ m, n = m + 1 := ⟨n - 1, by omega⟩
    unfold newelref10_Check_l4 newelref10_Check_b4
    simp only [ltT (show i < a.n by omega), nat_nonneg, Bool.and_self, cond_true, Int.toNat_natCast, w64_succ (show i < 1000000000000 by omega), fFrom_eq]
    by_cases c1 : -100000 ≤ (a.f i).Says ∧ (a.f i).Says ≤ 100000
    rotate_left
    · left; simp only [c1, decide_false, Bool.not_false, cond_true]
    by_cases c2 : 0 ≤ (a.f i).Error ∧ (a.f i).Error ≤ 1000
    rotate_left
    · left; simp only [c1, c2, and_self, decide_true, decide_false, Bool.not_true, Bool.not_false, cond_true, cond_false]
    by_cases c3 : 0 ≤ (a.f i).Drift ∧ (a.f i).Drift ≤ 1000
    rotate_left
    · left; simp only [c1, c2, c3, and_self, decide_true, decide_false, Bool.not_true, Bool.not_false, cond_true, cond_false]
    by_cases c4 : 0 ≤ (a.f i).Days ∧ (a.f i).Days ≤ 1000
    rotate_left
    · left; simp only [c1, c2, c3, c4, and_self, decide_true, decide_false, Bool.not_true, Bool.not_false, cond_true, cond_false]
    simp only [c1, c2, c3, c4, and_self, decide_true, Bool.not_true, cond_false]
    exact ih (i + 1) n (by omega) (by omega) (fun j hj => by
      by_cases e : j = i
      · subst e; exact ⟨c1, c2, c3, c4⟩
      · exact h3 j (by omega))

theorem al_l4 (N : Nat) {a : Arr api_Reading} (hn : a.n ≤ 8) (ha : ∀ j, j < a.n → readP (a.f j)) (w : Int) (kr : Bool → Option R) (k0 : Unit → Option R) : ∀ (r i n : Nat), i + r = a.n → r < n → (∀ j, j < i → (a.f j).Says - wide (a.f j) ≤ w ∧ w ≤ (a.f j).Says + wide (a.f j)) →
    (neweltop_allow_l4 N n a w (i : Int) kr k0 = kr false) ∨ ((∀ j, j < a.n → (a.f j).Says - wide (a.f j) ≤ w ∧ w ≤ (a.f j).Says + wide (a.f j)) ∧ neweltop_allow_l4 N n a w (i : Int) kr k0 = k0 ()) := by
  intro r
  induction r with
  | zero =>
    intro i n h1 h2 h3
    obtain ⟨n, rfl⟩ : ∃ m, n = m + 1 := ⟨n - 1, by omega⟩
    refine .inr ⟨fun j hj => h3 j (by omega), ?_⟩
    unfold neweltop_allow_l4 neweltop_allow_b4
    simp only [ltF (show a.n ≤ i by omega), cond_false]
  | succ r ih =>
    intro i n h1 h2 h3
    obtain ⟨n, rfl⟩ : ∃ m, n = m + 1 := ⟨n - 1, by omega⟩
    unfold neweltop_allow_l4 neweltop_allow_b4
    obtain ⟨e1, e2⟩ := wide_w (ha i (by omega))
    simp only [ltT (show i < a.n by omega), nat_nonneg, Bool.and_self, cond_true, Int.toNat_natCast, w64_succ (show i < 1000000000000 by omega)]
    rw [newelref10_Allows_def]
    unfold newelref10_Allows_m
    simp only [e1, e2]
    by_cases c1 : w < (a.f i).Says - wide (a.f i)
    · left; simp only [c1, decide_true, cond_true]
    by_cases c2 : w > (a.f i).Says + wide (a.f i)
    · left; simp only [c1, c2, decide_true, decide_false, cond_true, cond_false]
    simp only [c1, c2, decide_false, cond_false]
    exact ih (i + 1) n (by omega) (by omega) (fun j hj => by
      by_cases e : j = i
      · subst e; exact ⟨by omega, by omega⟩
      · exact h3 j (by omega))

structure AllowP (a : Arr api_Reading) (w : Int) : Prop where
  n1 : 1 ≤ a.n
  n2 : a.n ≤ 8
  r : ∀ j, j < a.n → readP (a.f j)
  w : ∀ j, j < a.n → (a.f j).Says - wide (a.f j) ≤ w ∧ w ≤ (a.f j).Says + wide (a.f j)

theorem allow_cases {N : Nat} (hN : 100 ≤ N) (a : Arr api_Reading) (w : Int) (k : Bool → Option R) : (neweltop_allow N a w k = k false) ∨ (AllowP a w ∧ neweltop_allow N a w k = k true) := by
  rw [neweltop_allow_def]
  unfold neweltop_allow_m
  by_cases c1 : a.n = 0
  · have : ((a.n : Int) == 0) = true := by simp; omega
    left; simp only [this, cond_true]
  have e1 : ((a.n : Int) == 0) = false := by simp; omega
  by_cases c2 : (a.n : Int) > 8
  · left; simp only [e1, c2, decide_true, cond_true, cond_false]
  simp only [e1, c2, decide_false, cond_false]
  rw [newelref10_Check_def]
  unfold newelref10_Check_m
  have c3 : ¬ (a.n : Int) > 12 := by omega
  simp only [c3, decide_false, cond_false]
  rcases rc_l4 N (show a.n ≤ 8 by omega) (fun r46 => bif r46 != (0 : Int) then k false else neweltop_allow_l4 N N a w 0 (fun r53 => k r53) fun _ => k true) (fun _ => bif (0 : Int) != (0 : Int) then k false else neweltop_allow_l4 N N a w 0 (fun r53 => k r53) fun _ => k true) a.n 0 N (by omega) (by omega) (fun j hj => by omega) with h | ⟨h1, h2⟩
  · exact .inl (h.trans rfl)
  · rcases al_l4 N (show a.n ≤ 8 by omega) h1 w (fun r53 => k r53) (fun _ => k true) a.n 0 N (by omega) (by omega) (fun j hj => by omega) with h | ⟨h3, h4⟩
    · exact .inl (h2.trans h)
    · exact .inr ⟨⟨by omega, by omega, h1, h3⟩, h2.trans h4⟩

theorem fr_l4 (N : Nat) {a : Arr api_Reading} (hn : a.n ≤ 8) (ha : ∀ j, j < a.n → readP (a.f j)) (kr : Int → Option R) (k0 : Unit → Option R) : ∀ (r i n : Nat), i + r = a.n → r < n →
    faults_readings_l4 N n a (a.n : Int) (i : Int) kr k0 = k0 () := by
  intro r
  induction r with
  | zero =>
    intro i n h1 h2
    obtain ⟨n, rfl⟩ : ∃ m, n = m + 1 := ⟨n - 1, by omega⟩
    unfold faults_readings_l4 faults_readings_b4
    simp only [ltF (show a.n ≤ i by omega), cond_false]
  | succ r ih =>
    intro i n h1 h2
    obtain ⟨n, rfl⟩ : ∃ m, n = m + 1 := ⟨n - 1, by omega⟩
    unfold faults_readings_l4 faults_readings_b4
    have h := ha i (by omega)
    simp only [ltT (show i < a.n by omega), nat_nonneg, Bool.and_self, cond_true, Int.toNat_natCast, w64_succ (show i < 1000000000000 by omega), fIn_eq, h.s, h.e, h.d, h.t, and_self, decide_true, Bool.not_true, cond_false]
    exact ih (i + 1) n (by omega) (by omega)

theorem zero_bit (i : Nat) : (w64 (↑(BitVec.toNat (BitVec.ofInt (IntKind.bits IntKind.i64) (Int.fdiv 0 ((2 : Int) ^ min i (IntKind.bits IntKind.i64))) &&& BitVec.ofInt (IntKind.bits IntKind.i64) (1 : Int))) : Int) == (0 : Int)) = true := by
  rw [Int.zero_fdiv]
  have : BitVec.ofInt (IntKind.bits IntKind.i64) 0 &&& BitVec.ofInt (IntKind.bits IntKind.i64) (1 : Int) = 0 := by
    have e : BitVec.ofInt (IntKind.bits IntKind.i64) 0 = 0 := rfl
    rw [e]
    exact BitVec.zero_and
  rw [this]
  rfl

theorem co_l3 (N : Nat) {a : Arr api_Reading} {w : Int} (h : AllowP a w) : ∀ (r i n : Nat) (s x : api_Span), i + r = a.n → r < n → s.Low ≤ w → w ≤ s.High →
    ∃ s' : api_Span, s'.Low ≤ w ∧ w ≤ s'.High ∧ s'.High ≤ s.High ∧ (∀ j, i ≤ j → j < a.n → s'.High ≤ (a.f j).Says + wide (a.f j)) ∧ ∀ {R : Type} (k0 : api_Span → Option R), faults_common_l3 N n 0 a (a.n : Int) (i : Int) x s k0 = k0 s' := by
  have hn := h.n2
  intro r
  induction r with
  | zero =>
    intro i n s x h1 h2 h3 h4
    obtain ⟨n, rfl⟩ : ∃ m, n = m + 1 := ⟨n - 1, by omega⟩
    refine ⟨s, h3, h4, Int.le_refl _, fun j _ _ => by omega, fun k0 => ?_⟩
    unfold faults_common_l3 faults_common_b3
    simp only [ltF (show a.n ≤ i by omega), cond_false]
  | succ r ih =>
    intro i n s x h1 h2 h3 h4
    obtain ⟨n, rfl⟩ : ∃ m, n = m + 1 := ⟨n - 1, by omega⟩
    obtain ⟨e1, e2⟩ := wide_w (h.r i (by omega))
    obtain ⟨w1, w2⟩ := h.w i (by omega)
    obtain ⟨s', g1, g2, g3, g4, g5⟩ := ih (i + 1) n ⟨if (a.f i).Says - wide (a.f i) > s.Low then (a.f i).Says - wide (a.f i) else s.Low, if (a.f i).Says + wide (a.f i) < s.High then (a.f i).Says + wide (a.f i) else s.High⟩ x (by omega) (by omega) (by show (if _ then _ else _) ≤ w; split <;> omega) (by show w ≤ (if _ then _ else _); split <;> omega)
    have g3' : s'.High ≤ if (a.f i).Says + wide (a.f i) < s.High then (a.f i).Says + wide (a.f i) else s.High := g3
    refine ⟨s', g1, g2, by split at g3' <;> omega, fun j h5 h6 => ?_, fun k0 => ?_⟩
    · by_cases e : j = i
      · subst e; split at g3' <;> omega
      · exact g4 j (by omega) h6
    · unfold faults_common_l3 faults_common_b3
      have c0 : decide ((i : Int) < 0) = false := by simp
      simp only [ltT (show i < a.n by omega), nat_nonneg, Bool.and_self, cond_true, Int.toNat_natCast, w64_succ (show i < 1000000000000 by omega), c0, cond_false, zero_bit, e1, e2]
      exact g5 k0

theorem truth_at {N : Nat} (hN : 100 ≤ N) {a : Arr api_Reading} {w : Int} (h : AllowP a w) (hw : -1000000000 ≤ w ∧ w ≤ 1000000000) :
    ∃ s : api_Span, s.Low ≤ w ∧ w ≤ s.High ∧ s.High ≤ 2000000000 ∧ ∀ {R : Type} (k : api_Span → Int → Option R), faults_Truth N a k = k s 0 := by
  have hn1 := h.n1
  have hn2 := h.n2
  obtain ⟨s, g1, g2, g3, g4, g5⟩ := co_l3 N h a.n 0 N ⟨-1099511627776, 1099511627776⟩ ⟨0, 0⟩ (by omega) (by omega) (by show (-1099511627776 : Int) ≤ w; omega) (by show w ≤ (1099511627776 : Int); omega)
  refine ⟨s, g1, g2, ?_, fun {R} k => ?_⟩
  · have := g4 0 (Nat.le_refl _) (by omega)
    have b := wide_bounds (h.r 0 (by omega))
    have c := (h.r 0 (by omega)).s
    omega
  · rw [faults_Truth_def]
    unfold faults_Truth_m
    rw [faults_readings_def]
    unfold faults_readings_m
    have c3 : ¬ (a.n : Int) > 12 := by omega
    have e1 : ((a.n : Int) == 0) = false := by simp; omega
    have c4 : s.Low ≤ s.High := by omega
    simp only [c3, decide_false, cond_false]
    refine (fr_l4 N hn2 h.r _ _ a.n 0 N (by omega) (by omega)).trans ?_
    rw [faults_common_def]
    unfold faults_common_m
    simp only [bne_self_eq_false, cond_false]
    refine (g5 _).trans ?_
    simp only [e1, c4, decide_true, Bool.not_true, cond_false]
end
end We
end Go.Proofs.YtpillmoddoccfabDoor
