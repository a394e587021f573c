/-
  Readings that agree: Truth with one more of them, and no liars.
-/
import Derived.Test.YtpillmoddoccfabDoorWeP1
set_option linter.unusedVariables false
set_option linter.unusedSimpArgs false
set_option linter.unusedSectionVars false
set_option maxHeartbeats 0
set_option maxRecDepth 100000
namespace Go.Proofs.YtpillmoddoccfabDoor
namespace We
open Go.Sx
noncomputable section

/-- How many bits a number has. -/
def oc (x : Int) : Int := (math_bits_OnesCount64_m (R := Int) 0 x some).getD 0
theorem oc_eq {R : Type} (N : Nat) (x : Int) (k : Int → Option R) : math_bits_OnesCount N x k = k (oc x) := by
  rw [math_bits_OnesCount_def]
  unfold math_bits_OnesCount_m
  rw [math_bits_OnesCount64_def]
  rfl
theorem oc_small : ∀ x : Fin 256, x.val ≠ 0 → 0 < oc (IntKind.wrap IntKind.u64 (x.val : Int)) := by
  decide +kernel
theorem oc_zero : oc (IntKind.wrap IntKind.u64 0) = 0 := by decide +kernel
theorem oc_pos {x : Nat} (h0 : x ≠ 0) (h : x < 256) : 0 < oc (IntKind.wrap IntKind.u64 (x : Int)) := oc_small ⟨x, h⟩ h0

/-- What a set of readings has in common can be computed. -/
theorem co_any (N : Nat) {a : Arr api_Reading} (hn : a.n ≤ 8) (o : Int) : ∀ (r i n : Nat) (s x : api_Span), i + r = a.n → r < n →
    ∃ s' : api_Span, ∀ {R : Type} (k0 : api_Span → Option R), faults_common_l3 N n o a (a.n : Int) (i : Int) x s k0 = k0 s' := by
  intro r
  induction r with
  | zero =>
    intro i n s x h1 h2
    obtain ⟨n, rfl⟩ : ∃ m, n = m + 1 := ⟨n - 1, by omega⟩
    refine ⟨s, fun k0 => ?_⟩
    unfold faults_common_l3 faults_common_b3
    simp only [ltF (show a.n ≤ i by omega), cond_false]
  | succ r ih =>
    intro i n s x h1 h2
    obtain ⟨n, rfl⟩ : ∃ m, n = m + 1 := ⟨n - 1, by omega⟩
    have c0 : decide ((i : Int) < 0) = false := by simp
    cases hb : (w64 (↑(BitVec.toNat (BitVec.ofInt (IntKind.bits IntKind.i64) (Int.fdiv o ((2 : Int) ^ min i (IntKind.bits IntKind.i64))) &&& BitVec.ofInt (IntKind.bits IntKind.i64) (1 : Int))) : Int) == (0 : Int))
    · obtain ⟨s', g⟩ := ih (i + 1) n s x (by omega) (by omega)
      refine ⟨s', fun k0 => ?_⟩
      unfold faults_common_l3 faults_common_b3
      simp only [ltT (show i < a.n by omega), nat_nonneg, Bool.and_self, cond_true, Int.toNat_natCast, w64_succ (show i < 1000000000000 by omega), c0, cond_false, hb]
      exact g k0
    · obtain ⟨s', g⟩ := ih (i + 1) n _ x (by omega) (by omega)
      refine ⟨s', fun k0 => ?_⟩
      unfold faults_common_l3 faults_common_b3
      simp only [ltT (show i < a.n by omega), nat_nonneg, Bool.and_self, cond_true, Int.toNat_natCast, w64_succ (show i < 1000000000000 by omega), c0, cond_false, hb]
      exact g k0
theorem common_any {N : Nat} (hN : 100 ≤ N) {a : Arr api_Reading} (hn : a.n ≤ 8) (o : Int) : ∃ (s : api_Span) (b : Bool), ∀ {R : Type} (k : api_Span → Bool → Option R), faults_common N a o k = k s b := by
  obtain ⟨s, g⟩ := co_any N hn o a.n 0 N ⟨-1099511627776, 1099511627776⟩ ⟨0, 0⟩ (by omega) (by omega)
  refine ⟨s, decide (s.Low ≤ s.High), fun {R} k => ?_⟩
  rw [faults_common_def]
  unfold faults_common_m
  exact g _
theorem common_all {N : Nat} (hN : 100 ≤ N) {a : Arr api_Reading} {w : Int} (h : AllowP a w) (hw : -1000000000 ≤ w ∧ w ≤ 1000000000) :
    ∃ s : api_Span, s.Low ≤ w ∧ w ≤ s.High ∧ (∀ j, j < a.n → s.High ≤ (a.f j).Says + wide (a.f j)) ∧ ∀ {R : Type} (k : api_Span → Bool → Option R), faults_common N a 0 k = k s true := by
  have hn1 := h.n1
  have hn2 := h.n2
  obtain ⟨s, g1, g2, g3, g4, g5⟩ := co_l3 N h a.n 0 N ⟨-1099511627776, 1099511627776⟩ ⟨0, 0⟩ (by omega) (by omega) (by show (-1099511627776 : Int) ≤ w; omega) (by show w ≤ (1099511627776 : Int); omega)
  refine ⟨s, g1, g2, fun j hj => g4 j (Nat.zero_le _) hj, fun {R} k => ?_⟩
  have c4 : s.Low ≤ s.High := by omega
  rw [faults_common_def]
  unfold faults_common_m
  refine (g5 _).trans ?_
  simp only [c4, decide_true]
theorem readings_ok {N : Nat} (hN : 100 ≤ N) {a : Arr api_Reading} (hn2 : a.n ≤ 8) (hr : ∀ j, j < a.n → readP (a.f j)) {R : Type} (k : Int → Option R) : faults_readings N a k = k 0 := by
  rw [faults_readings_def]
  unfold faults_readings_m
  have c3 : ¬ (a.n : Int) > 12 := by omega
  simp only [c3, decide_false, cond_false]
  exact fr_l4 N hn2 hr _ _ a.n 0 N (by omega) (by omega)
theorem truth_more {N : Nat} (hN : 100 ≤ N) {a : Arr api_Reading} {w : Int} (h : AllowP a w) (hw : -1000000000 ≤ w ∧ w ≤ 1000000000) :
    ∃ s : api_Span, s.Low ≤ w ∧ w ≤ s.High ∧ (∀ j, j < a.n → s.High ≤ (a.f j).Says + wide (a.f j)) ∧ ∀ {R : Type} (k : api_Span → Int → Option R), faults_Truth N a k = k s 0 := by
  have hn1 := h.n1
  have hn2 := h.n2
  obtain ⟨s, g1, g2, g3, g4⟩ := common_all hN h hw
  refine ⟨s, g1, g2, g3, fun {R} k => ?_⟩
  rw [faults_Truth_def]
  unfold faults_Truth_m
  have e1 : ((a.n : Int) == 0) = false := by simp; omega
  rw [readings_ok hN hn2 h.r]
  simp only [bne_self_eq_false, cond_false, g4, e1, Bool.not_true]

theorem fewer_less {R : Type} (N : Nat) {x y : Int} (h : oc (IntKind.wrap IntKind.u64 x) ≠ oc (IntKind.wrap IntKind.u64 y)) (k : Bool → Option R) : faults_fewer N x y k = k (decide (oc (IntKind.wrap IntKind.u64 x) < oc (IntKind.wrap IntKind.u64 y))) := by
  rw [faults_fewer_def]
  unfold faults_fewer_m
  have e : (oc (IntKind.wrap IntKind.u64 x) != oc (IntKind.wrap IntKind.u64 y)) = true := by simpa using h
  simp only [oc_eq, e, cond_true]

/-- Behind the first set, the empty one, nothing changes. -/
theorem li_l6 {N : Nat} (hN : 100 ≤ N) {a : Arr api_Reading} (hn : a.n ≤ 8) {R : Type} (k0 : Int → Option R) : ∀ (r i n : Nat), i + r ≤ 255 → 1 ≤ i → r < n →
    faults_Liars_l6 N n a 0 ((i + r : Nat) : Int) (i : Int) k0 = k0 0 := by
  intro r
  induction r with
  | zero =>
    intro i n h1 h2 h3
    obtain ⟨n, rfl⟩ : ∃ m, n = m + 1 := ⟨n - 1, by omega⟩
    unfold faults_Liars_l6 faults_Liars_b6
    simp only [Nat.add_zero, ltF (Nat.le_refl i), cond_false]
  | succ r ih =>
    intro i n h1 h2 h3
    obtain ⟨n, rfl⟩ : ∃ m, n = m + 1 := ⟨n - 1, by omega⟩
    obtain ⟨s, b, g⟩ := common_any hN hn (i : Int)
    have hp := oc_pos (x := i) (by omega) (by omega)
    have hz := oc_zero
    have hne : oc (IntKind.wrap IntKind.u64 (i : Int)) ≠ oc (IntKind.wrap IntKind.u64 0) := by omega
    have hlt : ¬ (oc (IntKind.wrap IntKind.u64 (i : Int)) < oc (IntKind.wrap IntKind.u64 0)) := by omega
    have := ih (i + 1) n (by omega) (by omega) (by omega)
    rw [show i + 1 + r = i + (r + 1) by omega] at this
    unfold faults_Liars_l6 faults_Liars_b6
    simp only [ltT (show i < i + (r + 1) by omega), cond_true, g, w64_succ (show i < 1000000000000 by omega), fewer_less N hne, hlt, decide_false, cond_false]
    cases b <;> exact this
theorem pow8 {n : Nat} (h : n ≤ 8) : w64 (w64 ((1 : Int) * (2 : Int) ^ min (Int.toNat (n : Int)) (IntKind.bits IntKind.i64)) - (1 : Int)) = ((2 ^ n - 1 : Nat) : Int) := by
  have : ∀ m : Fin 9, w64 (w64 ((1 : Int) * (2 : Int) ^ min (Int.toNat (m.val : Int)) (IntKind.bits IntKind.i64)) - (1 : Int)) = ((2 ^ m.val - 1 : Nat) : Int) := by decide +kernel
  exact this ⟨n, by omega⟩
theorem liars_none {N : Nat} (hN : 1000 ≤ N) {a : Arr api_Reading} {w : Int} (h : AllowP a w) (hw : -1000000000 ≤ w ∧ w ≤ 1000000000) :
    ∃ (l : Bool) (b : Arr Int), b.n = 0 ∧ ∀ {R : Type} (k : Int → Bool → Arr Int → Option R), faults_Liars N a k = k 0 l b := by
  have hn1 := h.n1
  have hn2 := h.n2
  refine ⟨true, lst intC (0 : Nat) (zeroC [SV.int IntKind.i64 (0 : Int)]), rfl, fun {R} k => ?_⟩
  · rw [faults_Liars_def]
    unfold faults_Liars_m
    rw [readings_ok (by omega) hn2 h.r]
    simp only [bne_self_eq_false, cond_false, pow8 hn2]
    obtain ⟨M, rfl⟩ : ∃ m, N = m + 1 := ⟨N - 1, by omega⟩
    have hp : 2 ^ a.n ≤ 2 ^ 8 := Nat.pow_le_pow_right (by omega) hn2
    have hp1 : 2 ^ 1 ≤ 2 ^ a.n := Nat.pow_le_pow_right (by omega) hn1
    obtain ⟨s, g1, g2, g3, g4⟩ := common_all (N := M + 1) (by omega) h hw
    have hpo := oc_pos (x := 2 ^ a.n - 1) (by omega) (by omega)
    have hz := oc_zero
    have hlt : oc (IntKind.wrap IntKind.u64 0) < oc (IntKind.wrap IntKind.u64 ((2 ^ a.n - 1 : Nat) : Int)) := by omega
    have hl : ∀ (k0 : Int → Option R), faults_Liars_l6 (M + 1) (M + 1) a ((2 ^ a.n - 1 : Nat) : Int) ((2 ^ a.n - 1 : Nat) : Int) 0 k0 = k0 0 := by
      intro k0
      rw [faults_Liars_l6]
      unfold faults_Liars_b6
      have c1 : decide ((0 : Int) < ((2 ^ a.n - 1 : Nat) : Int)) = true := by simp; omega
      have hw0 : w64 ((0 : Int) + 1) = ((1 : Nat) : Int) := by decide
      simp only [c1, cond_true, g4, fewer_less (M + 1) (by omega : oc (IntKind.wrap IntKind.u64 0) ≠ oc (IntKind.wrap IntKind.u64 ((2 ^ a.n - 1 : Nat) : Int))), hlt, decide_true, hw0]
      have := li_l6 (N := M + 1) (by omega) hn2 k0 (2 ^ a.n - 2) 1 M (by omega) (by omega) (by omega)
      rw [show 1 + (2 ^ a.n - 2) = 2 ^ a.n - 1 by omega] at this
      exact this
    rw [hl, faults_members_def]
    unfold faults_members_m
    rw [faults_members_l2]
    unfold faults_members_b2
    simp only [bne_self_eq_false, cond_false]
end
end We
end Go.Proofs.YtpillmoddoccfabDoor
