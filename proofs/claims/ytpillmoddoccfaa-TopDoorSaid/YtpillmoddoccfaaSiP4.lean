import Derived.Test.YtpillmoddoccfaaSiP3
set_option linter.unusedVariables false
set_option linter.unusedSimpArgs false
set_option linter.unusedSectionVars false
set_option maxHeartbeats 0
set_option maxRecDepth 100000
namespace Go.Proofs.Ytpillmoddoccfaa
namespace Si
open Go.Sx
open Classical
noncomputable section
variable {R : Type}
def pl0 : pPl := ⟨0, ⟨0, 0⟩⟩
theorem pl0_ok {m : pMa} (v : VM m) : PlP m pl0 := by
  have hs := v.s
  refine ⟨⟨Int.le_refl _, by show (0 : Int) < (m.States.n : Int); omega⟩, ⟨Int.le_refl _, ?_⟩, ⟨Int.le_refl _, ?_⟩⟩
  · show (0 : Int) ≤ _
    split
    · rename_i h; have := (v.cm 0 h).1; omega
    · exact Int.le_refl _
  · show (0 : Int) ≤ _
    split
    · rename_i h; have := (v.cm 1 h).1; omega
    · exact Int.le_refl _
def runP (m : pMa) (a : Nat → Int) : Nat → pPl
  | 0 => pl0
  | i + 1 => stepE m (runP m a i) (a i).toNat
theorem run_ok {m : pMa} (v : VM m) (a : Nat → Int) : ∀ i, PlP m (runP m a i) := by
  intro i
  induction i with
  | zero => exact pl0_ok v
  | succ i ih => exact step_pl v ih _
theorem pow4 {n : Nat} (h : n ≤ 4) : w64 ((1 : Int) * (2 : Int) ^ min (Int.toNat (n : Int)) (IntKind.bits IntKind.i64)) = ((2 ^ n : Nat) : Int) := by
  have : ∀ m : Fin 5, w64 ((1 : Int) * (2 : Int) ^ min (Int.toNat (m.val : Int)) (IntKind.bits IntKind.i64)) = ((2 ^ m.val : Nat) : Int) := by decide +kernel
  exact this ⟨n, by omega⟩
theorem input_eq (N : Nat) {m : pMa} (v : VM m) (x : Int) (k : Bool → Option R) : sP_Input N m.Inputs m.Outputs m.Counters m.States m.Rules x k = k (decide (0 ≤ x ∧ x ≤ ((2 ^ m.Inputs.n : Nat) : Int) - 1)) := by
  rw [sP_Input_def]
  unfold sP_Input_m
  rw [sP_All_def]
  unfold sP_All_m
  have hi := v.i
  have hp : 2 ^ m.Inputs.n ≤ 2 ^ 4 := Nat.pow_le_pow_right (by omega) hi
  have e := pow4 hi
  show sT_within N x 0 (w64 (w64 ((1 : Int) * (2 : Int) ^ min (Int.toNat (m.Inputs.n : Int)) (IntKind.bits IntKind.i64)) - 1)) (fun r => k r) = _
  rw [e, in_eq]
  clear e
  generalize 2 ^ m.Inputs.n = K at *
  rw [w64_eq (by omega) (by omega)]
theorem run_l10 {N : Nat} (hN : 200 ≤ N) {m : pMa} (v : VM m) {a : Arr Int} (ha : a.n ≤ 200) (hin : ∀ i, i < a.n → 0 ≤ a.f i ∧ a.f i ≤ ((2 ^ m.Inputs.n : Nat) : Int) - 1) : ∀ (q i n : Nat) (b : Bool) (l : Arr pPl), i + q = a.n → q < n → l.Is i (fun j => runP m a.f (j + 1)) →
    ∃ (b' : Bool) (l' : Arr pPl), l'.Is a.n (fun j => runP m a.f (j + 1)) ∧ ∀ (kr : Int → Bool → Arr pPl → Option R) (k0 : Bool → Arr pPl → Option R), cN_Run_l10 N n a (a.n : Int) (i : Int) m.Inputs m.Outputs m.Counters m.States m.Rules (runP m a.f i) b l kr k0 = k0 b' l' := by
  intro q
  induction q with
  | zero =>
    intro i n b l h1 h2 h3
    obtain ⟨n, rfl⟩ : ∃ m, n = m + 1 := ⟨n - 1, by omega⟩
    have : i = a.n := by omega
    subst this
    refine ⟨b, l, h3, fun kr k0 => ?_⟩
    unfold cN_Run_l10 cN_Run_b10
    simp only [ltF (Nat.le_refl a.n), cond_false]
  | succ q ih =>
    intro i n b l h1 h2 h3
    obtain ⟨n, rfl⟩ : ∃ m, n = m + 1 := ⟨n - 1, by omega⟩
    have hx := hin i (by omega)
    have hi := v.i
    have hp : 2 ^ m.Inputs.n ≤ 2 ^ 4 := Nat.pow_le_pow_right (by omega) hi
    have hc : (((a.f i).toNat : Nat) : Int) = a.f i := by omega
    have h16 : (a.f i).toNat < 16 := by
      generalize 2 ^ m.Inputs.n = K at *
      omega
    have hr : room (l.n + 1) = true := room_of (by rw [h3.len]; omega)
    have hst := fun k => step_eq (R := R) v (N := N) hN (run_ok v a.f i) (inp := (a.f i).toNat) h16 k
    rw [hc] at hst
    obtain ⟨b', l', g1, g2⟩ := ih (i + 1) n false _ (by omega) (by omega) (h3.push (C := pPlC) (fun _ => rfl) (z := [SV.int IntKind.i64 (0 : Int), SV.int IntKind.i64 (0 : Int), SV.int IntKind.i64 (0 : Int)]) (e := [SV.int IntKind.i64 (runP m a.f (i + 1)).State, SV.int IntKind.i64 (runP m a.f (i + 1)).Values.a0, SV.int IntKind.i64 (runP m a.f (i + 1)).Values.a1]) rfl)
    refine ⟨b', l', g1, fun kr k0 => ?_⟩
    unfold cN_Run_l10 cN_Run_b10
    simp only [ltT (show i < a.n by omega), nat_nonneg, Bool.and_self, cond_true, Int.toNat_natCast, w64_succ (show i < 1000000000000 by omega), input_eq N v, hx, and_self, decide_true, Bool.not_true, cond_false, hst, hr]
    exact g2 kr k0
theorem run_eq {N : Nat} (hN : 2000 ≤ N) {m : pMa} (v : VM m) {a : Arr Int} (ha : a.n ≤ 200) (hin : ∀ i, i < a.n → 0 ≤ a.f i ∧ a.f i ≤ ((2 ^ m.Inputs.n : Nat) : Int) - 1) :
    ∃ (b : Bool) (l : Arr pPl), l.Is a.n (fun j => runP m a.f (j + 1)) ∧ ∀ (k : Int → Bool → Arr pPl → Option R), cN_Run N m a k = k 0 b l := by
  obtain ⟨b, l, g1, g2⟩ := run_l10 (R := R) (N := N) (by omega) v ha hin a.n 0 N true (lst pPlC (0 : Nat) (zeroC [SV.int IntKind.i64 (0 : Int), SV.int IntKind.i64 (0 : Int), SV.int IntKind.i64 (0 : Int)])) (by omega) (by omega) Arr.Is.zero
  refine ⟨b, l, g1, fun k => ?_⟩
  rw [cN_Run_def]
  unfold cN_Run_m
  rw [cN_Check_def]
  unfold cN_Check_m
  rw [check_ok hN v]
  have c1 : ¬ ((a.n : Int) > 200) := by omega
  simp only [bne_self_eq_false, cond_false, c1, decide_false]
  rw [cN_of_def]
  unfold cN_of_m
  exact g2 _ _
end
end Si
end Go.Proofs.Ytpillmoddoccfaa
