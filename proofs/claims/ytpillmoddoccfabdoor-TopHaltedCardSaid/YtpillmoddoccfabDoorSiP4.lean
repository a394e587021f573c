import Derived.Test.YtpillmoddoccfabDoorSiP3
set_option linter.unusedVariables false
set_option linter.unusedSimpArgs false
set_option linter.unusedSectionVars false
set_option maxHeartbeats 0
set_option maxRecDepth 100000
namespace Go.Proofs.YtpillmoddoccfabDoor
namespace Si
open Go.Sx
open Classical
noncomputable section
variable {R : Type}
def pl0 : api_Place := ⟨0, ⟨0, 0⟩⟩
theorem pl0_ok {m : api_Machine} (v : VM m) : PlP m pl0 := by
  have hs := v.s
  refine ⟨⟨Int.le_refl _, by show (0 : Int) < (m.States.n : Int); omega⟩, ⟨Int.le_refl _, ?_⟩, ⟨Int.le_refl _, ?_⟩⟩
  · show (0 : Int) ≤ _
    split
    · rename_i h; have := (v.cm 0 h).1; omega
    · exact Int.le_refl _
  · show (0 : Int) ≤ _
    split
    · rename_i h; have := (v.cm 1 h).1; omega
    · exact Int.le_refl _
def runP (m : api_Machine) (a : Nat → Int) : Nat → api_Place
  | 0 => pl0
  | i + 1 => stepE m (runP m a i) (a i).toNat
theorem run_ok {m : api_Machine} (v : VM m) (a : Nat → Int) : ∀ i, PlP m (runP m a i) := by
  intro i
  induction i with
  | zero => exact pl0_ok v
  | succ i ih => exact step_pl v ih _
theorem pow4 {n : Nat} (h : n ≤ 4) : w64 ((1 : Int) * (2 : Int) ^ min (Int.toNat (n : Int)) (IntKind.bits IntKind.i64)) = ((2 ^ n : Nat) : Int) := by
  have : ∀ m : Fin 5, w64 ((1 : Int) * (2 : Int) ^ min (Int.toNat (m.val : Int)) (IntKind.bits IntKind.i64)) = ((2 ^ m.val : Nat) : Int) := by decide +kernel
  exact this ⟨n, by omega⟩
theorem input_eq (N : Nat) {m : api_Machine} (v : VM m) (x : Int) (k : Bool → Option R) : sP_Input N m.Inputs m.Outputs m.Counters m.States m.Rules x k = k (decide (0 ≤ x ∧ x ≤ ((2 ^ m.Inputs.n : Nat) : Int) - 1)) := by
  rw [sP_Input_def]
  unfold sP_Input_m
  rw [sP_All_def]
  unfold sP_All_m
  have hi := v.i
  have hp : 2 ^ m.Inputs.n ≤ 2 ^ 4 := Nat.pow_le_pow_right (by omega) hi
  have e := pow4 hi
  show sT_within N x 0 (w64 (w64 ((1 : Int) * (2 : Int) ^ min (Int.toNat (m.Inputs.n : Int)) (IntKind.bits IntKind.i64)) - 1)) (fun r => k r) = _
  rw [e, in_eq]
  clear e
  generalize 2 ^ m.Inputs.n = K at *
  rw [w64_eq (by omega) (by omega)]
end
end Si
end Go.Proofs.YtpillmoddoccfabDoor
