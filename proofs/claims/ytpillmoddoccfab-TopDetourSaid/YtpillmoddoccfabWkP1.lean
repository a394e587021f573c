/-
  Shafts and crates: the checks, and what is free.
-/
import Derived.Test.YtpillmoddoccfabM2
import Derived.Test.YtpillmoddoccfabSxMath
set_option linter.unusedSectionVars false
set_option linter.unusedVariables false
set_option linter.unusedSimpArgs false
set_option maxHeartbeats 0
set_option maxRecDepth 100000
namespace Go.Proofs.Ytpillmoddoccfab
namespace Wk
open Go.Sx
open Classical
noncomputable section
variable {R : Type}
theorem ltF {a b : Nat} (h : b ≤ a) : decide ((a : Int) < (b : Int)) = false := by simp; omega
theorem ltT {a b : Nat} (h : a < b) : decide ((a : Int) < (b : Int)) = true := by simp; omega
theorem w0 : w64 (0 + 1) = 1 := by rw [w64_eq (by omega) (by omega)]; rfl
theorem w1 : w64 (1 + 1) = 2 := by rw [w64_eq (by omega) (by omega)]; rfl
theorem w2 : w64 (2 + 1) = 3 := by rw [w64_eq (by omega) (by omega)]; rfl
theorem c3 : ((3 : Nat) : Int) = 3 := rfl
theorem lt0 : decide ((0 : Int) < 3) = true := rfl
theorem lt1 : decide ((1 : Int) < 3) = true := rfl
theorem lt2 : decide ((2 : Int) < 3) = true := rfl
theorem lt3 : decide ((3 : Int) < 3) = false := rfl
theorem in0 : (decide ((0 : Int) ≤ 0) && decide ((0 : Int) < ((3 : Nat) : Int))) = true := rfl
theorem in1 : (decide ((0 : Int) ≤ 1) && decide ((1 : Int) < ((3 : Nat) : Int))) = true := rfl
theorem in2 : (decide ((0 : Int) ≤ 2) && decide ((2 : Int) < ((3 : Nat) : Int))) = true := rfl
theorem pk0 (a b c : Int) : pickI 0 0 [a, b, c] = a := rfl
theorem pk1 (a b c : Int) : pickI 1 0 [a, b, c] = b := rfl
theorem pk2 (a b c : Int) : pickI 2 0 [a, b, c] = c := rfl
theorem e00 : ((0 : Int) == ((0 : Nat) : Int)) = true := rfl
theorem e01 : ((0 : Int) == ((0 + 1 : Nat) : Int)) = false := rfl
theorem e02 : ((0 : Int) == ((0 + 1 + 1 : Nat) : Int)) = false := rfl
theorem e10 : ((1 : Int) == ((0 : Nat) : Int)) = false := rfl
theorem e11 : ((1 : Int) == ((0 + 1 : Nat) : Int)) = true := rfl
theorem e12 : ((1 : Int) == ((0 + 1 + 1 : Nat) : Int)) = false := rfl
theorem e20 : ((2 : Int) == ((0 : Nat) : Int)) = false := rfl
theorem e21 : ((2 : Int) == ((0 + 1 : Nat) : Int)) = false := rfl
theorem e22 : ((2 : Int) == ((0 + 1 + 1 : Nat) : Int)) = true := rfl
theorem within_eq (N : Nat) (n lo hi : Int) (k : Bool → Option R) : newelref09_within N n lo hi k = k (decide (lo ≤ n ∧ n ≤ hi)) := by
  rw [newelref09_within_def]
  unfold newelref09_within_m
  by_cases h : n ≥ lo
  · have : lo ≤ n := h
    simp only [h, decide_true, cond_true, this, true_and]
  · have : ¬ (lo ≤ n ∧ n ≤ hi) := fun g => h g.1
    rw [decide_eq_false this]
    simp only [h, decide_false, cond_false]

def e18 (n : Int) : Prop := 1 ≤ n ∧ n ≤ 8
theorem gt_big {n : Nat} : decide (((n : Nat) : Int) > (256 : Int)) = !decide (n ≤ 256) := by
  by_cases h : n ≤ 256
  · rw [decide_eq_true h, decide_eq_false (by omega)]; rfl
  · rw [decide_eq_false h, decide_eq_true (by omega)]; rfl

end
end Wk
end Go.Proofs.Ytpillmoddoccfab
