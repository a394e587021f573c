/-
  Lift: the example.
-/
import Derived.Test.YtceeaimmelaenaaP5
set_option linter.unusedVariables false
set_option linter.unusedSimpArgs false
set_option maxRecDepth 100000
namespace Go.Proofs.Ytceeaimmelaenaa
open Go.Sx

/-- The fuel of all statements. -/
def NN : Nat := 20000

def exL : api_Lift := ⟨1000, 1400, 800, 2, lst intC 3 (litC [SV.int IntKind.i64 0] [[SV.int IntKind.i64 0], [SV.int IntKind.i64 40], [SV.int IntKind.i64 90]]), 3, 2, 10, 3, 10, 1000, 20⟩

theorem exL_ok : VL exL := by
  refine ⟨by decide, by decide, by decide, by decide, by decide, by decide, by decide, by decide, by decide, by decide, by decide, by decide, ?_, by decide, by decide, by decide, by decide, by decide, by decide, by decide, by decide, by decide, by decide, by decide, by decide, by decide⟩
  intro j _ hj
  have hj : j + 1 < 3 := hj
  match j, hj with
  | 0, _ => decide
  | 1, _ => decide
  | j + 2, h => omega

theorem turn_ex : turnV exL ⟨3, 2⟩ 0 1 1 = (21, 0) := by
  unfold turnV
  rw [if_pos exL_ok, if_pos ⟨by decide, by decide, by decide, by decide⟩, if_pos (by decide)]
  have h1 : ticksS exL.Speed exL.Accel (wayS exL 0 1) = 7 := by kernel_rfl
  rw [h1]
  rfl
theorem grip_ex : gripV exL ⟨0, 40⟩ ⟨300, 600⟩ = (82, 0) := by
  unfold gripV
  rw [if_pos exL_ok, if_pos (by decide)]
  kernel_rfl

theorem works_eq {R : Type} (k : Bool → Option R) : newellaw05_works NN k = k true := by
  rw [newellaw05_works_def]
  unfold newellaw05_works_m
  rw [newellaw05_Example_def]
  unfold newellaw05_Example_m
  have h1 := fun k => Turn_eq (R := R) (N := NN) (by decide) exL ⟨3, 2⟩ 0 1 1 k
  have h2 := fun k => Grip_eq (R := R) (N := NN) (by decide) exL ⟨0, 40⟩ ⟨300, 600⟩ k
  refine Eq.trans (h1 _) ?_
  rw [turn_ex, newellaw05_Example_def]
  unfold newellaw05_Example_m
  refine Eq.trans (h2 _) ?_
  rw [grip_ex]
  rfl

end Go.Proofs.Ytceeaimmelaenaa
