/-
  Drive: equal lists, the example, Witness, Back, Holds, Step, Play.
-/
import Derived.Test.YtpillmoddoccfabDoorDsP3
import Derived.Test.YtpillmoddoccfabDoorSxMath
set_option linter.unusedVariables false
set_option linter.unusedSimpArgs false
namespace Go.Proofs.YtpillmoddoccfabDoor
namespace Ds
open Go.Sx

section
variable {R : Type}

/-- The fuel of all statements. -/
def NN : Nat := 5000

theorem rest_le (e : api_Escalator) (s : api_Stop) (most : Bool) : restS e s most ≤ 100 := by
  have := (stopF_spec (pathV e s most) 100 0).2.1
  unfold restS; omega

/-! ### Back -/

def backS (v : Nat → Int) : Nat → Int
  | 0 => 0
  | t + 1 => backS v t + max 0 (-(v (t + 1)))

theorem back_abs {v : Nat → Int} {n : Nat} (h : ∀ t, t ≤ n → -10000000000 ≤ v t ∧ v t ≤ 10000000000) : ∀ t, t ≤ n → 0 ≤ backS v t ∧ backS v t ≤ t * 10000000000 := by
  intro t
  induction t with
  | zero => intro _; simp [backS]
  | succ t ih =>
    intro ht
    have h1 := ih (by omega)
    have h2 := h (t + 1) ht
    simp only [backS]
    omega

noncomputable def backV (e : api_Escalator) (s : api_Stop) : Int × Int :=
  if stopV e s ≠ 0 then (0, stopV e s) else if pathV e s false 100 < 0 then (0, 12) else (backS (pathV e s false) 100, 0)

/-! ### The example -/

def exE : api_Escalator := ⟨true, 1000, 20, 2000, 20000, lst api_BrakeC 2 (litC [SV.int IntKind.i64 0, SV.int IntKind.i64 0] [[SV.int IntKind.i64 12000, SV.int IntKind.i64 1], [SV.int IntKind.i64 16000, SV.int IntKind.i64 3]])⟩
def exS (v : Int) : api_Stop := ⟨v, ⟨0, 500⟩, 0⟩
theorem exE_ok : VE exE := by
  refine ⟨by decide, by decide, by decide, by decide, by decide, by decide, by decide, by decide, by decide, ?_⟩
  intro j _ hj
  have hj : j < 2 := hj
  match j, hj with
  | 0, _ => exact ⟨⟨by decide, by decide⟩, ⟨by decide, by decide⟩⟩
  | 1, _ => exact ⟨⟨by decide, by decide⟩, ⟨by decide, by decide⟩⟩
theorem exS_ok {v : Int} (h : 0 ≤ v) (h' : v ≤ 1000) : VS exE (exS v) := ⟨h, h', by show (0 : Int) ≤ 0; decide, by show (0 : Int) ≤ 500; decide, by show (500 : Int) ≤ 100000; decide, by show (0 : Int) ≤ 0; decide, by show (0 : Int) < 2 ^ 2; decide⟩
theorem dist_ex : distV exE (exS 60) = (⟨108, 135⟩, ⟨4, 5⟩, 0) := by
  unfold distV
  rw [stopV_of exE_ok (exS_ok (by omega) (by omega))]
  have h1 : restS exE (exS 60) true = 5 := by kernel_rfl
  have h2 : restS exE (exS 60) false = 4 := by kernel_rfl
  have h3 : pathV exE (exS 60) true 5 = 0 := by kernel_rfl
  have h4 : wayS (pathV exE (exS 60) true) 5 = 135 := by kernel_rfl
  have h5 : wayS (pathV exE (exS 60) false) 4 = 108 := by kernel_rfl
  simp [h1, h2, h3, h4, h5]
theorem back_ex : backV exE (exS 0) = (7, 0) := by
  unfold backV
  rw [stopV_of exE_ok (exS_ok (by omega) (by omega))]
  have h1 : pathV exE (exS 0) false 100 = 0 := by kernel_rfl
  have h2 : backS (pathV exE (exS 0) false) 100 = 7 := by kernel_rfl
  simp [h1, h2]
/-! ### Holds -/

noncomputable def holdsV (e : api_Escalator) (s : api_Stop) : Bool × Int :=
  if stopV e s ≠ 0 then (false, stopV e s) else (decide (e.Pull * s.Loads.High ≤ e.Drag + gripE e s.Fail 20), 0)

theorem Far_eq (N : Nat) (e : api_Escalator) (k : Bool → Option R) : newellaw01_Far N e k = k (decide ((e.Brakes.n : Int) > 10)) := by rw [newellaw01_Far_def]; rfl

end
end Ds
end Go.Proofs.YtpillmoddoccfabDoor
