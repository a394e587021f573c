/-
  Drive: Step, the order of ticks, Play.
-/
import Derived.Test.YtpillmoddoccfabDoorDsP4
import Derived.Test.YtpillmoddoccfabDoorSxMath
set_option linter.unusedVariables false
set_option linter.unusedSimpArgs false
namespace Go.Proofs.YtpillmoddoccfabDoor
namespace Ds
open Go.Sx

section
variable {R : Type}

/-! ### The order of ticks -/

theorem tick_mono {e : api_Escalator} {v v' load force : Int} (h : v ≤ v') : tickS e v load force ≤ tickS e v' load force := by
  unfold tickS
  generalize (-(gOf e load) - (e.Drag + force)) / (e.Empty + load) = q1
  generalize (gOf e load - (e.Drag + force)) / (e.Empty + load) = q2
  generalize gOf e load = g
  split <;> split <;> omega

theorem tick_force {e : api_Escalator} {v load force force' : Int} (hm : 0 < e.Empty + load) (h : force ≤ force') :
    max (tickS e v load force') (-(tickS e v load force')) ≤ max (tickS e v load force) (-(tickS e v load force)) := by
  have h1 : (-(gOf e load) - (e.Drag + force')) / (e.Empty + load) ≤ (-(gOf e load) - (e.Drag + force)) / (e.Empty + load) := Int.ediv_le_ediv hm (by omega)
  have h2 : (gOf e load - (e.Drag + force')) / (e.Empty + load) ≤ (gOf e load - (e.Drag + force)) / (e.Empty + load) := Int.ediv_le_ediv hm (by omega)
  unfold tickS
  split <;> omega

structure StepArgs (v load force : Int) : Prop where
  v1 : -10000000 ≤ v
  v2 : v ≤ 10000000
  l1 : 0 ≤ load
  l2 : load ≤ 100000
  f1 : 0 ≤ force
  f2 : force ≤ 30000000
theorem StepArgs.ok {e : api_Escalator} {v load force : Int} (h : StepArgs v load force) (he : VE e) : TickOk e v load force :=
  ⟨he.e1, he.e2, he.p1, he.p2, he.d1, he.d2, h.l1, h.l2, h.f1, h.f2, by have := h.v1; omega, by have := h.v2; omega⟩

open Classical in
noncomputable def stepV (e : api_Escalator) (v load force : Int) : Int × Int :=
  if VE e then (if StepArgs v load force then (tickS e v load force, 0) else (0, 1)) else (0, 10)

theorem stepV_neg {e : api_Escalator} {v load force : Int} (he : VE e) (h : ¬ StepArgs v load force) : stepV e v load force = (0, 1) := by unfold stepV; rw [if_pos he, if_neg h]
theorem stepV_pos {e : api_Escalator} {v load force : Int} (he : VE e) (h : StepArgs v load force) : stepV e v load force = (tickS e v load force, 0) := by unfold stepV; rw [if_pos he, if_pos h]

/-! ### Capacity -/

/-- The load that the motor has force to spare for. -/
def spareV (e : api_Escalator) : Int := if e.Up then e.Motor - e.Drag else e.Motor + e.Drag

open Classical in
noncomputable def capV (e : api_Escalator) : Int × Int :=
  if VE e then (if spareV e < 0 then (0, 1) else if e.Pull = 0 then (100000, 0) else (min 100000 (spareV e / e.Pull), 0)) else (0, 10)

end
end Ds
end Go.Proofs.YtpillmoddoccfabDoor
