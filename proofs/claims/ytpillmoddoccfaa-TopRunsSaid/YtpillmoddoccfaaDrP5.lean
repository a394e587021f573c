/-
  Drive: Step, the order of ticks, Play.
-/
import Derived.Test.YtpillmoddoccfaaDrP2
import Derived.Test.YtpillmoddoccfaaSxMath
set_option linter.unusedVariables false
set_option linter.unusedSimpArgs false
namespace Go.Proofs.Ytpillmoddoccfaa
namespace Dr
open Go.Sx

section
variable {R : Type}

/-! ### The order of ticks -/

theorem tick_mono {e : api_Escalator} {v v' load force : Int} (h : v ≤ v') : tickS e v load force ≤ tickS e v' load force := by
  unfold tickS
  generalize (-(gOf e load) - (e.Drag + force)) / (e.Empty + load) = q1
  generalize (gOf e load - (e.Drag + force)) / (e.Empty + load) = q2
  generalize gOf e load = g
  split <;> split <;> omega

theorem tick_force {e : api_Escalator} {v load force force' : Int} (hm : 0 < e.Empty + load) (h : force ≤ force') :
    max (tickS e v load force') (-(tickS e v load force')) ≤ max (tickS e v load force) (-(tickS e v load force)) := by
  have h1 : (-(gOf e load) - (e.Drag + force')) / (e.Empty + load) ≤ (-(gOf e load) - (e.Drag + force)) / (e.Empty + load) := Int.ediv_le_ediv hm (by omega)
  have h2 : (gOf e load - (e.Drag + force')) / (e.Empty + load) ≤ (gOf e load - (e.Drag + force)) / (e.Empty + load) := Int.ediv_le_ediv hm (by omega)
  unfold tickS
  split <;> omega

structure StepArgs (v load force : Int) : Prop where
  v1 : -10000000 ≤ v
  v2 : v ≤ 10000000
  l1 : 0 ≤ load
  l2 : load ≤ 100000
  f1 : 0 ≤ force
  f2 : force ≤ 30000000
theorem StepArgs.ok {e : api_Escalator} {v load force : Int} (h : StepArgs v load force) (he : VE e) : TickOk e v load force :=
  ⟨he.e1, he.e2, he.p1, he.p2, he.d1, he.d2, h.l1, h.l2, h.f1, h.f2, by have := h.v1; omega, by have := h.v2; omega⟩

open Classical in
noncomputable def stepV (e : api_Escalator) (v load force : Int) : Int × Int :=
  if VE e then (if StepArgs v load force then (tickS e v load force, 0) else (0, 1)) else (0, 10)

theorem stepV_neg {e : api_Escalator} {v load force : Int} (he : VE e) (h : ¬ StepArgs v load force) : stepV e v load force = (0, 1) := by unfold stepV; rw [if_pos he, if_neg h]
theorem stepV_pos {e : api_Escalator} {v load force : Int} (he : VE e) (h : StepArgs v load force) : stepV e v load force = (tickS e v load force, 0) := by unfold stepV; rw [if_pos he, if_pos h]

theorem Step_eq {N : Nat} (hN : 10 ≤ N) (e : api_Escalator) (v load force : Int) (k : Int → Int → Option R) : drive_Step N e v load force k = k (stepV e v load force).1 (stepV e v load force).2 := by
  rw [drive_Step_def]
  unfold drive_Step_m
  rw [Check_eq hN]
  by_cases he : VE e
  case neg =>
    have h1 : checkV e = 10 := by unfold checkV; rw [if_neg he]
    have h2 : stepV e v load force = (0, 10) := by unfold stepV; rw [if_neg he]
    rw [h1, h2]; rfl
  have h1 : checkV e = 0 := by unfold checkV; rw [if_pos he]
  rw [h1]
  simp only [to_eq, in_eq, bne_self_eq_false, cond_false]
  by_cases h2 : -10000000 ≤ v ∧ v ≤ 10000000
  case neg => simp only [h2, decide_false, Bool.not_false, cond_true]; rw [stepV_neg he (fun h => h2 ⟨h.v1, h.v2⟩)]
  simp only [h2, decide_true, and_self, Bool.not_true, cond_false]
  by_cases h3 : 0 ≤ load ∧ load ≤ 100000
  case neg => simp only [h3, decide_false, Bool.not_false, cond_true]; rw [stepV_neg he (fun h => h3 ⟨h.l1, h.l2⟩)]
  simp only [h3, decide_true, and_self, Bool.not_true, cond_false]
  by_cases h4 : 0 ≤ force ∧ force ≤ 30000000
  case neg => simp only [h4, decide_false, Bool.not_false, cond_true]; rw [stepV_neg he (fun h => h4 ⟨h.f1, h.f2⟩)]
  simp only [h4, decide_true, and_self, Bool.not_true, cond_false]
  have hs : StepArgs v load force := ⟨h2.1, h2.2, h3.1, h3.2, h4.1, h4.2⟩
  rw [stepV_pos he hs, tick_eq N (hs.ok he)]

/-! ### Capacity -/

/-- The load that the motor has force to spare for. -/
def spareV (e : api_Escalator) : Int := if e.Up then e.Motor - e.Drag else e.Motor + e.Drag

open Classical in
noncomputable def capV (e : api_Escalator) : Int × Int :=
  if VE e then (if spareV e < 0 then (0, 1) else if e.Pull = 0 then (100000, 0) else (min 100000 (spareV e / e.Pull), 0)) else (0, 10)

end
end Dr
end Go.Proofs.Ytpillmoddoccfaa
