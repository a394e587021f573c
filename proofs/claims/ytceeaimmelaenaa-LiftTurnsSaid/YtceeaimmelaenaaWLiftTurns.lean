/-
  The model of the statement LiftTurns, that it is what the code does (written by a program), and that it answers true.
-/
import Derived.Test.YtceeaimmelaenaaP6
set_option maxRecDepth 100000
set_option maxHeartbeats 0
set_option linter.unusedVariables false
set_option linter.unusedSimpArgs false
namespace Go.Proofs.Ytceeaimmelaenaa
open Go.Sx
noncomputable section


def newellaw05_LiftTurns_m {R : Type} (N : Nat) (a799 : api_Lift) (a800 : api_Door) (a801 : newellaw05_Way) (k : Bool → Option R) : Option R :=
  newellaw05_Far N a799 (fun r802 =>
  bif r802 then
   newellaw05_works N  (fun r803 =>
   k r803)
  else
   lift_Turn N a799 a800 (newellaw05_Way.From a801) (newellaw05_Way.To a801) (newellaw05_Way.Ticks a801) (fun r804 r805 =>
   newelref05_Turn N a799 a800 (newellaw05_Way.From a801) (newellaw05_Way.To a801) (newellaw05_Way.Ticks a801) (fun r806 r807 =>
   bif r804 == r806 then
    bif r805 == r807 then
     newellaw05_works N  (fun r808 =>
     k r808)
    else
     k false
   else
    k false)))
noncomputable def newellaw05_LiftTurns {R : Type} : Nat → api_Lift → api_Door → newellaw05_Way → (Bool → Option R) → Option R := lock (@newellaw05_LiftTurns_m R)
theorem newellaw05_LiftTurns_def {R : Type} (N : Nat) (a799 : api_Lift) (a800 : api_Door) (a801 : newellaw05_Way) (k : Bool → Option R) : newellaw05_LiftTurns N a799 a800 a801 k = newellaw05_LiftTurns_m N a799 a800 a801 k := by unfold newellaw05_LiftTurns; rw [lock_eq]
def newellaw05_LiftTurns_sp : Sp := ⟨[rAgg api_LiftC, rAgg api_DoorC, rAgg newellaw05_WayC], []⟩
theorem newellaw05_LiftTurns_sp_ok : newellaw05_LiftTurns_sp.Ok := ⟨(allCons (rAgg_ok api_LiftC_ok api_LiftC_len) (allCons (rAgg_ok api_DoorC_ok api_DoorC_len) (allCons (rAgg_ok newellaw05_WayC_ok newellaw05_WayC_len) allNil))), eNil⟩
def newellaw05_LiftTurns_rs : Sp := ⟨[rBool], []⟩
theorem newellaw05_LiftTurns_rs_ok : newellaw05_LiftTurns_rs.Ok := ⟨(allCons rBool_ok allNil), eNil⟩
def newellaw05_LiftTurns_run {R : Type} (N : Nat) (args : List SV) (T : Tab) (kf : SV × Tab → Option R) : Option R :=
  newellaw05_LiftTurns_m N (Cod.dec api_LiftC (lget (toCs (lget args 0)))) (Cod.dec api_DoorC (lget (toCs (lget args 1)))) (Cod.dec newellaw05_WayC (lget (toCs (lget args 2)))) (fun q0 => kf (lget [.bool q0] 0, []))
def newellaw05_LiftTurns_lp {R : Type} (N : Nat) : Lp R := fun body S k => Option.none
noncomputable def newellaw05_LiftTurns_go {R : Type} (N : Nat) (args : List SV) (T : Tab) (kf : SV × Tab → Option R) : Option R :=
  newellaw05_LiftTurns N (Cod.dec api_LiftC (lget (toCs (lget args 0)))) (Cod.dec api_DoorC (lget (toCs (lget args 1)))) (Cod.dec newellaw05_WayC (lget (toCs (lget args 2)))) (fun q0 => kf (lget [.bool q0] 0, []))
noncomputable def newellaw05_LiftTurns_cal {R : Type} (N : Nat) : Cal R := callM (newellaw05_works_cal N) 3 0 newellaw05_LiftTurns_sp (newellaw05_LiftTurns_go N)
theorem newellaw05_LiftTurns_cal_ok {R : Type} (N : Nat) : CalOk E.P (newellaw05_LiftTurns_cal (R := R) N) :=
  callM_ok hE (newellaw05_works_cal_ok N) (lp := newellaw05_LiftTurns_lp N) (keys := []) kNil (by kernel_rfl) newellaw05_LiftTurns_sp_ok newellaw05_LiftTurns_rs_ok (fun args T kf => Eq.trans (newellaw05_LiftTurns_def N (Cod.dec api_LiftC (lget (toCs (lget args 0)))) (Cod.dec api_DoorC (lget (toCs (lget args 1)))) (Cod.dec newellaw05_WayC (lget (toCs (lget args 2)))) (fun q0 => kf (lget [.bool q0] 0, []))) (by kernel_rfl : newellaw05_LiftTurns_run N args T kf = fnM E (newellaw05_works_cal N) (newellaw05_LiftTurns_lp N) 3 (newellaw05_LiftTurns_sp.vs args) (newellaw05_LiftTurns_sp.tab T) 0 (resK newellaw05_LiftTurns_rs kf)))

theorem liftTurns_true (l : api_Lift) (d : api_Door) (w : newellaw05_Way) (hl : l.wf) (hd : d.wf) (hw : w.wf) : ∃ N, newellaw05_LiftTurns N l d w (fun q0 => okK (lget [.bool q0] 0, [])) = some () := by
  refine ⟨NN, ?_⟩
  rw [newellaw05_LiftTurns_def]
  unfold newellaw05_LiftTurns_m
  simp only [Far_eq, works_eq, Turn_eq (show 1001 ≤ NN by decide), refTurn_eq (show 1001 ≤ NN by decide), BEq.rfl, cond_true]
  cases decide ((l.Floors.n : Int) > 30) <;> rfl
end
end Go.Proofs.Ytceeaimmelaenaa
