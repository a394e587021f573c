/-
  The model of the statement DriveChecks, that it is what the code does (written by a program), and that it answers true.
-/
import Derived.Test.YtpcmpbellmiijaaP5
set_option maxRecDepth 100000
set_option maxHeartbeats 0
set_option linter.unusedVariables false
set_option linter.unusedSimpArgs false
namespace Go.Proofs.Ytpcmpbellmiijaa
open Go.Sx
noncomputable section


def newellaw01_DriveChecks_m {R : Type} (N : Nat) (a597 : api_Escalator) (a598 : newellaw01_Push) (k : Bool → Option R) : Option R :=
  newellaw01_Far N a597 (fun r599 =>
  bif r599 then
   newellaw01_works N  (fun r600 =>
   k r600)
  else
   drive_Step N a597 (newellaw01_Push.Speed a598) (newellaw01_Push.Load a598) (newellaw01_Push.Force a598) (fun r601 r602 =>
   newelref01_Step N a597 (newellaw01_Push.Speed a598) (newellaw01_Push.Load a598) (newellaw01_Push.Force a598) (fun r603 r604 =>
   drive_Capacity N a597 (fun r605 r606 =>
   newelref01_Capacity N a597 (fun r607 r608 =>
   drive_Check N a597 (fun r609 =>
   newelref01_Check N a597 (fun r610 =>
   bif r609 == r610 then
    bif r601 == r603 then
     bif r602 == r604 then
      bif r605 == r607 then
       bif r606 == r608 then
        newellaw01_works N  (fun r611 =>
        k r611)
       else
        k false
      else
       k false
     else
      k false
    else
     k false
   else
    k false)))))))
noncomputable def newellaw01_DriveChecks {R : Type} : Nat → api_Escalator → newellaw01_Push → (Bool → Option R) → Option R := lock (@newellaw01_DriveChecks_m R)
theorem newellaw01_DriveChecks_def {R : Type} (N : Nat) (a597 : api_Escalator) (a598 : newellaw01_Push) (k : Bool → Option R) : newellaw01_DriveChecks N a597 a598 k = newellaw01_DriveChecks_m N a597 a598 k := by unfold newellaw01_DriveChecks; rw [lock_eq]
def newellaw01_DriveChecks_sp : Sp := ⟨[rAgg api_EscalatorC, rAgg newellaw01_PushC], []⟩
theorem newellaw01_DriveChecks_sp_ok : newellaw01_DriveChecks_sp.Ok := ⟨(allCons (rAgg_ok api_EscalatorC_ok api_EscalatorC_len) (allCons (rAgg_ok newellaw01_PushC_ok newellaw01_PushC_len) allNil)), eNil⟩
def newellaw01_DriveChecks_rs : Sp := ⟨[rBool], []⟩
theorem newellaw01_DriveChecks_rs_ok : newellaw01_DriveChecks_rs.Ok := ⟨(allCons rBool_ok allNil), eNil⟩
def newellaw01_DriveChecks_run {R : Type} (N : Nat) (args : List SV) (T : Tab) (kf : SV × Tab → Option R) : Option R :=
  newellaw01_DriveChecks_m N (Cod.dec api_EscalatorC (lget (toCs (lget args 0)))) (Cod.dec newellaw01_PushC (lget (toCs (lget args 1)))) (fun q0 => kf (lget [.bool q0] 0, []))
def newellaw01_DriveChecks_lp {R : Type} (N : Nat) : Lp R := fun body S k => Option.none
noncomputable def newellaw01_DriveChecks_go {R : Type} (N : Nat) (args : List SV) (T : Tab) (kf : SV × Tab → Option R) : Option R :=
  newellaw01_DriveChecks N (Cod.dec api_EscalatorC (lget (toCs (lget args 0)))) (Cod.dec newellaw01_PushC (lget (toCs (lget args 1)))) (fun q0 => kf (lget [.bool q0] 0, []))
noncomputable def newellaw01_DriveChecks_cal {R : Type} (N : Nat) : Cal R := callM (newelref01_Legal_cal N) 11 0 newellaw01_DriveChecks_sp (newellaw01_DriveChecks_go N)
theorem newellaw01_DriveChecks_cal_ok {R : Type} (N : Nat) : CalOk E.P (newellaw01_DriveChecks_cal (R := R) N) :=
  callM_ok hE (newelref01_Legal_cal_ok N) (lp := newellaw01_DriveChecks_lp N) (keys := []) kNil (by kernel_rfl) newellaw01_DriveChecks_sp_ok newellaw01_DriveChecks_rs_ok (fun args T kf => Eq.trans (newellaw01_DriveChecks_def N (Cod.dec api_EscalatorC (lget (toCs (lget args 0)))) (Cod.dec newellaw01_PushC (lget (toCs (lget args 1)))) (fun q0 => kf (lget [.bool q0] 0, []))) (by kernel_rfl : newellaw01_DriveChecks_run N args T kf = fnM E (newelref01_Legal_cal N) (newellaw01_DriveChecks_lp N) 11 (newellaw01_DriveChecks_sp.vs args) (newellaw01_DriveChecks_sp.tab T) 0 (resK newellaw01_DriveChecks_rs kf)))

theorem driveChecks_true (e : api_Escalator) (p : newellaw01_Push) (he : e.wf) (hp : p.wf) : ∃ N, newellaw01_DriveChecks N e p (fun q0 => okK (lget [.bool q0] 0, [])) = some () := by
  refine ⟨NN, ?_⟩
  rw [newellaw01_DriveChecks_def]
  unfold newellaw01_DriveChecks_m
  simp only [Far_eq, works_eq, Check_eq (show 10 ≤ NN by decide), refCheck_eq (show 10 ≤ NN by decide), Step_eq (show 10 ≤ NN by decide), refStep_eq (show 10 ≤ NN by decide), Capacity_eq (show 200 ≤ NN by decide), refCapacity_eq (show 200 ≤ NN by decide), BEq.rfl, cond_true]
  cases decide ((e.Brakes.n : Int) > 10) <;> rfl
end
end Go.Proofs.Ytpcmpbellmiijaa
