/-
  The model of the statement DriveBacks, that it is what the code does (written by a program), and that it answers true.
-/
import Derived.Test.YtpcmpbellmiijaaP4
set_option maxRecDepth 100000
set_option maxHeartbeats 0
set_option linter.unusedVariables false
set_option linter.unusedSimpArgs false
namespace Go.Proofs.Ytpcmpbellmiijaa
open Go.Sx
noncomputable section


def newellaw01_DriveBacks_m {R : Type} (N : Nat) (a508 : api_Escalator) (a509 : api_Stop) (k : Bool → Option R) : Option R :=
  newellaw01_Far N a508 (fun r510 =>
  bif r510 then
   newellaw01_works N  (fun r511 =>
   k r511)
  else
   drive_Back N a508 a509 (fun r512 r513 =>
   newelref01_Back N a508 a509 (fun r514 r515 =>
   drive_Holds N a508 a509 (fun r516 r517 =>
   newelref01_Holds N a508 a509 (fun r518 r519 =>
   bif r512 == r514 then
    bif r513 == r515 then
     bif r516 == r518 then
      bif r517 == r519 then
       newellaw01_works N  (fun r520 =>
       k r520)
      else
       k false
     else
      k false
    else
     k false
   else
    k false)))))
noncomputable def newellaw01_DriveBacks {R : Type} : Nat → api_Escalator → api_Stop → (Bool → Option R) → Option R := lock (@newellaw01_DriveBacks_m R)
theorem newellaw01_DriveBacks_def {R : Type} (N : Nat) (a508 : api_Escalator) (a509 : api_Stop) (k : Bool → Option R) : newellaw01_DriveBacks N a508 a509 k = newellaw01_DriveBacks_m N a508 a509 k := by unfold newellaw01_DriveBacks; rw [lock_eq]
def newellaw01_DriveBacks_sp : Sp := ⟨[rAgg api_EscalatorC, rAgg api_StopC], []⟩
theorem newellaw01_DriveBacks_sp_ok : newellaw01_DriveBacks_sp.Ok := ⟨(allCons (rAgg_ok api_EscalatorC_ok api_EscalatorC_len) (allCons (rAgg_ok api_StopC_ok api_StopC_len) allNil)), eNil⟩
def newellaw01_DriveBacks_rs : Sp := ⟨[rBool], []⟩
theorem newellaw01_DriveBacks_rs_ok : newellaw01_DriveBacks_rs.Ok := ⟨(allCons rBool_ok allNil), eNil⟩
def newellaw01_DriveBacks_run {R : Type} (N : Nat) (args : List SV) (T : Tab) (kf : SV × Tab → Option R) : Option R :=
  newellaw01_DriveBacks_m N (Cod.dec api_EscalatorC (lget (toCs (lget args 0)))) (Cod.dec api_StopC (lget (toCs (lget args 1)))) (fun q0 => kf (lget [.bool q0] 0, []))
def newellaw01_DriveBacks_lp {R : Type} (N : Nat) : Lp R := fun body S k => Option.none
noncomputable def newellaw01_DriveBacks_go {R : Type} (N : Nat) (args : List SV) (T : Tab) (kf : SV × Tab → Option R) : Option R :=
  newellaw01_DriveBacks N (Cod.dec api_EscalatorC (lget (toCs (lget args 0)))) (Cod.dec api_StopC (lget (toCs (lget args 1)))) (fun q0 => kf (lget [.bool q0] 0, []))
noncomputable def newellaw01_DriveBacks_cal {R : Type} (N : Nat) : Cal R := callM (newelref01_Legal_cal N) 5 0 newellaw01_DriveBacks_sp (newellaw01_DriveBacks_go N)
theorem newellaw01_DriveBacks_cal_ok {R : Type} (N : Nat) : CalOk E.P (newellaw01_DriveBacks_cal (R := R) N) :=
  callM_ok hE (newelref01_Legal_cal_ok N) (lp := newellaw01_DriveBacks_lp N) (keys := []) kNil (by kernel_rfl) newellaw01_DriveBacks_sp_ok newellaw01_DriveBacks_rs_ok (fun args T kf => Eq.trans (newellaw01_DriveBacks_def N (Cod.dec api_EscalatorC (lget (toCs (lget args 0)))) (Cod.dec api_StopC (lget (toCs (lget args 1)))) (fun q0 => kf (lget [.bool q0] 0, []))) (by kernel_rfl : newellaw01_DriveBacks_run N args T kf = fnM E (newelref01_Legal_cal N) (newellaw01_DriveBacks_lp N) 5 (newellaw01_DriveBacks_sp.vs args) (newellaw01_DriveBacks_sp.tab T) 0 (resK newellaw01_DriveBacks_rs kf)))

theorem driveBacks_true (e : api_Escalator) (s : api_Stop) (he : e.wf) (hs : s.wf) : ∃ N, newellaw01_DriveBacks N e s (fun q0 => okK (lget [.bool q0] 0, [])) = some () := by
  refine ⟨NN, ?_⟩
  rw [newellaw01_DriveBacks_def]
  unfold newellaw01_DriveBacks_m
  simp only [Far_eq, works_eq, Back_eq (show 200 ≤ NN by decide), refBack_eq (show 2000 ≤ NN by decide), Holds_eq (show 200 ≤ NN by decide), refHolds_eq (show 200 ≤ NN by decide), BEq.rfl, cond_true]
  cases decide ((e.Brakes.n : Int) > 10) <;> rfl
end
end Go.Proofs.Ytpcmpbellmiijaa
