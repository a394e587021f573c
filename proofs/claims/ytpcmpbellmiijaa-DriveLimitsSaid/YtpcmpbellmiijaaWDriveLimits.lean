/-
  The model of the statement DriveLimits, that it is what the code does (written by a program), and that it answers true.
-/
import Derived.Test.YtpcmpbellmiijaaP9
set_option maxRecDepth 100000
set_option maxHeartbeats 0
set_option linter.unusedVariables false
set_option linter.unusedSimpArgs false
namespace Go.Proofs.Ytpcmpbellmiijaa
open Go.Sx
noncomputable section


def newellaw01_DriveLimits_m {R : Type} (N : Nat) (a659 : api_Escalator) (a660 : api_Stop) (a661 : api_Span) (k : Bool → Option R) : Option R :=
  newellaw01_Far N a659 (fun r662 =>
  bif r662 then
   newellaw01_works N  (fun r663 =>
   k r663)
  else
   drive_Fastest N a659 a660 (api_Span.High a661) (fun r664 r665 =>
   newelref01_Fastest N a659 a660 (api_Span.High a661) (fun r666 r667 =>
   drive_Legal N a659 a660 a661 (fun r668 r669 r670 =>
   newelref01_Legal N a659 a660 a661 (fun r671 r672 r673 =>
   bif r664 == r666 then
    bif r665 == r667 then
     bif r668 == r671 then
      bif r669 == r672 then
       bif r670 == r673 then
        newellaw01_works N  (fun r674 =>
        k r674)
       else
        k false
      else
       k false
     else
      k false
    else
     k false
   else
    k false)))))
noncomputable def newellaw01_DriveLimits {R : Type} : Nat → api_Escalator → api_Stop → api_Span → (Bool → Option R) → Option R := lock (@newellaw01_DriveLimits_m R)
theorem newellaw01_DriveLimits_def {R : Type} (N : Nat) (a659 : api_Escalator) (a660 : api_Stop) (a661 : api_Span) (k : Bool → Option R) : newellaw01_DriveLimits N a659 a660 a661 k = newellaw01_DriveLimits_m N a659 a660 a661 k := by unfold newellaw01_DriveLimits; rw [lock_eq]
def newellaw01_DriveLimits_sp : Sp := ⟨[rAgg api_EscalatorC, rAgg api_StopC, rAgg api_SpanC], []⟩
theorem newellaw01_DriveLimits_sp_ok : newellaw01_DriveLimits_sp.Ok := ⟨(allCons (rAgg_ok api_EscalatorC_ok api_EscalatorC_len) (allCons (rAgg_ok api_StopC_ok api_StopC_len) (allCons (rAgg_ok api_SpanC_ok api_SpanC_len) allNil))), eNil⟩
def newellaw01_DriveLimits_rs : Sp := ⟨[rBool], []⟩
theorem newellaw01_DriveLimits_rs_ok : newellaw01_DriveLimits_rs.Ok := ⟨(allCons rBool_ok allNil), eNil⟩
def newellaw01_DriveLimits_run {R : Type} (N : Nat) (args : List SV) (T : Tab) (kf : SV × Tab → Option R) : Option R :=
  newellaw01_DriveLimits_m N (Cod.dec api_EscalatorC (lget (toCs (lget args 0)))) (Cod.dec api_StopC (lget (toCs (lget args 1)))) (Cod.dec api_SpanC (lget (toCs (lget args 2)))) (fun q0 => kf (lget [.bool q0] 0, []))
def newellaw01_DriveLimits_lp {R : Type} (N : Nat) : Lp R := fun body S k => Option.none
noncomputable def newellaw01_DriveLimits_go {R : Type} (N : Nat) (args : List SV) (T : Tab) (kf : SV × Tab → Option R) : Option R :=
  newellaw01_DriveLimits N (Cod.dec api_EscalatorC (lget (toCs (lget args 0)))) (Cod.dec api_StopC (lget (toCs (lget args 1)))) (Cod.dec api_SpanC (lget (toCs (lget args 2)))) (fun q0 => kf (lget [.bool q0] 0, []))
noncomputable def newellaw01_DriveLimits_cal {R : Type} (N : Nat) : Cal R := callM (newelref01_Legal_cal N) 13 0 newellaw01_DriveLimits_sp (newellaw01_DriveLimits_go N)
theorem newellaw01_DriveLimits_cal_ok {R : Type} (N : Nat) : CalOk E.P (newellaw01_DriveLimits_cal (R := R) N) :=
  callM_ok hE (newelref01_Legal_cal_ok N) (lp := newellaw01_DriveLimits_lp N) (keys := []) kNil (by kernel_rfl) newellaw01_DriveLimits_sp_ok newellaw01_DriveLimits_rs_ok (fun args T kf => Eq.trans (newellaw01_DriveLimits_def N (Cod.dec api_EscalatorC (lget (toCs (lget args 0)))) (Cod.dec api_StopC (lget (toCs (lget args 1)))) (Cod.dec api_SpanC (lget (toCs (lget args 2)))) (fun q0 => kf (lget [.bool q0] 0, []))) (by kernel_rfl : newellaw01_DriveLimits_run N args T kf = fnM E (newelref01_Legal_cal N) (newellaw01_DriveLimits_lp N) 13 (newellaw01_DriveLimits_sp.vs args) (newellaw01_DriveLimits_sp.tab T) 0 (resK newellaw01_DriveLimits_rs kf)))

theorem driveLimits_true (e : api_Escalator) (s : api_Stop) (l : api_Span) (he : e.wf) (hs : s.wf) (hl : l.wf) : ∃ N, newellaw01_DriveLimits N e s l (fun q0 => okK (lget [.bool q0] 0, [])) = some () := by
  refine ⟨NN, ?_⟩
  rw [newellaw01_DriveLimits_def]
  unfold newellaw01_DriveLimits_m
  simp only [Far_eq, works_eq, Fastest_eq (show 2000 ≤ NN by decide), refFastest_eq (show 2000 ≤ NN by decide), Legal_eq, refLegal_eq, BEq.rfl, cond_true]
  cases decide ((e.Brakes.n : Int) > 10) <;> rfl
end
end Go.Proofs.Ytpcmpbellmiijaa
