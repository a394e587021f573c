/-
  The model of the statement LiftGrips, that it is what the code does (written by a program), and that it answers true.
-/
import Derived.Test.YtceeaimmelaenaaP7
set_option maxRecDepth 100000
set_option maxHeartbeats 0
set_option linter.unusedVariables false
set_option linter.unusedSimpArgs false
namespace Go.Proofs.Ytceeaimmelaenaa
open Go.Sx
noncomputable section


def newellaw05_LiftGrips_m {R : Type} (N : Nat) (a991 : api_Lift) (a992 : newellaw05_Spans) (k : Bool → Option R) : Option R :=
  newellaw05_Far N a991 (fun r993 =>
  bif r993 then
   newellaw05_works N  (fun r994 =>
   k r994)
  else
   lift_Grip N a991 (newellaw05_Spans.Heights a992) (newellaw05_Spans.Loads a992) (fun r995 r996 =>
   newelref05_Grip N a991 (newellaw05_Spans.Heights a992) (newellaw05_Spans.Loads a992) (fun r997 r998 =>
   lift_Balance N a991 (newellaw05_Spans.Loads a992) (fun r999 r1000 r1001 =>
   newelref05_Balance N a991 (newellaw05_Spans.Loads a992) (fun r1002 r1003 r1004 =>
   bif r995 == r997 then
    bif r996 == r998 then
     bif r999 == r1002 then
      bif r1000 == r1003 then
       bif r1001 == r1004 then
        newellaw05_works N  (fun r1005 =>
        k r1005)
       else
        k false
      else
       k false
     else
      k false
    else
     k false
   else
    k false)))))
noncomputable def newellaw05_LiftGrips {R : Type} : Nat → api_Lift → newellaw05_Spans → (Bool → Option R) → Option R := lock (@newellaw05_LiftGrips_m R)
theorem newellaw05_LiftGrips_def {R : Type} (N : Nat) (a991 : api_Lift) (a992 : newellaw05_Spans) (k : Bool → Option R) : newellaw05_LiftGrips N a991 a992 k = newellaw05_LiftGrips_m N a991 a992 k := by unfold newellaw05_LiftGrips; rw [lock_eq]
def newellaw05_LiftGrips_sp : Sp := ⟨[rAgg api_LiftC, rAgg newellaw05_SpansC], []⟩
theorem newellaw05_LiftGrips_sp_ok : newellaw05_LiftGrips_sp.Ok := ⟨(allCons (rAgg_ok api_LiftC_ok api_LiftC_len) (allCons (rAgg_ok newellaw05_SpansC_ok newellaw05_SpansC_len) allNil)), eNil⟩
def newellaw05_LiftGrips_rs : Sp := ⟨[rBool], []⟩
theorem newellaw05_LiftGrips_rs_ok : newellaw05_LiftGrips_rs.Ok := ⟨(allCons rBool_ok allNil), eNil⟩
def newellaw05_LiftGrips_run {R : Type} (N : Nat) (args : List SV) (T : Tab) (kf : SV × Tab → Option R) : Option R :=
  newellaw05_LiftGrips_m N (Cod.dec api_LiftC (lget (toCs (lget args 0)))) (Cod.dec newellaw05_SpansC (lget (toCs (lget args 1)))) (fun q0 => kf (lget [.bool q0] 0, []))
def newellaw05_LiftGrips_lp {R : Type} (N : Nat) : Lp R := fun body S k => Option.none
noncomputable def newellaw05_LiftGrips_go {R : Type} (N : Nat) (args : List SV) (T : Tab) (kf : SV × Tab → Option R) : Option R :=
  newellaw05_LiftGrips N (Cod.dec api_LiftC (lget (toCs (lget args 0)))) (Cod.dec newellaw05_SpansC (lget (toCs (lget args 1)))) (fun q0 => kf (lget [.bool q0] 0, []))
noncomputable def newellaw05_LiftGrips_cal {R : Type} (N : Nat) : Cal R := callM (newellaw05_works_cal N) 6 0 newellaw05_LiftGrips_sp (newellaw05_LiftGrips_go N)
theorem newellaw05_LiftGrips_cal_ok {R : Type} (N : Nat) : CalOk E.P (newellaw05_LiftGrips_cal (R := R) N) :=
  callM_ok hE (newellaw05_works_cal_ok N) (lp := newellaw05_LiftGrips_lp N) (keys := []) kNil (by kernel_rfl) newellaw05_LiftGrips_sp_ok newellaw05_LiftGrips_rs_ok (fun args T kf => Eq.trans (newellaw05_LiftGrips_def N (Cod.dec api_LiftC (lget (toCs (lget args 0)))) (Cod.dec newellaw05_SpansC (lget (toCs (lget args 1)))) (fun q0 => kf (lget [.bool q0] 0, []))) (by kernel_rfl : newellaw05_LiftGrips_run N args T kf = fnM E (newellaw05_works_cal N) (newellaw05_LiftGrips_lp N) 6 (newellaw05_LiftGrips_sp.vs args) (newellaw05_LiftGrips_sp.tab T) 0 (resK newellaw05_LiftGrips_rs kf)))

theorem liftGrips_true (l : api_Lift) (s : newellaw05_Spans) (hl : l.wf) (hp : s.wf) : ∃ N, newellaw05_LiftGrips N l s (fun q0 => okK (lget [.bool q0] 0, [])) = some () := by
  refine ⟨NN, ?_⟩
  rw [newellaw05_LiftGrips_def]
  unfold newellaw05_LiftGrips_m
  simp only [Far_eq, works_eq, Grip_eq (show 1001 ≤ NN by decide), refGrip_eq (show 1001 ≤ NN by decide), Balance_eq (show 20 ≤ NN by decide), refBalance_eq (show 20 ≤ NN by decide), BEq.rfl, cond_true]
  cases decide ((l.Floors.n : Int) > 30) <;> rfl
end
end Go.Proofs.Ytceeaimmelaenaa
