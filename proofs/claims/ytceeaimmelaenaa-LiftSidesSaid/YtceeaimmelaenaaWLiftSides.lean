/-
  The model of the statement LiftSides, that it is what the code does (written by a program), and that it answers true.
-/
import Derived.Test.YtceeaimmelaenaaP6
set_option maxRecDepth 100000
set_option maxHeartbeats 0
set_option linter.unusedVariables false
set_option linter.unusedSimpArgs false
namespace Go.Proofs.Ytceeaimmelaenaa
open Go.Sx
noncomputable section


def newellaw05_LiftSides_m {R : Type} (N : Nat) (a1006 : api_Lift) (a1007 : newellaw05_Place) (k : Bool → Option R) : Option R :=
  newellaw05_Far N a1006 (fun r1008 =>
  bif r1008 then
   newellaw05_works N  (fun r1009 =>
   k r1009)
  else
   lift_Sides N a1006 (newellaw05_Place.Height a1007) (newellaw05_Place.Load a1007) (fun r1010 r1011 r1012 =>
   newelref05_Sides N a1006 (newellaw05_Place.Height a1007) (newellaw05_Place.Load a1007) (fun r1013 r1014 r1015 =>
   lift_Slips N a1006 (newellaw05_Place.Height a1007) (newellaw05_Place.Load a1007) (newellaw05_Place.Accel a1007) (fun r1016 r1017 =>
   newelref05_Slips N a1006 (newellaw05_Place.Height a1007) (newellaw05_Place.Load a1007) (newellaw05_Place.Accel a1007) (fun r1018 r1019 =>
   lift_Check N a1006 (fun r1020 =>
   newelref05_Check N a1006 (fun r1021 =>
   bif r1020 == r1021 then
    bif r1010 == r1013 then
     bif r1011 == r1014 then
      bif r1012 == r1015 then
       bif r1016 == r1018 then
        bif r1017 == r1019 then
         newellaw05_works N  (fun r1022 =>
         k r1022)
        else
         k false
       else
        k false
      else
       k false
     else
      k false
    else
     k false
   else
    k false)))))))
noncomputable def newellaw05_LiftSides {R : Type} : Nat → api_Lift → newellaw05_Place → (Bool → Option R) → Option R := lock (@newellaw05_LiftSides_m R)
theorem newellaw05_LiftSides_def {R : Type} (N : Nat) (a1006 : api_Lift) (a1007 : newellaw05_Place) (k : Bool → Option R) : newellaw05_LiftSides N a1006 a1007 k = newellaw05_LiftSides_m N a1006 a1007 k := by unfold newellaw05_LiftSides; rw [lock_eq]
def newellaw05_LiftSides_sp : Sp := ⟨[rAgg api_LiftC, rAgg newellaw05_PlaceC], []⟩
theorem newellaw05_LiftSides_sp_ok : newellaw05_LiftSides_sp.Ok := ⟨(allCons (rAgg_ok api_LiftC_ok api_LiftC_len) (allCons (rAgg_ok newellaw05_PlaceC_ok newellaw05_PlaceC_len) allNil)), eNil⟩
def newellaw05_LiftSides_rs : Sp := ⟨[rBool], []⟩
theorem newellaw05_LiftSides_rs_ok : newellaw05_LiftSides_rs.Ok := ⟨(allCons rBool_ok allNil), eNil⟩
def newellaw05_LiftSides_run {R : Type} (N : Nat) (args : List SV) (T : Tab) (kf : SV × Tab → Option R) : Option R :=
  newellaw05_LiftSides_m N (Cod.dec api_LiftC (lget (toCs (lget args 0)))) (Cod.dec newellaw05_PlaceC (lget (toCs (lget args 1)))) (fun q0 => kf (lget [.bool q0] 0, []))
def newellaw05_LiftSides_lp {R : Type} (N : Nat) : Lp R := fun body S k => Option.none
noncomputable def newellaw05_LiftSides_go {R : Type} (N : Nat) (args : List SV) (T : Tab) (kf : SV × Tab → Option R) : Option R :=
  newellaw05_LiftSides N (Cod.dec api_LiftC (lget (toCs (lget args 0)))) (Cod.dec newellaw05_PlaceC (lget (toCs (lget args 1)))) (fun q0 => kf (lget [.bool q0] 0, []))
noncomputable def newellaw05_LiftSides_cal {R : Type} (N : Nat) : Cal R := callM (newellaw05_works_cal N) 7 0 newellaw05_LiftSides_sp (newellaw05_LiftSides_go N)
theorem newellaw05_LiftSides_cal_ok {R : Type} (N : Nat) : CalOk E.P (newellaw05_LiftSides_cal (R := R) N) :=
  callM_ok hE (newellaw05_works_cal_ok N) (lp := newellaw05_LiftSides_lp N) (keys := []) kNil (by kernel_rfl) newellaw05_LiftSides_sp_ok newellaw05_LiftSides_rs_ok (fun args T kf => Eq.trans (newellaw05_LiftSides_def N (Cod.dec api_LiftC (lget (toCs (lget args 0)))) (Cod.dec newellaw05_PlaceC (lget (toCs (lget args 1)))) (fun q0 => kf (lget [.bool q0] 0, []))) (by kernel_rfl : newellaw05_LiftSides_run N args T kf = fnM E (newellaw05_works_cal N) (newellaw05_LiftSides_lp N) 7 (newellaw05_LiftSides_sp.vs args) (newellaw05_LiftSides_sp.tab T) 0 (resK newellaw05_LiftSides_rs kf)))

theorem liftSides_true (l : api_Lift) (p : newellaw05_Place) (hl : l.wf) (hp : p.wf) : ∃ N, newellaw05_LiftSides N l p (fun q0 => okK (lget [.bool q0] 0, [])) = some () := by
  refine ⟨NN, ?_⟩
  rw [newellaw05_LiftSides_def]
  unfold newellaw05_LiftSides_m
  simp only [Far_eq, works_eq, Sides_eq (show 20 ≤ NN by decide), RefSides_eq (show 20 ≤ NN by decide), Slips_eq (show 20 ≤ NN by decide), RefSlips_eq (show 20 ≤ NN by decide), Check_eq (show 20 ≤ NN by decide), refCheck_eq (show 20 ≤ NN by decide), BEq.rfl, cond_true]
  cases decide ((l.Floors.n : Int) > 30) <;> rfl
end
end Go.Proofs.Ytceeaimmelaenaa
