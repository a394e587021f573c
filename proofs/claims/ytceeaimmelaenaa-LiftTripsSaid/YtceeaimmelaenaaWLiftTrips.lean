/-
  The model of the statement LiftTrips, that it is what the code does (written by a program), and that it answers true.
-/
import Derived.Test.YtceeaimmelaenaaP7
set_option maxRecDepth 100000
set_option maxHeartbeats 0
set_option linter.unusedVariables false
set_option linter.unusedSimpArgs false
namespace Go.Proofs.Ytceeaimmelaenaa
open Go.Sx
noncomputable section


def newellaw05_LiftTrips_m {R : Type} (N : Nat) (a1023 : api_Lift) (a1024 : newellaw05_Way) (k : Bool → Option R) : Option R :=
  newellaw05_Far N a1023 (fun r1025 =>
  bif r1025 then
   newellaw05_works N  (fun r1026 =>
   k r1026)
  else
   lift_Reach N a1023 (newellaw05_Way.Ticks a1024) (fun r1027 r1028 =>
   newelref05_Reach N a1023 (newellaw05_Way.Ticks a1024) (fun r1029 r1030 =>
   lift_Trip N a1023 (newellaw05_Way.From a1024) (newellaw05_Way.To a1024) (fun r1031 r1032 r1033 =>
   newelref05_Trip N a1023 (newellaw05_Way.From a1024) (newellaw05_Way.To a1024) (fun r1034 r1035 r1036 =>
   bif r1027 == r1029 then
    bif r1028 == r1030 then
     bif r1031 == r1034 then
      newellaw05_sameInts N r1033 r1036 (fun r1037 =>
      bif r1037 then
       newellaw05_works N  (fun r1038 =>
       k r1038)
      else
       k false)
     else
      k false
    else
     k false
   else
    k false)))))
noncomputable def newellaw05_LiftTrips {R : Type} : Nat → api_Lift → newellaw05_Way → (Bool → Option R) → Option R := lock (@newellaw05_LiftTrips_m R)
theorem newellaw05_LiftTrips_def {R : Type} (N : Nat) (a1023 : api_Lift) (a1024 : newellaw05_Way) (k : Bool → Option R) : newellaw05_LiftTrips N a1023 a1024 k = newellaw05_LiftTrips_m N a1023 a1024 k := by unfold newellaw05_LiftTrips; rw [lock_eq]
def newellaw05_LiftTrips_sp : Sp := ⟨[rAgg api_LiftC, rAgg newellaw05_WayC], []⟩
theorem newellaw05_LiftTrips_sp_ok : newellaw05_LiftTrips_sp.Ok := ⟨(allCons (rAgg_ok api_LiftC_ok api_LiftC_len) (allCons (rAgg_ok newellaw05_WayC_ok newellaw05_WayC_len) allNil)), eNil⟩
def newellaw05_LiftTrips_rs : Sp := ⟨[rBool], []⟩
theorem newellaw05_LiftTrips_rs_ok : newellaw05_LiftTrips_rs.Ok := ⟨(allCons rBool_ok allNil), eNil⟩
def newellaw05_LiftTrips_run {R : Type} (N : Nat) (args : List SV) (T : Tab) (kf : SV × Tab → Option R) : Option R :=
  newellaw05_LiftTrips_m N (Cod.dec api_LiftC (lget (toCs (lget args 0)))) (Cod.dec newellaw05_WayC (lget (toCs (lget args 1)))) (fun q0 => kf (lget [.bool q0] 0, []))
def newellaw05_LiftTrips_lp {R : Type} (N : Nat) : Lp R := fun body S k => Option.none
noncomputable def newellaw05_LiftTrips_go {R : Type} (N : Nat) (args : List SV) (T : Tab) (kf : SV × Tab → Option R) : Option R :=
  newellaw05_LiftTrips N (Cod.dec api_LiftC (lget (toCs (lget args 0)))) (Cod.dec newellaw05_WayC (lget (toCs (lget args 1)))) (fun q0 => kf (lget [.bool q0] 0, []))
noncomputable def newellaw05_LiftTrips_cal {R : Type} (N : Nat) : Cal R := callM (newellaw05_works_cal N) 8 0 newellaw05_LiftTrips_sp (newellaw05_LiftTrips_go N)
theorem newellaw05_LiftTrips_cal_ok {R : Type} (N : Nat) : CalOk E.P (newellaw05_LiftTrips_cal (R := R) N) :=
  callM_ok hE (newellaw05_works_cal_ok N) (lp := newellaw05_LiftTrips_lp N) (keys := []) kNil (by kernel_rfl) newellaw05_LiftTrips_sp_ok newellaw05_LiftTrips_rs_ok (fun args T kf => Eq.trans (newellaw05_LiftTrips_def N (Cod.dec api_LiftC (lget (toCs (lget args 0)))) (Cod.dec newellaw05_WayC (lget (toCs (lget args 1)))) (fun q0 => kf (lget [.bool q0] 0, []))) (by kernel_rfl : newellaw05_LiftTrips_run N args T kf = fnM E (newellaw05_works_cal N) (newellaw05_LiftTrips_lp N) 8 (newellaw05_LiftTrips_sp.vs args) (newellaw05_LiftTrips_sp.tab T) 0 (resK newellaw05_LiftTrips_rs kf)))

theorem liftTrips_true (l : api_Lift) (w : newellaw05_Way) (hl : l.wf) (hw : w.wf) : ∃ N, newellaw05_LiftTrips N l w (fun q0 => okK (lget [.bool q0] 0, [])) = some () := by
  refine ⟨NN, ?_⟩
  rw [newellaw05_LiftTrips_def]
  unfold newellaw05_LiftTrips_m
  obtain ⟨b1, a1, h1, e1⟩ := Trip_eq (show 1001 ≤ NN by decide) l w.From w.To
  obtain ⟨b2, a2, h2, e2⟩ := refTrip_eq (show 1001 ≤ NN by decide) l w.From w.To
  have hn : tripN l w.From w.To ≤ 1000 := tripN_le l w.From w.To
  simp only [Far_eq, works_eq, Reach_eq (show 1001 ≤ NN by decide), refReach_eq (show 1001 ≤ NN by decide), e1, e2, same_is h1 h2 (show tripN l w.From w.To < NN by have : NN = 20000 := rfl; omega) (by omega), BEq.rfl, cond_true]
  cases decide ((l.Floors.n : Int) > 30) <;> rfl
end
end Go.Proofs.Ytceeaimmelaenaa
