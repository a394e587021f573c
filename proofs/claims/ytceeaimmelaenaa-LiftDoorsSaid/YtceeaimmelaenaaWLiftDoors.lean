/-
  The model of the statement LiftDoors, that it is what the code does (written by a program), and that it answers true.
-/
import Derived.Test.YtceeaimmelaenaaP12
set_option maxRecDepth 100000
set_option maxHeartbeats 0
set_option linter.unusedVariables false
set_option linter.unusedSimpArgs false
namespace Go.Proofs.Ytceeaimmelaenaa
open Go.Sx
noncomputable section


def newellaw05_LiftDoors_m {R : Type} (N : Nat) (a1103 : api_Door) (a1104 : Arr Int) (a1105 : Int) (k : Bool → Option R) : Option R :=
  bif decide ((↑(Arr.n a1104) : Int) > (40 : Int)) then
   newellaw05_works N  (fun r1106 =>
   k r1106)
  else
   lift_Doors N a1103 a1104 (fun r1107 r1108 r1109 =>
   newelref05_Doors N a1103 a1104 (fun r1110 r1111 r1112 =>
   lift_Dwell N a1103 a1105 (fun r1113 r1114 =>
   newelref05_Dwell N a1103 a1105 (fun r1115 r1116 =>
   bif r1107 == r1110 then
    newellaw05_sameInts N r1109 r1112 (fun r1117 =>
    bif r1117 then
     bif r1113 == r1115 then
      bif r1114 == r1116 then
       newellaw05_works N  (fun r1118 =>
       k r1118)
      else
       k false
     else
      k false
    else
     k false)
   else
    k false))))
noncomputable def newellaw05_LiftDoors {R : Type} : Nat → api_Door → Arr Int → Int → (Bool → Option R) → Option R := lock (@newellaw05_LiftDoors_m R)
theorem newellaw05_LiftDoors_def {R : Type} (N : Nat) (a1103 : api_Door) (a1104 : Arr Int) (a1105 : Int) (k : Bool → Option R) : newellaw05_LiftDoors N a1103 a1104 a1105 k = newellaw05_LiftDoors_m N a1103 a1104 a1105 k := by unfold newellaw05_LiftDoors; rw [lock_eq]
def newellaw05_LiftDoors_sp : Sp := ⟨[rAgg api_DoorC, rSl intC, rInt .i64], []⟩
theorem newellaw05_LiftDoors_sp_ok : newellaw05_LiftDoors_sp.Ok := ⟨(allCons (rAgg_ok api_DoorC_ok api_DoorC_len) (allCons (rSl_ok intC_ok) (allCons (rInt_ok .i64) allNil))), eNil⟩
def newellaw05_LiftDoors_rs : Sp := ⟨[rBool], []⟩
theorem newellaw05_LiftDoors_rs_ok : newellaw05_LiftDoors_rs.Ok := ⟨(allCons rBool_ok allNil), eNil⟩
def newellaw05_LiftDoors_run {R : Type} (N : Nat) (args : List SV) (T : Tab) (kf : SV × Tab → Option R) : Option R :=
  newellaw05_LiftDoors_m N (Cod.dec api_DoorC (lget (toCs (lget args 0)))) (lstC intC (lget args 1)) (toI (lget args 2)) (fun q0 => kf (lget [.bool q0] 0, []))
def newellaw05_LiftDoors_lp {R : Type} (N : Nat) : Lp R := fun body S k => Option.none
noncomputable def newellaw05_LiftDoors_go {R : Type} (N : Nat) (args : List SV) (T : Tab) (kf : SV × Tab → Option R) : Option R :=
  newellaw05_LiftDoors N (Cod.dec api_DoorC (lget (toCs (lget args 0)))) (lstC intC (lget args 1)) (toI (lget args 2)) (fun q0 => kf (lget [.bool q0] 0, []))
noncomputable def newellaw05_LiftDoors_cal {R : Type} (N : Nat) : Cal R := callM (newellaw05_works_cal N) 13 0 newellaw05_LiftDoors_sp (newellaw05_LiftDoors_go N)
theorem newellaw05_LiftDoors_cal_ok {R : Type} (N : Nat) : CalOk E.P (newellaw05_LiftDoors_cal (R := R) N) :=
  callM_ok hE (newellaw05_works_cal_ok N) (lp := newellaw05_LiftDoors_lp N) (keys := []) kNil (by kernel_rfl) newellaw05_LiftDoors_sp_ok newellaw05_LiftDoors_rs_ok (fun args T kf => Eq.trans (newellaw05_LiftDoors_def N (Cod.dec api_DoorC (lget (toCs (lget args 0)))) (lstC intC (lget args 1)) (toI (lget args 2)) (fun q0 => kf (lget [.bool q0] 0, []))) (by kernel_rfl : newellaw05_LiftDoors_run N args T kf = fnM E (newellaw05_works_cal N) (newellaw05_LiftDoors_lp N) 13 (newellaw05_LiftDoors_sp.vs args) (newellaw05_LiftDoors_sp.tab T) 0 (resK newellaw05_LiftDoors_rs kf)))

theorem liftDoors_true (d : api_Door) (o : Arr Int) (n : Int) (hd : d.wf) (ho : o.n ≤ maxLen) (hoi : ∀ i, i < o.n → i64 (o.f i)) (hn : i64 n) : ∃ N, newellaw05_LiftDoors N d o n (fun q0 => okK (lget [.bool q0] 0, [])) = some () := by
  refine ⟨NN, ?_⟩
  have hNN : NN = 20000 := rfl
  rw [newellaw05_LiftDoors_def]
  unfold newellaw05_LiftDoors_m
  simp only [works_eq]
  by_cases hon : (o.n : Int) > 40
  · simp only [hon, decide_true, cond_true]; rfl
  obtain ⟨b1, a1, i1, q1⟩ := Doors_eq (show 10000 ≤ NN by decide) d o (by omega) (by omega)
  obtain ⟨b2, a2, i2, q2⟩ := refDoors_eq (show 10000 ≤ NN by decide) d o (by omega) (by omega)
  have hle : doorsN d o ≤ 7000 := by
    by_cases he : doorsE d o = 0
    · obtain ⟨h1, h2⟩ := doorsE_zero.1 he
      have := (doors_all h1 h2).2.2
      omega
    · unfold doorsN
      rw [dif_neg (fun hh => he hh.1)]
      omega
  simp only [hon, decide_false, cond_false, q1, q2, Dwell_eq, refDwell_eq, BEq.rfl, cond_true, same_is i1 i2 (show doorsN d o < NN by omega) (by omega)]
  rfl
end
end Go.Proofs.Ytceeaimmelaenaa
