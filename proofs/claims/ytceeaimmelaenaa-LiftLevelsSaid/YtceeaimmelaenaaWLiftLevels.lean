/-
  The model of the statement LiftLevels, that it is what the code does (written by a program), and that it answers true.
-/
import Derived.Test.YtceeaimmelaenaaP9
set_option maxRecDepth 100000
set_option maxHeartbeats 0
set_option linter.unusedVariables false
set_option linter.unusedSimpArgs false
namespace Go.Proofs.Ytceeaimmelaenaa
open Go.Sx
noncomputable section


def newellaw05_LiftLevels_m {R : Type} (N : Nat) (a1080 : api_Lift) (a1081 : newellaw05_Change) (a1082 : Arr Int) (k : Bool → Option R) : Option R :=
  newellaw05_Far N a1080 (fun r1083 =>
  bif r1083 then
   newellaw05_works N  (fun r1084 =>
   k r1084)
  else
   bif decide ((↑(Arr.n a1082) : Int) > (80 : Int)) then
    newellaw05_works N  (fun r1085 =>
    k r1085)
   else
    lift_Sink N a1080 (newellaw05_Change.Floor a1081) (newellaw05_Change.From a1081) (newellaw05_Change.To a1081) (fun r1086 r1087 =>
    newelref05_Sink N a1080 (newellaw05_Change.Floor a1081) (newellaw05_Change.From a1081) (newellaw05_Change.To a1081) (fun r1088 r1089 =>
    lift_Levels N a1080 (newellaw05_Change.Floor a1081) a1082 (fun r1090 r1091 r1092 r1093 r1094 =>
    newelref05_Levels N a1080 (newellaw05_Change.Floor a1081) a1082 (fun r1095 r1096 r1097 r1098 r1099 =>
    bif r1086 == r1088 then
     bif r1087 == r1089 then
      bif r1090 == r1095 then
       newellaw05_sameInts N r1092 r1097 (fun r1100 =>
       bif r1100 then
        newellaw05_sameInts N r1094 r1099 (fun r1101 =>
        bif r1101 then
         newellaw05_works N  (fun r1102 =>
         k r1102)
        else
         k false)
       else
        k false)
      else
       k false
     else
      k false
    else
     k false)))))
noncomputable def newellaw05_LiftLevels {R : Type} : Nat → api_Lift → newellaw05_Change → Arr Int → (Bool → Option R) → Option R := lock (@newellaw05_LiftLevels_m R)
theorem newellaw05_LiftLevels_def {R : Type} (N : Nat) (a1080 : api_Lift) (a1081 : newellaw05_Change) (a1082 : Arr Int) (k : Bool → Option R) : newellaw05_LiftLevels N a1080 a1081 a1082 k = newellaw05_LiftLevels_m N a1080 a1081 a1082 k := by unfold newellaw05_LiftLevels; rw [lock_eq]
def newellaw05_LiftLevels_sp : Sp := ⟨[rAgg api_LiftC, rAgg newellaw05_ChangeC, rSl intC], []⟩
theorem newellaw05_LiftLevels_sp_ok : newellaw05_LiftLevels_sp.Ok := ⟨(allCons (rAgg_ok api_LiftC_ok api_LiftC_len) (allCons (rAgg_ok newellaw05_ChangeC_ok newellaw05_ChangeC_len) (allCons (rSl_ok intC_ok) allNil))), eNil⟩
def newellaw05_LiftLevels_rs : Sp := ⟨[rBool], []⟩
theorem newellaw05_LiftLevels_rs_ok : newellaw05_LiftLevels_rs.Ok := ⟨(allCons rBool_ok allNil), eNil⟩
def newellaw05_LiftLevels_run {R : Type} (N : Nat) (args : List SV) (T : Tab) (kf : SV × Tab → Option R) : Option R :=
  newellaw05_LiftLevels_m N (Cod.dec api_LiftC (lget (toCs (lget args 0)))) (Cod.dec newellaw05_ChangeC (lget (toCs (lget args 1)))) (lstC intC (lget args 2)) (fun q0 => kf (lget [.bool q0] 0, []))
def newellaw05_LiftLevels_lp {R : Type} (N : Nat) : Lp R := fun body S k => Option.none
noncomputable def newellaw05_LiftLevels_go {R : Type} (N : Nat) (args : List SV) (T : Tab) (kf : SV × Tab → Option R) : Option R :=
  newellaw05_LiftLevels N (Cod.dec api_LiftC (lget (toCs (lget args 0)))) (Cod.dec newellaw05_ChangeC (lget (toCs (lget args 1)))) (lstC intC (lget args 2)) (fun q0 => kf (lget [.bool q0] 0, []))
noncomputable def newellaw05_LiftLevels_cal {R : Type} (N : Nat) : Cal R := callM (newellaw05_works_cal N) 12 0 newellaw05_LiftLevels_sp (newellaw05_LiftLevels_go N)
theorem newellaw05_LiftLevels_cal_ok {R : Type} (N : Nat) : CalOk E.P (newellaw05_LiftLevels_cal (R := R) N) :=
  callM_ok hE (newellaw05_works_cal_ok N) (lp := newellaw05_LiftLevels_lp N) (keys := []) kNil (by kernel_rfl) newellaw05_LiftLevels_sp_ok newellaw05_LiftLevels_rs_ok (fun args T kf => Eq.trans (newellaw05_LiftLevels_def N (Cod.dec api_LiftC (lget (toCs (lget args 0)))) (Cod.dec newellaw05_ChangeC (lget (toCs (lget args 1)))) (lstC intC (lget args 2)) (fun q0 => kf (lget [.bool q0] 0, []))) (by kernel_rfl : newellaw05_LiftLevels_run N args T kf = fnM E (newellaw05_works_cal N) (newellaw05_LiftLevels_lp N) 12 (newellaw05_LiftLevels_sp.vs args) (newellaw05_LiftLevels_sp.tab T) 0 (resK newellaw05_LiftLevels_rs kf)))

theorem liftLevels_true (l : api_Lift) (c : newellaw05_Change) (o : Arr Int) (hl : l.wf) (hw : c.wf) (ho : o.n ≤ maxLen) (hoi : ∀ i, i < o.n → i64 (o.f i)) : ∃ N, newellaw05_LiftLevels N l c o (fun q0 => okK (lget [.bool q0] 0, [])) = some () := by
  refine ⟨NN, ?_⟩
  have hNN : NN = 20000 := rfl
  rw [newellaw05_LiftLevels_def]
  unfold newellaw05_LiftLevels_m
  simp only [Far_eq, works_eq]
  cases decide ((l.Floors.n : Int) > 30)
  rotate_left
  · rfl
  by_cases hon : (o.n : Int) > 80
  · simp only [hon, decide_true, cond_true, cond_false]; rfl
  have hb : (lvV l c.Floor o).2.1.n ≤ o.n ∧ (lvV l c.Floor o).2.2.2.n ≤ o.n := by
    by_cases he : lvE l c.Floor o = 0
    · have := lvV_ok he
      exact ⟨Nat.le_of_eq this.n, this.m⟩
    · unfold lvV
      rw [if_neg he]
      exact ⟨Nat.zero_le _, Nat.zero_le _⟩
  simp only [hon, decide_false, cond_false, Sink_eq (show 20 ≤ NN by decide), refSink_eq (show 20 ≤ NN by decide), Levels_eq (show 61 ≤ NN by decide), refLevels_eq (show 61 ≤ NN by decide), BEq.rfl, cond_true,
    same_eq (a := (lvV l c.Floor o).2.1) rfl (fun _ _ => rfl) (show _ < NN by omega) (by omega), same_eq (a := (lvV l c.Floor o).2.2.2) rfl (fun _ _ => rfl) (show _ < NN by omega) (by omega)]
  rfl
end
end Go.Proofs.Ytceeaimmelaenaa
