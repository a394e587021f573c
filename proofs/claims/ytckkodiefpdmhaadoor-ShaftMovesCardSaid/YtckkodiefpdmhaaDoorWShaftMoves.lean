import Derived.Test.YtckkodiefpdmhaaDoorQ2
set_option maxRecDepth 100000
set_option maxHeartbeats 0
set_option linter.unusedVariables false
set_option linter.unusedSimpArgs false
namespace Go.Proofs.YtckkodiefpdmhaaDoor
open Go.Sx
noncomputable section
def newellaw09_ShaftMoves_m {R : Type} (N : Nat) (a1560 : api_Shaft) (a1561 : newellaw09_Crate) (k : Bool → Option R) : Option R :=
  newellaw09_Far N a1560 (fun r1562 =>
  bif r1562 then
   newellaw09_works N  (fun r1563 =>
   k r1563)
  else
   shaft_Fits N a1560 (newellaw09_Crate.Edges a1561) (newellaw09_Crate.Pose a1561) (fun r1564 r1565 =>
   newelref09_Fits N a1560 (newellaw09_Crate.Edges a1561) (newellaw09_Crate.Pose a1561) (fun r1566 r1567 =>
   shaft_Move N a1560 (newellaw09_Crate.Edges a1561) (newellaw09_Crate.Pose a1561) (newellaw09_Crate.Move a1561) (fun r1568 r1569 =>
   newelref09_Move N a1560 (newellaw09_Crate.Edges a1561) (newellaw09_Crate.Pose a1561) (newellaw09_Crate.Move a1561) (fun r1570 r1571 =>
   shaft_Check N a1560 (fun r1572 =>
   newelref09_Check N a1560 (fun r1573 =>
   bif r1572 == r1573 then
    bif r1564 == r1566 then
     bif r1565 == r1567 then
      bif Arr3_int.a0 (api_Pose.At r1568) == Arr3_int.a0 (api_Pose.At r1570) && (Arr3_int.a1 (api_Pose.At r1568) == Arr3_int.a1 (api_Pose.At r1570) && (Arr3_int.a2 (api_Pose.At r1568) == Arr3_int.a2 (api_Pose.At r1570) && (api_Pose.Turn r1568 == api_Pose.Turn r1570 && true))) then
       bif r1569 == r1571 then
        newellaw09_works N  (fun r1574 =>
        k r1574)
       else
        k false
      else
       k false
     else
      k false
    else
     k false
   else
    k false)))))))
noncomputable def newellaw09_ShaftMoves {R : Type} : Nat → api_Shaft → newellaw09_Crate → (Bool → Option R) → Option R := lock (@newellaw09_ShaftMoves_m R)
theorem newellaw09_ShaftMoves_def {R : Type} (N : Nat) (a1560 : api_Shaft) (a1561 : newellaw09_Crate) (k : Bool → Option R) : newellaw09_ShaftMoves N a1560 a1561 k = newellaw09_ShaftMoves_m N a1560 a1561 k := by unfold newellaw09_ShaftMoves; rw [lock_eq]
def newellaw09_ShaftMoves_sp : Sp := ⟨[rAgg api_ShaftC, rAgg newellaw09_CrateC], []⟩
theorem newellaw09_ShaftMoves_sp_ok : newellaw09_ShaftMoves_sp.Ok := ⟨(allCons (rAgg_ok api_ShaftC_ok api_ShaftC_len) (allCons (rAgg_ok newellaw09_CrateC_ok newellaw09_CrateC_len) allNil)), eNil⟩
def newellaw09_ShaftMoves_rs : Sp := ⟨[rBool], []⟩
theorem newellaw09_ShaftMoves_rs_ok : newellaw09_ShaftMoves_rs.Ok := ⟨(allCons rBool_ok allNil), eNil⟩
def newellaw09_ShaftMoves_run {R : Type} (N : Nat) (args : List SV) (T : Tab) (kf : SV × Tab → Option R) : Option R :=
  newellaw09_ShaftMoves_m N (Cod.dec api_ShaftC (lget (toCs (lget args 0)))) (Cod.dec newellaw09_CrateC (lget (toCs (lget args 1)))) (fun q0 => kf (lget [.bool q0] 0, []))
def newellaw09_ShaftMoves_lp {R : Type} (N : Nat) : Lp R := fun body S k => Option.none
noncomputable def newellaw09_ShaftMoves_go {R : Type} (N : Nat) (args : List SV) (T : Tab) (kf : SV × Tab → Option R) : Option R :=
  newellaw09_ShaftMoves N (Cod.dec api_ShaftC (lget (toCs (lget args 0)))) (Cod.dec newellaw09_CrateC (lget (toCs (lget args 1)))) (fun q0 => kf (lget [.bool q0] 0, []))
noncomputable def newellaw09_ShaftMoves_cal {R : Type} (N : Nat) : Cal R := callM (newellaw09_ready_cal N) 9 0 newellaw09_ShaftMoves_sp (newellaw09_ShaftMoves_go N)
theorem newellaw09_ShaftMoves_cal_ok {R : Type} (N : Nat) : CalOk E.P (newellaw09_ShaftMoves_cal (R := R) N) :=
  callM_ok hE (newellaw09_ready_cal_ok N) (lp := newellaw09_ShaftMoves_lp N) (jn := noJn) (keys := []) kNil (by kernel_rfl) (js := []) jNil (by kernel_rfl) newellaw09_ShaftMoves_sp_ok newellaw09_ShaftMoves_rs_ok (fun args T kf => Eq.trans (newellaw09_ShaftMoves_def N (Cod.dec api_ShaftC (lget (toCs (lget args 0)))) (Cod.dec newellaw09_CrateC (lget (toCs (lget args 1)))) (fun q0 => kf (lget [.bool q0] 0, []))) (by kernel_rfl : newellaw09_ShaftMoves_run N args T kf = fnM E (newellaw09_ready_cal N) (newellaw09_ShaftMoves_lp N) (noJn) 9 (newellaw09_ShaftMoves_sp.vs args) (newellaw09_ShaftMoves_sp.tab T) 0 (resK newellaw09_ShaftMoves_rs kf)))
theorem poseB (p : api_Pose) : (p.At.a0 == p.At.a0 && (p.At.a1 == p.At.a1 && (p.At.a2 == p.At.a2 && (p.Turn == p.Turn && true)))) = true := by simp
theorem shaftMoves_true (s : api_Shaft) (c : newellaw09_Crate) (hs : s.wf) (hc : c.wf) : ∃ N, newellaw09_ShaftMoves N s c (fun q0 => okK (lget [.bool q0] 0, [])) = some () := by
  refine ⟨200200, ?_⟩
  rw [newellaw09_ShaftMoves_def]
  unfold newellaw09_ShaftMoves_m
  have hN : (300 : Nat) ≤ 200200 := by omega
  have hM : (200100 : Nat) ≤ 200200 := by omega
  simp only [farS_eq, works_eq _ hM, shFitsF_eq _ _ _ _ hN, refFitsF_eq _ _ _ _ hN, shMoveF_eq _ _ _ _ _ hN, refMove_eq _ _ _ _ _ hN, shCheck_eq _ _ hN, refCheck_eq _ _ hN, beq_self_eq_true, cond_true, poseB, Bool.and_self]
  cases decide (((s.Walls.n : Nat) : Int) > 300) <;> rfl
end
end Go.Proofs.YtckkodiefpdmhaaDoor
