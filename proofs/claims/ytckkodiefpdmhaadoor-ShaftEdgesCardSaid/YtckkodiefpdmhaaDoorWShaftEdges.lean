import Derived.Test.YtckkodiefpdmhaaDoorQ2
set_option maxRecDepth 100000
set_option maxHeartbeats 0
set_option linter.unusedVariables false
set_option linter.unusedSimpArgs false
namespace Go.Proofs.YtckkodiefpdmhaaDoor
open Go.Sx
noncomputable section
def newellaw09_ShaftEdges_m {R : Type} (N : Nat) (a1575 : api_Shaft) (a1576 : newellaw09_Crate) (a1577 : api_Pose) (k : Bool → Option R) : Option R :=
  newellaw09_Far N a1575 (fun r1578 =>
  bif r1578 then
   newellaw09_works N  (fun r1579 =>
   k r1579)
  else
   shaft_Largest N a1575 (newellaw09_Crate.Edges a1576) (newellaw09_Crate.Pose a1576) a1577 (newellaw09_Crate.Move a1576) (fun r1580 r1581 =>
   newelref09_Largest N a1575 (newellaw09_Crate.Edges a1576) (newellaw09_Crate.Pose a1576) a1577 (newellaw09_Crate.Move a1576) (fun r1582 r1583 =>
   bif r1580 == r1582 then
    bif r1581 == r1583 then
     newellaw09_works N  (fun r1584 =>
     k r1584)
    else
     k false
   else
    k false)))
noncomputable def newellaw09_ShaftEdges {R : Type} : Nat → api_Shaft → newellaw09_Crate → api_Pose → (Bool → Option R) → Option R := lock (@newellaw09_ShaftEdges_m R)
theorem newellaw09_ShaftEdges_def {R : Type} (N : Nat) (a1575 : api_Shaft) (a1576 : newellaw09_Crate) (a1577 : api_Pose) (k : Bool → Option R) : newellaw09_ShaftEdges N a1575 a1576 a1577 k = newellaw09_ShaftEdges_m N a1575 a1576 a1577 k := by unfold newellaw09_ShaftEdges; rw [lock_eq]
def newellaw09_ShaftEdges_sp : Sp := ⟨[rAgg api_ShaftC, rAgg newellaw09_CrateC, rAgg api_PoseC], []⟩
theorem newellaw09_ShaftEdges_sp_ok : newellaw09_ShaftEdges_sp.Ok := ⟨(allCons (rAgg_ok api_ShaftC_ok api_ShaftC_len) (allCons (rAgg_ok newellaw09_CrateC_ok newellaw09_CrateC_len) (allCons (rAgg_ok api_PoseC_ok api_PoseC_len) allNil))), eNil⟩
def newellaw09_ShaftEdges_rs : Sp := ⟨[rBool], []⟩
theorem newellaw09_ShaftEdges_rs_ok : newellaw09_ShaftEdges_rs.Ok := ⟨(allCons rBool_ok allNil), eNil⟩
def newellaw09_ShaftEdges_run {R : Type} (N : Nat) (args : List SV) (T : Tab) (kf : SV × Tab → Option R) : Option R :=
  newellaw09_ShaftEdges_m N (Cod.dec api_ShaftC (lget (toCs (lget args 0)))) (Cod.dec newellaw09_CrateC (lget (toCs (lget args 1)))) (Cod.dec api_PoseC (lget (toCs (lget args 2)))) (fun q0 => kf (lget [.bool q0] 0, []))
def newellaw09_ShaftEdges_lp {R : Type} (N : Nat) : Lp R := fun body S k => Option.none
noncomputable def newellaw09_ShaftEdges_go {R : Type} (N : Nat) (args : List SV) (T : Tab) (kf : SV × Tab → Option R) : Option R :=
  newellaw09_ShaftEdges N (Cod.dec api_ShaftC (lget (toCs (lget args 0)))) (Cod.dec newellaw09_CrateC (lget (toCs (lget args 1)))) (Cod.dec api_PoseC (lget (toCs (lget args 2)))) (fun q0 => kf (lget [.bool q0] 0, []))
noncomputable def newellaw09_ShaftEdges_cal {R : Type} (N : Nat) : Cal R := callM (newellaw09_ready_cal N) 10 0 newellaw09_ShaftEdges_sp (newellaw09_ShaftEdges_go N)
theorem newellaw09_ShaftEdges_cal_ok {R : Type} (N : Nat) : CalOk E.P (newellaw09_ShaftEdges_cal (R := R) N) :=
  callM_ok hE (newellaw09_ready_cal_ok N) (lp := newellaw09_ShaftEdges_lp N) (jn := noJn) (keys := []) kNil (by kernel_rfl) (js := []) jNil (by kernel_rfl) newellaw09_ShaftEdges_sp_ok newellaw09_ShaftEdges_rs_ok (fun args T kf => Eq.trans (newellaw09_ShaftEdges_def N (Cod.dec api_ShaftC (lget (toCs (lget args 0)))) (Cod.dec newellaw09_CrateC (lget (toCs (lget args 1)))) (Cod.dec api_PoseC (lget (toCs (lget args 2)))) (fun q0 => kf (lget [.bool q0] 0, []))) (by kernel_rfl : newellaw09_ShaftEdges_run N args T kf = fnM E (newellaw09_ready_cal N) (newellaw09_ShaftEdges_lp N) (noJn) 10 (newellaw09_ShaftEdges_sp.vs args) (newellaw09_ShaftEdges_sp.tab T) 0 (resK newellaw09_ShaftEdges_rs kf)))
theorem shaftEdges_true (s : api_Shaft) (c : newellaw09_Crate) (b : api_Pose) (hs : s.wf) (hc : c.wf) (hb : b.wf) : ∃ N, newellaw09_ShaftEdges N s c b (fun q0 => okK (lget [.bool q0] 0, [])) = some () := by
  refine ⟨200200, ?_⟩
  rw [newellaw09_ShaftEdges_def]
  unfold newellaw09_ShaftEdges_m
  have hM : (200100 : Nat) ≤ 200200 := by omega
  have h4 : (4000 : Nat) ≤ 200200 := by omega
  simp only [farS_eq, works_eq _ hM, sLargest_eq _ _ _ _ _ _ h4, rLargest_eq _ _ _ _ _ _ h4, beq_self_eq_true, cond_true]
  cases decide (((s.Walls.n : Nat) : Int) > 300) <;> rfl
end
end Go.Proofs.YtckkodiefpdmhaaDoor
