import Derived.Test.YtckkodiefpdmhaaDoorQ2
set_option maxRecDepth 100000
set_option maxHeartbeats 0
set_option linter.unusedVariables false
set_option linter.unusedSimpArgs false
namespace Go.Proofs.YtckkodiefpdmhaaDoor
open Go.Sx
noncomputable section
def newellaw09_ShaftCarries_m {R : Type} (N : Nat) (a995 : api_Shaft) (a996 : newellaw09_Crate) (a997 : api_Pose) (k : Bool → Option R) : Option R :=
  newellaw09_Far N a995 (fun r998 =>
  bif r998 then
   newellaw09_works N  (fun r999 =>
   k r999)
  else
   shaft_Carry N a995 (newellaw09_Crate.Edges a996) (newellaw09_Crate.Pose a996) a997 (fun r1000 r1001 r1002 =>
   newelref09_Carry N a995 (newellaw09_Crate.Edges a996) (newellaw09_Crate.Pose a996) a997 (fun r1003 r1004 r1005 =>
   bif r1000 == r1003 then
    newellaw09_sameInts N r1002 r1005 (fun r1006 =>
    bif r1006 then
     newellaw09_works N  (fun r1007 =>
     k r1007)
    else
     k false)
   else
    k false)))
noncomputable def newellaw09_ShaftCarries {R : Type} : Nat → api_Shaft → newellaw09_Crate → api_Pose → (Bool → Option R) → Option R := lock (@newellaw09_ShaftCarries_m R)
theorem newellaw09_ShaftCarries_def {R : Type} (N : Nat) (a995 : api_Shaft) (a996 : newellaw09_Crate) (a997 : api_Pose) (k : Bool → Option R) : newellaw09_ShaftCarries N a995 a996 a997 k = newellaw09_ShaftCarries_m N a995 a996 a997 k := by unfold newellaw09_ShaftCarries; rw [lock_eq]
def newellaw09_ShaftCarries_sp : Sp := ⟨[rAgg api_ShaftC, rAgg newellaw09_CrateC, rAgg api_PoseC], []⟩
theorem newellaw09_ShaftCarries_sp_ok : newellaw09_ShaftCarries_sp.Ok := ⟨(allCons (rAgg_ok api_ShaftC_ok api_ShaftC_len) (allCons (rAgg_ok newellaw09_CrateC_ok newellaw09_CrateC_len) (allCons (rAgg_ok api_PoseC_ok api_PoseC_len) allNil))), eNil⟩
def newellaw09_ShaftCarries_rs : Sp := ⟨[rBool], []⟩
theorem newellaw09_ShaftCarries_rs_ok : newellaw09_ShaftCarries_rs.Ok := ⟨(allCons rBool_ok allNil), eNil⟩
def newellaw09_ShaftCarries_run {R : Type} (N : Nat) (args : List SV) (T : Tab) (kf : SV × Tab → Option R) : Option R :=
  newellaw09_ShaftCarries_m N (Cod.dec api_ShaftC (lget (toCs (lget args 0)))) (Cod.dec newellaw09_CrateC (lget (toCs (lget args 1)))) (Cod.dec api_PoseC (lget (toCs (lget args 2)))) (fun q0 => kf (lget [.bool q0] 0, []))
def newellaw09_ShaftCarries_lp {R : Type} (N : Nat) : Lp R := fun body S k => Option.none
noncomputable def newellaw09_ShaftCarries_go {R : Type} (N : Nat) (args : List SV) (T : Tab) (kf : SV × Tab → Option R) : Option R :=
  newellaw09_ShaftCarries N (Cod.dec api_ShaftC (lget (toCs (lget args 0)))) (Cod.dec newellaw09_CrateC (lget (toCs (lget args 1)))) (Cod.dec api_PoseC (lget (toCs (lget args 2)))) (fun q0 => kf (lget [.bool q0] 0, []))
noncomputable def newellaw09_ShaftCarries_cal {R : Type} (N : Nat) : Cal R := callM (newellaw09_ready_cal N) 3 0 newellaw09_ShaftCarries_sp (newellaw09_ShaftCarries_go N)
theorem newellaw09_ShaftCarries_cal_ok {R : Type} (N : Nat) : CalOk E.P (newellaw09_ShaftCarries_cal (R := R) N) :=
  callM_ok hE (newellaw09_ready_cal_ok N) (lp := newellaw09_ShaftCarries_lp N) (jn := noJn) (keys := []) kNil (by kernel_rfl) (js := []) jNil (by kernel_rfl) newellaw09_ShaftCarries_sp_ok newellaw09_ShaftCarries_rs_ok (fun args T kf => Eq.trans (newellaw09_ShaftCarries_def N (Cod.dec api_ShaftC (lget (toCs (lget args 0)))) (Cod.dec newellaw09_CrateC (lget (toCs (lget args 1)))) (Cod.dec api_PoseC (lget (toCs (lget args 2)))) (fun q0 => kf (lget [.bool q0] 0, []))) (by kernel_rfl : newellaw09_ShaftCarries_run N args T kf = fnM E (newellaw09_ready_cal N) (newellaw09_ShaftCarries_lp N) (noJn) 3 (newellaw09_ShaftCarries_sp.vs args) (newellaw09_ShaftCarries_sp.tab T) 0 (resK newellaw09_ShaftCarries_rs kf)))
theorem shaftCarries_true (s : api_Shaft) (c : newellaw09_Crate) (b : api_Pose) (hs : s.wf) (hc : c.wf) (hb : b.wf) : ∃ N, newellaw09_ShaftCarries N s c b (fun q0 => okK (lget [.bool q0] 0, [])) = some () := by
  refine ⟨200200, ?_⟩
  rw [newellaw09_ShaftCarries_def]
  unfold newellaw09_ShaftCarries_m
  have hM : (200100 : Nat) ≤ 200200 := by omega
  have h4 : (4000 : Nat) ≤ 200200 := by omega
  simp only [farS_eq, works_eq _ hM]
  cases decide (((s.Walls.n : Nat) : Int) > 300)
  rotate_left
  · rfl
  rw [cond_false]
  refine viaCarry h4 (fun nl arr ha => ?_)
  refine viaRefCarry h4 (fun nl' arr' ha' => ?_)
  obtain ⟨h1, h2⟩ := ha.same ha'
  have := ha.n_le
  rw [beq_self_eq_true, cond_true, same_eq _ h1 h2 (by omega) (by omega), cond_true]
  rfl
end
end Go.Proofs.YtckkodiefpdmhaaDoor
