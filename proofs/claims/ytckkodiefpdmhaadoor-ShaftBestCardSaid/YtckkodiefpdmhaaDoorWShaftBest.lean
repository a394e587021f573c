import Derived.Test.YtckkodiefpdmhaaDoorS2
set_option maxRecDepth 100000
set_option maxHeartbeats 0
set_option linter.unusedSectionVars false
set_option linter.unusedVariables false
set_option linter.unusedSimpArgs false
namespace Go.Proofs.YtckkodiefpdmhaaDoor
open Go.Sx
noncomputable section
def newellaw09_ShaftBest_m {R : Type} (N : Nat) (a995 : api_Works) (k : Bool → Option R) : Option R :=
  newellaw09_FarWorks N a995 (fun r996 =>
  bif r996 then
   newellaw09_works N  (fun r997 =>
   k r997)
  else
   shaft_Plan N a995 (fun r998 r999 r1000 r1001 =>
   newelref09_Plan N a995 (fun r1002 r1003 r1004 r1005 =>
   shaft_Bound N a995 (fun r1006 r1007 =>
   newelref09_Bound N a995 (fun r1008 r1009 =>
   bif r999 == r1003 then
    bif r998 == r1002 then
     newellaw09_sameInts N r1001 r1005 (fun r1010 =>
     bif r1010 then
      bif r1006 == r1008 then
       bif r1007 == r1009 then
        newellaw09_works N  (fun r1011 =>
        k r1011)
       else
        k false
      else
       k false
     else
      k false)
    else
     k false
   else
    k false)))))
noncomputable def newellaw09_ShaftBest {R : Type} : Nat → api_Works → (Bool → Option R) → Option R := lock (@newellaw09_ShaftBest_m R)
theorem newellaw09_ShaftBest_def {R : Type} (N : Nat) (a995 : api_Works) (k : Bool → Option R) : newellaw09_ShaftBest N a995 k = newellaw09_ShaftBest_m N a995 k := by unfold newellaw09_ShaftBest; rw [lock_eq]
def newellaw09_ShaftBest_sp : Sp := ⟨[rAgg api_WorksC], []⟩
theorem newellaw09_ShaftBest_sp_ok : newellaw09_ShaftBest_sp.Ok := ⟨(allCons (rAgg_ok api_WorksC_ok api_WorksC_len) allNil), eNil⟩
def newellaw09_ShaftBest_rs : Sp := ⟨[rBool], []⟩
theorem newellaw09_ShaftBest_rs_ok : newellaw09_ShaftBest_rs.Ok := ⟨(allCons rBool_ok allNil), eNil⟩
def newellaw09_ShaftBest_run {R : Type} (N : Nat) (args : List SV) (T : Tab) (kf : SV × Tab → Option R) : Option R :=
  newellaw09_ShaftBest_m N (Cod.dec api_WorksC (lget (toCs (lget args 0)))) (fun q0 => kf (lget [.bool q0] 0, []))
def newellaw09_ShaftBest_lp {R : Type} (N : Nat) : Lp R := fun body S k => Option.none
noncomputable def newellaw09_ShaftBest_go {R : Type} (N : Nat) (args : List SV) (T : Tab) (kf : SV × Tab → Option R) : Option R :=
  newellaw09_ShaftBest N (Cod.dec api_WorksC (lget (toCs (lget args 0)))) (fun q0 => kf (lget [.bool q0] 0, []))
noncomputable def newellaw09_ShaftBest_cal {R : Type} (N : Nat) : Cal R := callM (shaft_Bound_cal N) 7 0 newellaw09_ShaftBest_sp (newellaw09_ShaftBest_go N)
theorem newellaw09_ShaftBest_cal_ok {R : Type} (N : Nat) : CalOk E.P (newellaw09_ShaftBest_cal (R := R) N) :=
  callM_ok hE (shaft_Bound_cal_ok N) (lp := newellaw09_ShaftBest_lp N) (jn := noJn) (keys := []) kNil (by kernel_rfl) (js := []) jNil (by kernel_rfl) newellaw09_ShaftBest_sp_ok newellaw09_ShaftBest_rs_ok (fun args T kf => Eq.trans (newellaw09_ShaftBest_def N (Cod.dec api_WorksC (lget (toCs (lget args 0)))) (fun q0 => kf (lget [.bool q0] 0, []))) (by kernel_rfl : newellaw09_ShaftBest_run N args T kf = fnM E (shaft_Bound_cal N) (newellaw09_ShaftBest_lp N) (noJn) 7 (newellaw09_ShaftBest_sp.vs args) (newellaw09_ShaftBest_sp.tab T) 0 (resK newellaw09_ShaftBest_rs kf)))
theorem shaftBest_true (w : api_Works) (hw : w.wf) : ∃ N, newellaw09_ShaftBest N w (fun q0 => okK (lget [.bool q0] 0, [])) = some () := by
  refine ⟨200200, ?_⟩
  rw [newellaw09_ShaftBest_def]
  unfold newellaw09_ShaftBest_m
  have hM : (200100 : Nat) ≤ 200200 := by omega
  refine viaFarW (by omega) (fun b hb => ?_)
  simp only [works_eq _ hM]
  cases b
  rotate_left
  · rfl
  have nf := hb rfl
  rw [cond_false]
  refine viaPlan nf hM (fun nl arr hp => ?_)
  refine viaRefPlan nf hM (fun nl' arr' hp' => ?_)
  rw [sBound_eq nf _ (by omega)]
  rw [rBound_eq nf _ (by omega)]
  obtain ⟨h1, h2⟩ := hp.same hp'
  have h3 : arr.n ≤ 10 := by
    by_cases h0 : plE w = 0
    · obtain ⟨b, e, _, hd⟩ := hp.1 h0
      rw [hd.1]; exact nf.j
    · rw [hp.2 h0]; omega
  rw [beq_self_eq_true, cond_true, beq_self_eq_true, cond_true, same_eq _ h1 h2 (by omega) (by omega), cond_true, beq_self_eq_true, cond_true, beq_self_eq_true, cond_true]
  rfl
end
end Go.Proofs.YtckkodiefpdmhaaDoor
