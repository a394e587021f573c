import Derived.Test.YtckkodiefpdmhaaDoorR1
set_option maxRecDepth 100000
set_option maxHeartbeats 0
set_option linter.unusedVariables false
set_option linter.unusedSimpArgs false
namespace Go.Proofs.YtckkodiefpdmhaaDoor
open Go.Sx
noncomputable section
def newellaw09_ShaftPlans_m {R : Type} (N : Nat) (a1650 : api_Works) (a1651 : Arr Int) (a1652 : Int) (k : Bool → Option R) : Option R :=
  newellaw09_FarWorks N a1650 (fun r1653 =>
  bif r1653 then
   newellaw09_works N  (fun r1654 =>
   k r1654)
  else
   bif decide ((↑(Arr.n a1651) : Int) > (10 : Int)) then
    newellaw09_works N  (fun r1655 =>
    k r1655)
   else
    shaft_CheckPlan N a1650 a1651 (fun r1656 r1657 r1658 =>
    newelref09_CheckPlan N a1650 a1651 (fun r1659 r1660 r1661 =>
    shaft_Out N a1650 a1651 a1652 (fun r1662 r1663 =>
    newelref09_Out N a1650 a1651 a1652 (fun r1664 r1665 =>
    shaft_CheckWorks N a1650 (fun r1666 =>
    newelref09_CheckWorks N a1650 (fun r1667 =>
    bif r1666 == r1667 then
     bif r1656 == r1659 then
      bif r1657 == r1660 then
       bif r1658 == r1661 then
        bif r1662 == r1664 then
         bif r1663 == r1665 then
          newellaw09_works N  (fun r1668 =>
          k r1668)
         else
          k false
        else
         k false
       else
        k false
      else
       k false
     else
      k false
    else
     k false)))))))
noncomputable def newellaw09_ShaftPlans {R : Type} : Nat → api_Works → Arr Int → Int → (Bool → Option R) → Option R := lock (@newellaw09_ShaftPlans_m R)
theorem newellaw09_ShaftPlans_def {R : Type} (N : Nat) (a1650 : api_Works) (a1651 : Arr Int) (a1652 : Int) (k : Bool → Option R) : newellaw09_ShaftPlans N a1650 a1651 a1652 k = newellaw09_ShaftPlans_m N a1650 a1651 a1652 k := by unfold newellaw09_ShaftPlans; rw [lock_eq]
def newellaw09_ShaftPlans_sp : Sp := ⟨[rAgg api_WorksC, rSl intC, rInt .i64], []⟩
theorem newellaw09_ShaftPlans_sp_ok : newellaw09_ShaftPlans_sp.Ok := ⟨(allCons (rAgg_ok api_WorksC_ok api_WorksC_len) (allCons (rSl_ok intC_ok) (allCons (rInt_ok .i64) allNil))), eNil⟩
def newellaw09_ShaftPlans_rs : Sp := ⟨[rBool], []⟩
theorem newellaw09_ShaftPlans_rs_ok : newellaw09_ShaftPlans_rs.Ok := ⟨(allCons rBool_ok allNil), eNil⟩
def newellaw09_ShaftPlans_run {R : Type} (N : Nat) (args : List SV) (T : Tab) (kf : SV × Tab → Option R) : Option R :=
  newellaw09_ShaftPlans_m N (Cod.dec api_WorksC (lget (toCs (lget args 0)))) (lstC intC (lget args 1)) (toI (lget args 2)) (fun q0 => kf (lget [.bool q0] 0, []))
def newellaw09_ShaftPlans_lp {R : Type} (N : Nat) : Lp R := fun body S k => Option.none
noncomputable def newellaw09_ShaftPlans_go {R : Type} (N : Nat) (args : List SV) (T : Tab) (kf : SV × Tab → Option R) : Option R :=
  newellaw09_ShaftPlans N (Cod.dec api_WorksC (lget (toCs (lget args 0)))) (lstC intC (lget args 1)) (toI (lget args 2)) (fun q0 => kf (lget [.bool q0] 0, []))
noncomputable def newellaw09_ShaftPlans_cal {R : Type} (N : Nat) : Cal R := callM (newellaw09_works_cal N) 13 0 newellaw09_ShaftPlans_sp (newellaw09_ShaftPlans_go N)
theorem newellaw09_ShaftPlans_cal_ok {R : Type} (N : Nat) : CalOk E.P (newellaw09_ShaftPlans_cal (R := R) N) :=
  callM_ok hE (newellaw09_works_cal_ok N) (lp := newellaw09_ShaftPlans_lp N) (jn := noJn) (keys := []) kNil (by kernel_rfl) (js := []) jNil (by kernel_rfl) newellaw09_ShaftPlans_sp_ok newellaw09_ShaftPlans_rs_ok (fun args T kf => Eq.trans (newellaw09_ShaftPlans_def N (Cod.dec api_WorksC (lget (toCs (lget args 0)))) (lstC intC (lget args 1)) (toI (lget args 2)) (fun q0 => kf (lget [.bool q0] 0, []))) (by kernel_rfl : newellaw09_ShaftPlans_run N args T kf = fnM E (newellaw09_works_cal N) (newellaw09_ShaftPlans_lp N) (noJn) 13 (newellaw09_ShaftPlans_sp.vs args) (newellaw09_ShaftPlans_sp.tab T) 0 (resK newellaw09_ShaftPlans_rs kf)))
theorem shaftPlans_true (w : api_Works) (p : Arr Int) (x : Int) (hw : w.wf) (hn : p.n ≤ maxLen) (hp : ∀ i, i < p.n → i64 (p.f i)) (hx : i64 x) : ∃ N, newellaw09_ShaftPlans N w p x (fun q0 => okK (lget [.bool q0] 0, [])) = some () := by
  refine ⟨200200, ?_⟩
  rw [newellaw09_ShaftPlans_def]
  unfold newellaw09_ShaftPlans_m
  have hM : (200100 : Nat) ≤ 200200 := by omega
  simp only [works_eq _ hM]
  refine viaFarW (by omega) (fun b hb => ?_)
  cases b
  rotate_left
  · rfl
  have nf := hb rfl
  rw [cond_false]
  by_cases hl : p.n ≤ 10
  rotate_left
  · rw [decide_eq_true (show ((p.n : Nat) : Int) > 10 by omega)]; rfl
  rw [decide_eq_false (show ¬ ((p.n : Nat) : Int) > 10 by omega), cond_false]
  simp only [sWorks_eq nf _ (show 100 ≤ 200200 by omega), rWorks_eq nf _ (show 100 ≤ 200200 by omega), beq_self_eq_true, cond_true]
  refine plan_all nf p hl x hx _ (by omega) (fun a b c d e => ?_)
  simp only [beq_self_eq_true, cond_true]
  rfl
end
end Go.Proofs.YtckkodiefpdmhaaDoor
