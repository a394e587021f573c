import Derived.Test.YtckkodiefpdmhaaDoorS2
set_option maxRecDepth 100000
set_option maxHeartbeats 0
set_option linter.unusedSectionVars false
set_option linter.unusedVariables false
set_option linter.unusedSimpArgs false
namespace Go.Proofs.YtckkodiefpdmhaaDoor
open Go.Sx
noncomputable section
def newellaw09_ShaftLeast_m {R : Type} (N : Nat) (a1012 : api_Works) (a1013 : Arr Int) (k : Bool → Option R) : Option R :=
  newellaw09_FarWorks N a1012 (fun r1014 =>
  bif r1014 then
   newellaw09_works N  (fun r1015 =>
   k r1015)
  else
   bif decide ((↑(Arr.n a1013) : Int) > (10 : Int)) then
    newellaw09_works N  (fun r1016 =>
    k r1016)
   else
    newelref09_CheckWorks N a1012 (fun r1017 =>
    bif r1017 != (0 : Int) then
     newellaw09_works N  (fun r1018 =>
     k r1018)
    else
     shaft_Plan N a1012 (fun r1019 r1020 r1021 r1022 =>
     shaft_Bound N a1012 (fun r1023 r1024 =>
     bif r1024 != (0 : Int) then
      k false
     else
      bif r1020 == (0 : Int) then
       bif decide (r1019 < r1023) then
        k false
       else
        shaft_CheckPlan N a1012 a1013 (fun r1025 r1026 r1027 =>
        bif r1027 != (0 : Int) then
         newellaw09_works N  (fun r1028 =>
         k r1028)
        else
         newelref09_End N a1012 a1013 (fun r1029 =>
         bif decide (r1029 ≥ r1023) then
          bif r1020 == (2 : Int) then
           newellaw09_works N  (fun r1030 =>
           k r1030)
          else
           bif r1020 == (0 : Int) then
            bif decide (r1019 ≤ r1029) then
             newellaw09_works N  (fun r1031 =>
             k r1031)
            else
             k false
           else
            k false
         else
          k false))
      else
       shaft_CheckPlan N a1012 a1013 (fun r1032 r1033 r1034 =>
       bif r1034 != (0 : Int) then
        newellaw09_works N  (fun r1035 =>
        k r1035)
       else
        newelref09_End N a1012 a1013 (fun r1036 =>
        bif decide (r1036 ≥ r1023) then
         bif r1020 == (2 : Int) then
          newellaw09_works N  (fun r1037 =>
          k r1037)
         else
          bif r1020 == (0 : Int) then
           bif decide (r1019 ≤ r1036) then
            newellaw09_works N  (fun r1038 =>
            k r1038)
           else
            k false
          else
           k false
        else
         k false))))))
noncomputable def newellaw09_ShaftLeast {R : Type} : Nat → api_Works → Arr Int → (Bool → Option R) → Option R := lock (@newellaw09_ShaftLeast_m R)
theorem newellaw09_ShaftLeast_def {R : Type} (N : Nat) (a1012 : api_Works) (a1013 : Arr Int) (k : Bool → Option R) : newellaw09_ShaftLeast N a1012 a1013 k = newellaw09_ShaftLeast_m N a1012 a1013 k := by unfold newellaw09_ShaftLeast; rw [lock_eq]
def newellaw09_ShaftLeast_sp : Sp := ⟨[rAgg api_WorksC, rSl intC], []⟩
theorem newellaw09_ShaftLeast_sp_ok : newellaw09_ShaftLeast_sp.Ok := ⟨(allCons (rAgg_ok api_WorksC_ok api_WorksC_len) (allCons (rSl_ok intC_ok) allNil)), eNil⟩
def newellaw09_ShaftLeast_rs : Sp := ⟨[rBool], []⟩
theorem newellaw09_ShaftLeast_rs_ok : newellaw09_ShaftLeast_rs.Ok := ⟨(allCons rBool_ok allNil), eNil⟩
def newellaw09_ShaftLeast_run {R : Type} (N : Nat) (args : List SV) (T : Tab) (kf : SV × Tab → Option R) : Option R :=
  newellaw09_ShaftLeast_m N (Cod.dec api_WorksC (lget (toCs (lget args 0)))) (lstC intC (lget args 1)) (fun q0 => kf (lget [.bool q0] 0, []))
def newellaw09_ShaftLeast_lp {R : Type} (N : Nat) : Lp R := fun body S k => Option.none
noncomputable def newellaw09_ShaftLeast_go {R : Type} (N : Nat) (args : List SV) (T : Tab) (kf : SV × Tab → Option R) : Option R :=
  newellaw09_ShaftLeast N (Cod.dec api_WorksC (lget (toCs (lget args 0)))) (lstC intC (lget args 1)) (fun q0 => kf (lget [.bool q0] 0, []))
noncomputable def newellaw09_ShaftLeast_cal {R : Type} (N : Nat) : Cal R := callM (shaft_Bound_cal N) 14 0 newellaw09_ShaftLeast_sp (newellaw09_ShaftLeast_go N)
theorem newellaw09_ShaftLeast_cal_ok {R : Type} (N : Nat) : CalOk E.P (newellaw09_ShaftLeast_cal (R := R) N) :=
  callM_ok hE (shaft_Bound_cal_ok N) (lp := newellaw09_ShaftLeast_lp N) (jn := noJn) (keys := []) kNil (by kernel_rfl) (js := []) jNil (by kernel_rfl) newellaw09_ShaftLeast_sp_ok newellaw09_ShaftLeast_rs_ok (fun args T kf => Eq.trans (newellaw09_ShaftLeast_def N (Cod.dec api_WorksC (lget (toCs (lget args 0)))) (lstC intC (lget args 1)) (fun q0 => kf (lget [.bool q0] 0, []))) (by kernel_rfl : newellaw09_ShaftLeast_run N args T kf = fnM E (shaft_Bound_cal N) (newellaw09_ShaftLeast_lp N) (noJn) 14 (newellaw09_ShaftLeast_sp.vs args) (newellaw09_ShaftLeast_sp.tab T) 0 (resK newellaw09_ShaftLeast_rs kf)))
section
open Classical
variable {R : Type}
theorem endN_le' {w : api_Works} {f : Nat → Int} {B : Int} (hB : 0 ≤ B) : ∀ i, (∀ j, j < i → f j + (w.Jobs.f j).Nights ≤ B) → endN w f i ≤ B := by
  intro i
  induction i with
  | zero => intro _; exact hB
  | succ i ih =>
    intro h
    have h1 := ih (fun j hj => h j (by omega))
    have h2 := h i (by omega)
    simp only [endN]
    omega
theorem endN_ge' {w : api_Works} {f : Nat → Int} : ∀ i j, j < i → f j + (w.Jobs.f j).Nights ≤ endN w f i := by
  intro i
  induction i with
  | zero => intro j hj; omega
  | succ i ih =>
    intro j hj
    simp only [endN]
    by_cases e : j = i
    · subst e; omega
    · have := ih j (by omega); omega
theorem sCheck_via {w : api_Works} (nf : NF w) (v : VW w) {p : Arr Int} {N : Nat} (hN : 100 ≤ N) {K : Int → Int → Int → Option R} {T : Option R} (h1 : ∀ a b e, e ≠ 0 → K a b e = T) (h2 : p.n = w.Jobs.n → Good w p → K 0 0 0 = T) : shaft_CheckPlan N w p K = T := by
  rw [shaft_CheckPlan_def]
  unfold shaft_CheckPlan_m
  rw [ck_eq nf p N hN, if_pos v]
  by_cases hn : p.n = w.Jobs.n
  rotate_left
  · rw [if_neg hn]; exact h1 _ _ _ (by omega)
  rw [if_pos hn, show ((0 : Int) != 0) = false from rfl, cond_false, judge_eq v hn N hN]
  by_cases hj : (jdg w p).1 = 0
  · rw [hj, show ((0 : Int) != 0) = false from rfl, cond_false]
    exact h2 hn (good_iff.1 hj)
  · rw [bne0 hj, cond_true]
    exact h1 _ _ _ (by omega)
theorem end_bound {w : api_Works} (v : VW w) {p : Arr Int} (g : Good w p) : bound w ≤ endN w p.f w.Jobs.n := by
  have hf := g.fits v
  have vu := v.u
  have vj := v.j
  have h1 : endN w p.f w.Jobs.n ≤ w.Until := endN_le' (by omega) _ (fun j hj => (hf j hj).2)
  have h2 := endN_ge' (w := w) (f := p.f) w.Jobs.n
  have h0 : 0 ≤ endN w p.f w.Jobs.n := by
    have a := h2 0 (by omega)
    have b := hf 0 (by omega)
    have c := (v.jobs 0 (by omega)).n
    unfold job at c
    omega
  have e : ((endN w p.f w.Jobs.n).toNat : Int) = endN w p.f w.Jobs.n := by omega
  have := bound_le v g (D := (endN w p.f w.Jobs.n).toNat) (fun j hj => by rw [e]; exact h2 j hj) (by omega)
  omega
theorem best_le {w : api_Works} (v : VW w) {p : Arr Int} (g : Good w p) (h2 : ¬ plE w = 2) : plE w = 0 ∧ plEnd w ≤ endN w p.f w.Jobs.n := by
  have hc : ¬ cnt w > 200000 := fun k => h2 (by unfold plE; rw [if_neg (fun k => k v), if_pos k])
  have e1 : plE w = match stP w (cnt w) with | none => 3 | some _ => 0 := by unfold plE; rw [if_neg (fun k => k v), if_neg hc]; cases stP w (cnt w) <;> rfl
  have hf := g.fits v
  have u := v.u
  obtain ⟨x, x1, x2⟩ := dig_code (U := w.Until.toNat) (by omega) w.Jobs.n (fun i => (p.f i).toNat) (fun i hi => by
    have := hf i hi
    have c := (v.jobs i hi).n
    unfold job at c
    omega)
  have he : ∀ i, i < w.Jobs.n → p.f i = (planA w x).f i := fun i hi => by
    show p.f i = ((digL w.Until.toNat w.Jobs.n x i : Nat) : Int)
    rw [x2 i hi]
    have := hf i hi
    omega
  have hx : okX w x = true := by
    unfold okX
    have := good_iff.2 g
    rw [jdg_congr v he] at this
    simpa using this
  have s := stP_spec w (cnt w)
  cases k : stP w (cnt w) with
  | none => rw [k] at s; have := s x x1; rw [hx] at this; cases this
  | some be =>
    obtain ⟨b, e⟩ := be
    rw [k] at s e1
    obtain ⟨_, _, r3, r4⟩ := s
    refine ⟨e1, ?_⟩
    have := r4 x x1 hx
    have p1 : plEnd w = e := by unfold plEnd; rw [if_pos e1, k]
    rw [p1]
    have h4 : endX w x = endN w p.f w.Jobs.n := by unfold endX; exact (endN_congr _ (fun j hj => he j hj)).symm
    omega
theorem shaftLeast_true (w : api_Works) (p : Arr Int) (hw : w.wf) (hn0 : p.n ≤ maxLen) (hp0 : ∀ i, i < p.n → i64 (p.f i)) : ∃ N, newellaw09_ShaftLeast N w p (fun q0 => okK (lget [.bool q0] 0, [])) = some () := by
  refine ⟨200200, ?_⟩
  rw [newellaw09_ShaftLeast_def]
  unfold newellaw09_ShaftLeast_m
  have hM : (200100 : Nat) ≤ 200200 := by omega
  refine viaFarW (by omega) (fun b hb => ?_)
  simp only [works_eq _ hM]
  cases b
  rotate_left
  · rfl
  have nf := hb rfl
  rw [cond_false]
  by_cases hl : p.n ≤ 10
  rotate_left
  · rw [decide_eq_true (show ((p.n : Nat) : Int) > 10 by omega)]; rfl
  rw [decide_eq_false (show ¬ ((p.n : Nat) : Int) > 10 by omega), cond_false, rWorks_eq nf _ (show 100 ≤ 200200 by omega)]
  unfold errW
  by_cases v : VW w
  rotate_left
  · rw [if_neg v]; rfl
  rw [if_pos v, show ((0 : Int) != 0) = false from rfl, cond_false]
  refine viaPlan nf hM (fun nl arr hp => ?_)
  rw [sBound_eq nf _ (show 100 ≤ 200200 by omega)]
  unfold bndV errW
  rw [if_pos v, if_pos v, show ((0 : Int) != 0) = false from rfl, cond_false]
  have fin : ∀ g : Good w p, p.n = w.Jobs.n → newelref09_End 200200 w p (fun r1686 =>
         bif decide (r1686 ≥ bound w) then
          bif plE w == (2 : Int) then okK (lget [SV.bool true] 0, [])
          else
           bif plE w == (0 : Int) then
            bif decide (plEnd w ≤ r1686) then okK (lget [SV.bool true] 0, [])
            else okK (lget [SV.bool false] 0, [])
           else okK (lget [SV.bool false] 0, [])
         else okK (lget [SV.bool false] 0, [])) = some () := by
    intro g hn
    have hb24 : ∀ i, i < w.Jobs.n → 0 ≤ p.f i ∧ p.f i ≤ 24 := fun i hi => by
      have := g.fits v i hi
      have c := (v.jobs i hi).n
      have u := v.u
      unfold job at c
      omega
    rw [rends_eq v hn hb24 _ (show 20 ≤ 200200 by omega)]
    rw [decide_eq_true (show endN w p.f w.Jobs.n ≥ bound w from end_bound v g), cond_true]
    by_cases h2 : plE w = 2
    · rw [h2]; rfl
    · obtain ⟨e1, e2⟩ := best_le v g h2
      rw [e1, decide_eq_true e2]; rfl
  have chk : shaft_CheckPlan 200200 w p (fun r1682 r1683 r1684 =>
        bif r1684 != (0 : Int) then okK (lget [SV.bool true] 0, [])
        else newelref09_End 200200 w p (fun r1686 =>
         bif decide (r1686 ≥ bound w) then
          bif plE w == (2 : Int) then okK (lget [SV.bool true] 0, [])
          else
           bif plE w == (0 : Int) then
            bif decide (plEnd w ≤ r1686) then okK (lget [SV.bool true] 0, [])
            else okK (lget [SV.bool false] 0, [])
           else okK (lget [SV.bool false] 0, [])
         else okK (lget [SV.bool false] 0, []))) = some () := by
    refine sCheck_via nf v (by omega) (fun a b e he => ?_) (fun hn g => ?_)
    · rw [bne0 he]; rfl
    · exact fin g hn
  by_cases h0 : plE w = 0
  · obtain ⟨b, e, hst, hd⟩ := hp.1 h0
    have hs := stP_spec w (cnt w)
    rw [hst] at hs
    obtain ⟨_, s2, s3, _⟩ := hs
    have g : Good w arr := by
      rw [← good_iff, hd.judge v]
      unfold okX at s2
      simpa using s2
    have hE : plEnd w = e := by unfold plEnd; rw [if_pos h0, hst]
    have hE2 : e = endN w arr.f w.Jobs.n := by rw [hd.ends, s3]
    have := end_bound v g
    rw [show (plE w == (0 : Int)) = true by rw [h0]; rfl, cond_true, decide_eq_false (show ¬ plEnd w < bound w by omega), cond_false]
    rw [show (plE w == (0 : Int)) = true by rw [h0]; rfl] at chk
    exact chk
  · rw [show (plE w == (0 : Int)) = false by simpa using h0, cond_false]
    rw [show (plE w == (0 : Int)) = false by simpa using h0] at chk
    exact chk
end
end
end Go.Proofs.YtckkodiefpdmhaaDoor
