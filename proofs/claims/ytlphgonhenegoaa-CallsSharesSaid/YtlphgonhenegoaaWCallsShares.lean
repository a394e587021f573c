import Derived.Test.YtlphgonhenegoaaPN
set_option maxRecDepth 100000
set_option maxHeartbeats 0
set_option linter.unusedSectionVars false
set_option linter.unusedVariables false
set_option linter.unusedSimpArgs false
namespace Go.Proofs.Ytlphgonhenegoaa
open Go.Sx
noncomputable section
def newellaw07_CallsShares_m {R : Type} (N : Nat) (a796 : Arr api_Car) (a797 : Arr api_Press) (a798 : Arr Int) (k : Bool → Option R) : Option R :=
  bif decide ((↑(Arr.n a796) : Int) > (5 : Int)) then
   newellaw07_works N  (fun r799 =>
   k r799)
  else
   bif decide ((↑(Arr.n a797) : Int) > (60 : Int)) then
    bif decide ((↑(Arr.n a797) : Int) ≤ (200 : Int)) then
     newellaw07_works N  (fun r800 =>
     k r800)
    else
     bif decide ((↑(Arr.n a797) : Int) > (202 : Int)) then
      newellaw07_works N  (fun r801 =>
      k r801)
     else
      bif room ((0 : Nat) + Arr.n a796) then
       newellaw07_copied N a797 (fun r802 r803 =>
       bif room8 ((0 : Nat) + Arr.n a798) then
        calls_Longest N (lst api_CarC ((0 : Nat) + Arr.n a796) (catC (0 : Nat) (litC [SV.int IntKind.i64 (0 : Int), SV.int IntKind.i64 (0 : Int), SV.int IntKind.i64 (0 : Int), SV.int IntKind.i64 (0 : Int), SV.int IntKind.i64 (0 : Int)] []) (Cod.cell api_CarC (Arr.f a796)))) r803 (lst intC ((0 : Nat) + Arr.n a798) (catC (0 : Nat) (litC [SV.int IntKind.i64 (0 : Int)] []) (Cod.cell intC (Arr.f a798)))) (fun r804 r805 =>
        newelref07_Longest N a796 a797 a798 (fun r806 r807 =>
        bif r804 != r806 then
         k false
        else
         bif r805 != r807 then
          k false
         else
          bif (↑(Arr.n a797) : Int) == (6 : Int) then
           newellaw07_works N  (fun r808 =>
           k r808)
          else
           calls_Share N (lst api_CarC ((0 : Nat) + Arr.n a796) (catC (0 : Nat) (litC [SV.int IntKind.i64 (0 : Int), SV.int IntKind.i64 (0 : Int), SV.int IntKind.i64 (0 : Int), SV.int IntKind.i64 (0 : Int), SV.int IntKind.i64 (0 : Int)] []) (Cod.cell api_CarC (Arr.f a796)))) r803 (fun r809 r810 r811 =>
           newelref07_Share N a796 a797 (fun r812 r813 r814 =>
           newellaw07_sameInts N r811 r814 (fun r815 =>
           bif r815 then
            bif r809 == r812 then
             newellaw07_works N  (fun r816 =>
             k r816)
            else
             k false
           else
            k false)))))
       else
        Option.none)
      else
       Option.none
   else
    bif decide ((↑(Arr.n a797) : Int) > (202 : Int)) then
     newellaw07_works N  (fun r817 =>
     k r817)
    else
     bif room ((0 : Nat) + Arr.n a796) then
      newellaw07_copied N a797 (fun r818 r819 =>
      bif room8 ((0 : Nat) + Arr.n a798) then
       calls_Longest N (lst api_CarC ((0 : Nat) + Arr.n a796) (catC (0 : Nat) (litC [SV.int IntKind.i64 (0 : Int), SV.int IntKind.i64 (0 : Int), SV.int IntKind.i64 (0 : Int), SV.int IntKind.i64 (0 : Int), SV.int IntKind.i64 (0 : Int)] []) (Cod.cell api_CarC (Arr.f a796)))) r819 (lst intC ((0 : Nat) + Arr.n a798) (catC (0 : Nat) (litC [SV.int IntKind.i64 (0 : Int)] []) (Cod.cell intC (Arr.f a798)))) (fun r820 r821 =>
       newelref07_Longest N a796 a797 a798 (fun r822 r823 =>
       bif r820 != r822 then
        k false
       else
        bif r821 != r823 then
         k false
        else
         bif (↑(Arr.n a797) : Int) == (6 : Int) then
          newellaw07_works N  (fun r824 =>
          k r824)
         else
          calls_Share N (lst api_CarC ((0 : Nat) + Arr.n a796) (catC (0 : Nat) (litC [SV.int IntKind.i64 (0 : Int), SV.int IntKind.i64 (0 : Int), SV.int IntKind.i64 (0 : Int), SV.int IntKind.i64 (0 : Int), SV.int IntKind.i64 (0 : Int)] []) (Cod.cell api_CarC (Arr.f a796)))) r819 (fun r825 r826 r827 =>
          newelref07_Share N a796 a797 (fun r828 r829 r830 =>
          newellaw07_sameInts N r827 r830 (fun r831 =>
          bif r831 then
           bif r825 == r828 then
            newellaw07_works N  (fun r832 =>
            k r832)
           else
            k false
          else
           k false)))))
      else
       Option.none)
     else
      Option.none
noncomputable def newellaw07_CallsShares {R : Type} : Nat → Arr api_Car → Arr api_Press → Arr Int → (Bool → Option R) → Option R := lock (@newellaw07_CallsShares_m R)
theorem newellaw07_CallsShares_def {R : Type} (N : Nat) (a796 : Arr api_Car) (a797 : Arr api_Press) (a798 : Arr Int) (k : Bool → Option R) : newellaw07_CallsShares N a796 a797 a798 k = newellaw07_CallsShares_m N a796 a797 a798 k := by unfold newellaw07_CallsShares; rw [lock_eq]
def newellaw07_CallsShares_sp : Sp := ⟨[rSl api_CarC, rSl api_PressC, rSl intC], []⟩
theorem newellaw07_CallsShares_sp_ok : newellaw07_CallsShares_sp.Ok := ⟨(allCons (rSl_ok api_CarC_ok) (allCons (rSl_ok api_PressC_ok) (allCons (rSl_ok intC_ok) allNil))), eNil⟩
def newellaw07_CallsShares_rs : Sp := ⟨[rBool], []⟩
theorem newellaw07_CallsShares_rs_ok : newellaw07_CallsShares_rs.Ok := ⟨(allCons rBool_ok allNil), eNil⟩
def newellaw07_CallsShares_run {R : Type} (N : Nat) (args : List SV) (T : Tab) (kf : SV × Tab → Option R) : Option R :=
  newellaw07_CallsShares_m N (lstC api_CarC (lget args 0)) (lstC api_PressC (lget args 1)) (lstC intC (lget args 2)) (fun q0 => kf (lget [.bool q0] 0, []))
def newellaw07_CallsShares_lp {R : Type} (N : Nat) : Lp R := fun body S k => Option.none
noncomputable def newellaw07_CallsShares_go {R : Type} (N : Nat) (args : List SV) (T : Tab) (kf : SV × Tab → Option R) : Option R :=
  newellaw07_CallsShares N (lstC api_CarC (lget args 0)) (lstC api_PressC (lget args 1)) (lstC intC (lget args 2)) (fun q0 => kf (lget [.bool q0] 0, []))
noncomputable def newellaw07_CallsShares_cal {R : Type} (N : Nat) : Cal R := callM (newelref07_Share_cal N) 11 0 newellaw07_CallsShares_sp (newellaw07_CallsShares_go N)
theorem newellaw07_CallsShares_cal_ok {R : Type} (N : Nat) : CalOk E.P (newellaw07_CallsShares_cal (R := R) N) :=
  callM_ok hE (newelref07_Share_cal_ok N) (lp := newellaw07_CallsShares_lp N) (jn := noJn) (keys := []) kNil (by kernel_rfl) (js := []) jNil (by kernel_rfl) newellaw07_CallsShares_sp_ok newellaw07_CallsShares_rs_ok (fun args T kf => Eq.trans (newellaw07_CallsShares_def N (lstC api_CarC (lget args 0)) (lstC api_PressC (lget args 1)) (lstC intC (lget args 2)) (fun q0 => kf (lget [.bool q0] 0, []))) (by kernel_rfl : newellaw07_CallsShares_run N args T kf = fnM E (newelref07_Share_cal N) (newellaw07_CallsShares_lp N) (noJn) 11 (newellaw07_CallsShares_sp.vs args) (newellaw07_CallsShares_sp.tab T) 0 (resK newellaw07_CallsShares_rs kf)))
theorem copied_eq' (N : Nat) (l : Arr api_Press) (hl : l.n ≤ 1000) {R : Type} (k : Bool → Arr api_Press → Option R) : newellaw07_copied N l k = k false l := by
  rw [newellaw07_copied_def]
  unfold newellaw07_copied_m
  rw [room_of (by omega), cond_true]
  have e1 : (bif Arr.n l == (0 : Nat) then false else false) = false := by cases (Arr.n l == (0 : Nat)) <;> rfl
  rw [e1]
  refine congrArg (k false) ?_
  obtain ⟨n, f⟩ := l
  unfold lst
  congr 1
  · exact Nat.zero_add n
theorem room8_of {n : Nat} (h : n ≤ 17592186044416) : room8 n = true := by simpa [room8] using h
theorem car_cells (x : api_Car) : api_CarC.dec (lget (api_CarC.enc x)) = x := rfl
theorem lst_again {α : Type} {C : Cod α} (hC : ∀ x, C.dec (lget (C.enc x)) = x) (a : Arr α) (z : List SV) : lst C ((0 : Nat) + Arr.n a) (catC (0 : Nat) (litC z []) (Cod.cell C (Arr.f a))) = a := by
  obtain ⟨n, f⟩ := a
  unfold lst
  congr 1
  · exact Nat.zero_add n
  · funext i
    exact hC (f i)
theorem shares_body {N : Nat} (hN : 2000 < N) (g : Arr api_Car) (hg : g.n ≤ 5) (l : Arr api_Press) (hl : l.n ≤ 202) (sh : Arr Int) {R : Type} (k : Bool → Option R) :
    calls_Longest N g l sh (fun r804 r805 =>
        newelref07_Longest N g l sh (fun r806 r807 =>
        bif r804 != r806 then
         k false
        else
         bif r805 != r807 then
          k false
         else
          bif (↑(Arr.n l) : Int) == (6 : Int) then
           newellaw07_works N  (fun r808 =>
           k r808)
          else
           calls_Share N g l (fun r809 r810 r811 =>
           newelref07_Share N g l (fun r812 r813 r814 =>
           newellaw07_sameInts N r811 r814 (fun r815 =>
           bif r815 then
            bif r809 == r812 then
             newellaw07_works N  (fun r816 =>
             k r816)
            else
             k false
           else
            k false))))) = k true := by
  obtain ⟨n, e, h1, h2⟩ := longest_same hN (g := g) (by omega) (l := l) (by omega) sh
  obtain ⟨e', b, b', x, x', s1, s2, s3, s4, s5⟩ := share_same hN (g := g) (by omega) (l := l) (by omega)
  rw [h1, h2, bne_self_eq_false, cond_false, bne_self_eq_false, cond_false]
  cases ((↑(Arr.n l) : Int) == (6 : Int))
  · rw [cond_false, s4, s5, same_eq (by omega) s1 (by omega) s3, cond_true, BEq.rfl, cond_true]
    exact works_eq hN _
  · rw [cond_true]
    exact works_eq hN _
theorem callsShares_true (g : Arr api_Car) (l : Arr api_Press) (sh : Arr Int) (hg : g.n ≤ maxLen) (hg2 : ∀ i, i < g.n → (g.f i).wf) (hl : l.n ≤ maxLen) (hl2 : ∀ i, i < l.n → (l.f i).wf) (hs : sh.n ≤ 17592186044416) :
    ∃ N, newellaw07_CallsShares N g l sh (fun q0 => okK (lget [.bool q0] 0, [])) = some () := by
  refine ⟨3000, ?_⟩
  rw [newellaw07_CallsShares_def]
  unfold newellaw07_CallsShares_m
  have wk : newellaw07_works 3000 (fun r => okK (lget [.bool r] 0, [])) = some () := works_eq (by decide) _
  by_cases h0 : (g.n : Int) > 5
  · rw [decide_eq_true h0, cond_true]
    exact wk
  rw [decide_eq_false h0, cond_false]
  by_cases h1 : (l.n : Int) > 202
  · rw [decide_eq_true h1, decide_eq_true (show (l.n : Int) > 60 by omega), cond_true, decide_eq_false (show ¬ (l.n : Int) ≤ 200 by omega), cond_false, cond_true]
    exact wk
  have e1 := room_of (show (0 : Nat) + g.n ≤ 1073741824 by omega)
  have e2 := room8_of (show (0 : Nat) + sh.n ≤ 17592186044416 by omega)
  have e3 := lst_again car_cells g
  have e4 := lst_again (C := intC) (fun _ => rfl) sh
  have hc : ∀ {R : Type} (kk : Bool → Arr api_Press → Option R), newellaw07_copied 3000 l kk = kk false l := fun kk => copied_eq' 3000 l (by omega) kk
  simp only [decide_eq_false h1, cond_false, e1, cond_true, e3, e4, e2, hc]
  have hb := shares_body (N := 3000) (by decide) g (by omega) l (by omega) sh (fun r => okK (lget [.bool r] 0, []))
  cases decide ((l.n : Int) > 60) <;> cases decide ((l.n : Int) ≤ 200) <;> first | exact wk | exact hb
end
end Go.Proofs.Ytlphgonhenegoaa
