import Derived.Test.YtlphgonhenegoaaPA
set_option maxRecDepth 100000
set_option maxHeartbeats 0
set_option linter.unusedSectionVars false
set_option linter.unusedVariables false
set_option linter.unusedSimpArgs false
namespace Go.Proofs.Ytlphgonhenegoaa
open Go.Sx
noncomputable section
def newellaw07_CallsLater_L15 : LoopSp := ⟨⟨[1, 3, 5, 7, 12, 13, 14], ⟨(dr 1 ((rSl api_PressC) :: (dr 1 ((rPtr 0 0) :: (dr 1 ((rPtr 1 0) :: (dr 1 ((rRow 2) :: (dr 4 ((rRow 3) :: (rRow 4) :: (rInt .i64) :: (dr 169 []))))))))))), [(0, eBlkC api_CarC), (1, eBlkC api_PressC), (2, eRow api_PressC), (3, eRow intC), (4, eRow intC)]⟩, 5⟩, [(Option.none, ⟨[6], ⟨(dr 6 ((rBool) :: (dr 177 []))), []⟩, 0⟩), (some 0, ⟨[], ⟨(dr 184 []), []⟩, 0⟩)]⟩
theorem newellaw07_CallsLater_L15_ok : newellaw07_CallsLater_L15.Ok := ⟨⟨(drCons 1 (allCons (rSl_ok api_PressC_ok) (drCons 1 (allCons (rPtr_ok 0 0) (drCons 1 (allCons (rPtr_ok 1 0) (drCons 1 (allCons (rRow_ok 2) (drCons 4 (allCons (rRow_ok 3) (allCons (rRow_ok 4) (allCons (rInt_ok .i64) (drCons 169 allNil))))))))))))), (eCons (eBlkC_ok api_CarC_ok api_CarC_len) (eCons (eBlkC_ok api_PressC_ok api_PressC_len) (eCons (eRow_ok api_PressC_ok) (eCons (eRow_ok intC_ok) (eCons (eRow_ok intC_ok) eNil)))))⟩, (xCons ⟨(drCons 6 (allCons rBool_ok (drCons 177 allNil))), eNil⟩ (xCons ⟨(drCons 184 allNil), eNil⟩ xNil))⟩
def newellaw07_CallsLater_h15 (v789 : Arr api_Press) (v790 : Int) (v791 : api_Car) (v792 : api_Press) (v793 : Bool) (v794 : Arr api_Press) (v795 : Bool) (v796 : Arr Int) (v797 : Bool) (v798 : Arr Int) : St := ⟨(un 1 ((slC api_PressC v789) :: (un 1 ((.ptr 0 0) :: (un 1 ((.ptr 1 0) :: (un 1 ((.row 2) :: (un 4 ((.row 3) :: (.row 4) :: (.int .i64 v790) :: (un 169 []))))))))))), [(0, .blk (Cod.enc api_CarC v791)), (1, .blk (Cod.enc api_PressC v792)), (2, rowE api_PressC v793 v794), (3, rowE intC v795 v796), (4, rowE intC v797 v798)], 5⟩
def newellaw07_CallsLater_x15_r (q0 : Bool) : St := ⟨(un 6 ((.bool q0) :: (un 177 []))), [], 0⟩
def newellaw07_CallsLater_x15_0  : St := ⟨(un 184 []), [], 0⟩
def newellaw07_CallsLater_b15 {R : Type} (N : Nat) (rc : Arr api_Press → Int → api_Car → api_Press → Bool → Arr api_Press → Bool → Arr Int → Bool → Arr Int → Option R) (v789 : Arr api_Press) (v790 : Int) (v791 : api_Car) (v792 : api_Press) (v793 : Bool) (v794 : Arr api_Press) (v795 : Bool) (v796 : Arr Int) (v797 : Bool) (v798 : Arr Int) (kr : Bool → Option R) (k0 : Unit → Option R) : Option R :=
  bif decide (v790 < (↑(Arr.n v789) : Int)) then
   bif decide ((0 : Int) ≤ v790) && decide (v790 < (↑(Arr.n v789) : Int)) then
    bif api_Press.Floor (Arr.f v789 (Int.toNat v790)) != api_Press.Floor v792 then
     rc v789 (w64 (v790 + (1 : Int))) v791 v792 v793 v794 v795 v796 v797 v798
    else
     bif decide ((0 : Int) ≤ v790) && decide (v790 < (↑(Arr.n v789) : Int)) then
      bif decide ((0 : Int) ≤ v790) && decide (v790 < (↑(Arr.n v796) : Int)) then
       bif decide (w64 (api_Press.At (Arr.f v789 (Int.toNat v790)) + Arr.f v796 (Int.toNat v790)) ≤ api_Press.At v792) then
        rc v789 (w64 (v790 + (1 : Int))) v791 v792 v793 v794 v795 v796 v797 v798
       else
        bif decide ((↑(Arr.n v789) : Int) < (↑(Arr.n v798) : Int)) then
         bif decide ((0 : Int) ≤ v790) && decide (v790 < (↑(Arr.n v796) : Int)) then
          bif decide ((0 : Int) ≤ v790) && decide (v790 < (↑(Arr.n v789) : Int)) then
           bif Arr.f v798 (Int.toNat (↑(Arr.n v789) : Int)) != w64 (Arr.f v796 (Int.toNat v790) - w64 (api_Press.At v792 - api_Press.At (Arr.f v789 (Int.toNat v790)))) then
            kr false
           else
            bif decide ((↑(Arr.n v789) : Int) ≤ (↑(Arr.n v798) : Int)) then
             newellaw07_sameInts N v796 (lst intC (Int.toNat (↑(Arr.n v789) : Int) - Int.toNat (↑(0 : Nat) : Int)) fun (i j : Nat) ↦ Cod.cell intC (Arr.f v798) (Int.toNat (↑(0 : Nat) : Int) + i) j) (fun r799 =>
             bif !r799 then
              kr false
             else
              calls_Play N v791 v789 (200 : Int) (fun r800 r801 r802 =>
              calls_Play N v791 v794 (200 : Int) (fun r803 r804 r805 =>
              bif r800 == (0 : Int) then
               bif r803 == (0 : Int) then
                newellaw07_sameRides N r802 r805 (fun r806 =>
                bif r806 then
                 newellaw07_works N  (fun r807 =>
                 kr r807)
                else
                 kr false)
               else
                kr false
              else
               kr false)))
            else
             Option.none
          else
           Option.none
         else
          Option.none
        else
         Option.none
      else
       Option.none
     else
      Option.none
   else
    Option.none
  else
   k0 ()
def newellaw07_CallsLater_l15 {R : Type} (N : Nat) : Nat → Arr api_Press → Int → api_Car → api_Press → Bool → Arr api_Press → Bool → Arr Int → Bool → Arr Int → (Bool → Option R) → (Unit → Option R) → Option R
  | 0, _, _, _, _, _, _, _, _, _, _, _, _ => Option.none
  | n + 1, v789, v790, v791, v792, v793, v794, v795, v796, v797, v798, kr, k0 => newellaw07_CallsLater_b15 N (fun v789 v790 v791 v792 v793 v794 v795 v796 v797 v798 => newellaw07_CallsLater_l15 N n v789 v790 v791 v792 v793 v794 v795 v796 v797 v798 kr k0) v789 v790 v791 v792 v793 v794 v795 v796 v797 v798 kr k0
def newellaw07_CallsLater_m {R : Type} (N : Nat) (a768 : api_Car) (a769 : Arr api_Press) (a770 : api_Press) (k : Bool → Option R) : Option R :=
  bif decide ((↑(Arr.n a769) : Int) > (40 : Int)) then
   newellaw07_works N  (fun r771 =>
   k r771)
  else
   newellaw07_copied N a769 (fun r772 r773 =>
   bif room (Arr.n r773 + (1 : Nat)) then
    newelref07_Check N a768 (lst api_PressC (Arr.n r773 + (1 : Nat)) (catC (Arr.n r773) (Cod.cell api_PressC (Arr.f r773)) (litC [SV.int IntKind.i64 (0 : Int), SV.int IntKind.i64 (0 : Int)] [[SV.int IntKind.i64 (api_Press.At a770), SV.int IntKind.i64 (api_Press.Floor a770)]]))) (fun r774 =>
    bif r774 != (0 : Int) then
     newellaw07_works N  (fun r775 =>
     k r775)
    else
     calls_Play N a768 a769 (api_Press.At a770) (fun r776 r777 r778 =>
     calls_Play N a768 (lst api_PressC (Arr.n r773 + (1 : Nat)) (catC (Arr.n r773) (Cod.cell api_PressC (Arr.f r773)) (litC [SV.int IntKind.i64 (0 : Int), SV.int IntKind.i64 (0 : Int)] [[SV.int IntKind.i64 (api_Press.At a770), SV.int IntKind.i64 (api_Press.Floor a770)]]))) (api_Press.At a770) (fun r779 r780 r781 =>
     bif r776 != (0 : Int) then
      k false
     else
      bif r779 != (0 : Int) then
       k false
      else
       newellaw07_sameRides N r778 r781 (fun r782 =>
       bif !r782 then
        k false
       else
        bif (↑(Arr.n r778) : Int) != api_Press.At a770 then
         k false
        else
         calls_Waits N a768 a769 (fun r783 r784 r785 =>
         calls_Waits N a768 (lst api_PressC (Arr.n r773 + (1 : Nat)) (catC (Arr.n r773) (Cod.cell api_PressC (Arr.f r773)) (litC [SV.int IntKind.i64 (0 : Int), SV.int IntKind.i64 (0 : Int)] [[SV.int IntKind.i64 (api_Press.At a770), SV.int IntKind.i64 (api_Press.Floor a770)]]))) (fun r786 r787 r788 =>
         bif r783 != (0 : Int) then
          k false
         else
          bif r786 != (0 : Int) then
           k false
          else
           bif (↑(Arr.n r785) : Int) != (↑(Arr.n a769) : Int) then
            k false
           else
            bif (↑(Arr.n r788) : Int) != (↑(Arr.n r773 + (1 : Nat)) : Int) then
             k false
            else
             newellaw07_CallsLater_l15 N N a769 (0 : Int) a768 a770 false (lst api_PressC (Arr.n r773 + (1 : Nat)) (catC (Arr.n r773) (Cod.cell api_PressC (Arr.f r773)) (litC [SV.int IntKind.i64 (0 : Int), SV.int IntKind.i64 (0 : Int)] [[SV.int IntKind.i64 (api_Press.At a770), SV.int IntKind.i64 (api_Press.Floor a770)]]))) r784 r785 r787 r788 (fun r808 =>
              k r808) (fun (_ : Unit) =>
              newellaw07_works N  (fun r809 =>
              k r809))))))))
   else
    Option.none)
noncomputable def newellaw07_CallsLater {R : Type} : Nat → api_Car → Arr api_Press → api_Press → (Bool → Option R) → Option R := lock (@newellaw07_CallsLater_m R)
theorem newellaw07_CallsLater_def {R : Type} (N : Nat) (a768 : api_Car) (a769 : Arr api_Press) (a770 : api_Press) (k : Bool → Option R) : newellaw07_CallsLater N a768 a769 a770 k = newellaw07_CallsLater_m N a768 a769 a770 k := by unfold newellaw07_CallsLater; rw [lock_eq]
def newellaw07_CallsLater_sp : Sp := ⟨[rAgg api_CarC, rSl api_PressC, rAgg api_PressC], []⟩
theorem newellaw07_CallsLater_sp_ok : newellaw07_CallsLater_sp.Ok := ⟨(allCons (rAgg_ok api_CarC_ok api_CarC_len) (allCons (rSl_ok api_PressC_ok) (allCons (rAgg_ok api_PressC_ok api_PressC_len) allNil))), eNil⟩
def newellaw07_CallsLater_rs : Sp := ⟨[rBool], []⟩
theorem newellaw07_CallsLater_rs_ok : newellaw07_CallsLater_rs.Ok := ⟨(allCons rBool_ok allNil), eNil⟩
def newellaw07_CallsLater_run {R : Type} (N : Nat) (args : List SV) (T : Tab) (kf : SV × Tab → Option R) : Option R :=
  newellaw07_CallsLater_m N (Cod.dec api_CarC (lget (toCs (lget args 0)))) (lstC api_PressC (lget args 1)) (Cod.dec api_PressC (lget (toCs (lget args 2)))) (fun q0 => kf (lget [.bool q0] 0, []))
def newellaw07_CallsLater_d15 {R : Type} (N : Nat) (S0 : St) (k : Exit → St → Option R) : Option R :=
  newellaw07_CallsLater_l15 N N (lstC api_PressC (lget S0.tmps 1)) (toI (lget S0.tmps 14)) (Cod.dec api_CarC (lget (entCs (entAt S0.tab 0)))) (Cod.dec api_PressC (lget (entCs (entAt S0.tab 1)))) (entNl (entAt S0.tab 2)) (lst api_PressC (entN (entAt S0.tab 2)) (entC (entAt S0.tab 2))) (entNl (entAt S0.tab 3)) (lst intC (entN (entAt S0.tab 3)) (entC (entAt S0.tab 3))) (entNl (entAt S0.tab 4)) (lst intC (entN (entAt S0.tab 4)) (entC (entAt S0.tab 4))) (fun q0 => k .ret (newellaw07_CallsLater_x15_r q0)) (fun (_ : Unit) => k (.exit 0) (newellaw07_CallsLater_x15_0 ))
def newellaw07_CallsLater_lp {R : Type} (N : Nat) : Lp R := fun body S k => bif (Go.Sx.keyOf body).getD 0 == 15 then (newellaw07_CallsLater_L15.head.raw 0 S (fun S0 => newellaw07_CallsLater_d15 N S0 k)) else Option.none
theorem newellaw07_CallsLater_l15_eq {R : Type} (N : Nat) (k : Exit → St → Option R) (n : Nat) : ∀ (v0 : Arr api_Press) (v1 : Int) (v2 : api_Car) (v3 : api_Press) (v4 : Bool) (v5 : Arr api_Press) (v6 : Bool) (v7 : Arr Int) (v8 : Bool) (v9 : Arr Int), loopM E.Θ (calls_waits_v2_cal N) (newellaw07_CallsLater_lp N) (noJn) 0 newellaw07_CallsLater_L15 (bodyAt E 5 15) n (newellaw07_CallsLater_h15 v0 v1 v2 v3 v4 v5 v6 v7 v8 v9) k = newellaw07_CallsLater_l15 N n v0 v1 v2 v3 v4 v5 v6 v7 v8 v9 (fun q0 => k .ret (newellaw07_CallsLater_x15_r q0)) (fun (_ : Unit) => k (.exit 0) (newellaw07_CallsLater_x15_0 )) := by
  induction n with
  | zero => intro v0 v1 v2 v3 v4 v5 v6 v7 v8 v9; rfl
  | succ n ih =>
    intro v0 v1 v2 v3 v4 v5 v6 v7 v8 v9
    refine Eq.trans (b := newellaw07_CallsLater_b15 N (fun v0 v1 v2 v3 v4 v5 v6 v7 v8 v9 => loopM E.Θ (calls_waits_v2_cal N) (newellaw07_CallsLater_lp N) (noJn) 0 newellaw07_CallsLater_L15 (bodyAt E 5 15) n (newellaw07_CallsLater_h15 v0 v1 v2 v3 v4 v5 v6 v7 v8 v9) k) v0 v1 v2 v3 v4 v5 v6 v7 v8 v9 (fun q0 => k .ret (newellaw07_CallsLater_x15_r q0)) (fun (_ : Unit) => k (.exit 0) (newellaw07_CallsLater_x15_0 ))) (by kernel_rfl) ?_
    have h : (fun (v0 : Arr api_Press) (v1 : Int) (v2 : api_Car) (v3 : api_Press) (v4 : Bool) (v5 : Arr api_Press) (v6 : Bool) (v7 : Arr Int) (v8 : Bool) (v9 : Arr Int) => loopM E.Θ (calls_waits_v2_cal N) (newellaw07_CallsLater_lp N) (noJn) 0 newellaw07_CallsLater_L15 (bodyAt E 5 15) n (newellaw07_CallsLater_h15 v0 v1 v2 v3 v4 v5 v6 v7 v8 v9) k) = (fun (v0 : Arr api_Press) (v1 : Int) (v2 : api_Car) (v3 : api_Press) (v4 : Bool) (v5 : Arr api_Press) (v6 : Bool) (v7 : Arr Int) (v8 : Bool) (v9 : Arr Int) => newellaw07_CallsLater_l15 N n v0 v1 v2 v3 v4 v5 v6 v7 v8 v9 (fun q0 => k .ret (newellaw07_CallsLater_x15_r q0)) (fun (_ : Unit) => k (.exit 0) (newellaw07_CallsLater_x15_0 ))) := funext fun v0 => funext fun v1 => funext fun v2 => funext fun v3 => funext fun v4 => funext fun v5 => funext fun v6 => funext fun v7 => funext fun v8 => funext fun v9 => ih v0 v1 v2 v3 v4 v5 v6 v7 v8 v9
    rw [h]
    rfl
theorem newellaw07_CallsLater_k15 {R : Type} (N : Nat) : LpKey (R := R) E 5 0 (newellaw07_CallsLater_lp N) 15 :=
  lpKey_of hE (calls_waits_v2_cal_ok N) (lp := newellaw07_CallsLater_lp N) (jn := noJn) newellaw07_CallsLater_L15_ok [] kNil (by kernel_rfl) [] jNil (by kernel_rfl) N fun S k =>
    Eq.trans (b := newellaw07_CallsLater_L15.head.raw 0 S (fun S0 => newellaw07_CallsLater_d15 N S0 k)) (by kernel_rfl) (congrArg (newellaw07_CallsLater_L15.head.raw 0 S) (funext fun S0 => Eq.trans (newellaw07_CallsLater_l15_eq N k N (lstC api_PressC (lget S0.tmps 1)) (toI (lget S0.tmps 14)) (Cod.dec api_CarC (lget (entCs (entAt S0.tab 0)))) (Cod.dec api_PressC (lget (entCs (entAt S0.tab 1)))) (entNl (entAt S0.tab 2)) (lst api_PressC (entN (entAt S0.tab 2)) (entC (entAt S0.tab 2))) (entNl (entAt S0.tab 3)) (lst intC (entN (entAt S0.tab 3)) (entC (entAt S0.tab 3))) (entNl (entAt S0.tab 4)) (lst intC (entN (entAt S0.tab 4)) (entC (entAt S0.tab 4)))).symm (by kernel_rfl)))
noncomputable def newellaw07_CallsLater_go {R : Type} (N : Nat) (args : List SV) (T : Tab) (kf : SV × Tab → Option R) : Option R :=
  newellaw07_CallsLater N (Cod.dec api_CarC (lget (toCs (lget args 0)))) (lstC api_PressC (lget args 1)) (Cod.dec api_PressC (lget (toCs (lget args 2)))) (fun q0 => kf (lget [.bool q0] 0, []))
noncomputable def newellaw07_CallsLater_cal {R : Type} (N : Nat) : Cal R := callM (calls_waits_v2_cal N) 5 0 newellaw07_CallsLater_sp (newellaw07_CallsLater_go N)
theorem newellaw07_CallsLater_cal_ok {R : Type} (N : Nat) : CalOk E.P (newellaw07_CallsLater_cal (R := R) N) :=
  callM_ok hE (calls_waits_v2_cal_ok N) (lp := newellaw07_CallsLater_lp N) (jn := noJn) (keys := [15]) (kCons (newellaw07_CallsLater_k15 N) kNil) (by kernel_rfl) (js := []) jNil (by kernel_rfl) newellaw07_CallsLater_sp_ok newellaw07_CallsLater_rs_ok (fun args T kf => Eq.trans (newellaw07_CallsLater_def N (Cod.dec api_CarC (lget (toCs (lget args 0)))) (lstC api_PressC (lget args 1)) (Cod.dec api_PressC (lget (toCs (lget args 2)))) (fun q0 => kf (lget [.bool q0] 0, []))) (by kernel_rfl : newellaw07_CallsLater_run N args T kf = fnM E (calls_waits_v2_cal N) (newellaw07_CallsLater_lp N) (noJn) 5 (newellaw07_CallsLater_sp.vs args) (newellaw07_CallsLater_sp.tab T) 0 (resK newellaw07_CallsLater_rs kf)))
theorem copied_eq (N : Nat) (l : Arr api_Press) (hl : l.n ≤ 1000) {R : Type} (k : Bool → Arr api_Press → Option R) : newellaw07_copied N l k = k false l := by
  rw [newellaw07_copied_def]
  unfold newellaw07_copied_m
  rw [room_of (by omega), cond_true]
  have e1 : (bif Arr.n l == (0 : Nat) then false else false) = false := by cases (Arr.n l == (0 : Nat)) <;> rfl
  rw [e1]
  refine congrArg (k false) ?_
  obtain ⟨n, f⟩ := l
  unfold lst
  congr 1
  · exact Nat.zero_add n
theorem press_dec (x : api_Press) : api_PressC.dec (lget (api_PressC.enc x)) = x := rfl
theorem later_l15 {N : Nat} (hN : 2000 < N) {c : Cn} {l a : Arr api_Press} (h : More c l a) (x : api_Press) (hx : a.f l.n = x) {v w : Arr Int} (hv : WE c l allP v) (hw : WE c a allP w) (b1 b2 b3 : Bool) {R : Type} (k : Bool → Option R) : ∀ (q i n : Nat), i + q = l.n → q < n →
    newellaw07_CallsLater_l15 N n l (i : Int) c.car x b1 a b2 v b3 w k (fun _ => newellaw07_works N k) = k true := by
  have hc := h.ok
  have hl := h.vl
  have ha := h.v
  have hn := h.n
  have hln := hl.n
  have hlan : l.n < a.n := by omega
  have xA := (ha.pa hlan)
  have xG := (ha.pg hlan)
  rw [hx] at xA xG
  intro q
  induction q with
  | zero =>
    intro i n h1 h2
    obtain ⟨n, rfl⟩ : ∃ m, n = m + 1 := ⟨n - 1, by omega⟩
    unfold newellaw07_CallsLater_l15 newellaw07_CallsLater_b15
    rw [ltF (show l.n ≤ i by omega), cond_false]
    exact works_eq hN k
  | succ q ih =>
    intro i n h1 h2
    obtain ⟨n, rfl⟩ : ∃ m, n = m + 1 := ⟨n - 1, by omega⟩
    have hi : i < l.n := by omega
    have next := ih (i + 1) n (by omega) (by omega)
    have iA := hl.pa hi
    have iG := hl.pg hi
    have iW := wt_ok hc hl (p := allP) hi rfl
    have iw := iW.le
    have e0 : decide ((i : Int) < (l.n : Int)) = true := ltT hi
    have e1 : decide ((i : Int) < (v.n : Int)) = true := by rw [hv.n]; exact e0
    have vi : v.f i = (wt c l allP i : Int) := by rw [hv.f i hi]; rfl
    unfold newellaw07_CallsLater_l15 newellaw07_CallsLater_b15
    rw [e0, cond_true, nat_nonneg, Bool.true_and, cond_true, w64_succ (show i < 1000000000000 by omega), e1, cond_true, cond_true]
    by_cases hg : pG l i = pG a l.n
    · have g1 : (api_Press.Floor (Arr.f l (Int.toNat (i : Int))) != api_Press.Floor x) = false := by
        rw [Int.toNat_natCast, iG.1, xG.1, hg, bne_self_eq_false]
      rw [g1, cond_false]
      by_cases hT : pA a l.n < pA l i + wt c l allP i
      · have g2 : decide (w64 (api_Press.At (Arr.f l (Int.toNat (i : Int))) + Arr.f v (Int.toNat (i : Int))) ≤ api_Press.At x) = false := decide_eq_false (by
          rw [Int.toNat_natCast, iA.1, vi, xA.1, w64_eq (by omega) (by omega)]; omega)
        rw [g2, cond_false]
        have e2 : decide ((l.n : Int) < (w.n : Int)) = true := by rw [hw.n]; exact ltT (by omega)
        rw [e2, cond_true]
        have own := h.own hi hg hT
        have hle := h.le hi
        have g3 : (Arr.f w (Int.toNat (l.n : Int)) != w64 (Arr.f v (Int.toNat (i : Int)) - w64 (api_Press.At x - api_Press.At (Arr.f l (Int.toNat (i : Int)))))) = false := by
          rw [Int.toNat_natCast, Int.toNat_natCast, iA.1, vi, xA.1, hw.f l.n hlan, w64_eq (n := (pA a l.n : Int) - (pA l i : Int)) (by omega) (by omega), w64_eq (by omega) (by omega)]
          show (((wt c a allP l.n : Nat) : Int) != _) = false
          rw [show ((wt c l allP i : Nat) : Int) - ((pA a l.n : Int) - (pA l i : Int)) = ((wt c a allP l.n : Nat) : Int) by omega, bne_self_eq_false]
        rw [g3, cond_false]
        have e3 : decide ((l.n : Int) ≤ (w.n : Int)) = true := decide_eq_true (by rw [hw.n]; omega)
        rw [e3, cond_true]
        have hs : ∀ (b : Arr Int), b.n = l.n → (∀ j, j < l.n → b.f j = w.f j) → ∀ {R : Type} (k : Bool → Option R), newellaw07_sameInts N v b k = k true := fun b hb hf {R} k => same_eq (by rw [hv.n]; omega) (by rw [hv.n, hb]) (by rw [hv.n]; omega) (fun j hj => by
          rw [hv.n] at hj
          rw [hf j hj, hv.f j hj, hw.f j (by omega), h.wt hi hg hT hj]) k
        rw [hs _ rfl (fun j hj => by
          show toI (Cod.cell intC (Arr.f w) (Int.toNat (↑(0 : Nat) : Int) + j) 0) = _
          show w.f (0 + j) = _
          rw [Nat.zero_add]), Bool.not_true, cond_false]
        obtain ⟨b, r, p1, p2⟩ := play_eq hN hc hl (T := 200) (by omega)
        obtain ⟨b', r', q1, q2⟩ := play_eq hN hc ha (T := 200) (by omega)
        refine (p2 _).trans ((q2 _).trans ?_)
        show newellaw07_sameRides N r r' _ = _
        rw [sameR_eq (by rw [p1.1]; omega) (by rw [p1.1, q1.1]) (by rw [p1.1]; omega) (fun j hj => by
          rw [p1.1] at hj
          rw [p1.2 j hj, q1.2 j hj]
          unfold rideAt
          rw [(h.same hi hg hT _).1]), cond_true]
        exact works_eq hN _
      · have g2 : decide (w64 (api_Press.At (Arr.f l (Int.toNat (i : Int))) + Arr.f v (Int.toNat (i : Int))) ≤ api_Press.At x) = true := decide_eq_true (by
          rw [Int.toNat_natCast, iA.1, vi, xA.1, w64_eq (by omega) (by omega)]; omega)
        rw [g2, cond_true]
        exact next
    · have g1 : (api_Press.Floor (Arr.f l (Int.toNat (i : Int))) != api_Press.Floor x) = true := by
        rw [Int.toNat_natCast, iG.1, xG.1]
        simp only [bne_iff_ne, ne_eq]
        omega
      rw [g1, cond_true]
      exact next
theorem callsLater_true (c : api_Car) (l : Arr api_Press) (x : api_Press) (hc : c.wf) (hl : l.n ≤ maxLen) (hl2 : ∀ i, i < l.n → (l.f i).wf) (hx : x.wf) : ∃ N, newellaw07_CallsLater N c l x (fun q0 => okK (lget [.bool q0] 0, [])) = some () := by
  refine ⟨3000, ?_⟩
  have hN : 2000 < 3000 := by decide
  rw [newellaw07_CallsLater_def]
  unfold newellaw07_CallsLater_m
  by_cases h1 : (l.n : Int) > 40
  · rw [decide_eq_true h1, cond_true]
    exact works_eq hN _
  rw [decide_eq_false h1, cond_false, copied_eq _ _ (by omega), room_of (by omega), cond_true]
  have hIs := Arr.Is.push (C := api_PressC) press_dec (a := l) (n := l.n) (g := fun j => if j < l.n then l.f j else x) ⟨rfl, fun i hi => by simp [hi]⟩ (z := [SV.int IntKind.i64 (0 : Int), SV.int IntKind.i64 (0 : Int)]) (e := [SV.int IntKind.i64 (api_Press.At x), SV.int IntKind.i64 (api_Press.Floor x)]) (by simp; rfl)
  have hn0 : Arr.n (lst api_PressC (Arr.n l + (1 : Nat)) (catC (Arr.n l) (Cod.cell api_PressC (Arr.f l)) (litC [SV.int IntKind.i64 (0 : Int), SV.int IntKind.i64 (0 : Int)] [[SV.int IntKind.i64 (api_Press.At x), SV.int IntKind.i64 (api_Press.Floor x)]]))) = l.n + 1 := rfl
  generalize (lst api_PressC (Arr.n l + (1 : Nat)) (catC (Arr.n l) (Cod.cell api_PressC (Arr.f l)) (litC [SV.int IntKind.i64 (0 : Int), SV.int IntKind.i64 (0 : Int)] [[SV.int IntKind.i64 (api_Press.At x), SV.int IntKind.i64 (api_Press.Floor x)]]))) = a at hIs hn0 ⊢
  rw [refCheck (by decide) _ (by omega)]
  by_cases he : errC c a = 0
  rotate_left
  · have e0 : (errC c a != 0) = true := by simpa using he
    rw [e0, cond_true]
    exact works_eq hN _
  obtain ⟨n, hc', rfl, ha⟩ := err_zero he
  have hm : More n l a := ⟨hc', ha, hn0, fun i hi => (hIs.2 i (by omega)).trans (by simp [hi])⟩
  have hxe : a.f l.n = x := (hIs.2 l.n (by omega)).trans (by simp)
  have hv := hm.vl
  have hlan : l.n < a.n := by omega
  have xA := ha.pa hlan
  rw [hxe] at xA
  have e0 : ((0 : Int) != 0) = false := rfl
  rw [he, e0, cond_false, xA.1]
  obtain ⟨b, r, p1, p2⟩ := play_eq hN hc' hv (T := pA a l.n) (by omega)
  obtain ⟨b', r', q1, q2⟩ := play_eq hN hc' ha (T := pA a l.n) (by omega)
  refine (p2 _).trans ((q2 _).trans ?_)
  rw [e0, cond_false, cond_false, sameR_eq (by rw [p1.1]; omega) (by rw [p1.1, q1.1]) (by rw [p1.1]; omega) (fun j hj => by
    rw [p1.1] at hj
    rw [p1.2 j hj, q1.2 j hj]
    unfold rideAt
    rw [hm.before _ (by omega)]), Bool.not_true, cond_false, p1.1, bne_self_eq_false, cond_false]
  obtain ⟨v, f1, f2⟩ := waits_eq hN hc' hv
  obtain ⟨w, g1, g2⟩ := waits_eq hN hc' ha
  refine (f2 _).trans ((g2 _).trans ?_)
  rw [e0, cond_false, cond_false, f1.n, bne_self_eq_false, cond_false, g1.n, hn0, bne_self_eq_false, cond_false]
  exact later_l15 hN hm x hxe f1 g1 false false false _ l.n 0 3000 (by omega) (by omega)
end
end Go.Proofs.Ytlphgonhenegoaa
