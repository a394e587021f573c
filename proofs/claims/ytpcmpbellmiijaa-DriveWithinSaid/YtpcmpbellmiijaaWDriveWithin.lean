/-
  The model of the statement DriveWithin, that it is what the code does (written by a program), and that it answers true.
-/
import Derived.Test.YtpcmpbellmiijaaP7
set_option maxRecDepth 100000
set_option maxHeartbeats 0
set_option linter.unusedVariables false
set_option linter.unusedSimpArgs false
namespace Go.Proofs.Ytpcmpbellmiijaa
open Go.Sx
noncomputable section

def newellaw01_DriveWithin_L13 : LoopSp := ⟨⟨[3, 4, 7, 8, 15], ⟨(dr 3 ((rPtr 0 0) :: (rPtr 1 0) :: (dr 2 ((rPtr 2 0) :: (rPtr 3 0) :: (dr 6 ((rInt .i64) :: (dr 181 []))))))), [(0, eBlkC api_EscalatorC), (1, eBlkC api_StopC), (2, eBlkC api_SpanC), (3, eBlkC api_SpanC)]⟩, 4⟩, [(Option.none, ⟨[6], ⟨(dr 6 ((rBool) :: (dr 190 []))), []⟩, 0⟩), (some 0, ⟨[], ⟨(dr 197 []), []⟩, 0⟩)]⟩
theorem newellaw01_DriveWithin_L13_ok : newellaw01_DriveWithin_L13.Ok := ⟨⟨(drCons 3 (allCons (rPtr_ok 0 0) (allCons (rPtr_ok 1 0) (drCons 2 (allCons (rPtr_ok 2 0) (allCons (rPtr_ok 3 0) (drCons 6 (allCons (rInt_ok .i64) (drCons 181 allNil))))))))), (eCons (eBlkC_ok api_EscalatorC_ok api_EscalatorC_len) (eCons (eBlkC_ok api_StopC_ok api_StopC_len) (eCons (eBlkC_ok api_SpanC_ok api_SpanC_len) (eCons (eBlkC_ok api_SpanC_ok api_SpanC_len) eNil))))⟩, (xCons ⟨(drCons 6 (allCons rBool_ok (drCons 190 allNil))), eNil⟩ (xCons ⟨(drCons 197 allNil), eNil⟩ xNil))⟩
def newellaw01_DriveWithin_h13 (v727 : Int) (v728 : api_Escalator) (v729 : api_Stop) (v730 : api_Span) (v731 : api_Span) : St := ⟨(un 3 ((.ptr 0 0) :: (.ptr 1 0) :: (un 2 ((.ptr 2 0) :: (.ptr 3 0) :: (un 6 ((.int .i64 v727) :: (un 181 []))))))), [(0, .blk (Cod.enc api_EscalatorC v728)), (1, .blk (Cod.enc api_StopC v729)), (2, .blk (Cod.enc api_SpanC v730)), (3, .blk (Cod.enc api_SpanC v731))], 4⟩
def newellaw01_DriveWithin_x13_r (q0 : Bool) : St := ⟨(un 6 ((.bool q0) :: (un 190 []))), [], 0⟩
def newellaw01_DriveWithin_x13_0  : St := ⟨(un 197 []), [], 0⟩
def newellaw01_DriveWithin_b13 {R : Type} (N : Nat) (rc : Int → api_Escalator → api_Stop → api_Span → api_Span → Option R) (v727 : Int) (v728 : api_Escalator) (v729 : api_Stop) (v730 : api_Span) (v731 : api_Span) (kr : Bool → Option R) (k0 : Unit → Option R) : Option R :=
  bif decide (v727 < (2 : Int)) then
   drive_Witness N v728 v729 (v727 == (0 : Int)) (fun r732 r733 r734 =>
   bif r732 != (0 : Int) then
    kr false
   else
    newelref01_History N v729 r734 (fun r735 =>
    bif !r735 then
     kr false
    else
     drive_Play N v728 v729 r734 (fun r736 r737 r738 =>
     newelref01_Rest N (api_Stop.Speed v729) r738 (fun r739 r740 r741 =>
     bif r736 != (0 : Int) then
      kr false
     else
      bif !r741 then
       kr false
      else
       bif r740 != (↑(Arr.n r734) : Int) then
        kr false
       else
        bif v727 == (0 : Int) then
         bif r739 != api_Span.High v730 then
          kr false
         else
          bif r740 != api_Span.High v731 then
           kr false
          else
           bif v727 == (1 : Int) then
            bif r739 != api_Span.Low v730 then
             kr false
            else
             bif r740 != api_Span.Low v731 then
              kr false
             else
              rc (w64 (v727 + (1 : Int))) v728 v729 v730 v731
           else
            rc (w64 (v727 + (1 : Int))) v728 v729 v730 v731
        else
         bif v727 == (1 : Int) then
          bif r739 != api_Span.Low v730 then
           kr false
          else
           bif r740 != api_Span.Low v731 then
            kr false
           else
            rc (w64 (v727 + (1 : Int))) v728 v729 v730 v731
         else
          rc (w64 (v727 + (1 : Int))) v728 v729 v730 v731))))
  else
   k0 ()
def newellaw01_DriveWithin_l13 {R : Type} (N : Nat) : Nat → Int → api_Escalator → api_Stop → api_Span → api_Span → (Bool → Option R) → (Unit → Option R) → Option R
  | 0, _, _, _, _, _, _, _ => Option.none
  | n + 1, v727, v728, v729, v730, v731, kr, k0 => newellaw01_DriveWithin_b13 N (fun v727 v728 v729 v730 v731 => newellaw01_DriveWithin_l13 N n v727 v728 v729 v730 v731 kr k0) v727 v728 v729 v730 v731 kr k0


def newellaw01_DriveWithin_m {R : Type} (N : Nat) (a707 : api_Escalator) (a708 : api_Stop) (a709 : Arr Int) (k : Bool → Option R) : Option R :=
  newellaw01_Far N a707 (fun r710 =>
  bif r710 then
   newellaw01_works N  (fun r711 =>
   k r711)
  else
   bif decide ((↑(Arr.n a709) : Int) > (100 : Int)) then
    newellaw01_works N  (fun r712 =>
    k r712)
   else
    newelref01_CheckStop N a707 a708 (fun r713 =>
    bif r713 != (0 : Int) then
     newellaw01_works N  (fun r714 =>
     k r714)
    else
     newelref01_History N a708 a709 (fun r715 =>
     bif !r715 then
      newellaw01_works N  (fun r716 =>
      k r716)
     else
      drive_Distance N a707 a708 (fun r717 r718 r719 =>
      bif r719 != (0 : Int) then
       bif r719 == (12 : Int) then
        newellaw01_works N  (fun r720 =>
        k r720)
       else
        k false
      else
       drive_Play N a707 a708 a709 (fun r721 r722 r723 =>
       bif r721 != (0 : Int) then
        k false
       else
        bif (↑(Arr.n r723) : Int) != (↑(Arr.n a709) : Int) then
         k false
        else
         newelref01_Rest N (api_Stop.Speed a708) r723 (fun r724 r725 r726 =>
         bif r726 then
          bif decide (r724 < api_Span.Low r717) then
           k false
          else
           bif decide (r724 > api_Span.High r717) then
            k false
           else
            bif decide (r725 < api_Span.Low r718) then
             k false
            else
             bif decide (r725 > api_Span.High r718) then
              k false
             else
              bif !r726 then
               bif decide (r724 > api_Span.High r717) then
                k false
               else
                bif decide (r725 ≥ api_Span.High r718) then
                 k false
                else
                 newellaw01_DriveWithin_l13 N N (0 : Int) a707 a708 r717 r718 (fun r742 =>
                  k r742) (fun (_ : Unit) =>
                  newellaw01_works N  (fun r743 =>
                  k r743))
              else
               newellaw01_DriveWithin_l13 N N (0 : Int) a707 a708 r717 r718 (fun r744 =>
                k r744) (fun (_ : Unit) =>
                newellaw01_works N  (fun r745 =>
                k r745))
         else
          bif !r726 then
           bif decide (r724 > api_Span.High r717) then
            k false
           else
            bif decide (r725 ≥ api_Span.High r718) then
             k false
            else
             newellaw01_DriveWithin_l13 N N (0 : Int) a707 a708 r717 r718 (fun r746 =>
              k r746) (fun (_ : Unit) =>
              newellaw01_works N  (fun r747 =>
              k r747))
          else
           newellaw01_DriveWithin_l13 N N (0 : Int) a707 a708 r717 r718 (fun r748 =>
            k r748) (fun (_ : Unit) =>
            newellaw01_works N  (fun r749 =>
            k r749))))))))
noncomputable def newellaw01_DriveWithin {R : Type} : Nat → api_Escalator → api_Stop → Arr Int → (Bool → Option R) → Option R := lock (@newellaw01_DriveWithin_m R)
theorem newellaw01_DriveWithin_def {R : Type} (N : Nat) (a707 : api_Escalator) (a708 : api_Stop) (a709 : Arr Int) (k : Bool → Option R) : newellaw01_DriveWithin N a707 a708 a709 k = newellaw01_DriveWithin_m N a707 a708 a709 k := by unfold newellaw01_DriveWithin; rw [lock_eq]
def newellaw01_DriveWithin_sp : Sp := ⟨[rAgg api_EscalatorC, rAgg api_StopC, rSl intC], []⟩
theorem newellaw01_DriveWithin_sp_ok : newellaw01_DriveWithin_sp.Ok := ⟨(allCons (rAgg_ok api_EscalatorC_ok api_EscalatorC_len) (allCons (rAgg_ok api_StopC_ok api_StopC_len) (allCons (rSl_ok intC_ok) allNil))), eNil⟩
def newellaw01_DriveWithin_rs : Sp := ⟨[rBool], []⟩
theorem newellaw01_DriveWithin_rs_ok : newellaw01_DriveWithin_rs.Ok := ⟨(allCons rBool_ok allNil), eNil⟩
def newellaw01_DriveWithin_run {R : Type} (N : Nat) (args : List SV) (T : Tab) (kf : SV × Tab → Option R) : Option R :=
  newellaw01_DriveWithin_m N (Cod.dec api_EscalatorC (lget (toCs (lget args 0)))) (Cod.dec api_StopC (lget (toCs (lget args 1)))) (lstC intC (lget args 2)) (fun q0 => kf (lget [.bool q0] 0, []))
def newellaw01_DriveWithin_d13 {R : Type} (N : Nat) (S0 : St) (k : Exit → St → Option R) : Option R :=
  newellaw01_DriveWithin_l13 N N (toI (lget S0.tmps 15)) (Cod.dec api_EscalatorC (lget (entCs (entAt S0.tab 0)))) (Cod.dec api_StopC (lget (entCs (entAt S0.tab 1)))) (Cod.dec api_SpanC (lget (entCs (entAt S0.tab 2)))) (Cod.dec api_SpanC (lget (entCs (entAt S0.tab 3)))) (fun q0 => k .ret (newellaw01_DriveWithin_x13_r q0)) (fun (_ : Unit) => k (.exit 0) (newellaw01_DriveWithin_x13_0 ))
def newellaw01_DriveWithin_lp {R : Type} (N : Nat) : Lp R := fun body S k => bif (Go.Sx.keyOf body).getD 0 == 13 then newellaw01_DriveWithin_L13.head.raw 0 S (fun S0 => newellaw01_DriveWithin_d13 N S0 k) else Option.none
theorem newellaw01_DriveWithin_l13_eq {R : Type} (N : Nat) (k : Exit → St → Option R) (n : Nat) : ∀ (v0 : Int) (v1 : api_Escalator) (v2 : api_Stop) (v3 : api_Span) (v4 : api_Span), loopM E.Θ (newelref01_Legal_cal N) (newellaw01_DriveWithin_lp N) 0 newellaw01_DriveWithin_L13 (bodyAt E 10 13) n (newellaw01_DriveWithin_h13 v0 v1 v2 v3 v4) k = newellaw01_DriveWithin_l13 N n v0 v1 v2 v3 v4 (fun q0 => k .ret (newellaw01_DriveWithin_x13_r q0)) (fun (_ : Unit) => k (.exit 0) (newellaw01_DriveWithin_x13_0 )) := by
  induction n with
  | zero => intro v0 v1 v2 v3 v4; rfl
  | succ n ih =>
    intro v0 v1 v2 v3 v4
    refine Eq.trans (b := newellaw01_DriveWithin_b13 N (fun v0 v1 v2 v3 v4 => loopM E.Θ (newelref01_Legal_cal N) (newellaw01_DriveWithin_lp N) 0 newellaw01_DriveWithin_L13 (bodyAt E 10 13) n (newellaw01_DriveWithin_h13 v0 v1 v2 v3 v4) k) v0 v1 v2 v3 v4 (fun q0 => k .ret (newellaw01_DriveWithin_x13_r q0)) (fun (_ : Unit) => k (.exit 0) (newellaw01_DriveWithin_x13_0 ))) (by kernel_rfl) ?_
    have h : (fun (v0 : Int) (v1 : api_Escalator) (v2 : api_Stop) (v3 : api_Span) (v4 : api_Span) => loopM E.Θ (newelref01_Legal_cal N) (newellaw01_DriveWithin_lp N) 0 newellaw01_DriveWithin_L13 (bodyAt E 10 13) n (newellaw01_DriveWithin_h13 v0 v1 v2 v3 v4) k) = (fun (v0 : Int) (v1 : api_Escalator) (v2 : api_Stop) (v3 : api_Span) (v4 : api_Span) => newellaw01_DriveWithin_l13 N n v0 v1 v2 v3 v4 (fun q0 => k .ret (newellaw01_DriveWithin_x13_r q0)) (fun (_ : Unit) => k (.exit 0) (newellaw01_DriveWithin_x13_0 ))) := funext fun v0 => funext fun v1 => funext fun v2 => funext fun v3 => funext fun v4 => ih v0 v1 v2 v3 v4
    rw [h]
    rfl
theorem newellaw01_DriveWithin_k13 {R : Type} (N : Nat) : LpKey (R := R) E 10 0 (newellaw01_DriveWithin_lp N) 13 :=
  lpKey_of hE (newelref01_Legal_cal_ok N) newellaw01_DriveWithin_L13_ok [] kNil (by kernel_rfl) N fun S k =>
    Eq.trans (b := newellaw01_DriveWithin_L13.head.raw 0 S (fun S0 => newellaw01_DriveWithin_d13 N S0 k)) (by kernel_rfl) (congrArg (newellaw01_DriveWithin_L13.head.raw 0 S) (funext fun S0 => Eq.trans (newellaw01_DriveWithin_l13_eq N k N (toI (lget S0.tmps 15)) (Cod.dec api_EscalatorC (lget (entCs (entAt S0.tab 0)))) (Cod.dec api_StopC (lget (entCs (entAt S0.tab 1)))) (Cod.dec api_SpanC (lget (entCs (entAt S0.tab 2)))) (Cod.dec api_SpanC (lget (entCs (entAt S0.tab 3))))).symm (by kernel_rfl)))
noncomputable def newellaw01_DriveWithin_go {R : Type} (N : Nat) (args : List SV) (T : Tab) (kf : SV × Tab → Option R) : Option R :=
  newellaw01_DriveWithin N (Cod.dec api_EscalatorC (lget (toCs (lget args 0)))) (Cod.dec api_StopC (lget (toCs (lget args 1)))) (lstC intC (lget args 2)) (fun q0 => kf (lget [.bool q0] 0, []))
noncomputable def newellaw01_DriveWithin_cal {R : Type} (N : Nat) : Cal R := callM (newelref01_Legal_cal N) 10 0 newellaw01_DriveWithin_sp (newellaw01_DriveWithin_go N)
theorem newellaw01_DriveWithin_cal_ok {R : Type} (N : Nat) : CalOk E.P (newellaw01_DriveWithin_cal (R := R) N) :=
  callM_ok hE (newelref01_Legal_cal_ok N) (lp := newellaw01_DriveWithin_lp N) (keys := [13]) (kCons (newellaw01_DriveWithin_k13 N) kNil) (by kernel_rfl) newellaw01_DriveWithin_sp_ok newellaw01_DriveWithin_rs_ok (fun args T kf => Eq.trans (newellaw01_DriveWithin_def N (Cod.dec api_EscalatorC (lget (toCs (lget args 0)))) (Cod.dec api_StopC (lget (toCs (lget args 1)))) (lstC intC (lget args 2)) (fun q0 => kf (lget [.bool q0] 0, []))) (by kernel_rfl : newellaw01_DriveWithin_run N args T kf = fnM E (newelref01_Legal_cal N) (newellaw01_DriveWithin_lp N) 10 (newellaw01_DriveWithin_sp.vs args) (newellaw01_DriveWithin_sp.tab T) 0 (resK newellaw01_DriveWithin_rs kf)))

theorem way_congr {u v : Nat → Int} {n : Nat} (h : ∀ t, t ≤ n → u t = v t) : wayS u n = wayS v n := by
  have a := way_le (u := u) (v := v) (n := n) (fun t ht => by rw [h t ht]; exact Int.le_refl _) n (Nat.le_refl _)
  have b := way_le (u := v) (v := u) (n := n) (fun t ht => by rw [h t ht]; exact Int.le_refl _) n (Nat.le_refl _)
  omega
theorem least_rests {e : api_Escalator} {s : api_Stop} (h1 : VE e) (h2 : VS e s) (hr : pathV e s true (restS e s true) = 0) (most : Bool) : pathV e s most (restS e s most) = 0 := by
  cases most
  · exact (Soft.less (path_soft h2.s1 false) (path_soft h2.s1 true) (n := 100) (m := 100) (fun t _ _ _ _ => path_between (h2.ls h1) t) hr (rest_le e s true)).2.1
  · exact hr
theorem dist_zero {e : api_Escalator} {s : api_Stop} (h1 : VE e) (h2 : VS e s) : distV e s = if pathV e s true (restS e s true) = 0 then
    (⟨wayS (pathV e s false) (restS e s false), wayS (pathV e s true) (restS e s true)⟩, ⟨restS e s false, restS e s true⟩, 0) else (⟨0, 0⟩, ⟨0, 0⟩, 12) := by
  unfold distV
  rw [stopV_of h1 h2]
  simp
theorem within_round {R : Type} {e : api_Escalator} {s : api_Stop} (h1 : VE e) (h2 : VS e s) (hr : pathV e s true (restS e s true) = 0) (i : Int) (hi : i = 0 ∨ i = 1) (rc : Int → api_Escalator → api_Stop → api_Span → api_Span → Option R) (kr : Bool → Option R) (k0 : Unit → Option R) :
    newellaw01_DriveWithin_b13 NN rc i e s ⟨wayS (pathV e s false) (restS e s false), wayS (pathV e s true) (restS e s true)⟩ ⟨(restS e s false : Nat), (restS e s true : Nat)⟩ kr k0 =
      rc (w64 (i + 1)) e s ⟨wayS (pathV e s false) (restS e s false), wayS (pathV e s true) (restS e s true)⟩ ⟨(restS e s false : Nat), (restS e s true : Nat)⟩ := by
  unfold newellaw01_DriveWithin_b13
  have hi2 : decide (i < 2) = true := by simp; omega
  obtain ⟨l, a, ha, hk⟩ := Witness_eq (N := NN) (by decide) e s (i == 0)
  have hd : (distV e s).2.2 = 0 := by rw [dist_zero h1 h2, if_pos hr]
  rw [if_pos hd] at ha
  have hle := rest_le e s (i == 0)
  have hH : HistOk e s a := by
    refine ⟨h1, h2, fun j _ hj => ?_, by rw [ha.len]; exact hle⟩
    rw [ha.len] at hj
    rw [ha.get j hj]
    exact edgeL_in h2.l2 _ _ _
  obtain ⟨l', b, hb, hk'⟩ := Play_eq (N := NN) (by decide) e s a
  rw [playE_of hH, if_pos rfl] at hb
  have hp : ∀ t, t ≤ restS e s (i == 0) → playV e s a.f t = pathV e s (i == 0) t := play_path (i == 0) (fun t ht => ha.get t ht)
  have hz := least_rests h1 h2 hr (i == 0)
  have hst : stopF (playV e s a.f) a.n 0 = restS e s (i == 0) := by
    have hs := stopF_spec (pathV e s (i == 0)) 100 0
    refine stopF_unique (by omega) (by rw [ha.len]; omega) (fun u _ hu => ?_) (fun hu => ?_)
    · rw [hp u (by omega)]; exact hs.2.2.1 u (by omega) hu
    · rw [ha.len] at hu; omega
  have hrest := fun k => Rest_eq (R := R) (N := NN) (by decide) (v := playV e s a.f) (m := a.n) (by rw [ha.len]; omega) (play_B hH) hb k
  have hv : histV s a = true := histV_iff.2 ⟨hH.h, hH.n⟩
  have e0 : playV e s a.f 0 = s.Speed := rfl
  rw [e0] at hrest
  rw [hst, way_congr hp, hp _ (Nat.le_refl _), hz] at hrest
  have hplay := playE_of hH
  simp only [hi2, cond_true, hk, hd, bne_self_eq_false, cond_false, History_eq (show 2000 ≤ NN by decide) (show a.n ≤ 1000 by rw [ha.len]; omega), hv, Bool.not_true, hk', hplay, hrest, BEq.rfl, ha.len]
  have e1 : ((0 : Int) == 0) = true := rfl
  have e2 : ((0 : Int) == 1) = false := rfl
  have e3 : ((1 : Int) == 0) = false := rfl
  have e4 : ((1 : Int) == 1) = true := rfl
  rcases hi with rfl | rfl
  · simp only [e1, e2, cond_true, cond_false, bne_self_eq_false]
  · simp only [e3, e4, cond_true, cond_false, bne_self_eq_false]
theorem driveWithin_true (e : api_Escalator) (s : api_Stop) (a : Arr Int) (he : e.wf) (hs : s.wf) (ha : a.n ≤ maxLen) (ha2 : ∀ i, i < a.n → i64 (a.f i)) : ∃ N, newellaw01_DriveWithin N e s a (fun q0 => okK (lget [.bool q0] 0, [])) = some () := by
  refine ⟨NN, ?_⟩
  rw [newellaw01_DriveWithin_def]
  unfold newellaw01_DriveWithin_m
  simp only [Far_eq, works_eq, refCheckStop_eq (show 10 ≤ NN by decide)]
  by_cases h1 : (e.Brakes.n : Int) > 10
  · simp only [h1, decide_true, cond_true]; rfl
  simp only [h1, decide_false, cond_false]
  by_cases h2 : (a.n : Int) > 100
  · simp only [h2, decide_true, cond_true]; rfl
  simp only [h2, decide_false, cond_false, History_eq (show 2000 ≤ NN by decide) (show a.n ≤ 1000 by omega)]
  by_cases h3 : stopV e s = 0
  case neg =>
    have : (stopV e s != 0) = true := by simpa using h3
    simp only [this, cond_true]; rfl
  obtain ⟨hV, hS⟩ := stopV_zero h3
  simp only [h3, bne_self_eq_false, cond_false]
  cases hv : histV s a
  · rfl
  have hH : HistOk e s a := ⟨hV, hS, (histV_iff.1 hv).1, by omega⟩
  simp only [Bool.not_true, cond_false, Distance_eq (show 200 ≤ NN by decide)]
  by_cases hr : pathV e s true (restS e s true) = 0
  case neg =>
    rw [dist_zero hV hS, if_neg hr]; rfl
  rw [dist_zero hV hS, if_pos hr]
  simp only [bne_self_eq_false, cond_false]
  obtain ⟨l, b, hb, hk⟩ := Play_eq (N := NN) (by decide) e s a
  rw [playE_of hH, if_pos rfl] at hb
  have hplay := playE_of hH
  have hrest := fun k => Rest_eq (R := Unit) (N := NN) (by decide) (v := playV e s a.f) (m := a.n) (by omega) (play_B hH) hb k
  have e0 : playV e s a.f 0 = s.Speed := rfl
  rw [e0] at hrest
  simp only [hk, hplay, bne_self_eq_false, cond_false, hb.len, hrest]
  have hloop : ∀ (kr : Bool → Option Unit) (k0 : Unit → Option Unit), newellaw01_DriveWithin_l13 NN NN 0 e s ⟨wayS (pathV e s false) (restS e s false), wayS (pathV e s true) (restS e s true)⟩ ⟨(restS e s false : Nat), (restS e s true : Nat)⟩ kr k0 = k0 () := by
    intro kr k0
    have h5 : NN = 4997 + 1 + 1 + 1 := rfl
    conv => lhs; arg 2; rw [h5]
    rw [newellaw01_DriveWithin_l13, within_round hV hS hr 0 (Or.inl rfl), newellaw01_DriveWithin_l13, within_round hV hS hr _ (Or.inr (by rw [w64_eq (by omega) (by omega)]; omega)), newellaw01_DriveWithin_l13]
    rfl
  simp only [hloop]
  -- the plain law
  have hbt := play_between hH
  have sv := stopF_spec (playV e s a.f) a.n 0
  have hTM := rest_le e s true
  have hsoftv := play_soft (e := e) hS.s1 a.f
  have hsoftM := path_soft (e := e) hS.s1 true
  have hsoftm := path_soft (e := e) hS.s1 false
  have hup : stopF (playV e s a.f) a.n 0 ≤ restS e s true := by
    rcases Nat.lt_or_ge a.n (restS e s true) with hlt | hge
    · omega
    · exact (Soft.less hsoftv hsoftM (n := a.n) (m := 100) (fun t h6 _ _ _ => (hbt t h6).2) hr hge).1
  have hway : wayS (playV e s a.f) (stopF (playV e s a.f) a.n 0) ≤ wayS (pathV e s true) (restS e s true) := by
    have a1 := way_le (u := playV e s a.f) (v := pathV e s true) (n := a.n) (fun t ht => (hbt t ht).2) (stopF (playV e s a.f) a.n 0) (by omega)
    have a2 := way_mono (v := pathV e s true) (n := restS e s true) (fun t ht => (hsoftM.pos (n := 100) t ht).1) hup (Nat.le_refl _)
    omega
  by_cases hz : playV e s a.f (stopF (playV e s a.f) a.n 0) = 0
  · have hlow := Soft.less hsoftm hsoftv (n := 100) (m := a.n) (fun t _ h7 _ _ => (hbt t h7).1) hz (by omega)
    have c1 : ¬ (wayS (playV e s a.f) (stopF (playV e s a.f) a.n 0) < wayS (pathV e s false) (restS e s false)) := by have := hlow.2.2; unfold restS; omega
    have c2 : ¬ (wayS (playV e s a.f) (stopF (playV e s a.f) a.n 0) > wayS (pathV e s true) (restS e s true)) := by omega
    have c3 : ¬ (((stopF (playV e s a.f) a.n 0 : Nat) : Int) < ((restS e s false : Nat) : Int)) := by have := hlow.1; unfold restS; omega
    have c4 : ¬ (((stopF (playV e s a.f) a.n 0 : Nat) : Int) > ((restS e s true : Nat) : Int)) := by omega
    have hz' : (playV e s a.f (stopF (playV e s a.f) a.n 0) == 0) = true := by simpa using hz
    simp only [hz', cond_true, c1, c2, c3, c4, decide_false, cond_false, Bool.not_true]
    rfl
  · have hz' : (playV e s a.f (stopF (playV e s a.f) a.n 0) == 0) = false := by simpa using hz
    have hTn : stopF (playV e s a.f) a.n 0 = a.n := by
      rcases Nat.lt_or_ge (stopF (playV e s a.f) a.n 0) a.n with h6 | h6
      · exact absurd (sv.2.2.2 (by omega)) hz
      · omega
    have hlt : a.n < restS e s true := by
      rcases Nat.lt_or_ge a.n (restS e s true) with h6 | h6
      · exact h6
      · exact absurd (Soft.less hsoftv hsoftM (n := a.n) (m := 100) (fun t h6 _ _ _ => (hbt t h6).2) hr h6).2.1 hz
    have c2 : ¬ (wayS (playV e s a.f) (stopF (playV e s a.f) a.n 0) > wayS (pathV e s true) (restS e s true)) := by omega
    have c4 : ¬ (((stopF (playV e s a.f) a.n 0 : Nat) : Int) ≥ ((restS e s true : Nat) : Int)) := by omega
    simp only [hz', cond_false, c2, c4, decide_false, Bool.not_false, cond_true]
    rfl
end
end Go.Proofs.Ytpcmpbellmiijaa
