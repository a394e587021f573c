import Derived.Test.YtlphgonhenegoaaP9
set_option maxRecDepth 100000
set_option maxHeartbeats 0
set_option linter.unusedSectionVars false
set_option linter.unusedVariables false
set_option linter.unusedSimpArgs false
namespace Go.Proofs.Ytlphgonhenegoaa
open Go.Sx
noncomputable section
def newellaw07_CallsPlays_m {R : Type} (N : Nat) (a684 : api_Car) (a685 : Arr api_Press) (a686 : Int) (k : Bool → Option R) : Option R :=
  bif decide ((↑(Arr.n a685) : Int) > (60 : Int)) then
   bif decide ((↑(Arr.n a685) : Int) ≤ (200 : Int)) then
    newellaw07_works N  (fun r687 =>
    k r687)
   else
    bif decide ((↑(Arr.n a685) : Int) > (202 : Int)) then
     newellaw07_works N  (fun r688 =>
     k r688)
    else
     bif decide (a686 > (200 : Int)) then
      bif decide (a686 ≤ (1000 : Int)) then
       newellaw07_works N  (fun r689 =>
       k r689)
      else
       newellaw07_copied N a685 (fun r690 r691 =>
       calls_Check N a684 r691 (fun r692 =>
       newelref07_Check N a684 a685 (fun r693 =>
       bif r692 != r693 then
        k false
       else
        calls_Play N a684 r691 a686 (fun r694 r695 r696 =>
        newelref07_Play N a684 a685 a686 (fun r697 r698 r699 =>
        bif r694 != r697 then
         k false
        else
         newellaw07_sameRides N r696 r699 (fun r700 =>
         bif !r700 then
          k false
         else
          calls_Waits N a684 r691 (fun r701 r702 r703 =>
          newelref07_Waits N a684 a685 (fun r704 r705 r706 =>
          newellaw07_sameInts N r703 r706 (fun r707 =>
          bif r707 then
           bif r701 == r704 then
            newellaw07_works N  (fun r708 =>
            k r708)
           else
            k false
          else
           k false)))))))))
     else
      newellaw07_copied N a685 (fun r709 r710 =>
      calls_Check N a684 r710 (fun r711 =>
      newelref07_Check N a684 a685 (fun r712 =>
      bif r711 != r712 then
       k false
      else
       calls_Play N a684 r710 a686 (fun r713 r714 r715 =>
       newelref07_Play N a684 a685 a686 (fun r716 r717 r718 =>
       bif r713 != r716 then
        k false
       else
        newellaw07_sameRides N r715 r718 (fun r719 =>
        bif !r719 then
         k false
        else
         calls_Waits N a684 r710 (fun r720 r721 r722 =>
         newelref07_Waits N a684 a685 (fun r723 r724 r725 =>
         newellaw07_sameInts N r722 r725 (fun r726 =>
         bif r726 then
          bif r720 == r723 then
           newellaw07_works N  (fun r727 =>
           k r727)
          else
           k false
         else
          k false)))))))))
  else
   bif decide ((↑(Arr.n a685) : Int) > (202 : Int)) then
    newellaw07_works N  (fun r728 =>
    k r728)
   else
    bif decide (a686 > (200 : Int)) then
     bif decide (a686 ≤ (1000 : Int)) then
      newellaw07_works N  (fun r729 =>
      k r729)
     else
      newellaw07_copied N a685 (fun r730 r731 =>
      calls_Check N a684 r731 (fun r732 =>
      newelref07_Check N a684 a685 (fun r733 =>
      bif r732 != r733 then
       k false
      else
       calls_Play N a684 r731 a686 (fun r734 r735 r736 =>
       newelref07_Play N a684 a685 a686 (fun r737 r738 r739 =>
       bif r734 != r737 then
        k false
       else
        newellaw07_sameRides N r736 r739 (fun r740 =>
        bif !r740 then
         k false
        else
         calls_Waits N a684 r731 (fun r741 r742 r743 =>
         newelref07_Waits N a684 a685 (fun r744 r745 r746 =>
         newellaw07_sameInts N r743 r746 (fun r747 =>
         bif r747 then
          bif r741 == r744 then
           newellaw07_works N  (fun r748 =>
           k r748)
          else
           k false
         else
          k false)))))))))
    else
     newellaw07_copied N a685 (fun r749 r750 =>
     calls_Check N a684 r750 (fun r751 =>
     newelref07_Check N a684 a685 (fun r752 =>
     bif r751 != r752 then
      k false
     else
      calls_Play N a684 r750 a686 (fun r753 r754 r755 =>
      newelref07_Play N a684 a685 a686 (fun r756 r757 r758 =>
      bif r753 != r756 then
       k false
      else
       newellaw07_sameRides N r755 r758 (fun r759 =>
       bif !r759 then
        k false
       else
        calls_Waits N a684 r750 (fun r760 r761 r762 =>
        newelref07_Waits N a684 a685 (fun r763 r764 r765 =>
        newellaw07_sameInts N r762 r765 (fun r766 =>
        bif r766 then
         bif r760 == r763 then
          newellaw07_works N  (fun r767 =>
          k r767)
         else
          k false
        else
         k false)))))))))
noncomputable def newellaw07_CallsPlays {R : Type} : Nat → api_Car → Arr api_Press → Int → (Bool → Option R) → Option R := lock (@newellaw07_CallsPlays_m R)
theorem newellaw07_CallsPlays_def {R : Type} (N : Nat) (a684 : api_Car) (a685 : Arr api_Press) (a686 : Int) (k : Bool → Option R) : newellaw07_CallsPlays N a684 a685 a686 k = newellaw07_CallsPlays_m N a684 a685 a686 k := by unfold newellaw07_CallsPlays; rw [lock_eq]
def newellaw07_CallsPlays_sp : Sp := ⟨[rAgg api_CarC, rSl api_PressC, rInt .i64], []⟩
theorem newellaw07_CallsPlays_sp_ok : newellaw07_CallsPlays_sp.Ok := ⟨(allCons (rAgg_ok api_CarC_ok api_CarC_len) (allCons (rSl_ok api_PressC_ok) (allCons (rInt_ok .i64) allNil))), eNil⟩
def newellaw07_CallsPlays_rs : Sp := ⟨[rBool], []⟩
theorem newellaw07_CallsPlays_rs_ok : newellaw07_CallsPlays_rs.Ok := ⟨(allCons rBool_ok allNil), eNil⟩
def newellaw07_CallsPlays_run {R : Type} (N : Nat) (args : List SV) (T : Tab) (kf : SV × Tab → Option R) : Option R :=
  newellaw07_CallsPlays_m N (Cod.dec api_CarC (lget (toCs (lget args 0)))) (lstC api_PressC (lget args 1)) (toI (lget args 2)) (fun q0 => kf (lget [.bool q0] 0, []))
def newellaw07_CallsPlays_lp {R : Type} (N : Nat) : Lp R := fun body S k => Option.none
noncomputable def newellaw07_CallsPlays_go {R : Type} (N : Nat) (args : List SV) (T : Tab) (kf : SV × Tab → Option R) : Option R :=
  newellaw07_CallsPlays N (Cod.dec api_CarC (lget (toCs (lget args 0)))) (lstC api_PressC (lget args 1)) (toI (lget args 2)) (fun q0 => kf (lget [.bool q0] 0, []))
noncomputable def newellaw07_CallsPlays_cal {R : Type} (N : Nat) : Cal R := callM (calls_waits_v2_cal N) 4 0 newellaw07_CallsPlays_sp (newellaw07_CallsPlays_go N)
theorem newellaw07_CallsPlays_cal_ok {R : Type} (N : Nat) : CalOk E.P (newellaw07_CallsPlays_cal (R := R) N) :=
  callM_ok hE (calls_waits_v2_cal_ok N) (lp := newellaw07_CallsPlays_lp N) (jn := noJn) (keys := []) kNil (by kernel_rfl) (js := []) jNil (by kernel_rfl) newellaw07_CallsPlays_sp_ok newellaw07_CallsPlays_rs_ok (fun args T kf => Eq.trans (newellaw07_CallsPlays_def N (Cod.dec api_CarC (lget (toCs (lget args 0)))) (lstC api_PressC (lget args 1)) (toI (lget args 2)) (fun q0 => kf (lget [.bool q0] 0, []))) (by kernel_rfl : newellaw07_CallsPlays_run N args T kf = fnM E (calls_waits_v2_cal N) (newellaw07_CallsPlays_lp N) (noJn) 4 (newellaw07_CallsPlays_sp.vs args) (newellaw07_CallsPlays_sp.tab T) 0 (resK newellaw07_CallsPlays_rs kf)))
theorem copied_eq (N : Nat) (l : Arr api_Press) (hl : l.n ≤ 1000) {R : Type} (k : Bool → Arr api_Press → Option R) : newellaw07_copied N l k = k false l := by
  rw [newellaw07_copied_def]
  unfold newellaw07_copied_m
  rw [room_of (by omega), cond_true]
  have e1 : (bif Arr.n l == (0 : Nat) then false else false) = false := by cases (Arr.n l == (0 : Nat)) <;> rfl
  rw [e1]
  refine congrArg (k false) ?_
  obtain ⟨n, f⟩ := l
  unfold lst
  congr 1
  · exact Nat.zero_add n
theorem plays_body {N : Nat} (hN : 2000 < N) (c : api_Car) (l : Arr api_Press) (hn : l.n ≤ 202) (T : Int) {R : Type} (k : Bool → Option R) : (
       newellaw07_copied N l (fun r690 r691 =>
       calls_Check N c r691 (fun r692 =>
       newelref07_Check N c l (fun r693 =>
       bif r692 != r693 then
        k false
       else
        calls_Play N c r691 T (fun r694 r695 r696 =>
        newelref07_Play N c l T (fun r697 r698 r699 =>
        bif r694 != r697 then
         k false
        else
         newellaw07_sameRides N r696 r699 (fun r700 =>
         bif !r700 then
          k false
         else
          calls_Waits N c r691 (fun r701 r702 r703 =>
          newelref07_Waits N c l (fun r704 r705 r706 =>
          newellaw07_sameInts N r703 r706 (fun r707 =>
          bif r707 then
           bif r701 == r704 then
            newellaw07_works N  (fun r708 =>
            k r708)
           else
            k false
          else
           k false)))))))))) = k true := by
  rw [copied_eq N l (by omega), check_eq (by omega) _ (by omega), refCheck (by omega) _ (by omega), bne_self_eq_false, cond_false]
  have fin : ∀ (e1 e2 : Int) (b1 b2 : Bool) (w1 w2 : Arr Int), e1 = e2 → w1.n = w2.n → w1.n ≤ 1000 → (∀ i, i < w1.n → w1.f i = w2.f i) → newellaw07_sameInts N w1 w2 (fun r707 => bif r707 then bif e1 == e2 then newellaw07_works N (fun r708 => k r708) else k false else k false) = k true := fun e1 e2 b1 b2 w1 w2 he hw h1 h2 => by
    rw [same_eq (by omega) hw (by omega) h2, cond_true, he, BEq.rfl, cond_true]
    exact works_eq hN _
  have tail : calls_Waits N c l (fun r701 r702 r703 => newelref07_Waits N c l (fun r704 r705 r706 => newellaw07_sameInts N r703 r706 (fun r707 => bif r707 then bif r701 == r704 then newellaw07_works N (fun r708 => k r708) else k false else k false))) = k true := by
    by_cases he : errC c l = 0
    · obtain ⟨n, hc, rfl, hl⟩ := err_zero he
      obtain ⟨w, g1, g2⟩ := waits_eq hN hc hl
      obtain ⟨b, w', f1, f2⟩ := refWaits_eq hN hc hl
      refine (g2 _).trans ((f2 _).trans ?_)
      exact fin 0 0 false b w w' rfl (by rw [g1.n, f1.n]) (by rw [g1.n]; omega) (fun i hi => by rw [g1.f i (by rw [← g1.n]; exact hi), f1.f i (by rw [← g1.n]; exact hi)])
    · obtain ⟨e, w, h0, h1, h2, h3⟩ := waits_err hN (show l.n ≤ 1000 by omega) he
      refine (h2 _).trans ((h3 _).trans ?_)
      exact fin e e true true w w rfl rfl (by omega) (fun i hi => rfl)
  have mid : ∀ (e1 e2 : Int) (r1 r2 : Arr api_Ride), e1 = e2 → r1.n = r2.n → r1.n ≤ 1000 → (∀ i, i < r1.n → r1.f i = r2.f i) → (bif e1 != e2 then k false else newellaw07_sameRides N r1 r2 (fun r700 => bif !r700 then k false else calls_Waits N c l (fun r701 r702 r703 => newelref07_Waits N c l (fun r704 r705 r706 => newellaw07_sameInts N r703 r706 (fun r707 => bif r707 then bif r701 == r704 then newellaw07_works N (fun r708 => k r708) else k false else k false))))) = k true := fun e1 e2 r1 r2 he hr h1 h2 => by
    rw [he, bne_self_eq_false, cond_false, sameR_eq (by omega) hr (by omega) h2, Bool.not_true, cond_false]
    exact tail
  by_cases hg : errC c l = 0 ∧ (0 ≤ T ∧ T ≤ 1000)
  · obtain ⟨n, hc, rfl, hl⟩ := err_zero hg.1
    obtain ⟨t, rfl⟩ : ∃ t : Nat, T = (t : Int) := ⟨T.toNat, by omega⟩
    obtain ⟨b, w, g1, g2⟩ := play_eq hN hc hl (T := t) (by omega)
    obtain ⟨b', w', f1, f2⟩ := refPlay_eq hN hc hl (T := t) (by omega)
    refine (g2 _).trans ((f2 _).trans ?_)
    exact mid 0 0 w w' rfl (by rw [g1.1, f1.1]) (by rw [g1.1]; omega) (fun i hi => by rw [g1.1] at hi; rw [g1.2 i hi, f1.2 i hi])
  · obtain ⟨e, w, h1, h2, h3⟩ := play_err hN (c := c) (l := l) (show l.n ≤ 1000 by omega) (T := T) (by
      by_cases he : errC c l = 0
      · exact .inr fun h => hg ⟨he, h⟩
      · exact .inl he)
    refine (h2 _).trans ((h3 _).trans ?_)
    exact mid e e w w rfl rfl (by omega) (fun i hi => rfl)
theorem callsPlays_true (c : api_Car) (l : Arr api_Press) (T : Int) (hc : c.wf) (hl : l.n ≤ maxLen) (hl2 : ∀ i, i < l.n → (l.f i).wf) (hT : i64 T) : ∃ N, newellaw07_CallsPlays N c l T (fun q0 => okK (lget [.bool q0] 0, [])) = some () := by
  refine ⟨3000, ?_⟩
  rw [newellaw07_CallsPlays_def]
  unfold newellaw07_CallsPlays_m
  have wk : newellaw07_works 3000 (fun r => okK (lget [.bool r] 0, [])) = some () := works_eq (by decide) _
  have bd : (l.n ≤ 202) → _ := fun h => plays_body (N := 3000) (by decide) c l h T (fun r => okK (lget [.bool r] 0, []))
  by_cases h1 : (l.n : Int) > 202
  · rw [decide_eq_true h1, decide_eq_true (show (l.n : Int) > 60 by omega), cond_true, decide_eq_false (show ¬ (l.n : Int) ≤ 200 by omega), cond_false, cond_true]
    exact wk
  rw [decide_eq_false h1]
  have hb := bd (by omega)
  cases decide ((l.n : Int) > 60) <;> cases decide ((l.n : Int) ≤ 200) <;> cases decide (T > 200) <;> cases decide (T ≤ 1000) <;> first | exact wk | exact hb
end
end Go.Proofs.Ytlphgonhenegoaa
