import Derived.Test.YtlikcijophbkbaaLiP2
import Derived.Test.YtlikcijophbkbaaHaP2
set_option maxRecDepth 100000
set_option maxHeartbeats 0
set_option linter.unusedSectionVars false
set_option linter.unusedVariables false
set_option linter.unusedSimpArgs false
namespace Go.Proofs.Ytlikcijophbkbaa
open Go.Sx
noncomputable section
def neweltop_TopCarries_L12 : LoopSp := ⟨⟨[3, 5, 7, 8, 11, 13, 15], ⟨(dr 3 ((rPtr 0 0) :: (dr 1 ((rPtr 1 0) :: (dr 1 ((rPtr 2 0) :: (rPtr 3 0) :: (dr 2 ((rRow 4) :: (dr 1 ((rRow 5) :: (dr 1 ((rInt .i64) :: (dr 211 []))))))))))))), [(0, eBlkC api_HallC), (1, eBlkC neweltop_LadenC), (2, eBlkC api_LiftC), (3, eBlkC neweltop_BoardedC), (4, eRow intC), (5, eMx .i64)]⟩, 6⟩, [(Option.none, ⟨[6], ⟨(dr 6 ((rBool) :: (dr 220 []))), []⟩, 0⟩), (some 0, ⟨[3, 5, 7, 8, 11, 13], ⟨(dr 3 ((rPtr 0 0) :: (dr 1 ((rPtr 1 0) :: (dr 1 ((rPtr 2 0) :: (rPtr 3 0) :: (dr 2 ((rRow 4) :: (dr 1 ((rRow 5) :: (dr 213 []))))))))))), [(0, eBlkC api_HallC), (1, eBlkC neweltop_LadenC), (2, eBlkC api_LiftC), (3, eBlkC neweltop_BoardedC), (4, eRow intC), (5, eMx .i64)]⟩, 6⟩)]⟩
theorem neweltop_TopCarries_L12_ok : neweltop_TopCarries_L12.Ok := ⟨⟨(drCons 3 (allCons (rPtr_ok 0 0) (drCons 1 (allCons (rPtr_ok 1 0) (drCons 1 (allCons (rPtr_ok 2 0) (allCons (rPtr_ok 3 0) (drCons 2 (allCons (rRow_ok 4) (drCons 1 (allCons (rRow_ok 5) (drCons 1 (allCons (rInt_ok .i64) (drCons 211 allNil)))))))))))))), (eCons (eBlkC_ok api_HallC_ok api_HallC_len) (eCons (eBlkC_ok neweltop_LadenC_ok neweltop_LadenC_len) (eCons (eBlkC_ok api_LiftC_ok api_LiftC_len) (eCons (eBlkC_ok neweltop_BoardedC_ok neweltop_BoardedC_len) (eCons (eRow_ok intC_ok) (eCons eMx_ok eNil))))))⟩, (xCons ⟨(drCons 6 (allCons rBool_ok (drCons 220 allNil))), eNil⟩ (xCons ⟨(drCons 3 (allCons (rPtr_ok 0 0) (drCons 1 (allCons (rPtr_ok 1 0) (drCons 1 (allCons (rPtr_ok 2 0) (allCons (rPtr_ok 3 0) (drCons 2 (allCons (rRow_ok 4) (drCons 1 (allCons (rRow_ok 5) (drCons 213 allNil)))))))))))), (eCons (eBlkC_ok api_HallC_ok api_HallC_len) (eCons (eBlkC_ok neweltop_LadenC_ok neweltop_LadenC_len) (eCons (eBlkC_ok api_LiftC_ok api_LiftC_len) (eCons (eBlkC_ok neweltop_BoardedC_ok neweltop_BoardedC_len) (eCons (eRow_ok intC_ok) (eCons eMx_ok eNil))))))⟩ xNil))⟩
def neweltop_TopCarries_h12 (v722 : Int) (v723 : api_Hall) (v724 : neweltop_Laden) (v725 : api_Lift) (v726 : neweltop_Boarded) (v727 : Bool) (v728 : Arr Int) (v729 : Arr (Arr Int)) : St := ⟨(un 3 ((.ptr 0 0) :: (un 1 ((.ptr 1 0) :: (un 1 ((.ptr 2 0) :: (.ptr 3 0) :: (un 2 ((.row 4) :: (un 1 ((.row 5) :: (un 1 ((.int .i64 v722) :: (un 211 []))))))))))))), [(0, .blk (Cod.enc api_HallC v723)), (1, .blk (Cod.enc neweltop_LadenC v724)), (2, .blk (Cod.enc api_LiftC v725)), (3, .blk (Cod.enc neweltop_BoardedC v726)), (4, rowE intC v727 v728), (5, mxE .i64 v729)], 6⟩
def neweltop_TopCarries_x12_r (q0 : Bool) : St := ⟨(un 6 ((.bool q0) :: (un 220 []))), [], 0⟩
def neweltop_TopCarries_x12_0 (v723 : api_Hall) (v724 : neweltop_Laden) (v725 : api_Lift) (v726 : neweltop_Boarded) (v727 : Bool) (v728 : Arr Int) (v729 : Arr (Arr Int)) : St := ⟨(un 3 ((.ptr 0 0) :: (un 1 ((.ptr 1 0) :: (un 1 ((.ptr 2 0) :: (.ptr 3 0) :: (un 2 ((.row 4) :: (un 1 ((.row 5) :: (un 213 []))))))))))), [(0, .blk (Cod.enc api_HallC v723)), (1, .blk (Cod.enc neweltop_LadenC v724)), (2, .blk (Cod.enc api_LiftC v725)), (3, .blk (Cod.enc neweltop_BoardedC v726)), (4, rowE intC v727 v728), (5, mxE .i64 v729)], 6⟩
def neweltop_TopCarries_b12 {R : Type} (N : Nat) (rc : Int → api_Hall → neweltop_Laden → api_Lift → neweltop_Boarded → Bool → Arr Int → Arr (Arr Int) → Option R) (v722 : Int) (v723 : api_Hall) (v724 : neweltop_Laden) (v725 : api_Lift) (v726 : neweltop_Boarded) (v727 : Bool) (v728 : Arr Int) (v729 : Arr (Arr Int)) (kr : Bool → Option R) (k0 : Unit → Option R) : Option R :=
  bif decide (v722 < api_Hall.Until v723) then
   bif decide ((0 : Int) ≤ v722) && decide (v722 < (↑(Arr.n v728) : Int)) then
    bif decide (w64 (Arr.f v728 (Int.toNat v722) * neweltop_Boarded.Body v726) > api_Lift.Rated v725) then
     neweltop_measures N  (fun r730 =>
     kr r730)
    else
     rc (w64 (v722 + (1 : Int))) v723 v724 v725 v726 v727 v728 v729
   else
    Option.none
  else
   k0 ()
def neweltop_TopCarries_l12 {R : Type} (N : Nat) : Nat → Int → api_Hall → neweltop_Laden → api_Lift → neweltop_Boarded → Bool → Arr Int → Arr (Arr Int) → (Bool → Option R) → (Unit → Option R) → Option R
  | 0, _, _, _, _, _, _, _, _, _, _ => Option.none
  | n + 1, v722, v723, v724, v725, v726, v727, v728, v729, kr, k0 => neweltop_TopCarries_b12 N (fun v722 v723 v724 v725 v726 v727 v728 v729 => neweltop_TopCarries_l12 N n v722 v723 v724 v725 v726 v727 v728 v729 kr k0) v722 v723 v724 v725 v726 v727 v728 v729 kr k0
def neweltop_TopCarries_L17 : LoopSp := ⟨⟨[3, 5, 7, 8, 11, 13, 16], ⟨(dr 3 ((rPtr 0 0) :: (dr 1 ((rPtr 1 0) :: (dr 1 ((rPtr 2 0) :: (rPtr 3 0) :: (dr 2 ((rRow 4) :: (dr 1 ((rRow 5) :: (dr 2 ((rInt .i64) :: (dr 210 []))))))))))))), [(0, eBlkC api_HallC), (1, eBlkC neweltop_LadenC), (2, eBlkC api_LiftC), (3, eBlkC neweltop_BoardedC), (4, eRow intC), (5, eMx .i64)]⟩, 6⟩, [(Option.none, ⟨[6], ⟨(dr 6 ((rBool) :: (dr 220 []))), []⟩, 0⟩), (some 2, ⟨[], ⟨(dr 227 []), []⟩, 0⟩)]⟩
theorem neweltop_TopCarries_L17_ok : neweltop_TopCarries_L17.Ok := ⟨⟨(drCons 3 (allCons (rPtr_ok 0 0) (drCons 1 (allCons (rPtr_ok 1 0) (drCons 1 (allCons (rPtr_ok 2 0) (allCons (rPtr_ok 3 0) (drCons 2 (allCons (rRow_ok 4) (drCons 1 (allCons (rRow_ok 5) (drCons 2 (allCons (rInt_ok .i64) (drCons 210 allNil)))))))))))))), (eCons (eBlkC_ok api_HallC_ok api_HallC_len) (eCons (eBlkC_ok neweltop_LadenC_ok neweltop_LadenC_len) (eCons (eBlkC_ok api_LiftC_ok api_LiftC_len) (eCons (eBlkC_ok neweltop_BoardedC_ok neweltop_BoardedC_len) (eCons (eRow_ok intC_ok) (eCons eMx_ok eNil))))))⟩, (xCons ⟨(drCons 6 (allCons rBool_ok (drCons 220 allNil))), eNil⟩ (xCons ⟨(drCons 227 allNil), eNil⟩ xNil))⟩
def neweltop_TopCarries_h17 (v732 : Int) (v733 : api_Hall) (v734 : neweltop_Laden) (v735 : api_Lift) (v736 : neweltop_Boarded) (v737 : Bool) (v738 : Arr Int) (v739 : Arr (Arr Int)) : St := ⟨(un 3 ((.ptr 0 0) :: (un 1 ((.ptr 1 0) :: (un 1 ((.ptr 2 0) :: (.ptr 3 0) :: (un 2 ((.row 4) :: (un 1 ((.row 5) :: (un 2 ((.int .i64 v732) :: (un 210 []))))))))))))), [(0, .blk (Cod.enc api_HallC v733)), (1, .blk (Cod.enc neweltop_LadenC v734)), (2, .blk (Cod.enc api_LiftC v735)), (3, .blk (Cod.enc neweltop_BoardedC v736)), (4, rowE intC v737 v738), (5, mxE .i64 v739)], 6⟩
def neweltop_TopCarries_x17_r (q0 : Bool) : St := ⟨(un 6 ((.bool q0) :: (un 220 []))), [], 0⟩
def neweltop_TopCarries_x17_2  : St := ⟨(un 227 []), [], 0⟩
def neweltop_TopCarries_b17 {R : Type} (N : Nat) (rc : Int → api_Hall → neweltop_Laden → api_Lift → neweltop_Boarded → Bool → Arr Int → Arr (Arr Int) → Option R) (v732 : Int) (v733 : api_Hall) (v734 : neweltop_Laden) (v735 : api_Lift) (v736 : neweltop_Boarded) (v737 : Bool) (v738 : Arr Int) (v739 : Arr (Arr Int)) (kr : Bool → Option R) (k2 : Unit → Option R) : Option R :=
  bif decide (v732 < api_Hall.Until v733) then
   bif decide ((0 : Int) ≤ v732) && decide (v732 < (↑(Arr.n v739) : Int)) then
    bif (↑(mxL v739 (Int.toNat v732)) : Int) != (↑(Arr.n (api_Hall.Combs v733)) : Int) then
     kr false
    else
     bif decide ((0 : Int) ≤ v732) && decide (v732 < (↑(Arr.n v739) : Int)) then
      bif decide ((0 : Int) ≤ neweltop_Boarded.Comb v736) && decide (neweltop_Boarded.Comb v736 < (↑(mxL v739 (Int.toNat v732)) : Int)) then
       bif decide ((0 : Int) ≤ v732) && decide (v732 < (↑(Arr.n v738) : Int)) then
        lift_Slips N v735 (neweltop_Laden.Height v734) (w64 (mnI (mxG v739 (Int.toNat v732) (Int.toNat (neweltop_Boarded.Comb v736))) (Arr.f v738 (Int.toNat v732)) * neweltop_Boarded.Body v736)) (neweltop_Laden.Accel v734) (fun r740 r741 =>
        bif r741 != (0 : Int) then
         kr false
        else
         bif r740 then
          kr false
         else
          rc (w64 (v732 + (1 : Int))) v733 v734 v735 v736 v737 v738 v739)
       else
        Option.none
      else
       Option.none
     else
      Option.none
   else
    Option.none
  else
   k2 ()
def neweltop_TopCarries_l17 {R : Type} (N : Nat) : Nat → Int → api_Hall → neweltop_Laden → api_Lift → neweltop_Boarded → Bool → Arr Int → Arr (Arr Int) → (Bool → Option R) → (Unit → Option R) → Option R
  | 0, _, _, _, _, _, _, _, _, _, _ => Option.none
  | n + 1, v732, v733, v734, v735, v736, v737, v738, v739, kr, k2 => neweltop_TopCarries_b17 N (fun v732 v733 v734 v735 v736 v737 v738 v739 => neweltop_TopCarries_l17 N n v732 v733 v734 v735 v736 v737 v738 v739 kr k2) v732 v733 v734 v735 v736 v737 v738 v739 kr k2
def neweltop_TopCarries_m {R : Type} (N : Nat) (a692 : api_Hall) (a693 : api_Day) (a694 : neweltop_Laden) (k : Bool → Option R) : Option R :=
  newellaw06_Far N a692 (fun r695 =>
  bif r695 then
   neweltop_measures N  (fun r696 =>
   k r696)
  else
   newellaw05_Far N (neweltop_Laden.Lift a694) (fun r697 =>
   bif r697 then
    neweltop_measures N  (fun r698 =>
    k r698)
   else
    newelref06_Check N a692 (fun r699 =>
    bif r699 != (0 : Int) then
     neweltop_measures N  (fun r700 =>
     k r700)
    else
     newelref06_Fits N a692 a693 (fun r701 =>
     bif !r701 then
      neweltop_measures N  (fun r702 =>
      k r702)
     else
      newelref05_Check N (neweltop_Laden.Lift a694) (fun r703 =>
      bif r703 != (0 : Int) then
       neweltop_measures N  (fun r704 =>
       k r704)
      else
       bif decide (neweltop_Boarded.Comb (neweltop_Laden.Boarded a694) < (0 : Int)) then
        neweltop_measures N  (fun r705 =>
        k r705)
       else
        bif decide (neweltop_Boarded.Comb (neweltop_Laden.Boarded a694) ≥ (↑(Arr.n (api_Hall.Combs a692)) : Int)) then
         neweltop_measures N  (fun r706 =>
         k r706)
        else
         bif decide (neweltop_Boarded.Body (neweltop_Laden.Boarded a694) < (1 : Int)) then
          neweltop_measures N  (fun r707 =>
          k r707)
         else
          bif decide (neweltop_Boarded.Body (neweltop_Laden.Boarded a694) > (1000 : Int)) then
           neweltop_measures N  (fun r708 =>
           k r708)
          else
           bif decide (neweltop_Laden.Height a694 < (0 : Int)) then
            neweltop_measures N  (fun r709 =>
            k r709)
           else
            bif decide ((0 : Int) ≤ w64 ((↑(Arr.n (api_Lift.Floors (neweltop_Laden.Lift a694))) : Int) - (1 : Int))) && decide (w64 ((↑(Arr.n (api_Lift.Floors (neweltop_Laden.Lift a694))) : Int) - (1 : Int)) < (↑(Arr.n (api_Lift.Floors (neweltop_Laden.Lift a694))) : Int)) then
             bif decide (neweltop_Laden.Height a694 > Arr.f (api_Lift.Floors (neweltop_Laden.Lift a694)) (Int.toNat (w64 ((↑(Arr.n (api_Lift.Floors (neweltop_Laden.Lift a694))) : Int) - (1 : Int))))) then
              neweltop_measures N  (fun r710 =>
              k r710)
             else
              bif decide (neweltop_Laden.Accel a694 < (0 : Int)) then
               neweltop_measures N  (fun r711 =>
               k r711)
              else
               bif decide (neweltop_Laden.Accel a694 ≥ (1000 : Int)) then
                neweltop_measures N  (fun r712 =>
                k r712)
               else
                bif decide ((0 : Int) ≤ w64 ((↑(Arr.n (api_Lift.Floors (neweltop_Laden.Lift a694))) : Int) - (1 : Int))) && decide (w64 ((↑(Arr.n (api_Lift.Floors (neweltop_Laden.Lift a694))) : Int) - (1 : Int)) < (↑(Arr.n (api_Lift.Floors (neweltop_Laden.Lift a694))) : Int)) then
                 lift_Grip N (neweltop_Laden.Lift a694) (api_Span.mk (0 : Int) (Arr.f (api_Lift.Floors (neweltop_Laden.Lift a694)) (Int.toNat (w64 ((↑(Arr.n (api_Lift.Floors (neweltop_Laden.Lift a694))) : Int) - (1 : Int)))))) (api_Span.mk (0 : Int) (api_Lift.Rated (neweltop_Laden.Lift a694))) (fun r713 r714 =>
                 halls_Rates N a692 (neweltop_Boarded.Comb (neweltop_Laden.Boarded a694)) (fun r715 r716 r717 =>
                 halls_Play N a692 a693 (fun r718 r719 =>
                 bif r715 != (0 : Int) then
                  k false
                 else
                  bif r718 != (0 : Int) then
                   k false
                  else
                   bif r714 != (0 : Int) then
                    bif r714 != (3 : Int) then
                     k false
                    else
                     bif (↑(Arr.n r717) : Int) != api_Hall.Until a692 then
                      k false
                     else
                      bif (↑(Arr.n r719) : Int) != api_Hall.Until a692 then
                       k false
                      else
                       bif r714 != (0 : Int) then
                        neweltop_measures N  (fun r720 =>
                        k r720)
                       else
                        bif decide (neweltop_Laden.Accel a694 > r713) then
                         neweltop_measures N  (fun r721 =>
                         k r721)
                        else
                         neweltop_TopCarries_l12 N N (0 : Int) a692 a694 (neweltop_Laden.Lift a694) (neweltop_Laden.Boarded a694) r716 r717 r719 (fun r731 =>
                          k r731) (fun (_ : Unit) =>
                          neweltop_TopCarries_l17 N N (0 : Int) a692 a694 (neweltop_Laden.Lift a694) (neweltop_Laden.Boarded a694) r716 r717 r719 (fun r742 =>
                           k r742) (fun (_ : Unit) =>
                           neweltop_measures N  (fun r743 =>
                           k r743)))
                   else
                    bif (↑(Arr.n r717) : Int) != api_Hall.Until a692 then
                     k false
                    else
                     bif (↑(Arr.n r719) : Int) != api_Hall.Until a692 then
                      k false
                     else
                      bif r714 != (0 : Int) then
                       neweltop_measures N  (fun r744 =>
                       k r744)
                      else
                       bif decide (neweltop_Laden.Accel a694 > r713) then
                        neweltop_measures N  (fun r745 =>
                        k r745)
                       else
                        neweltop_TopCarries_l12 N N (0 : Int) a692 a694 (neweltop_Laden.Lift a694) (neweltop_Laden.Boarded a694) r716 r717 r719 (fun r746 =>
                         k r746) (fun (_ : Unit) =>
                         neweltop_TopCarries_l17 N N (0 : Int) a692 a694 (neweltop_Laden.Lift a694) (neweltop_Laden.Boarded a694) r716 r717 r719 (fun r747 =>
                          k r747) (fun (_ : Unit) =>
                          neweltop_measures N  (fun r748 =>
                          k r748))))))
                else
                 Option.none
            else
             Option.none)))))
noncomputable def neweltop_TopCarries {R : Type} : Nat → api_Hall → api_Day → neweltop_Laden → (Bool → Option R) → Option R := lock (@neweltop_TopCarries_m R)
theorem neweltop_TopCarries_def {R : Type} (N : Nat) (a692 : api_Hall) (a693 : api_Day) (a694 : neweltop_Laden) (k : Bool → Option R) : neweltop_TopCarries N a692 a693 a694 k = neweltop_TopCarries_m N a692 a693 a694 k := by unfold neweltop_TopCarries; rw [lock_eq]
def neweltop_TopCarries_sp : Sp := ⟨[rAgg api_HallC, rAgg api_DayC, rAgg neweltop_LadenC], []⟩
theorem neweltop_TopCarries_sp_ok : neweltop_TopCarries_sp.Ok := ⟨(allCons (rAgg_ok api_HallC_ok api_HallC_len) (allCons (rAgg_ok api_DayC_ok api_DayC_len) (allCons (rAgg_ok neweltop_LadenC_ok neweltop_LadenC_len) allNil))), eNil⟩
def neweltop_TopCarries_rs : Sp := ⟨[rBool], []⟩
theorem neweltop_TopCarries_rs_ok : neweltop_TopCarries_rs.Ok := ⟨(allCons rBool_ok allNil), eNil⟩
def neweltop_TopCarries_run {R : Type} (N : Nat) (args : List SV) (T : Tab) (kf : SV × Tab → Option R) : Option R :=
  neweltop_TopCarries_m N (Cod.dec api_HallC (lget (toCs (lget args 0)))) (Cod.dec api_DayC (lget (toCs (lget args 1)))) (Cod.dec neweltop_LadenC (lget (toCs (lget args 2)))) (fun q0 => kf (lget [.bool q0] 0, []))
def neweltop_TopCarries_d17 {R : Type} (N : Nat) (S0 : St) (k : Exit → St → Option R) : Option R :=
  neweltop_TopCarries_l17 N N (toI (lget S0.tmps 16)) (Cod.dec api_HallC (lget (entCs (entAt S0.tab 0)))) (Cod.dec neweltop_LadenC (lget (entCs (entAt S0.tab 1)))) (Cod.dec api_LiftC (lget (entCs (entAt S0.tab 2)))) (Cod.dec neweltop_BoardedC (lget (entCs (entAt S0.tab 3)))) (entNl (entAt S0.tab 4)) (lst intC (entN (entAt S0.tab 4)) (entC (entAt S0.tab 4))) (mxD (entMn (entAt S0.tab 5)) (entMl (entAt S0.tab 5)) (entMg (entAt S0.tab 5))) (fun q0 => k .ret (neweltop_TopCarries_x17_r q0)) (fun (_ : Unit) => k (.exit 2) (neweltop_TopCarries_x17_2 ))
def neweltop_TopCarries_d12 {R : Type} (N : Nat) (S0 : St) (k : Exit → St → Option R) : Option R :=
  neweltop_TopCarries_l12 N N (toI (lget S0.tmps 15)) (Cod.dec api_HallC (lget (entCs (entAt S0.tab 0)))) (Cod.dec neweltop_LadenC (lget (entCs (entAt S0.tab 1)))) (Cod.dec api_LiftC (lget (entCs (entAt S0.tab 2)))) (Cod.dec neweltop_BoardedC (lget (entCs (entAt S0.tab 3)))) (entNl (entAt S0.tab 4)) (lst intC (entN (entAt S0.tab 4)) (entC (entAt S0.tab 4))) (mxD (entMn (entAt S0.tab 5)) (entMl (entAt S0.tab 5)) (entMg (entAt S0.tab 5))) (fun q0 => k .ret (neweltop_TopCarries_x12_r q0)) (fun (_ : Unit) => k (.exit 0) (neweltop_TopCarries_x12_0 (Cod.dec api_HallC (lget (entCs (entAt S0.tab 0)))) (Cod.dec neweltop_LadenC (lget (entCs (entAt S0.tab 1)))) (Cod.dec api_LiftC (lget (entCs (entAt S0.tab 2)))) (Cod.dec neweltop_BoardedC (lget (entCs (entAt S0.tab 3)))) (entNl (entAt S0.tab 4)) (lst intC (entN (entAt S0.tab 4)) (entC (entAt S0.tab 4))) (mxD (entMn (entAt S0.tab 5)) (entMl (entAt S0.tab 5)) (entMg (entAt S0.tab 5)))))
def neweltop_TopCarries_lp {R : Type} (N : Nat) : Lp R := fun body S k => bif (Go.Sx.keyOf body).getD 0 == 12 then (neweltop_TopCarries_L12.head.raw 0 S (fun S0 => neweltop_TopCarries_d12 N S0 k)) else bif (Go.Sx.keyOf body).getD 0 == 17 then (neweltop_TopCarries_L17.head.raw 0 S (fun S0 => neweltop_TopCarries_d17 N S0 k)) else Option.none
theorem neweltop_TopCarries_l12_eq {R : Type} (N : Nat) (k : Exit → St → Option R) (n : Nat) : ∀ (v0 : Int) (v1 : api_Hall) (v2 : neweltop_Laden) (v3 : api_Lift) (v4 : neweltop_Boarded) (v5 : Bool) (v6 : Arr Int) (v7 : Arr (Arr Int)), loopM E.Θ (neweltop_measures_cal N) (neweltop_TopCarries_lp N) (noJn) 0 neweltop_TopCarries_L12 (bodyAt E 5 12) n (neweltop_TopCarries_h12 v0 v1 v2 v3 v4 v5 v6 v7) k = neweltop_TopCarries_l12 N n v0 v1 v2 v3 v4 v5 v6 v7 (fun q0 => k .ret (neweltop_TopCarries_x12_r q0)) (fun (_ : Unit) => k (.exit 0) (neweltop_TopCarries_x12_0 v1 v2 v3 v4 v5 v6 v7)) := by
  induction n with
  | zero => intro v0 v1 v2 v3 v4 v5 v6 v7; rfl
  | succ n ih =>
    intro v0 v1 v2 v3 v4 v5 v6 v7
    refine Eq.trans (b := neweltop_TopCarries_b12 N (fun v0 v1 v2 v3 v4 v5 v6 v7 => loopM E.Θ (neweltop_measures_cal N) (neweltop_TopCarries_lp N) (noJn) 0 neweltop_TopCarries_L12 (bodyAt E 5 12) n (neweltop_TopCarries_h12 v0 v1 v2 v3 v4 v5 v6 v7) k) v0 v1 v2 v3 v4 v5 v6 v7 (fun q0 => k .ret (neweltop_TopCarries_x12_r q0)) (fun (_ : Unit) => k (.exit 0) (neweltop_TopCarries_x12_0 v1 v2 v3 v4 v5 v6 v7))) (by kernel_rfl) ?_
    have h : (fun (v0 : Int) (v1 : api_Hall) (v2 : neweltop_Laden) (v3 : api_Lift) (v4 : neweltop_Boarded) (v5 : Bool) (v6 : Arr Int) (v7 : Arr (Arr Int)) => loopM E.Θ (neweltop_measures_cal N) (neweltop_TopCarries_lp N) (noJn) 0 neweltop_TopCarries_L12 (bodyAt E 5 12) n (neweltop_TopCarries_h12 v0 v1 v2 v3 v4 v5 v6 v7) k) = (fun (v0 : Int) (v1 : api_Hall) (v2 : neweltop_Laden) (v3 : api_Lift) (v4 : neweltop_Boarded) (v5 : Bool) (v6 : Arr Int) (v7 : Arr (Arr Int)) => neweltop_TopCarries_l12 N n v0 v1 v2 v3 v4 v5 v6 v7 (fun q0 => k .ret (neweltop_TopCarries_x12_r q0)) (fun (_ : Unit) => k (.exit 0) (neweltop_TopCarries_x12_0 v1 v2 v3 v4 v5 v6 v7))) := funext fun v0 => funext fun v1 => funext fun v2 => funext fun v3 => funext fun v4 => funext fun v5 => funext fun v6 => funext fun v7 => ih v0 v1 v2 v3 v4 v5 v6 v7
    rw [h]
    rfl
theorem neweltop_TopCarries_l17_eq {R : Type} (N : Nat) (k : Exit → St → Option R) (n : Nat) : ∀ (v0 : Int) (v1 : api_Hall) (v2 : neweltop_Laden) (v3 : api_Lift) (v4 : neweltop_Boarded) (v5 : Bool) (v6 : Arr Int) (v7 : Arr (Arr Int)), loopM E.Θ (neweltop_measures_cal N) (neweltop_TopCarries_lp N) (noJn) 0 neweltop_TopCarries_L17 (bodyAt E 5 17) n (neweltop_TopCarries_h17 v0 v1 v2 v3 v4 v5 v6 v7) k = neweltop_TopCarries_l17 N n v0 v1 v2 v3 v4 v5 v6 v7 (fun q0 => k .ret (neweltop_TopCarries_x17_r q0)) (fun (_ : Unit) => k (.exit 2) (neweltop_TopCarries_x17_2 )) := by
  induction n with
  | zero => intro v0 v1 v2 v3 v4 v5 v6 v7; rfl
  | succ n ih =>
    intro v0 v1 v2 v3 v4 v5 v6 v7
    refine Eq.trans (b := neweltop_TopCarries_b17 N (fun v0 v1 v2 v3 v4 v5 v6 v7 => loopM E.Θ (neweltop_measures_cal N) (neweltop_TopCarries_lp N) (noJn) 0 neweltop_TopCarries_L17 (bodyAt E 5 17) n (neweltop_TopCarries_h17 v0 v1 v2 v3 v4 v5 v6 v7) k) v0 v1 v2 v3 v4 v5 v6 v7 (fun q0 => k .ret (neweltop_TopCarries_x17_r q0)) (fun (_ : Unit) => k (.exit 2) (neweltop_TopCarries_x17_2 ))) (by kernel_rfl) ?_
    have h : (fun (v0 : Int) (v1 : api_Hall) (v2 : neweltop_Laden) (v3 : api_Lift) (v4 : neweltop_Boarded) (v5 : Bool) (v6 : Arr Int) (v7 : Arr (Arr Int)) => loopM E.Θ (neweltop_measures_cal N) (neweltop_TopCarries_lp N) (noJn) 0 neweltop_TopCarries_L17 (bodyAt E 5 17) n (neweltop_TopCarries_h17 v0 v1 v2 v3 v4 v5 v6 v7) k) = (fun (v0 : Int) (v1 : api_Hall) (v2 : neweltop_Laden) (v3 : api_Lift) (v4 : neweltop_Boarded) (v5 : Bool) (v6 : Arr Int) (v7 : Arr (Arr Int)) => neweltop_TopCarries_l17 N n v0 v1 v2 v3 v4 v5 v6 v7 (fun q0 => k .ret (neweltop_TopCarries_x17_r q0)) (fun (_ : Unit) => k (.exit 2) (neweltop_TopCarries_x17_2 ))) := funext fun v0 => funext fun v1 => funext fun v2 => funext fun v3 => funext fun v4 => funext fun v5 => funext fun v6 => funext fun v7 => ih v0 v1 v2 v3 v4 v5 v6 v7
    rw [h]
    rfl
theorem neweltop_TopCarries_k12 {R : Type} (N : Nat) : LpKey (R := R) E 5 0 (neweltop_TopCarries_lp N) 12 :=
  lpKey_of hE (neweltop_measures_cal_ok N) (lp := neweltop_TopCarries_lp N) (jn := noJn) neweltop_TopCarries_L12_ok [] kNil (by kernel_rfl) [] jNil (by kernel_rfl) N fun S k =>
    Eq.trans (b := neweltop_TopCarries_L12.head.raw 0 S (fun S0 => neweltop_TopCarries_d12 N S0 k)) (by kernel_rfl) (congrArg (neweltop_TopCarries_L12.head.raw 0 S) (funext fun S0 => Eq.trans (neweltop_TopCarries_l12_eq N k N (toI (lget S0.tmps 15)) (Cod.dec api_HallC (lget (entCs (entAt S0.tab 0)))) (Cod.dec neweltop_LadenC (lget (entCs (entAt S0.tab 1)))) (Cod.dec api_LiftC (lget (entCs (entAt S0.tab 2)))) (Cod.dec neweltop_BoardedC (lget (entCs (entAt S0.tab 3)))) (entNl (entAt S0.tab 4)) (lst intC (entN (entAt S0.tab 4)) (entC (entAt S0.tab 4))) (mxD (entMn (entAt S0.tab 5)) (entMl (entAt S0.tab 5)) (entMg (entAt S0.tab 5)))).symm (by kernel_rfl)))
theorem neweltop_TopCarries_k17 {R : Type} (N : Nat) : LpKey (R := R) E 5 0 (neweltop_TopCarries_lp N) 17 :=
  lpKey_of hE (neweltop_measures_cal_ok N) (lp := neweltop_TopCarries_lp N) (jn := noJn) neweltop_TopCarries_L17_ok [] kNil (by kernel_rfl) [] jNil (by kernel_rfl) N fun S k =>
    Eq.trans (b := neweltop_TopCarries_L17.head.raw 0 S (fun S0 => neweltop_TopCarries_d17 N S0 k)) (by kernel_rfl) (congrArg (neweltop_TopCarries_L17.head.raw 0 S) (funext fun S0 => Eq.trans (neweltop_TopCarries_l17_eq N k N (toI (lget S0.tmps 16)) (Cod.dec api_HallC (lget (entCs (entAt S0.tab 0)))) (Cod.dec neweltop_LadenC (lget (entCs (entAt S0.tab 1)))) (Cod.dec api_LiftC (lget (entCs (entAt S0.tab 2)))) (Cod.dec neweltop_BoardedC (lget (entCs (entAt S0.tab 3)))) (entNl (entAt S0.tab 4)) (lst intC (entN (entAt S0.tab 4)) (entC (entAt S0.tab 4))) (mxD (entMn (entAt S0.tab 5)) (entMl (entAt S0.tab 5)) (entMg (entAt S0.tab 5)))).symm (by kernel_rfl)))
noncomputable def neweltop_TopCarries_go {R : Type} (N : Nat) (args : List SV) (T : Tab) (kf : SV × Tab → Option R) : Option R :=
  neweltop_TopCarries N (Cod.dec api_HallC (lget (toCs (lget args 0)))) (Cod.dec api_DayC (lget (toCs (lget args 1)))) (Cod.dec neweltop_LadenC (lget (toCs (lget args 2)))) (fun q0 => kf (lget [.bool q0] 0, []))
noncomputable def neweltop_TopCarries_cal {R : Type} (N : Nat) : Cal R := callM (neweltop_measures_cal N) 5 0 neweltop_TopCarries_sp (neweltop_TopCarries_go N)
theorem neweltop_TopCarries_cal_ok {R : Type} (N : Nat) : CalOk E.P (neweltop_TopCarries_cal (R := R) N) :=
  callM_ok hE (neweltop_measures_cal_ok N) (lp := neweltop_TopCarries_lp N) (jn := noJn) (keys := [12, 17]) (kCons (neweltop_TopCarries_k12 N) (kCons (neweltop_TopCarries_k17 N) kNil)) (by kernel_rfl) (js := []) jNil (by kernel_rfl) neweltop_TopCarries_sp_ok neweltop_TopCarries_rs_ok (fun args T kf => Eq.trans (neweltop_TopCarries_def N (Cod.dec api_HallC (lget (toCs (lget args 0)))) (Cod.dec api_DayC (lget (toCs (lget args 1)))) (Cod.dec neweltop_LadenC (lget (toCs (lget args 2)))) (fun q0 => kf (lget [.bool q0] 0, []))) (by kernel_rfl : neweltop_TopCarries_run N args T kf = fnM E (neweltop_measures_cal N) (neweltop_TopCarries_lp N) (noJn) 5 (neweltop_TopCarries_sp.vs args) (neweltop_TopCarries_sp.tab T) 0 (resK neweltop_TopCarries_rs kf)))
theorem far6_l4 (N : Nat) {h : api_Hall} (hn : h.Trains.n ≤ 20) {R : Type} (kr : Bool → Option R) (k0 : Unit → Option R) : ∀ (q i n : Nat), i + q = h.Trains.n → q < n →
    newellaw06_Far_l4 N n (i : Int) h kr k0 = kr true ∨ newellaw06_Far_l4 N n (i : Int) h kr k0 = k0 () := by
  intro q
  induction q with
  | zero =>
    intro i n h1 h2
    obtain ⟨n, rfl⟩ : ∃ m, n = m + 1 := ⟨n - 1, by omega⟩
    right
    unfold newellaw06_Far_l4 newellaw06_Far_b4
    simp only [Ha.ltF (show h.Trains.n ≤ i by omega), cond_false]
  | succ q ih =>
    intro i n h1 h2
    obtain ⟨n, rfl⟩ : ∃ m, n = m + 1 := ⟨n - 1, by omega⟩
    unfold newellaw06_Far_l4 newellaw06_Far_b4
    simp only [Ha.ltT (show i < h.Trains.n by omega), nat_nonneg, Bool.and_self, cond_true, Int.toNat_natCast, Ha.ws (show i < 100000 by omega)]
    cases decide (((h.Trains.f i).Crowds.n : Int) > 10)
    · exact ih (i + 1) n (by omega) (by omega)
    · exact .inl rfl
theorem far6_or {N : Nat} (hN : 200 ≤ N) (h : api_Hall) {R : Type} (k : Bool → Option R) : newellaw06_Far N h k = k true ∨ newellaw06_Far N h k = k false := by
  rw [newellaw06_Far_def]
  unfold newellaw06_Far_m
  cases decide ((h.Combs.n : Int) > 12)
  rotate_left
  · exact .inl rfl
  by_cases c : (h.Trains.n : Int) > 20
  · simp only [c, decide_true, cond_true, cond_false, true_or]
  simp only [c, decide_false, cond_false]
  cases decide ((h.Shifts.n : Int) > 40)
  rotate_left
  · exact .inl rfl
  have hl := far6_l4 N (h := h) (by omega) (fun r260 => k r260) (fun (_ : Unit) => k false) h.Trains.n 0 N (by omega) (by omega)
  cases decide (h.Until > 40)
  rotate_left
  · cases decide (h.Until ≤ 100)
    · exact hl
    · exact .inl rfl
  · exact hl
theorem use_rates {N : Nat} (hN : 200 ≤ N) {h : api_Hall} (hv : Ha.HallV h) {c : Nat} (hc : c < h.Combs.n) {R : Type} (k : Int → Bool → Arr Int → Option R) (z : Option R)
    (H : ∀ out : Arr Int, out.n = h.Until.toNat → (∀ j, j < h.Until.toNat → 0 ≤ out.f j ∧ out.f j ≤ 1000) → k 0 false out = z) : halls_Rates N h (c : Int) k = z := by
  obtain ⟨out, a1, a2, a3⟩ := Ha.Rates_eq hN hv hc k
  exact a3.trans (H out a1 a2)
theorem use_play {N : Nat} (hN : 200 ≤ N) {h : api_Hall} (hv : Ha.HallV h) {d : api_Day} (hd : Ha.DayV h d) {R : Type} (k : Int → Arr (Arr Int) → Option R) (z : Option R)
    (H : ∀ rows : Arr (Arr Int), rows.n = h.Until.toNat → (∀ t, t < h.Until.toNat → (rows.f t).n = h.Combs.n ∧ ∀ c, c < h.Combs.n → 0 ≤ (rows.f t).f c ∧ (rows.f t).f c ≤ 48000) → k 0 rows = z) : halls_Play N h d k = z := by
  obtain ⟨out, a1, a2, a3⟩ := Ha.Play_eq hN hv hd k
  exact a3.trans (H out a1 a2)
section
open Li
theorem gripS_spec (l : api_Lift) (h s : api_Span) : ∀ m : Nat, ((gripS l h s m).2 = 0 ∧ 0 ≤ (gripS l h s m).1 ∧ (gripS l h s m).1 < m ∧ noslip l h s (gripS l h s m).1 ∧ (∀ a : Int, (gripS l h s m).1 < a → a < m → ¬ noslip l h s a)) ∨ (gripS l h s m = (0, 3) ∧ ∀ a : Int, 0 ≤ a → a < m → ¬ noslip l h s a) := by
  intro m
  induction m with
  | zero => right; exact ⟨rfl, fun a h1 h2 => by omega⟩
  | succ m ih =>
    unfold gripS
    by_cases hn : noslip l h s m
    · left
      rw [if_pos hn]
      exact ⟨rfl, by simp, by simp; omega, hn, fun a h1 h2 => by simp at h1; omega⟩
    · rw [if_neg hn]
      rcases ih with ⟨h1, h2, h3, h4, h5⟩ | ⟨h1, h2⟩
      · left
        refine ⟨h1, h2, by omega, h4, fun a ha ha2 => ?_⟩
        rcases Int.lt_or_eq_of_le (show a ≤ m by omega) with h6 | h6
        · exact h5 a ha h6
        · rw [h6]; exact hn
      · right
        refine ⟨h1, fun a ha ha2 => ?_⟩
        rcases Int.lt_or_eq_of_le (show a ≤ m by omega) with h6 | h6
        · exact h2 a ha h6
        · rw [h6]; exact hn
theorem slipsV_pos {l : api_Lift} (hv : VL l) {x y a : Int} (h : inP l x y) (ha : 0 ≤ a) (ha2 : a ≤ 999) : slipsV l x y a = (decide (slipP l x y a), 0) := by
  unfold slipsV
  rw [if_pos hv, if_pos (show inP3 l x y a from ⟨h, ha, ha2⟩)]
end
theorem carries_l12 (N : Nat) {h : api_Hall} (x : neweltop_Laden) (l : api_Lift) (y : neweltop_Boarded) (b : Bool) {rates : Arr Int} (rows : Arr (Arr Int)) (kr : Bool → Option Unit) (k0 : Unit → Option Unit) {U : Nat} (hU : h.Until = (U : Int)) (hu : U ≤ 100) (hn : rates.n = U) (hr : ∀ j, j < U → 0 ≤ rates.f j ∧ rates.f j ≤ 1000) (hB : 1 ≤ y.Body ∧ y.Body ≤ 1000) (hkr : kr true = some ())
    (H : (∀ j, j < U → rates.f j * y.Body ≤ l.Rated) → k0 () = some ()) :
    ∀ (q i n : Nat), i + q = U → q < n → (∀ j, j < i → rates.f j * y.Body ≤ l.Rated) → neweltop_TopCarries_l12 N n (i : Int) h x l y b rates rows kr k0 = some () := by
  intro q
  induction q with
  | zero =>
    intro i n h1 h2 h3
    obtain ⟨n, rfl⟩ : ∃ m, n = m + 1 := ⟨n - 1, by omega⟩
    unfold neweltop_TopCarries_l12 neweltop_TopCarries_b12
    simp only [hU, Ha.ltF (show U ≤ i by omega), cond_false]
    exact H (fun j hj => h3 j (by omega))
  | succ q ih =>
    intro i n h1 h2 h3
    obtain ⟨n, rfl⟩ : ∃ m, n = m + 1 := ⟨n - 1, by omega⟩
    have hri := hr i (by omega)
    have m1 := mul_range hri.1 hri.2 (b := y.Body) (B := 1000) (by omega) hB.2
    conv => lhs; unfold neweltop_TopCarries_l12 neweltop_TopCarries_b12
    simp only [hU, Ha.ltT (show i < U by omega), Ha.ltT (show i < rates.n by omega), nat_nonneg, Bool.and_self, cond_true, Int.toNat_natCast, Ha.ws (show i < 100000 by omega), w64_eq (n := rates.f i * y.Body) (by omega) (by omega), neweltop_measures_eq]
    by_cases c : rates.f i * y.Body > l.Rated
    · simp only [c, decide_true, cond_true, hkr]
    · simp only [c, decide_false, cond_false]
      exact ih (i + 1) n (by omega) (by omega) (fun j hj => by
        by_cases e : j = i
        · subst e; omega
        · exact h3 j (by omega))
theorem carries_l17 {N : Nat} (hN : 20 ≤ N) {h : api_Hall} {x : neweltop_Laden} {l : api_Lift} (hv : Li.VL l) {y : neweltop_Boarded} (b : Bool) {rates : Arr Int} {rows : Arr (Arr Int)} (kr : Bool → Option Unit) (k2 : Unit → Option Unit) (H : k2 () = some ()) {U : Nat} (hU : h.Until = (U : Int)) (hu : U ≤ 100) (hn : rates.n = U) (hrn : rows.n = U) (hr : ∀ j, j < U → 0 ≤ rates.f j ∧ rates.f j ≤ 1000) (hB : 1 ≤ y.Body ∧ y.Body ≤ 1000)
    (hle : ∀ j, j < U → rates.f j * y.Body ≤ l.Rated) (hrow : ∀ j, j < U → (rows.f j).n = h.Combs.n) {C : Nat} (hC : y.Comb = (C : Int)) (hCl : C < h.Combs.n) (hz : ∀ j, j < U → 0 ≤ (rows.f j).f C)
    (hx : 0 ≤ x.Height ∧ x.Height ≤ Li.topS l) (ha : 0 ≤ x.Accel ∧ x.Accel ≤ 999) (hs : ∀ load : Int, 0 ≤ load → load ≤ l.Rated → ¬ Li.slipP l x.Height load x.Accel) :
    ∀ (q i n : Nat), i + q = U → q < n → neweltop_TopCarries_l17 N n (i : Int) h x l y b rates rows kr k2 = some () := by
  intro q
  induction q with
  | zero =>
    intro i n h1 h2
    obtain ⟨n, rfl⟩ : ∃ m, n = m + 1 := ⟨n - 1, by omega⟩
    unfold neweltop_TopCarries_l17 neweltop_TopCarries_b17
    simp only [hU, Ha.ltF (show U ≤ i by omega), cond_false]
    exact H
  | succ q ih =>
    intro i n h1 h2
    obtain ⟨n, rfl⟩ : ∃ m, n = m + 1 := ⟨n - 1, by omega⟩
    have hi : i < U := by omega
    have hri := hr i hi
    have hzi := hz i hi
    have hlei := hle i hi
    have hl : mxL rows i = h.Combs.n := hrow i hi
    have hgG : mxG rows i C = (rows.f i).f C := rfl
    have hm : 0 ≤ mnI ((rows.f i).f C) (rates.f i) ∧ mnI ((rows.f i).f C) (rates.f i) ≤ rates.f i := by rw [mnI_eq]; omega
    generalize hmn : mnI ((rows.f i).f C) (rates.f i) = m at hm
    have m1 := mul_range hm.1 (show m ≤ 1000 by omega) (b := y.Body) (B := 1000) (by omega) hB.2
    have m2 : m * y.Body ≤ rates.f i * y.Body := Int.mul_le_mul_of_nonneg_right hm.2 (by omega)
    have hsl := slipsV_pos hv (x := x.Height) (y := m * y.Body) (a := x.Accel) ⟨hx, m1.1, by omega⟩ ha.1 ha.2
    have hno : decide (Li.slipP l x.Height (m * y.Body) x.Accel) = false := decide_eq_false (hs _ m1.1 (by omega))
    conv => lhs; unfold neweltop_TopCarries_l17 neweltop_TopCarries_b17
    simp only [hU, Ha.ltT hi, Ha.ltT (show i < rows.n by omega), Ha.ltT (show i < rates.n by omega), nat_nonneg, Bool.and_self, cond_true, Int.toNat_natCast, hl, bne_self_eq_false, cond_false, hC, Ha.ltT hCl, hgG, hmn, Ha.ws (show i < 100000 by omega), w64_eq (n := m * y.Body) (by omega) (by omega), Li.Slips_eq hN, hsl, hno]
    exact ih (i + 1) n (by omega) (by omega)
theorem topCarries_true (h : api_Hall) (d : api_Day) (x : neweltop_Laden) (hh : h.wf) (hd : d.wf) (hx : x.wf) : ∃ N, neweltop_TopCarries N h d x (fun q0 => okK (lget [.bool q0] 0, [])) = some () := by
  refine ⟨2000, ?_⟩
  rw [neweltop_TopCarries_def]
  unfold neweltop_TopCarries_m
  have htr : okK (lget [SV.bool true] 0, []) = some () := rfl
  simp only [neweltop_measures_eq, htr]
  generalize x.Lift = l
  generalize x.Boarded = y
  refine (far6_or (N := 2000) (by decide) h _).elim (fun e => by rw [e]; rfl) (fun e => ?_)
  rw [e, cond_false, Li.Far_eq]
  clear e
  cases decide ((l.Floors.n : Int) > 30)
  rotate_left
  · rfl
  rw [cond_false]
  rcases Ha.refCheck_or (N := 2000) (by decide) h _ with e | ⟨hv, e⟩
  · rw [e]; rfl
  rw [e, bne_self_eq_false, cond_false]
  rcases Ha.refFits_or (N := 2000) (by decide) hv d _ with e | ⟨hdv, e⟩
  · rw [e]; rfl
  rw [e, Bool.not_true, cond_false, Li.refCheck_eq (by decide)]
  clear e
  by_cases hl : Li.VL l
  rotate_left
  · rw [Li.checkV_ne hl]; rfl
  have hu := hv.u
  have n1 := hl.n1
  have n2 := hl.n2
  rw [Li.checkV_pos hl]
  simp only [bne_self_eq_false, cond_false, Li.last_idx (l := l) (by omega) (by omega), nat_nonneg, Ha.ltT (show l.Floors.n - 1 < l.Floors.n by omega), Bool.and_self, cond_true, Int.toNat_natCast, Li.Grip_eq (show 1001 ≤ 2000 by decide)]
  by_cases c1 : y.Comb < 0
  · simp only [c1, decide_true, cond_true]
  by_cases c2 : y.Comb ≥ (h.Combs.n : Int)
  · simp only [c1, c2, decide_true, decide_false, cond_true, cond_false]
  by_cases c3 : y.Body < 1
  · simp only [c1, c2, c3, decide_true, decide_false, cond_true, cond_false]
  by_cases c4 : y.Body > 1000
  · simp only [c1, c2, c3, c4, decide_true, decide_false, cond_true, cond_false]
  by_cases c5 : x.Height < 0
  · simp only [c1, c2, c3, c4, c5, decide_true, decide_false, cond_true, cond_false]
  by_cases c6 : x.Height > l.Floors.f (l.Floors.n - 1)
  · simp only [c1, c2, c3, c4, c5, c6, decide_true, decide_false, cond_true, cond_false]
  by_cases c7 : x.Accel < 0
  · simp only [c1, c2, c3, c4, c5, c6, c7, decide_true, decide_false, cond_true, cond_false]
  by_cases c8 : x.Accel ≥ 1000
  · simp only [c1, c2, c3, c4, c5, c6, c7, c8, decide_true, decide_false, cond_true, cond_false]
  simp only [c1, c2, c3, c4, c5, c6, c7, c8, decide_false, cond_false]
  obtain ⟨C, hC⟩ : ∃ C : Nat, y.Comb = (C : Int) := ⟨y.Comb.toNat, by omega⟩
  obtain ⟨U, hU⟩ : ∃ U : Nat, h.Until = (U : Int) := ⟨h.Until.toNat, by omega⟩
  have hUt : h.Until.toNat = U := by omega
  have hCl : C < h.Combs.n := by omega
  rw [hC]
  refine use_rates (by decide) hv hCl _ _ fun rates a1 a2 => ?_
  try dsimp only []
  refine use_play (by decide) hv hdv _ _ fun rows b1 b2 => ?_
  rw [hUt] at a1 a2 b1 b2
  have e1 : ((rates.n : Int) != h.Until) = false := by rw [a1]; simp; omega
  have e2 : ((rows.n : Int) != h.Until) = false := by rw [b1]; simp; omega
  have tb := hl.top
  have r1 := hl.r1
  have r2 := hl.r2
  have hsp : Li.spansP l ⟨0, l.Floors.f (l.Floors.n - 1)⟩ ⟨0, l.Rated⟩ := by
    have : Li.topS l = l.Floors.f (l.Floors.n - 1) := rfl
    exact ⟨⟨Int.le_refl _, by show 0 ≤ l.Floors.f (l.Floors.n - 1); omega, Int.le_refl _⟩, Int.le_refl _, r1, Int.le_refl _⟩
  have hgv : Li.gripV l ⟨0, l.Floors.f (l.Floors.n - 1)⟩ ⟨0, l.Rated⟩ = Li.gripS l ⟨0, l.Floors.f (l.Floors.n - 1)⟩ ⟨0, l.Rated⟩ 1000 := by unfold Li.gripV; rw [if_pos hl, if_pos hsp]
  rw [hgv]
  simp only [bne_self_eq_false, cond_false, e1, e2]
  rcases gripS_spec l ⟨0, l.Floors.f (l.Floors.n - 1)⟩ ⟨0, l.Rated⟩ 1000 with ⟨g1, g2, g3, g4, _⟩ | ⟨g1, _⟩
  rotate_left
  · rw [g1]; rfl
  rw [g1]
  generalize (Li.gripS l ⟨0, l.Floors.f (l.Floors.n - 1)⟩ ⟨0, l.Rated⟩ 1000).1 = g at *
  simp only [bne_self_eq_false, cond_false]
  by_cases c9 : x.Accel > g
  · simp only [c9, decide_true, cond_true]
  simp only [c9, decide_false, cond_false]
  refine carries_l12 2000 x l y false rows _ _ hU (by omega) a1 a2 ⟨by omega, by omega⟩ htr (fun hle => ?_) U 0 2000 (by omega) (by omega) (fun j hj => by omega)
  refine carries_l17 (by decide) hl false _ _ rfl hU (by omega) a1 b1 a2 ⟨by omega, by omega⟩ hle (fun j hj => (b2 j hj).1) hC hCl (fun j hj => ((b2 j hj).2 C hCl).1) ⟨by omega, by show x.Height ≤ l.Floors.f (l.Floors.n - 1); omega⟩ ⟨by omega, by omega⟩ (fun load q1 q2 hp => ?_) U 0 2000 (by omega) (by omega)
  have := Li.slip_ends hl hsp (x := x.Height) (y := load) (a := x.Accel) (by show 0 ≤ x.Height; omega) (by show x.Height ≤ l.Floors.f (l.Floors.n - 1); omega) q1 q2 (by omega) (by omega) hp
  have ht : Li.topS l = l.Floors.f (l.Floors.n - 1) := rfl
  rcases this with hp | hp
  · exact g4.1 (Li.slip_mono hl (Int.le_refl _) (by show 0 ≤ Li.topS l; omega) r1 r2 (by omega) (by omega) (by omega) hp)
  · exact g4.2 (Li.slip_mono hl (by show 0 ≤ l.Floors.f (l.Floors.n - 1); omega) (Int.le_refl _) (Int.le_refl _) (by show (0 : Int) ≤ 100000; omega) (by omega) (by omega) (by omega) hp)
end
end Go.Proofs.Ytlikcijophbkbaa
