import Derived.Test.YtlikcijophbkbaaEnP2
import Derived.Test.YtlikcijophbkbaaHaP2
set_option maxRecDepth 100000
set_option maxHeartbeats 0
set_option linter.unusedSectionVars false
set_option linter.unusedVariables false
set_option linter.unusedSimpArgs false
namespace Go.Proofs.Ytlikcijophbkbaa
open Go.Sx
noncomputable section
def neweltop_TopBoards_L10 : LoopSp := ⟨⟨[3, 5, 7, 8, 10, 12, 13], ⟨(dr 3 ((rPtr 0 0) :: (dr 1 ((rPtr 1 0) :: (dr 1 ((rPtr 2 0) :: (rRow 3) :: (dr 1 ((rRow 4) :: (dr 1 ((rInt .i64) :: (rInt .i64) :: (dr 173 []))))))))))), [(0, eBlkC api_HallC), (1, eBlkC neweltop_BoardingC), (2, eBlkC api_BandC), (3, eRow intC), (4, eMx .i64)]⟩, 5⟩, [(some 0, ⟨[3, 5, 7, 8, 10, 12], ⟨(dr 3 ((rPtr 0 0) :: (dr 1 ((rPtr 1 0) :: (dr 1 ((rPtr 2 0) :: (rRow 3) :: (dr 1 ((rRow 4) :: (dr 1 ((rInt .i64) :: (dr 174 []))))))))))), [(0, eBlkC api_HallC), (1, eBlkC neweltop_BoardingC), (2, eBlkC api_BandC), (3, eRow intC), (4, eMx .i64)]⟩, 5⟩)]⟩
theorem neweltop_TopBoards_L10_ok : neweltop_TopBoards_L10.Ok := ⟨⟨(drCons 3 (allCons (rPtr_ok 0 0) (drCons 1 (allCons (rPtr_ok 1 0) (drCons 1 (allCons (rPtr_ok 2 0) (allCons (rRow_ok 3) (drCons 1 (allCons (rRow_ok 4) (drCons 1 (allCons (rInt_ok .i64) (allCons (rInt_ok .i64) (drCons 173 allNil))))))))))))), (eCons (eBlkC_ok api_HallC_ok api_HallC_len) (eCons (eBlkC_ok neweltop_BoardingC_ok neweltop_BoardingC_len) (eCons (eBlkC_ok api_BandC_ok api_BandC_len) (eCons (eRow_ok intC_ok) (eCons eMx_ok eNil)))))⟩, (xCons ⟨(drCons 3 (allCons (rPtr_ok 0 0) (drCons 1 (allCons (rPtr_ok 1 0) (drCons 1 (allCons (rPtr_ok 2 0) (allCons (rRow_ok 3) (drCons 1 (allCons (rRow_ok 4) (drCons 1 (allCons (rInt_ok .i64) (drCons 174 allNil)))))))))))), (eCons (eBlkC_ok api_HallC_ok api_HallC_len) (eCons (eBlkC_ok neweltop_BoardingC_ok neweltop_BoardingC_len) (eCons (eBlkC_ok api_BandC_ok api_BandC_len) (eCons (eRow_ok intC_ok) (eCons eMx_ok eNil)))))⟩ xNil)⟩
def neweltop_TopBoards_h10 (v659 : Int) (v660 : Int) (v661 : api_Hall) (v662 : neweltop_Boarding) (v663 : api_Band) (v664 : Bool) (v665 : Arr Int) (v666 : Arr (Arr Int)) : St := ⟨(un 3 ((.ptr 0 0) :: (un 1 ((.ptr 1 0) :: (un 1 ((.ptr 2 0) :: (.row 3) :: (un 1 ((.row 4) :: (un 1 ((.int .i64 v659) :: (.int .i64 v660) :: (un 173 []))))))))))), [(0, .blk (Cod.enc api_HallC v661)), (1, .blk (Cod.enc neweltop_BoardingC v662)), (2, .blk (Cod.enc api_BandC v663)), (3, rowE intC v664 v665), (4, mxE .i64 v666)], 5⟩
def neweltop_TopBoards_x10_0 (v661 : api_Hall) (v662 : neweltop_Boarding) (v663 : api_Band) (v664 : Bool) (v665 : Arr Int) (v666 : Arr (Arr Int)) (q0 : Int) : St := ⟨(un 3 ((.ptr 0 0) :: (un 1 ((.ptr 1 0) :: (un 1 ((.ptr 2 0) :: (.row 3) :: (un 1 ((.row 4) :: (un 1 ((.int .i64 q0) :: (un 174 []))))))))))), [(0, .blk (Cod.enc api_HallC v661)), (1, .blk (Cod.enc neweltop_BoardingC v662)), (2, .blk (Cod.enc api_BandC v663)), (3, rowE intC v664 v665), (4, mxE .i64 v666)], 5⟩
def neweltop_TopBoards_b10 {R : Type} (N : Nat) (rc : Int → Int → api_Hall → neweltop_Boarding → api_Band → Bool → Arr Int → Arr (Arr Int) → Option R) (v659 : Int) (v660 : Int) (v661 : api_Hall) (v662 : neweltop_Boarding) (v663 : api_Band) (v664 : Bool) (v665 : Arr Int) (v666 : Arr (Arr Int)) (k0 : Int → Option R) : Option R :=
  bif decide (v660 < (↑(Arr.n v665) : Int)) then
   bif decide ((0 : Int) ≤ v660) && decide (v660 < (↑(Arr.n v665) : Int)) then
    rc (mxI v659 (Arr.f v665 (Int.toNat v660))) (w64 (v660 + (1 : Int))) v661 v662 v663 v664 v665 v666
   else
    Option.none
  else
   k0 v659
def neweltop_TopBoards_l10 {R : Type} (N : Nat) : Nat → Int → Int → api_Hall → neweltop_Boarding → api_Band → Bool → Arr Int → Arr (Arr Int) → (Int → Option R) → Option R
  | 0, _, _, _, _, _, _, _, _, _ => Option.none
  | n + 1, v659, v660, v661, v662, v663, v664, v665, v666, k0 => neweltop_TopBoards_b10 N (fun v659 v660 v661 v662 v663 v664 v665 v666 => neweltop_TopBoards_l10 N n v659 v660 v661 v662 v663 v664 v665 v666 k0) v659 v660 v661 v662 v663 v664 v665 v666 k0
def neweltop_TopBoards_L25 : LoopSp := ⟨⟨[3, 5, 7, 8, 10, 16, 17, 18], ⟨(dr 3 ((rPtr 0 0) :: (dr 1 ((rPtr 1 0) :: (dr 1 ((rPtr 2 0) :: (rRow 3) :: (dr 1 ((rRow 4) :: (dr 5 ((rInt .i64) :: (rInt .i64) :: (rInt .i64) :: (dr 168 []))))))))))), [(0, eBlkC api_HallC), (1, eBlkC neweltop_BoardingC), (2, eBlkC api_BandC), (3, eRow intC), (4, eMx .i64)]⟩, 5⟩, [(Option.none, ⟨[6], ⟨(dr 6 ((rBool) :: (dr 180 []))), []⟩, 0⟩), (some 4, ⟨[3, 5, 7, 8, 10, 16, 17], ⟨(dr 3 ((rPtr 0 0) :: (dr 1 ((rPtr 1 0) :: (dr 1 ((rPtr 2 0) :: (rRow 3) :: (dr 1 ((rRow 4) :: (dr 5 ((rInt .i64) :: (rInt .i64) :: (dr 169 []))))))))))), [(0, eBlkC api_HallC), (1, eBlkC neweltop_BoardingC), (2, eBlkC api_BandC), (3, eRow intC), (4, eMx .i64)]⟩, 5⟩)]⟩
theorem neweltop_TopBoards_L25_ok : neweltop_TopBoards_L25.Ok := ⟨⟨(drCons 3 (allCons (rPtr_ok 0 0) (drCons 1 (allCons (rPtr_ok 1 0) (drCons 1 (allCons (rPtr_ok 2 0) (allCons (rRow_ok 3) (drCons 1 (allCons (rRow_ok 4) (drCons 5 (allCons (rInt_ok .i64) (allCons (rInt_ok .i64) (allCons (rInt_ok .i64) (drCons 168 allNil)))))))))))))), (eCons (eBlkC_ok api_HallC_ok api_HallC_len) (eCons (eBlkC_ok neweltop_BoardingC_ok neweltop_BoardingC_len) (eCons (eBlkC_ok api_BandC_ok api_BandC_len) (eCons (eRow_ok intC_ok) (eCons eMx_ok eNil)))))⟩, (xCons ⟨(drCons 6 (allCons rBool_ok (drCons 180 allNil))), eNil⟩ (xCons ⟨(drCons 3 (allCons (rPtr_ok 0 0) (drCons 1 (allCons (rPtr_ok 1 0) (drCons 1 (allCons (rPtr_ok 2 0) (allCons (rRow_ok 3) (drCons 1 (allCons (rRow_ok 4) (drCons 5 (allCons (rInt_ok .i64) (allCons (rInt_ok .i64) (drCons 169 allNil))))))))))))), (eCons (eBlkC_ok api_HallC_ok api_HallC_len) (eCons (eBlkC_ok neweltop_BoardingC_ok neweltop_BoardingC_len) (eCons (eBlkC_ok api_BandC_ok api_BandC_len) (eCons (eRow_ok intC_ok) (eCons eMx_ok eNil)))))⟩ xNil))⟩
def neweltop_TopBoards_h25 (v679 : Int) (v680 : Int) (v681 : Int) (v682 : api_Hall) (v683 : neweltop_Boarding) (v684 : api_Band) (v685 : Bool) (v686 : Arr Int) (v687 : Arr (Arr Int)) : St := ⟨(un 3 ((.ptr 0 0) :: (un 1 ((.ptr 1 0) :: (un 1 ((.ptr 2 0) :: (.row 3) :: (un 1 ((.row 4) :: (un 5 ((.int .i64 v679) :: (.int .i64 v680) :: (.int .i64 v681) :: (un 168 []))))))))))), [(0, .blk (Cod.enc api_HallC v682)), (1, .blk (Cod.enc neweltop_BoardingC v683)), (2, .blk (Cod.enc api_BandC v684)), (3, rowE intC v685 v686), (4, mxE .i64 v687)], 5⟩
def neweltop_TopBoards_x25_r (q0 : Bool) : St := ⟨(un 6 ((.bool q0) :: (un 180 []))), [], 0⟩
def neweltop_TopBoards_x25_4 (v679 : Int) (v682 : api_Hall) (v683 : neweltop_Boarding) (v684 : api_Band) (v685 : Bool) (v686 : Arr Int) (v687 : Arr (Arr Int)) (q1 : Int) : St := ⟨(un 3 ((.ptr 0 0) :: (un 1 ((.ptr 1 0) :: (un 1 ((.ptr 2 0) :: (.row 3) :: (un 1 ((.row 4) :: (un 5 ((.int .i64 v679) :: (.int .i64 q1) :: (un 169 []))))))))))), [(0, .blk (Cod.enc api_HallC v682)), (1, .blk (Cod.enc neweltop_BoardingC v683)), (2, .blk (Cod.enc api_BandC v684)), (3, rowE intC v685 v686), (4, mxE .i64 v687)], 5⟩
def neweltop_TopBoards_b25 {R : Type} (N : Nat) (rc : Int → Int → Int → api_Hall → neweltop_Boarding → api_Band → Bool → Arr Int → Arr (Arr Int) → Option R) (v679 : Int) (v680 : Int) (v681 : Int) (v682 : api_Hall) (v683 : neweltop_Boarding) (v684 : api_Band) (v685 : Bool) (v686 : Arr Int) (v687 : Arr (Arr Int)) (kr : Bool → Option R) (k4 : Int → Option R) : Option R :=
  bif decide (v681 ≤ v679) then
   bif decide ((0 : Int) ≤ v681) && decide (v681 < (↑(Arr.n v687) : Int)) then
    bif (↑(mxL v687 (Int.toNat v681)) : Int) != (↑(Arr.n (api_Hall.Combs v682)) : Int) then
     kr false
    else
     bif decide ((0 : Int) ≤ v681) && decide (v681 < (↑(Arr.n v687) : Int)) then
      bif decide ((0 : Int) ≤ neweltop_Boarding.Comb v683) && decide (neweltop_Boarding.Comb v683 < (↑(mxL v687 (Int.toNat v681)) : Int)) then
       bif decide ((0 : Int) ≤ v681) && decide (v681 < (↑(Arr.n v686) : Int)) then
        rc v679 (w64 (v680 + mnI (mxG v687 (Int.toNat v681) (Int.toNat (neweltop_Boarding.Comb v683))) (Arr.f v686 (Int.toNat v681)))) (w64 (v681 + (1 : Int))) v682 v683 v684 v685 v686 v687
       else
        Option.none
      else
       Option.none
     else
      Option.none
   else
    Option.none
  else
   k4 v680
def neweltop_TopBoards_l25 {R : Type} (N : Nat) : Nat → Int → Int → Int → api_Hall → neweltop_Boarding → api_Band → Bool → Arr Int → Arr (Arr Int) → (Bool → Option R) → (Int → Option R) → Option R
  | 0, _, _, _, _, _, _, _, _, _, _, _ => Option.none
  | n + 1, v679, v680, v681, v682, v683, v684, v685, v686, v687, kr, k4 => neweltop_TopBoards_b25 N (fun v679 v680 v681 v682 v683 v684 v685 v686 v687 => neweltop_TopBoards_l25 N n v679 v680 v681 v682 v683 v684 v685 v686 v687 kr k4) v679 v680 v681 v682 v683 v684 v685 v686 v687 kr k4
def neweltop_TopBoards_L21 : LoopSp := ⟨⟨[3, 5, 7, 8, 10, 16], ⟨(dr 3 ((rPtr 0 0) :: (dr 1 ((rPtr 1 0) :: (dr 1 ((rPtr 2 0) :: (rRow 3) :: (dr 1 ((rRow 4) :: (dr 5 ((rInt .i64) :: (dr 170 []))))))))))), [(0, eBlkC api_HallC), (1, eBlkC neweltop_BoardingC), (2, eBlkC api_BandC), (3, eRow intC), (4, eMx .i64)]⟩, 5⟩, [(Option.none, ⟨[6], ⟨(dr 6 ((rBool) :: (dr 180 []))), []⟩, 0⟩), (some 2, ⟨[], ⟨(dr 187 []), []⟩, 0⟩)]⟩
theorem neweltop_TopBoards_L21_ok : neweltop_TopBoards_L21.Ok := ⟨⟨(drCons 3 (allCons (rPtr_ok 0 0) (drCons 1 (allCons (rPtr_ok 1 0) (drCons 1 (allCons (rPtr_ok 2 0) (allCons (rRow_ok 3) (drCons 1 (allCons (rRow_ok 4) (drCons 5 (allCons (rInt_ok .i64) (drCons 170 allNil)))))))))))), (eCons (eBlkC_ok api_HallC_ok api_HallC_len) (eCons (eBlkC_ok neweltop_BoardingC_ok neweltop_BoardingC_len) (eCons (eBlkC_ok api_BandC_ok api_BandC_len) (eCons (eRow_ok intC_ok) (eCons eMx_ok eNil)))))⟩, (xCons ⟨(drCons 6 (allCons rBool_ok (drCons 180 allNil))), eNil⟩ (xCons ⟨(drCons 187 allNil), eNil⟩ xNil))⟩
def neweltop_TopBoards_h21 (v672 : Int) (v673 : api_Hall) (v674 : neweltop_Boarding) (v675 : api_Band) (v676 : Bool) (v677 : Arr Int) (v678 : Arr (Arr Int)) : St := ⟨(un 3 ((.ptr 0 0) :: (un 1 ((.ptr 1 0) :: (un 1 ((.ptr 2 0) :: (.row 3) :: (un 1 ((.row 4) :: (un 5 ((.int .i64 v672) :: (un 170 []))))))))))), [(0, .blk (Cod.enc api_HallC v673)), (1, .blk (Cod.enc neweltop_BoardingC v674)), (2, .blk (Cod.enc api_BandC v675)), (3, rowE intC v676 v677), (4, mxE .i64 v678)], 5⟩
def neweltop_TopBoards_x21_r (q0 : Bool) : St := ⟨(un 6 ((.bool q0) :: (un 180 []))), [], 0⟩
def neweltop_TopBoards_x21_2  : St := ⟨(un 187 []), [], 0⟩
def neweltop_TopBoards_b21 {R : Type} (N : Nat) (rc : Int → api_Hall → neweltop_Boarding → api_Band → Bool → Arr Int → Arr (Arr Int) → Option R) (v672 : Int) (v673 : api_Hall) (v674 : neweltop_Boarding) (v675 : api_Band) (v676 : Bool) (v677 : Arr Int) (v678 : Arr (Arr Int)) (kr : Bool → Option R) (k2 : Unit → Option R) : Option R :=
  bif decide (v672 < (↑(Arr.n v678) : Int)) then
   bif neweltop_Boarding.Pace v674 == (0 : Int) then
    Option.none
   else
    neweltop_TopBoards_l25 N N v672 (0 : Int) (mxI (0 : Int) (w64 (w64 (v672 - w64 (Int.tdiv (api_Band.Ride v675) (neweltop_Boarding.Pace v674))) + (1 : Int)))) v673 v674 v675 v676 v677 v678 (fun r688 =>
     kr r688) (fun r689 =>
     bif decide (w64 (r689 * api_Band.Body v675) > api_Band.Most v675) then
      kr false
     else
      rc (w64 (v672 + (1 : Int))) v673 v674 v675 v676 v677 v678)
  else
   k2 ()
def neweltop_TopBoards_l21 {R : Type} (N : Nat) : Nat → Int → api_Hall → neweltop_Boarding → api_Band → Bool → Arr Int → Arr (Arr Int) → (Bool → Option R) → (Unit → Option R) → Option R
  | 0, _, _, _, _, _, _, _, _, _ => Option.none
  | n + 1, v672, v673, v674, v675, v676, v677, v678, kr, k2 => neweltop_TopBoards_b21 N (fun v672 v673 v674 v675 v676 v677 v678 => neweltop_TopBoards_l21 N n v672 v673 v674 v675 v676 v677 v678 kr k2) v672 v673 v674 v675 v676 v677 v678 kr k2
def neweltop_TopBoards_m {R : Type} (N : Nat) (a636 : api_Hall) (a637 : api_Day) (a638 : neweltop_Boarding) (k : Bool → Option R) : Option R :=
  newellaw06_Far N a636 (fun r639 =>
  bif r639 then
   neweltop_measures N  (fun r640 =>
   k r640)
  else
   newellaw11_Far N (neweltop_Boarding.Band a638) (fun r641 =>
   bif r641 then
    neweltop_measures N  (fun r642 =>
    k r642)
   else
    newelref06_Check N a636 (fun r643 =>
    bif r643 != (0 : Int) then
     neweltop_measures N  (fun r644 =>
     k r644)
    else
     newelref06_Fits N a636 a637 (fun r645 =>
     bif !r645 then
      neweltop_measures N  (fun r646 =>
      k r646)
     else
      newelref11_Check N (neweltop_Boarding.Band a638) (fun r647 =>
      bif r647 != (0 : Int) then
       neweltop_measures N  (fun r648 =>
       k r648)
      else
       newelref11_Pace N (neweltop_Boarding.Band a638) (neweltop_Boarding.Pace a638) (fun r649 =>
       bif !r649 then
        neweltop_measures N  (fun r650 =>
        k r650)
       else
        bif neweltop_Boarding.Pace a638 == (0 : Int) then
         Option.none
        else
         bif Int.tmod (api_Band.Ride (neweltop_Boarding.Band a638)) (neweltop_Boarding.Pace a638) != (0 : Int) then
          neweltop_measures N  (fun r651 =>
          k r651)
         else
          bif decide (neweltop_Boarding.Comb a638 < (0 : Int)) then
           neweltop_measures N  (fun r652 =>
           k r652)
          else
           bif decide (neweltop_Boarding.Comb a638 ≥ (↑(Arr.n (api_Hall.Combs a636)) : Int)) then
            neweltop_measures N  (fun r653 =>
            k r653)
           else
            halls_Rates N a636 (neweltop_Boarding.Comb a638) (fun r654 r655 r656 =>
            halls_Play N a636 a637 (fun r657 r658 =>
            bif r654 != (0 : Int) then
             k false
            else
             bif r657 != (0 : Int) then
              k false
             else
              bif (↑(Arr.n r656) : Int) != api_Hall.Until a636 then
               k false
              else
               bif (↑(Arr.n r658) : Int) != api_Hall.Until a636 then
                k false
               else
                neweltop_TopBoards_l10 N N (0 : Int) (0 : Int) a636 a638 (neweltop_Boarding.Band a638) r655 r656 r658 (fun r667 =>
                 bif decide (r667 > (100 : Int)) then
                  neweltop_measures N  (fun r668 =>
                  k r668)
                 else
                  energy_Load N (neweltop_Boarding.Band a638) r667 (neweltop_Boarding.Pace a638) (fun r669 r670 =>
                  bif r670 != (0 : Int) then
                   k false
                  else
                   bif decide (r669 > api_Band.Most (neweltop_Boarding.Band a638)) then
                    neweltop_measures N  (fun r671 =>
                    k r671)
                   else
                    neweltop_TopBoards_l21 N N (0 : Int) a636 a638 (neweltop_Boarding.Band a638) r655 r656 r658 (fun r690 =>
                     k r690) (fun (_ : Unit) =>
                     neweltop_measures N  (fun r691 =>
                     k r691))))))))))))
noncomputable def neweltop_TopBoards {R : Type} : Nat → api_Hall → api_Day → neweltop_Boarding → (Bool → Option R) → Option R := lock (@neweltop_TopBoards_m R)
theorem neweltop_TopBoards_def {R : Type} (N : Nat) (a636 : api_Hall) (a637 : api_Day) (a638 : neweltop_Boarding) (k : Bool → Option R) : neweltop_TopBoards N a636 a637 a638 k = neweltop_TopBoards_m N a636 a637 a638 k := by unfold neweltop_TopBoards; rw [lock_eq]
def neweltop_TopBoards_sp : Sp := ⟨[rAgg api_HallC, rAgg api_DayC, rAgg neweltop_BoardingC], []⟩
theorem neweltop_TopBoards_sp_ok : neweltop_TopBoards_sp.Ok := ⟨(allCons (rAgg_ok api_HallC_ok api_HallC_len) (allCons (rAgg_ok api_DayC_ok api_DayC_len) (allCons (rAgg_ok neweltop_BoardingC_ok neweltop_BoardingC_len) allNil))), eNil⟩
def neweltop_TopBoards_rs : Sp := ⟨[rBool], []⟩
theorem neweltop_TopBoards_rs_ok : neweltop_TopBoards_rs.Ok := ⟨(allCons rBool_ok allNil), eNil⟩
def neweltop_TopBoards_run {R : Type} (N : Nat) (args : List SV) (T : Tab) (kf : SV × Tab → Option R) : Option R :=
  neweltop_TopBoards_m N (Cod.dec api_HallC (lget (toCs (lget args 0)))) (Cod.dec api_DayC (lget (toCs (lget args 1)))) (Cod.dec neweltop_BoardingC (lget (toCs (lget args 2)))) (fun q0 => kf (lget [.bool q0] 0, []))
def neweltop_TopBoards_d25 {R : Type} (N : Nat) (S0 : St) (k : Exit → St → Option R) : Option R :=
  neweltop_TopBoards_l25 N N (toI (lget S0.tmps 16)) (toI (lget S0.tmps 17)) (toI (lget S0.tmps 18)) (Cod.dec api_HallC (lget (entCs (entAt S0.tab 0)))) (Cod.dec neweltop_BoardingC (lget (entCs (entAt S0.tab 1)))) (Cod.dec api_BandC (lget (entCs (entAt S0.tab 2)))) (entNl (entAt S0.tab 3)) (lst intC (entN (entAt S0.tab 3)) (entC (entAt S0.tab 3))) (mxD (entMn (entAt S0.tab 4)) (entMl (entAt S0.tab 4)) (entMg (entAt S0.tab 4))) (fun q0 => k .ret (neweltop_TopBoards_x25_r q0)) (fun q1 => k (.exit 4) (neweltop_TopBoards_x25_4 (toI (lget S0.tmps 16)) (Cod.dec api_HallC (lget (entCs (entAt S0.tab 0)))) (Cod.dec neweltop_BoardingC (lget (entCs (entAt S0.tab 1)))) (Cod.dec api_BandC (lget (entCs (entAt S0.tab 2)))) (entNl (entAt S0.tab 3)) (lst intC (entN (entAt S0.tab 3)) (entC (entAt S0.tab 3))) (mxD (entMn (entAt S0.tab 4)) (entMl (entAt S0.tab 4)) (entMg (entAt S0.tab 4))) q1))
def neweltop_TopBoards_d21 {R : Type} (N : Nat) (S0 : St) (k : Exit → St → Option R) : Option R :=
  neweltop_TopBoards_l21 N N (toI (lget S0.tmps 16)) (Cod.dec api_HallC (lget (entCs (entAt S0.tab 0)))) (Cod.dec neweltop_BoardingC (lget (entCs (entAt S0.tab 1)))) (Cod.dec api_BandC (lget (entCs (entAt S0.tab 2)))) (entNl (entAt S0.tab 3)) (lst intC (entN (entAt S0.tab 3)) (entC (entAt S0.tab 3))) (mxD (entMn (entAt S0.tab 4)) (entMl (entAt S0.tab 4)) (entMg (entAt S0.tab 4))) (fun q0 => k .ret (neweltop_TopBoards_x21_r q0)) (fun (_ : Unit) => k (.exit 2) (neweltop_TopBoards_x21_2 ))
def neweltop_TopBoards_d10 {R : Type} (N : Nat) (S0 : St) (k : Exit → St → Option R) : Option R :=
  neweltop_TopBoards_l10 N N (toI (lget S0.tmps 12)) (toI (lget S0.tmps 13)) (Cod.dec api_HallC (lget (entCs (entAt S0.tab 0)))) (Cod.dec neweltop_BoardingC (lget (entCs (entAt S0.tab 1)))) (Cod.dec api_BandC (lget (entCs (entAt S0.tab 2)))) (entNl (entAt S0.tab 3)) (lst intC (entN (entAt S0.tab 3)) (entC (entAt S0.tab 3))) (mxD (entMn (entAt S0.tab 4)) (entMl (entAt S0.tab 4)) (entMg (entAt S0.tab 4))) (fun q0 => k (.exit 0) (neweltop_TopBoards_x10_0 (Cod.dec api_HallC (lget (entCs (entAt S0.tab 0)))) (Cod.dec neweltop_BoardingC (lget (entCs (entAt S0.tab 1)))) (Cod.dec api_BandC (lget (entCs (entAt S0.tab 2)))) (entNl (entAt S0.tab 3)) (lst intC (entN (entAt S0.tab 3)) (entC (entAt S0.tab 3))) (mxD (entMn (entAt S0.tab 4)) (entMl (entAt S0.tab 4)) (entMg (entAt S0.tab 4))) q0))
def neweltop_TopBoards_lp {R : Type} (N : Nat) : Lp R := fun body S k => bif (Go.Sx.keyOf body).getD 0 == 10 then (neweltop_TopBoards_L10.head.raw 0 S (fun S0 => neweltop_TopBoards_d10 N S0 k)) else bif (Go.Sx.keyOf body).getD 0 == 21 then (neweltop_TopBoards_L21.head.raw 0 S (fun S0 => neweltop_TopBoards_d21 N S0 k)) else bif (Go.Sx.keyOf body).getD 0 == 25 then (neweltop_TopBoards_L25.head.raw 0 S (fun S0 => neweltop_TopBoards_d25 N S0 k)) else Option.none
theorem neweltop_TopBoards_l10_eq {R : Type} (N : Nat) (k : Exit → St → Option R) (n : Nat) : ∀ (v0 : Int) (v1 : Int) (v2 : api_Hall) (v3 : neweltop_Boarding) (v4 : api_Band) (v5 : Bool) (v6 : Arr Int) (v7 : Arr (Arr Int)), loopM E.Θ (neweltop_measures_cal N) (neweltop_TopBoards_lp N) (noJn) 0 neweltop_TopBoards_L10 (bodyAt E 4 10) n (neweltop_TopBoards_h10 v0 v1 v2 v3 v4 v5 v6 v7) k = neweltop_TopBoards_l10 N n v0 v1 v2 v3 v4 v5 v6 v7 (fun q0 => k (.exit 0) (neweltop_TopBoards_x10_0 v2 v3 v4 v5 v6 v7 q0)) := by
  induction n with
  | zero => intro v0 v1 v2 v3 v4 v5 v6 v7; rfl
  | succ n ih =>
    intro v0 v1 v2 v3 v4 v5 v6 v7
    refine Eq.trans (b := neweltop_TopBoards_b10 N (fun v0 v1 v2 v3 v4 v5 v6 v7 => loopM E.Θ (neweltop_measures_cal N) (neweltop_TopBoards_lp N) (noJn) 0 neweltop_TopBoards_L10 (bodyAt E 4 10) n (neweltop_TopBoards_h10 v0 v1 v2 v3 v4 v5 v6 v7) k) v0 v1 v2 v3 v4 v5 v6 v7 (fun q0 => k (.exit 0) (neweltop_TopBoards_x10_0 v2 v3 v4 v5 v6 v7 q0))) (by kernel_rfl) ?_
    have h : (fun (v0 : Int) (v1 : Int) (v2 : api_Hall) (v3 : neweltop_Boarding) (v4 : api_Band) (v5 : Bool) (v6 : Arr Int) (v7 : Arr (Arr Int)) => loopM E.Θ (neweltop_measures_cal N) (neweltop_TopBoards_lp N) (noJn) 0 neweltop_TopBoards_L10 (bodyAt E 4 10) n (neweltop_TopBoards_h10 v0 v1 v2 v3 v4 v5 v6 v7) k) = (fun (v0 : Int) (v1 : Int) (v2 : api_Hall) (v3 : neweltop_Boarding) (v4 : api_Band) (v5 : Bool) (v6 : Arr Int) (v7 : Arr (Arr Int)) => neweltop_TopBoards_l10 N n v0 v1 v2 v3 v4 v5 v6 v7 (fun q0 => k (.exit 0) (neweltop_TopBoards_x10_0 v2 v3 v4 v5 v6 v7 q0))) := funext fun v0 => funext fun v1 => funext fun v2 => funext fun v3 => funext fun v4 => funext fun v5 => funext fun v6 => funext fun v7 => ih v0 v1 v2 v3 v4 v5 v6 v7
    rw [h]
    rfl
theorem neweltop_TopBoards_l21_eq {R : Type} (N : Nat) (k : Exit → St → Option R) (n : Nat) : ∀ (v0 : Int) (v1 : api_Hall) (v2 : neweltop_Boarding) (v3 : api_Band) (v4 : Bool) (v5 : Arr Int) (v6 : Arr (Arr Int)), loopM E.Θ (neweltop_measures_cal N) (neweltop_TopBoards_lp N) (noJn) 0 neweltop_TopBoards_L21 (bodyAt E 4 21) n (neweltop_TopBoards_h21 v0 v1 v2 v3 v4 v5 v6) k = neweltop_TopBoards_l21 N n v0 v1 v2 v3 v4 v5 v6 (fun q0 => k .ret (neweltop_TopBoards_x21_r q0)) (fun (_ : Unit) => k (.exit 2) (neweltop_TopBoards_x21_2 )) := by
  induction n with
  | zero => intro v0 v1 v2 v3 v4 v5 v6; rfl
  | succ n ih =>
    intro v0 v1 v2 v3 v4 v5 v6
    refine Eq.trans (b := neweltop_TopBoards_b21 N (fun v0 v1 v2 v3 v4 v5 v6 => loopM E.Θ (neweltop_measures_cal N) (neweltop_TopBoards_lp N) (noJn) 0 neweltop_TopBoards_L21 (bodyAt E 4 21) n (neweltop_TopBoards_h21 v0 v1 v2 v3 v4 v5 v6) k) v0 v1 v2 v3 v4 v5 v6 (fun q0 => k .ret (neweltop_TopBoards_x21_r q0)) (fun (_ : Unit) => k (.exit 2) (neweltop_TopBoards_x21_2 ))) (by kernel_rfl) ?_
    have h : (fun (v0 : Int) (v1 : api_Hall) (v2 : neweltop_Boarding) (v3 : api_Band) (v4 : Bool) (v5 : Arr Int) (v6 : Arr (Arr Int)) => loopM E.Θ (neweltop_measures_cal N) (neweltop_TopBoards_lp N) (noJn) 0 neweltop_TopBoards_L21 (bodyAt E 4 21) n (neweltop_TopBoards_h21 v0 v1 v2 v3 v4 v5 v6) k) = (fun (v0 : Int) (v1 : api_Hall) (v2 : neweltop_Boarding) (v3 : api_Band) (v4 : Bool) (v5 : Arr Int) (v6 : Arr (Arr Int)) => neweltop_TopBoards_l21 N n v0 v1 v2 v3 v4 v5 v6 (fun q0 => k .ret (neweltop_TopBoards_x21_r q0)) (fun (_ : Unit) => k (.exit 2) (neweltop_TopBoards_x21_2 ))) := funext fun v0 => funext fun v1 => funext fun v2 => funext fun v3 => funext fun v4 => funext fun v5 => funext fun v6 => ih v0 v1 v2 v3 v4 v5 v6
    rw [h]
    rfl
theorem neweltop_TopBoards_l25_eq {R : Type} (N : Nat) (k : Exit → St → Option R) (n : Nat) : ∀ (v0 : Int) (v1 : Int) (v2 : Int) (v3 : api_Hall) (v4 : neweltop_Boarding) (v5 : api_Band) (v6 : Bool) (v7 : Arr Int) (v8 : Arr (Arr Int)), loopM E.Θ (neweltop_measures_cal N) (neweltop_TopBoards_lp N) (noJn) 0 neweltop_TopBoards_L25 (bodyAt E 4 25) n (neweltop_TopBoards_h25 v0 v1 v2 v3 v4 v5 v6 v7 v8) k = neweltop_TopBoards_l25 N n v0 v1 v2 v3 v4 v5 v6 v7 v8 (fun q0 => k .ret (neweltop_TopBoards_x25_r q0)) (fun q1 => k (.exit 4) (neweltop_TopBoards_x25_4 v0 v3 v4 v5 v6 v7 v8 q1)) := by
  induction n with
  | zero => intro v0 v1 v2 v3 v4 v5 v6 v7 v8; rfl
  | succ n ih =>
    intro v0 v1 v2 v3 v4 v5 v6 v7 v8
    refine Eq.trans (b := neweltop_TopBoards_b25 N (fun v0 v1 v2 v3 v4 v5 v6 v7 v8 => loopM E.Θ (neweltop_measures_cal N) (neweltop_TopBoards_lp N) (noJn) 0 neweltop_TopBoards_L25 (bodyAt E 4 25) n (neweltop_TopBoards_h25 v0 v1 v2 v3 v4 v5 v6 v7 v8) k) v0 v1 v2 v3 v4 v5 v6 v7 v8 (fun q0 => k .ret (neweltop_TopBoards_x25_r q0)) (fun q1 => k (.exit 4) (neweltop_TopBoards_x25_4 v0 v3 v4 v5 v6 v7 v8 q1))) (by kernel_rfl) ?_
    have h : (fun (v0 : Int) (v1 : Int) (v2 : Int) (v3 : api_Hall) (v4 : neweltop_Boarding) (v5 : api_Band) (v6 : Bool) (v7 : Arr Int) (v8 : Arr (Arr Int)) => loopM E.Θ (neweltop_measures_cal N) (neweltop_TopBoards_lp N) (noJn) 0 neweltop_TopBoards_L25 (bodyAt E 4 25) n (neweltop_TopBoards_h25 v0 v1 v2 v3 v4 v5 v6 v7 v8) k) = (fun (v0 : Int) (v1 : Int) (v2 : Int) (v3 : api_Hall) (v4 : neweltop_Boarding) (v5 : api_Band) (v6 : Bool) (v7 : Arr Int) (v8 : Arr (Arr Int)) => neweltop_TopBoards_l25 N n v0 v1 v2 v3 v4 v5 v6 v7 v8 (fun q0 => k .ret (neweltop_TopBoards_x25_r q0)) (fun q1 => k (.exit 4) (neweltop_TopBoards_x25_4 v0 v3 v4 v5 v6 v7 v8 q1))) := funext fun v0 => funext fun v1 => funext fun v2 => funext fun v3 => funext fun v4 => funext fun v5 => funext fun v6 => funext fun v7 => funext fun v8 => ih v0 v1 v2 v3 v4 v5 v6 v7 v8
    rw [h]
    rfl
theorem neweltop_TopBoards_k10 {R : Type} (N : Nat) : LpKey (R := R) E 4 0 (neweltop_TopBoards_lp N) 10 :=
  lpKey_of hE (neweltop_measures_cal_ok N) (lp := neweltop_TopBoards_lp N) (jn := noJn) neweltop_TopBoards_L10_ok [] kNil (by kernel_rfl) [] jNil (by kernel_rfl) N fun S k =>
    Eq.trans (b := neweltop_TopBoards_L10.head.raw 0 S (fun S0 => neweltop_TopBoards_d10 N S0 k)) (by kernel_rfl) (congrArg (neweltop_TopBoards_L10.head.raw 0 S) (funext fun S0 => Eq.trans (neweltop_TopBoards_l10_eq N k N (toI (lget S0.tmps 12)) (toI (lget S0.tmps 13)) (Cod.dec api_HallC (lget (entCs (entAt S0.tab 0)))) (Cod.dec neweltop_BoardingC (lget (entCs (entAt S0.tab 1)))) (Cod.dec api_BandC (lget (entCs (entAt S0.tab 2)))) (entNl (entAt S0.tab 3)) (lst intC (entN (entAt S0.tab 3)) (entC (entAt S0.tab 3))) (mxD (entMn (entAt S0.tab 4)) (entMl (entAt S0.tab 4)) (entMg (entAt S0.tab 4)))).symm (by kernel_rfl)))
theorem neweltop_TopBoards_k25 {R : Type} (N : Nat) : LpKey (R := R) E 4 0 (neweltop_TopBoards_lp N) 25 :=
  lpKey_of hE (neweltop_measures_cal_ok N) (lp := neweltop_TopBoards_lp N) (jn := noJn) neweltop_TopBoards_L25_ok [] kNil (by kernel_rfl) [] jNil (by kernel_rfl) N fun S k =>
    Eq.trans (b := neweltop_TopBoards_L25.head.raw 0 S (fun S0 => neweltop_TopBoards_d25 N S0 k)) (by kernel_rfl) (congrArg (neweltop_TopBoards_L25.head.raw 0 S) (funext fun S0 => Eq.trans (neweltop_TopBoards_l25_eq N k N (toI (lget S0.tmps 16)) (toI (lget S0.tmps 17)) (toI (lget S0.tmps 18)) (Cod.dec api_HallC (lget (entCs (entAt S0.tab 0)))) (Cod.dec neweltop_BoardingC (lget (entCs (entAt S0.tab 1)))) (Cod.dec api_BandC (lget (entCs (entAt S0.tab 2)))) (entNl (entAt S0.tab 3)) (lst intC (entN (entAt S0.tab 3)) (entC (entAt S0.tab 3))) (mxD (entMn (entAt S0.tab 4)) (entMl (entAt S0.tab 4)) (entMg (entAt S0.tab 4)))).symm (by kernel_rfl)))
theorem neweltop_TopBoards_k21 {R : Type} (N : Nat) : LpKey (R := R) E 4 0 (neweltop_TopBoards_lp N) 21 :=
  lpKey_of hE (neweltop_measures_cal_ok N) (lp := neweltop_TopBoards_lp N) (jn := noJn) neweltop_TopBoards_L21_ok [25] (kCons (neweltop_TopBoards_k25 N) kNil) (by kernel_rfl) [] jNil (by kernel_rfl) N fun S k =>
    Eq.trans (b := neweltop_TopBoards_L21.head.raw 0 S (fun S0 => neweltop_TopBoards_d21 N S0 k)) (by kernel_rfl) (congrArg (neweltop_TopBoards_L21.head.raw 0 S) (funext fun S0 => Eq.trans (neweltop_TopBoards_l21_eq N k N (toI (lget S0.tmps 16)) (Cod.dec api_HallC (lget (entCs (entAt S0.tab 0)))) (Cod.dec neweltop_BoardingC (lget (entCs (entAt S0.tab 1)))) (Cod.dec api_BandC (lget (entCs (entAt S0.tab 2)))) (entNl (entAt S0.tab 3)) (lst intC (entN (entAt S0.tab 3)) (entC (entAt S0.tab 3))) (mxD (entMn (entAt S0.tab 4)) (entMl (entAt S0.tab 4)) (entMg (entAt S0.tab 4)))).symm (by kernel_rfl)))
noncomputable def neweltop_TopBoards_go {R : Type} (N : Nat) (args : List SV) (T : Tab) (kf : SV × Tab → Option R) : Option R :=
  neweltop_TopBoards N (Cod.dec api_HallC (lget (toCs (lget args 0)))) (Cod.dec api_DayC (lget (toCs (lget args 1)))) (Cod.dec neweltop_BoardingC (lget (toCs (lget args 2)))) (fun q0 => kf (lget [.bool q0] 0, []))
noncomputable def neweltop_TopBoards_cal {R : Type} (N : Nat) : Cal R := callM (neweltop_measures_cal N) 4 0 neweltop_TopBoards_sp (neweltop_TopBoards_go N)
theorem neweltop_TopBoards_cal_ok {R : Type} (N : Nat) : CalOk E.P (neweltop_TopBoards_cal (R := R) N) :=
  callM_ok hE (neweltop_measures_cal_ok N) (lp := neweltop_TopBoards_lp N) (jn := noJn) (keys := [10, 21, 25]) (kCons (neweltop_TopBoards_k10 N) (kCons (neweltop_TopBoards_k21 N) (kCons (neweltop_TopBoards_k25 N) kNil))) (by kernel_rfl) (js := []) jNil (by kernel_rfl) neweltop_TopBoards_sp_ok neweltop_TopBoards_rs_ok (fun args T kf => Eq.trans (neweltop_TopBoards_def N (Cod.dec api_HallC (lget (toCs (lget args 0)))) (Cod.dec api_DayC (lget (toCs (lget args 1)))) (Cod.dec neweltop_BoardingC (lget (toCs (lget args 2)))) (fun q0 => kf (lget [.bool q0] 0, []))) (by kernel_rfl : neweltop_TopBoards_run N args T kf = fnM E (neweltop_measures_cal N) (neweltop_TopBoards_lp N) (noJn) 4 (neweltop_TopBoards_sp.vs args) (neweltop_TopBoards_sp.tab T) 0 (resK neweltop_TopBoards_rs kf)))
theorem far6_l4 (N : Nat) {h : api_Hall} (hn : h.Trains.n ≤ 20) {R : Type} (kr : Bool → Option R) (k0 : Unit → Option R) : ∀ (q i n : Nat), i + q = h.Trains.n → q < n →
    newellaw06_Far_l4 N n (i : Int) h kr k0 = kr true ∨ newellaw06_Far_l4 N n (i : Int) h kr k0 = k0 () := by
  intro q
  induction q with
  | zero =>
    intro i n h1 h2
    obtain ⟨n, rfl⟩ : ∃ m, n = m + 1 := ⟨n - 1, by omega⟩
    right
    unfold newellaw06_Far_l4 newellaw06_Far_b4
    simp only [Ha.ltF (show h.Trains.n ≤ i by omega), cond_false]
  | succ q ih =>
    intro i n h1 h2
    obtain ⟨n, rfl⟩ : ∃ m, n = m + 1 := ⟨n - 1, by omega⟩
    unfold newellaw06_Far_l4 newellaw06_Far_b4
    simp only [Ha.ltT (show i < h.Trains.n by omega), nat_nonneg, Bool.and_self, cond_true, Int.toNat_natCast, Ha.ws (show i < 100000 by omega)]
    cases decide (((h.Trains.f i).Crowds.n : Int) > 10)
    · exact ih (i + 1) n (by omega) (by omega)
    · exact .inl rfl
theorem far6_or {N : Nat} (hN : 200 ≤ N) (h : api_Hall) {R : Type} (k : Bool → Option R) : newellaw06_Far N h k = k true ∨ newellaw06_Far N h k = k false := by
  rw [newellaw06_Far_def]
  unfold newellaw06_Far_m
  cases decide ((h.Combs.n : Int) > 12)
  rotate_left
  · exact .inl rfl
  by_cases c : (h.Trains.n : Int) > 20
  · simp only [c, decide_true, cond_true, cond_false, true_or]
  simp only [c, decide_false, cond_false]
  cases decide ((h.Shifts.n : Int) > 40)
  rotate_left
  · exact .inl rfl
  have hl := far6_l4 N (h := h) (by omega) (fun r260 => k r260) (fun (_ : Unit) => k false) h.Trains.n 0 N (by omega) (by omega)
  cases decide (h.Until > 40)
  rotate_left
  · cases decide (h.Until ≤ 100)
    · exact hl
    · exact .inl rfl
  · exact hl
theorem boards_l10 (N : Nat) (h : api_Hall) (x : neweltop_Boarding) (c : api_Band) (b : Bool) (rates : Arr Int) (rows : Arr (Arr Int)) {R : Type} (k0 : Int → Option R) (hn : rates.n ≤ 100) (hr : ∀ j, j < rates.n → 0 ≤ rates.f j ∧ rates.f j ≤ 1000) :
    ∀ (q i n : Nat) (g : Int), i + q = rates.n → q < n → 0 ≤ g → (∀ j, j < i → rates.f j ≤ g) →
    ∃ g' : Int, 0 ≤ g' ∧ (∀ j, j < rates.n → rates.f j ≤ g') ∧ neweltop_TopBoards_l10 N n g (i : Int) h x c b rates rows k0 = k0 g' := by
  intro q
  induction q with
  | zero =>
    intro i n g h1 h2 h3 h4
    obtain ⟨n, rfl⟩ : ∃ m, n = m + 1 := ⟨n - 1, by omega⟩
    refine ⟨g, h3, fun j hj => h4 j (by omega), ?_⟩
    unfold neweltop_TopBoards_l10 neweltop_TopBoards_b10
    simp only [Ha.ltF (show rates.n ≤ i by omega), cond_false]
  | succ q ih =>
    intro i n g h1 h2 h3 h4
    obtain ⟨n, rfl⟩ : ∃ m, n = m + 1 := ⟨n - 1, by omega⟩
    obtain ⟨g', a1, a2, a3⟩ := ih (i + 1) n (mxI g (rates.f i)) (by omega) (by omega) (by rw [mxI_eq]; omega) (fun j hj => by
      rw [mxI_eq]
      by_cases e : j = i
      · subst e; omega
      · have := h4 j (by omega); omega)
    refine ⟨g', a1, a2, ?_⟩
    conv => lhs; unfold neweltop_TopBoards_l10 neweltop_TopBoards_b10
    simp only [Ha.ltT (show i < rates.n by omega), nat_nonneg, Bool.and_self, cond_true, Int.toNat_natCast, Ha.ws (show i < 100000 by omega)]
    exact a3
theorem boards_l25 (N : Nat) {h : api_Hall} {x : neweltop_Boarding} (c : api_Band) (b : Bool) {rates : Arr Int} {rows : Arr (Arr Int)} {R : Type} (kr : Bool → Option R) (k4 : Int → Option R) {g : Int} {t lo : Nat} (hn : rows.n ≤ 100) (ht : t < rows.n) (hrn : rates.n = rows.n)
    (hr : ∀ j, j < rates.n → 0 ≤ rates.f j ∧ rates.f j ≤ g) (hg : g ≤ 1000) (hrow : ∀ j, j < rows.n → (rows.f j).n = h.Combs.n) {C : Nat} (hC : x.Comb = (C : Int)) (hCl : C < h.Combs.n) (hz : ∀ j, j < rows.n → 0 ≤ (rows.f j).f C) :
    ∀ (q w n : Nat) (s : Int), w + q = t + 1 → q < n → lo ≤ w → 0 ≤ s → s ≤ g * ((w : Int) - lo) →
    ∃ s' : Int, 0 ≤ s' ∧ s' ≤ g * (((t + 1 : Nat) : Int) - lo) ∧ neweltop_TopBoards_l25 N n (t : Int) s (w : Int) h x c b rates rows kr k4 = k4 s' := by
  intro q
  induction q with
  | zero =>
    intro w n s h1 h2 h3 h4 h5
    obtain ⟨n, rfl⟩ : ∃ m, n = m + 1 := ⟨n - 1, by omega⟩
    have hw : w = t + 1 := by omega
    subst hw
    refine ⟨s, h4, h5, ?_⟩
    unfold neweltop_TopBoards_l25 neweltop_TopBoards_b25
    have : decide (((t + 1 : Nat) : Int) ≤ (t : Int)) = false := by simp; omega
    simp only [this, cond_false]
  | succ q ih =>
    intro w n s h1 h2 h3 h4 h5
    obtain ⟨n, rfl⟩ : ∃ m, n = m + 1 := ⟨n - 1, by omega⟩
    have hw : w ≤ t := by omega
    have hg0 : 0 ≤ g := by have := hr w (by omega); omega
    have e1 : decide ((w : Int) ≤ (t : Int)) = true := by simp; omega
    have hl : mxL rows w = h.Combs.n := hrow w (by omega)
    have hz1 := hz w (by omega)
    have hr1 := hr w (by omega)
    have hgG : mxG rows w C = (rows.f w).f C := rfl
    have hm : 0 ≤ mnI ((rows.f w).f C) (rates.f w) ∧ mnI ((rows.f w).f C) (rates.f w) ≤ g := by rw [mnI_eq]; omega
    have hmul : g * (((w + 1 : Nat) : Int) - lo) = g * ((w : Int) - lo) + g := by
      rw [show ((w + 1 : Nat) : Int) - lo = ((w : Int) - lo) + 1 by omega, Int.mul_add, Int.mul_one]
    have hb : g * ((w : Int) - lo) ≤ 1000 * 100 := (mul_range hg0 hg (b := (w : Int) - lo) (B := 100) (by omega) (by omega)).2
    have hsum : w64 (s + mnI ((rows.f w).f C) (rates.f w)) = s + mnI ((rows.f w).f C) (rates.f w) := Ha.w64_mid (by omega) (by omega)
    obtain ⟨s', a1, a2, a3⟩ := ih (w + 1) n (s + mnI ((rows.f w).f C) (rates.f w)) (by omega) (by omega) (by omega) (by omega) (by rw [hmul]; omega)
    refine ⟨s', a1, a2, ?_⟩
    conv => lhs; unfold neweltop_TopBoards_l25 neweltop_TopBoards_b25
    simp only [e1, Ha.ltT (show w < rows.n by omega), nat_nonneg, Bool.and_self, cond_true, Int.toNat_natCast, hl, bne_self_eq_false, cond_false, hC, Ha.ltT hCl, Ha.ltT (show w < rates.n by omega), Ha.ws (show w < 100000 by omega), hgG, hsum]
    exact a3
theorem boards_l21 {N : Nat} (hN : 200 ≤ N) {h : api_Hall} {x : neweltop_Boarding} {c : api_Band} (b : Bool) {rates : Arr Int} {rows : Arr (Arr Int)} {R : Type} (kr : Bool → Option R) (k2 : Unit → Option R) {g : Int} (hn : rows.n ≤ 100) (hrn : rates.n = rows.n)
    (hr : ∀ j, j < rates.n → 0 ≤ rates.f j ∧ rates.f j ≤ g) (hg0 : 0 ≤ g) (hg : g ≤ 1000) (hrow : ∀ j, j < rows.n → (rows.f j).n = h.Combs.n) {C : Nat} (hC : x.Comb = (C : Int)) (hCl : C < h.Combs.n) (hz : ∀ j, j < rows.n → 0 ≤ (rows.f j).f C)
    (hp : x.Pace ≠ 0) {Q : Nat} (hQ : Int.tdiv c.Ride x.Pace = (Q : Int)) (hQ1 : 1 ≤ Q) (hQ2 : Q ≤ 1000) (hB : 0 ≤ c.Body ∧ c.Body ≤ 100) (hmost : g * (Q : Int) * c.Body ≤ c.Most) :
    ∀ (q t n : Nat), t + q = rows.n → q < n → neweltop_TopBoards_l21 N n (t : Int) h x c b rates rows kr k2 = k2 () := by
  intro q
  induction q with
  | zero =>
    intro t n h1 h2
    obtain ⟨n, rfl⟩ : ∃ m, n = m + 1 := ⟨n - 1, by omega⟩
    unfold neweltop_TopBoards_l21 neweltop_TopBoards_b21
    simp only [Ha.ltF (show rows.n ≤ t by omega), cond_false]
  | succ q ih =>
    intro t n h1 h2
    obtain ⟨n, rfl⟩ : ∃ m, n = m + 1 := ⟨n - 1, by omega⟩
    have ht : t < rows.n := by omega
    have ep : (x.Pace == 0) = false := by simpa using hp
    have elo : mxI (0 : Int) (w64 (w64 ((t : Int) - w64 (Q : Int)) + 1)) = ((t + 1 - Q : Nat) : Int) := by
      rw [Ha.w64_mid (x := (Q : Int)) (by omega) (by omega), Ha.w64_mid (x := (t : Int) - Q) (by omega) (by omega), Ha.w64_mid (by omega) (by omega), mxI_eq]
      omega
    obtain ⟨s', a1, a2, a3⟩ := boards_l25 N (h := h) (x := x) c b (rates := rates) (rows := rows) kr (fun r689 =>
     bif decide (w64 (r689 * api_Band.Body c) > api_Band.Most c) then
      kr false
     else
      neweltop_TopBoards_l21 N n ((t + 1 : Nat) : Int) h x c b rates rows kr k2) hn ht hrn hr hg hrow hC hCl hz (lo := t + 1 - Q) (t + 1 - (t + 1 - Q)) (t + 1 - Q) N 0 (by omega) (by omega) (by omega) (by omega) (by rw [Int.sub_self, Int.mul_zero]; exact Int.le_refl _)
    have hq : (((t + 1 : Nat) : Int) - ((t + 1 - Q : Nat) : Int)) ≤ (Q : Int) := by omega
    have h3 : s' ≤ g * (Q : Int) := Int.le_trans a2 (Int.mul_le_mul_of_nonneg_left hq hg0)
    have h4 : s' * c.Body ≤ g * (Q : Int) * c.Body := Int.mul_le_mul_of_nonneg_right h3 hB.1
    have h5 : g * (Q : Int) ≤ 1000 * 1000 := (mul_range hg0 hg (b := (Q : Int)) (B := 1000) (by omega) (by omega)).2
    have h6 := mul_range a1 (show s' ≤ 1000000 by omega) hB.1 hB.2
    have e2 : decide (w64 (s' * c.Body) > c.Most) = false := by
      rw [w64_eq (by omega) (by omega)]
      simp; omega
    conv => lhs; unfold neweltop_TopBoards_l21 neweltop_TopBoards_b21
    simp only [Ha.ltT ht, cond_true, cond_false, ep, hQ, elo, Ha.ws (show t < 100000 by omega)]
    refine a3.trans ?_
    simp only [e2, cond_false]
    exact ih (t + 1) n (by omega) (by omega)
theorem topBoards_true (h : api_Hall) (d : api_Day) (x : neweltop_Boarding) (hh : h.wf) (hd : d.wf) (hx : x.wf) : ∃ N, neweltop_TopBoards N h d x (fun q0 => okK (lget [.bool q0] 0, [])) = some () := by
  refine ⟨2000, ?_⟩
  rw [neweltop_TopBoards_def]
  unfold neweltop_TopBoards_m
  have htr : okK (lget [SV.bool true] 0, []) = some () := rfl
  simp only [neweltop_measures_eq, htr]
  refine (far6_or (N := 2000) (by decide) h _).elim (fun e => by rw [e]; rfl) (fun e => ?_)
  rw [e, cond_false, newellaw11_Far_def]
  unfold newellaw11_Far_m
  dsimp only []
  cases decide ((x.Band.Paces.n : Int) > 10)
  rotate_left
  · rfl
  rw [cond_false]
  rcases Ha.refCheck_or (N := 2000) (by decide) h _ with e | ⟨hv, e⟩
  · rw [e]; rfl
  rw [e, bne_self_eq_false, cond_false]
  rcases Ha.refFits_or (N := 2000) (by decide) hv d _ with e | ⟨hdv, e⟩
  · rw [e]; rfl
  rw [e, Bool.not_true, cond_false, En.refCheck_eq (by decide)]
  by_cases hc : En.VB x.Band
  rotate_left
  · rw [En.checkV_ne hc]; rfl
  have l2 := hc.l2
  rw [En.checkV_pos hc, bne_self_eq_false, cond_false, En.Pace_eq (by omega) (by omega)]
  by_cases hp : En.isIn x.Band.Paces x.Pace
  rotate_left
  · simp only [hp, decide_false, Bool.not_false, cond_true]
  obtain ⟨pi, hpi1, hpi2⟩ := hp
  have hpb := hc.pace pi hpi1
  rw [hpi2] at hpb
  have hp : En.isIn x.Band.Paces x.Pace := ⟨pi, hpi1, hpi2⟩
  have ep : (x.Pace == 0) = false := by simp; omega
  simp only [hp, decide_true, Bool.not_true, cond_false, ep]
  by_cases hm : Int.tmod x.Band.Ride x.Pace = 0
  rotate_left
  · have : (Int.tmod x.Band.Ride x.Pace != 0) = true := by simpa using hm
    simp only [this, cond_true]
  simp only [hm, bne_self_eq_false, cond_false]
  by_cases c1 : x.Comb < 0
  · simp only [c1, decide_true, cond_true]
  by_cases c2 : x.Comb ≥ (h.Combs.n : Int)
  · simp only [c1, c2, decide_true, decide_false, cond_true, cond_false]
  simp only [c1, c2, decide_false, cond_false]
  obtain ⟨C, hC⟩ : ∃ C : Nat, x.Comb = (C : Int) := ⟨x.Comb.toNat, by omega⟩
  have hCl : C < h.Combs.n := by omega
  rw [hC]
  obtain ⟨rates, a1, a2, a3⟩ := Ha.Rates_eq (N := 2000) (by decide) hv hCl (fun r654 r655 r656 =>
            halls_Play 2000 h d (fun r657 r658 =>
            bif r654 != (0 : Int) then
             okK (lget [SV.bool false] 0, [])
            else
             bif r657 != (0 : Int) then
              okK (lget [SV.bool false] 0, [])
             else
              bif (↑(Arr.n r656) : Int) != api_Hall.Until h then
               okK (lget [SV.bool false] 0, [])
              else
               bif (↑(Arr.n r658) : Int) != api_Hall.Until h then
                okK (lget [SV.bool false] 0, [])
               else
                neweltop_TopBoards_l10 2000 2000 (0 : Int) (0 : Int) h x (neweltop_Boarding.Band x) r655 r656 r658 (fun r667 =>
                 bif decide (r667 > (100 : Int)) then
                  some ()
                 else
                  energy_Load 2000 (neweltop_Boarding.Band x) r667 (neweltop_Boarding.Pace x) (fun r669 r670 =>
                  bif r670 != (0 : Int) then
                   okK (lget [SV.bool false] 0, [])
                  else
                   bif decide (r669 > api_Band.Most (neweltop_Boarding.Band x)) then
                    some ()
                   else
                    neweltop_TopBoards_l21 2000 2000 (0 : Int) h x (neweltop_Boarding.Band x) r655 r656 r658 (fun r690 =>
                     okK (lget [SV.bool r690] 0, [])) (fun (_ : Unit) =>
                     some ())))))
  refine a3.trans ?_
  obtain ⟨rows, b1, b2, b3⟩ := Ha.Play_eq (N := 2000) (by decide) hv hdv (fun r657 r658 =>
            bif (0 : Int) != (0 : Int) then
             okK (lget [SV.bool false] 0, [])
            else
             bif r657 != (0 : Int) then
              okK (lget [SV.bool false] 0, [])
             else
              bif (↑(Arr.n rates) : Int) != api_Hall.Until h then
               okK (lget [SV.bool false] 0, [])
              else
               bif (↑(Arr.n r658) : Int) != api_Hall.Until h then
                okK (lget [SV.bool false] 0, [])
               else
                neweltop_TopBoards_l10 2000 2000 (0 : Int) (0 : Int) h x (neweltop_Boarding.Band x) false rates r658 (fun r667 =>
                 bif decide (r667 > (100 : Int)) then
                  some ()
                 else
                  energy_Load 2000 (neweltop_Boarding.Band x) r667 (neweltop_Boarding.Pace x) (fun r669 r670 =>
                  bif r670 != (0 : Int) then
                   okK (lget [SV.bool false] 0, [])
                  else
                   bif decide (r669 > api_Band.Most (neweltop_Boarding.Band x)) then
                    some ()
                   else
                    neweltop_TopBoards_l21 2000 2000 (0 : Int) h x (neweltop_Boarding.Band x) false rates r658 (fun r690 =>
                     okK (lget [SV.bool r690] 0, [])) (fun (_ : Unit) =>
                     some ()))))
  refine b3.trans ?_
  have hu := hv.u
  have e1 : ((rates.n : Int) != h.Until) = false := by rw [a1]; simp; omega
  have e2 : ((rows.n : Int) != h.Until) = false := by rw [b1]; simp; omega
  simp only [bne_self_eq_false, cond_false, e1, e2]
  have hn : rows.n ≤ 100 := by omega
  have hrn : rates.n = rows.n := by omega
  obtain ⟨g, g1, g2, g3⟩ := boards_l10 2000 h x x.Band false rates rows (fun r667 =>
                 bif decide (r667 > (100 : Int)) then
                  some ()
                 else
                  energy_Load 2000 (neweltop_Boarding.Band x) r667 (neweltop_Boarding.Pace x) (fun r669 r670 =>
                  bif r670 != (0 : Int) then
                   okK (lget [SV.bool false] 0, [])
                  else
                   bif decide (r669 > api_Band.Most (neweltop_Boarding.Band x)) then
                    some ()
                   else
                    neweltop_TopBoards_l21 2000 2000 (0 : Int) h x (neweltop_Boarding.Band x) false rates rows (fun r690 =>
                     okK (lget [SV.bool r690] 0, [])) (fun (_ : Unit) =>
                     some ()))) (by omega) (fun j hj => a2 j (by omega)) rates.n 0 2000 0 (by omega) (by omega) (Int.le_refl _) (fun j hj => by omega)
  refine g3.trans ?_
  by_cases c3 : g > 100
  · simp only [c3, decide_true, cond_true]
  simp only [c3, decide_false, cond_false]
  have hask : En.askV x.Band g x.Pace = 0 := En.askV_zero.2 ⟨hc, hp, by omega⟩
  have hfp := En.isIn_fp hc hp (flow := g) (by omega)
  have hlv : En.loadV x.Band g x.Pace = En.loadS x.Band g x.Pace := by unfold En.loadV; rw [if_pos hask]
  rw [En.Load_eq (by decide), hask, hlv]
  simp only [bne_self_eq_false, cond_false]
  by_cases c4 : En.loadS x.Band g x.Pace > x.Band.Most
  · simp only [c4, decide_true, cond_true]
  simp only [c4, decide_false, cond_false]
  have r1 := hc.r1
  have r2 := hc.r2
  have hdm : x.Pace * Int.tdiv x.Band.Ride x.Pace = x.Band.Ride := by
    have := Int.mul_tdiv_add_tmod x.Band.Ride x.Pace
    omega
  have hq0 : 0 ≤ Int.tdiv x.Band.Ride x.Pace := En.tdiv_nonneg (by omega) (by omega)
  obtain ⟨Q, hQ⟩ : ∃ Q : Nat, Int.tdiv x.Band.Ride x.Pace = (Q : Int) := ⟨_, (Int.toNat_of_nonneg hq0).symm⟩
  rw [hQ] at hdm
  have hQ1 : 1 ≤ Q := by
    rcases Nat.eq_zero_or_pos Q with e | e
    · rw [e, show ((0 : Nat) : Int) = 0 from rfl, Int.mul_zero] at hdm; omega
    · exact e
  have hQ2 : Q ≤ 1000 := by
    have : 1 * (Q : Int) ≤ x.Pace * (Q : Int) := Int.mul_le_mul_of_nonneg_right hpb.1 (by omega)
    omega
  have hon : En.onS x.Band g x.Pace = g * (Q : Int) := by
    unfold En.onS
    have e3 : g * x.Band.Ride = g * (Q : Int) * x.Pace := by rw [← hdm, Int.mul_comm x.Pace, Int.mul_assoc]
    have h0 : 0 ≤ g * (Q : Int) * x.Pace := Int.mul_nonneg (Int.mul_nonneg g1 (by omega)) (by omega)
    rw [e3, Int.tdiv_eq_ediv_of_nonneg (by omega)]
    rw [show g * (Q : Int) * x.Pace + x.Pace - 1 = (x.Pace - 1) + g * (Q : Int) * x.Pace by omega, Int.add_mul_ediv_right _ _ (by omega), Int.ediv_eq_zero_of_lt (by omega) (by omega)]
    omega
  have hload : En.loadS x.Band g x.Pace = g * (Q : Int) * x.Band.Body := by unfold En.loadS; rw [hon]
  have h21 := boards_l21 (N := 2000) (by decide) (h := h) (x := x) (c := x.Band) false (rates := rates) (rows := rows) (fun r690 => okK (lget [SV.bool r690] 0, [])) (fun (_ : Unit) => some ()) (g := g) hn hrn (fun j hj => ⟨(a2 j (by omega)).1, g2 j hj⟩) g1 (by omega) (fun j hj => (b2 j (by omega)).1) hC hCl (fun j hj => ((b2 j (by omega)).2 C hCl).1) (by omega) hQ hQ1 hQ2 ⟨hc.b1, hc.b2⟩ (by rw [hload] at c4; omega) rows.n 0 2000 (by omega) (by omega)
  exact h21
end
end Go.Proofs.Ytlikcijophbkbaa
