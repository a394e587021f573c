import Derived.Test.YtlikcijophbkbaaDsP9
import Derived.Test.YtlikcijophbkbaaHaP2
set_option maxRecDepth 100000
set_option maxHeartbeats 0
set_option linter.unusedSectionVars false
set_option linter.unusedVariables false
set_option linter.unusedSimpArgs false
namespace Go.Proofs.Ytlikcijophbkbaa
open Go.Sx
noncomputable section
def neweltop_TopStops_L11 : LoopSp := ⟨⟨[3, 7, 8, 9, 10, 12, 14, 15], ⟨(dr 3 ((rPtr 0 0) :: (dr 3 ((rPtr 1 0) :: (rPtr 2 0) :: (rPtr 3 0) :: (rRow 4) :: (dr 1 ((rRow 5) :: (dr 1 ((rInt .i64) :: (rInt .i64) :: (dr 242 []))))))))), [(0, eBlkC api_HallC), (1, eBlkC api_EscalatorC), (2, eBlkC neweltop_BoardedC), (3, eBlkC api_StopC), (4, eRow intC), (5, eMx .i64)]⟩, 6⟩, [(some 0, ⟨[3, 7, 8, 9, 10, 12, 14], ⟨(dr 3 ((rPtr 0 0) :: (dr 3 ((rPtr 1 0) :: (rPtr 2 0) :: (rPtr 3 0) :: (rRow 4) :: (dr 1 ((rRow 5) :: (dr 1 ((rInt .i64) :: (dr 243 []))))))))), [(0, eBlkC api_HallC), (1, eBlkC api_EscalatorC), (2, eBlkC neweltop_BoardedC), (3, eBlkC api_StopC), (4, eRow intC), (5, eMx .i64)]⟩, 6⟩)]⟩
theorem neweltop_TopStops_L11_ok : neweltop_TopStops_L11.Ok := ⟨⟨(drCons 3 (allCons (rPtr_ok 0 0) (drCons 3 (allCons (rPtr_ok 1 0) (allCons (rPtr_ok 2 0) (allCons (rPtr_ok 3 0) (allCons (rRow_ok 4) (drCons 1 (allCons (rRow_ok 5) (drCons 1 (allCons (rInt_ok .i64) (allCons (rInt_ok .i64) (drCons 242 allNil))))))))))))), (eCons (eBlkC_ok api_HallC_ok api_HallC_len) (eCons (eBlkC_ok api_EscalatorC_ok api_EscalatorC_len) (eCons (eBlkC_ok neweltop_BoardedC_ok neweltop_BoardedC_len) (eCons (eBlkC_ok api_StopC_ok api_StopC_len) (eCons (eRow_ok intC_ok) (eCons eMx_ok eNil))))))⟩, (xCons ⟨(drCons 3 (allCons (rPtr_ok 0 0) (drCons 3 (allCons (rPtr_ok 1 0) (allCons (rPtr_ok 2 0) (allCons (rPtr_ok 3 0) (allCons (rRow_ok 4) (drCons 1 (allCons (rRow_ok 5) (drCons 1 (allCons (rInt_ok .i64) (drCons 243 allNil)))))))))))), (eCons (eBlkC_ok api_HallC_ok api_HallC_len) (eCons (eBlkC_ok api_EscalatorC_ok api_EscalatorC_len) (eCons (eBlkC_ok neweltop_BoardedC_ok neweltop_BoardedC_len) (eCons (eBlkC_ok api_StopC_ok api_StopC_len) (eCons (eRow_ok intC_ok) (eCons eMx_ok eNil))))))⟩ xNil)⟩
def neweltop_TopStops_h11 (v591 : Int) (v592 : Int) (v593 : api_Hall) (v594 : api_Escalator) (v595 : neweltop_Boarded) (v596 : api_Stop) (v597 : Bool) (v598 : Arr Int) (v599 : Arr (Arr Int)) : St := ⟨(un 3 ((.ptr 0 0) :: (un 3 ((.ptr 1 0) :: (.ptr 2 0) :: (.ptr 3 0) :: (.row 4) :: (un 1 ((.row 5) :: (un 1 ((.int .i64 v591) :: (.int .i64 v592) :: (un 242 []))))))))), [(0, .blk (Cod.enc api_HallC v593)), (1, .blk (Cod.enc api_EscalatorC v594)), (2, .blk (Cod.enc neweltop_BoardedC v595)), (3, .blk (Cod.enc api_StopC v596)), (4, rowE intC v597 v598), (5, mxE .i64 v599)], 6⟩
def neweltop_TopStops_x11_0 (v593 : api_Hall) (v594 : api_Escalator) (v595 : neweltop_Boarded) (v596 : api_Stop) (v597 : Bool) (v598 : Arr Int) (v599 : Arr (Arr Int)) (q0 : Int) : St := ⟨(un 3 ((.ptr 0 0) :: (un 3 ((.ptr 1 0) :: (.ptr 2 0) :: (.ptr 3 0) :: (.row 4) :: (un 1 ((.row 5) :: (un 1 ((.int .i64 q0) :: (un 243 []))))))))), [(0, .blk (Cod.enc api_HallC v593)), (1, .blk (Cod.enc api_EscalatorC v594)), (2, .blk (Cod.enc neweltop_BoardedC v595)), (3, .blk (Cod.enc api_StopC v596)), (4, rowE intC v597 v598), (5, mxE .i64 v599)], 6⟩
def neweltop_TopStops_b11 {R : Type} (N : Nat) (rc : Int → Int → api_Hall → api_Escalator → neweltop_Boarded → api_Stop → Bool → Arr Int → Arr (Arr Int) → Option R) (v591 : Int) (v592 : Int) (v593 : api_Hall) (v594 : api_Escalator) (v595 : neweltop_Boarded) (v596 : api_Stop) (v597 : Bool) (v598 : Arr Int) (v599 : Arr (Arr Int)) (k0 : Int → Option R) : Option R :=
  bif decide (v592 < (↑(Arr.n v598) : Int)) then
   bif decide ((0 : Int) ≤ v592) && decide (v592 < (↑(Arr.n v598) : Int)) then
    rc (mxI v591 (Arr.f v598 (Int.toNat v592))) (w64 (v592 + (1 : Int))) v593 v594 v595 v596 v597 v598 v599
   else
    Option.none
  else
   k0 v591
def neweltop_TopStops_l11 {R : Type} (N : Nat) : Nat → Int → Int → api_Hall → api_Escalator → neweltop_Boarded → api_Stop → Bool → Arr Int → Arr (Arr Int) → (Int → Option R) → Option R
  | 0, _, _, _, _, _, _, _, _, _, _ => Option.none
  | n + 1, v591, v592, v593, v594, v595, v596, v597, v598, v599, k0 => neweltop_TopStops_b11 N (fun v591 v592 v593 v594 v595 v596 v597 v598 v599 => neweltop_TopStops_l11 N n v591 v592 v593 v594 v595 v596 v597 v598 v599 k0) v591 v592 v593 v594 v595 v596 v597 v598 v599 k0
def neweltop_TopStops_L22 : LoopSp := ⟨⟨[3, 7, 8, 9, 10, 12, 16, 19, 20], ⟨(dr 3 ((rPtr 0 0) :: (dr 3 ((rPtr 1 0) :: (rPtr 2 0) :: (rPtr 3 0) :: (rRow 4) :: (dr 1 ((rRow 5) :: (dr 3 ((rPtr 6 0) :: (dr 2 ((rInt .i64) :: (rInt .i64) :: (dr 237 []))))))))))), [(0, eBlkC api_HallC), (1, eBlkC api_EscalatorC), (2, eBlkC neweltop_BoardedC), (3, eBlkC api_StopC), (4, eRow intC), (5, eMx .i64), (6, eBlkC api_SpanC)]⟩, 7⟩, [(Option.none, ⟨[6], ⟨(dr 6 ((rBool) :: (dr 251 []))), []⟩, 0⟩), (some 2, ⟨[7, 8, 9, 16, 19], ⟨(dr 7 ((rPtr 0 0) :: (rPtr 1 0) :: (rPtr 2 0) :: (dr 6 ((rPtr 3 0) :: (dr 2 ((rInt .i64) :: (dr 238 []))))))), [(0, eBlkC api_EscalatorC), (1, eBlkC neweltop_BoardedC), (2, eBlkC api_StopC), (3, eBlkC api_SpanC)]⟩, 4⟩)]⟩
theorem neweltop_TopStops_L22_ok : neweltop_TopStops_L22.Ok := ⟨⟨(drCons 3 (allCons (rPtr_ok 0 0) (drCons 3 (allCons (rPtr_ok 1 0) (allCons (rPtr_ok 2 0) (allCons (rPtr_ok 3 0) (allCons (rRow_ok 4) (drCons 1 (allCons (rRow_ok 5) (drCons 3 (allCons (rPtr_ok 6 0) (drCons 2 (allCons (rInt_ok .i64) (allCons (rInt_ok .i64) (drCons 237 allNil))))))))))))))), (eCons (eBlkC_ok api_HallC_ok api_HallC_len) (eCons (eBlkC_ok api_EscalatorC_ok api_EscalatorC_len) (eCons (eBlkC_ok neweltop_BoardedC_ok neweltop_BoardedC_len) (eCons (eBlkC_ok api_StopC_ok api_StopC_len) (eCons (eRow_ok intC_ok) (eCons eMx_ok (eCons (eBlkC_ok api_SpanC_ok api_SpanC_len) eNil)))))))⟩, (xCons ⟨(drCons 6 (allCons rBool_ok (drCons 251 allNil))), eNil⟩ (xCons ⟨(drCons 7 (allCons (rPtr_ok 0 0) (allCons (rPtr_ok 1 0) (allCons (rPtr_ok 2 0) (drCons 6 (allCons (rPtr_ok 3 0) (drCons 2 (allCons (rInt_ok .i64) (drCons 238 allNil))))))))), (eCons (eBlkC_ok api_EscalatorC_ok api_EscalatorC_len) (eCons (eBlkC_ok neweltop_BoardedC_ok neweltop_BoardedC_len) (eCons (eBlkC_ok api_StopC_ok api_StopC_len) (eCons (eBlkC_ok api_SpanC_ok api_SpanC_len) eNil))))⟩ xNil))⟩
def neweltop_TopStops_h22 (v607 : Int) (v608 : Int) (v609 : api_Hall) (v610 : api_Escalator) (v611 : neweltop_Boarded) (v612 : api_Stop) (v613 : Bool) (v614 : Arr Int) (v615 : Arr (Arr Int)) (v616 : api_Span) : St := ⟨(un 3 ((.ptr 0 0) :: (un 3 ((.ptr 1 0) :: (.ptr 2 0) :: (.ptr 3 0) :: (.row 4) :: (un 1 ((.row 5) :: (un 3 ((.ptr 6 0) :: (un 2 ((.int .i64 v607) :: (.int .i64 v608) :: (un 237 []))))))))))), [(0, .blk (Cod.enc api_HallC v609)), (1, .blk (Cod.enc api_EscalatorC v610)), (2, .blk (Cod.enc neweltop_BoardedC v611)), (3, .blk (Cod.enc api_StopC v612)), (4, rowE intC v613 v614), (5, mxE .i64 v615), (6, .blk (Cod.enc api_SpanC v616))], 7⟩
def neweltop_TopStops_x22_r (q0 : Bool) : St := ⟨(un 6 ((.bool q0) :: (un 251 []))), [], 0⟩
def neweltop_TopStops_x22_2 (v610 : api_Escalator) (v611 : neweltop_Boarded) (v612 : api_Stop) (v616 : api_Span) (q0 : Int) : St := ⟨(un 7 ((.ptr 0 0) :: (.ptr 1 0) :: (.ptr 2 0) :: (un 6 ((.ptr 3 0) :: (un 2 ((.int .i64 q0) :: (un 238 []))))))), [(0, .blk (Cod.enc api_EscalatorC v610)), (1, .blk (Cod.enc neweltop_BoardedC v611)), (2, .blk (Cod.enc api_StopC v612)), (3, .blk (Cod.enc api_SpanC v616))], 4⟩
def neweltop_TopStops_b22 {R : Type} (N : Nat) (rc : Int → Int → api_Hall → api_Escalator → neweltop_Boarded → api_Stop → Bool → Arr Int → Arr (Arr Int) → api_Span → Option R) (v607 : Int) (v608 : Int) (v609 : api_Hall) (v610 : api_Escalator) (v611 : neweltop_Boarded) (v612 : api_Stop) (v613 : Bool) (v614 : Arr Int) (v615 : Arr (Arr Int)) (v616 : api_Span) (kr : Bool → Option R) (k2 : Int → Option R) : Option R :=
  bif decide (v608 ≤ neweltop_Boarded.Tick v611) then
   bif decide ((0 : Int) ≤ v608) && decide (v608 < (↑(Arr.n v615) : Int)) then
    bif (↑(mxL v615 (Int.toNat v608)) : Int) != (↑(Arr.n (api_Hall.Combs v609)) : Int) then
     kr false
    else
     bif decide ((0 : Int) ≤ v608) && decide (v608 < (↑(Arr.n v615) : Int)) then
      bif decide ((0 : Int) ≤ neweltop_Boarded.Comb v611) && decide (neweltop_Boarded.Comb v611 < (↑(mxL v615 (Int.toNat v608)) : Int)) then
       bif decide ((0 : Int) ≤ v608) && decide (v608 < (↑(Arr.n v614) : Int)) then
        rc (w64 (v607 + mnI (mxG v615 (Int.toNat v608) (Int.toNat (neweltop_Boarded.Comb v611))) (Arr.f v614 (Int.toNat v608)))) (w64 (v608 + (1 : Int))) v609 v610 v611 v612 v613 v614 v615 v616
       else
        Option.none
      else
       Option.none
     else
      Option.none
   else
    Option.none
  else
   k2 v607
def neweltop_TopStops_l22 {R : Type} (N : Nat) : Nat → Int → Int → api_Hall → api_Escalator → neweltop_Boarded → api_Stop → Bool → Arr Int → Arr (Arr Int) → api_Span → (Bool → Option R) → (Int → Option R) → Option R
  | 0, _, _, _, _, _, _, _, _, _, _, _, _ => Option.none
  | n + 1, v607, v608, v609, v610, v611, v612, v613, v614, v615, v616, kr, k2 => neweltop_TopStops_b22 N (fun v607 v608 v609 v610 v611 v612 v613 v614 v615 v616 => neweltop_TopStops_l22 N n v607 v608 v609 v610 v611 v612 v613 v614 v615 v616 kr k2) v607 v608 v609 v610 v611 v612 v613 v614 v615 v616 kr k2
def neweltop_TopStops_L29 : LoopSp := ⟨⟨[7, 8, 9, 16, 19, 21, 22], ⟨(dr 7 ((rPtr 0 0) :: (rPtr 1 0) :: (rPtr 2 0) :: (dr 6 ((rPtr 3 0) :: (dr 2 ((rInt .i64) :: (dr 1 ((rRow 4) :: (rInt .i64) :: (dr 235 []))))))))), [(0, eBlkC api_EscalatorC), (1, eBlkC neweltop_BoardedC), (2, eBlkC api_StopC), (3, eBlkC api_SpanC), (4, eRow intC)]⟩, 5⟩, [(some 4, ⟨[7, 9, 16, 21], ⟨(dr 7 ((rPtr 0 0) :: (dr 1 ((rPtr 1 0) :: (dr 6 ((rPtr 2 0) :: (dr 4 ((rRow 3) :: (dr 236 []))))))))), [(0, eBlkC api_EscalatorC), (1, eBlkC api_StopC), (2, eBlkC api_SpanC), (3, eRow intC)]⟩, 4⟩)]⟩
theorem neweltop_TopStops_L29_ok : neweltop_TopStops_L29.Ok := ⟨⟨(drCons 7 (allCons (rPtr_ok 0 0) (allCons (rPtr_ok 1 0) (allCons (rPtr_ok 2 0) (drCons 6 (allCons (rPtr_ok 3 0) (drCons 2 (allCons (rInt_ok .i64) (drCons 1 (allCons (rRow_ok 4) (allCons (rInt_ok .i64) (drCons 235 allNil)))))))))))), (eCons (eBlkC_ok api_EscalatorC_ok api_EscalatorC_len) (eCons (eBlkC_ok neweltop_BoardedC_ok neweltop_BoardedC_len) (eCons (eBlkC_ok api_StopC_ok api_StopC_len) (eCons (eBlkC_ok api_SpanC_ok api_SpanC_len) (eCons (eRow_ok intC_ok) eNil)))))⟩, (xCons ⟨(drCons 7 (allCons (rPtr_ok 0 0) (drCons 1 (allCons (rPtr_ok 1 0) (drCons 6 (allCons (rPtr_ok 2 0) (drCons 4 (allCons (rRow_ok 3) (drCons 236 allNil))))))))), (eCons (eBlkC_ok api_EscalatorC_ok api_EscalatorC_len) (eCons (eBlkC_ok api_StopC_ok api_StopC_len) (eCons (eBlkC_ok api_SpanC_ok api_SpanC_len) (eCons (eRow_ok intC_ok) eNil))))⟩ xNil)⟩
def neweltop_TopStops_h29 (v619 : Int) (v620 : Int) (v621 : api_Escalator) (v622 : neweltop_Boarded) (v623 : api_Stop) (v624 : api_Span) (v625 : Bool) (v626 : Arr Int) : St := ⟨(un 7 ((.ptr 0 0) :: (.ptr 1 0) :: (.ptr 2 0) :: (un 6 ((.ptr 3 0) :: (un 2 ((.int .i64 v619) :: (un 1 ((.row 4) :: (.int .i64 v620) :: (un 235 []))))))))), [(0, .blk (Cod.enc api_EscalatorC v621)), (1, .blk (Cod.enc neweltop_BoardedC v622)), (2, .blk (Cod.enc api_StopC v623)), (3, .blk (Cod.enc api_SpanC v624)), (4, rowE intC v625 v626)], 5⟩
def neweltop_TopStops_x29_4 (v621 : api_Escalator) (v623 : api_Stop) (v624 : api_Span) (q3 : Bool) (q4 : Arr Int) : St := ⟨(un 7 ((.ptr 0 0) :: (un 1 ((.ptr 1 0) :: (un 6 ((.ptr 2 0) :: (un 4 ((.row 3) :: (un 236 []))))))))), [(0, .blk (Cod.enc api_EscalatorC v621)), (1, .blk (Cod.enc api_StopC v623)), (2, .blk (Cod.enc api_SpanC v624)), (3, rowE intC q3 q4)], 4⟩
def neweltop_TopStops_b29 {R : Type} (N : Nat) (rc : Int → Int → api_Escalator → neweltop_Boarded → api_Stop → api_Span → Bool → Arr Int → Option R) (v619 : Int) (v620 : Int) (v621 : api_Escalator) (v622 : neweltop_Boarded) (v623 : api_Stop) (v624 : api_Span) (v625 : Bool) (v626 : Arr Int) (k4 : Bool → Arr Int → Option R) : Option R :=
  bif decide (v620 < (100 : Int)) then
   bif room (Arr.n v626 + (1 : Nat)) then
    rc v619 (w64 (v620 + (1 : Int))) v621 v622 v623 v624 false (lst intC (Arr.n v626 + (1 : Nat)) (catC (Arr.n v626) (Cod.cell intC (Arr.f v626)) (litC [SV.int IntKind.i64 (0 : Int)] [[SV.int IntKind.i64 (w64 (v619 * neweltop_Boarded.Body v622))]])))
   else
    Option.none
  else
   k4 v625 v626
def neweltop_TopStops_l29 {R : Type} (N : Nat) : Nat → Int → Int → api_Escalator → neweltop_Boarded → api_Stop → api_Span → Bool → Arr Int → (Bool → Arr Int → Option R) → Option R
  | 0, _, _, _, _, _, _, _, _, _ => Option.none
  | n + 1, v619, v620, v621, v622, v623, v624, v625, v626, k4 => neweltop_TopStops_b29 N (fun v619 v620 v621 v622 v623 v624 v625 v626 => neweltop_TopStops_l29 N n v619 v620 v621 v622 v623 v624 v625 v626 k4) v619 v620 v621 v622 v623 v624 v625 v626 k4
def neweltop_TopStops_m {R : Type} (N : Nat) (a567 : api_Hall) (a568 : api_Day) (a569 : neweltop_Full) (k : Bool → Option R) : Option R :=
  newellaw06_Far N a567 (fun r570 =>
  bif r570 then
   neweltop_measures N  (fun r571 =>
   k r571)
  else
   newellaw01_Far N (neweltop_Full.Escalator a569) (fun r572 =>
   bif r572 then
    neweltop_measures N  (fun r573 =>
    k r573)
   else
    newelref06_Check N a567 (fun r574 =>
    bif r574 != (0 : Int) then
     neweltop_measures N  (fun r575 =>
     k r575)
    else
     newelref06_Fits N a567 a568 (fun r576 =>
     bif !r576 then
      neweltop_measures N  (fun r577 =>
      k r577)
     else
      bif decide (neweltop_Boarded.Comb (neweltop_Full.Boarded a569) < (0 : Int)) then
       neweltop_measures N  (fun r578 =>
       k r578)
      else
       bif decide (neweltop_Boarded.Comb (neweltop_Full.Boarded a569) ≥ (↑(Arr.n (api_Hall.Combs a567)) : Int)) then
        neweltop_measures N  (fun r579 =>
        k r579)
       else
        bif decide (neweltop_Boarded.Body (neweltop_Full.Boarded a569) < (0 : Int)) then
         neweltop_measures N  (fun r580 =>
         k r580)
        else
         bif decide (neweltop_Boarded.Body (neweltop_Full.Boarded a569) > (100 : Int)) then
          neweltop_measures N  (fun r581 =>
          k r581)
         else
          bif decide (neweltop_Boarded.Ticks (neweltop_Full.Boarded a569) < (1 : Int)) then
           neweltop_measures N  (fun r582 =>
           k r582)
          else
           bif decide (neweltop_Boarded.Ticks (neweltop_Full.Boarded a569) > (20 : Int)) then
            neweltop_measures N  (fun r583 =>
            k r583)
           else
            bif decide (neweltop_Boarded.Tick (neweltop_Full.Boarded a569) < (0 : Int)) then
             neweltop_measures N  (fun r584 =>
             k r584)
            else
             bif decide (neweltop_Boarded.Tick (neweltop_Full.Boarded a569) ≥ api_Hall.Until a567) then
              neweltop_measures N  (fun r585 =>
              k r585)
             else
              halls_Rates N a567 (neweltop_Boarded.Comb (neweltop_Full.Boarded a569)) (fun r586 r587 r588 =>
              halls_Play N a567 a568 (fun r589 r590 =>
              bif r586 != (0 : Int) then
               k false
              else
               bif r589 != (0 : Int) then
                k false
               else
                bif (↑(Arr.n r588) : Int) != api_Hall.Until a567 then
                 k false
                else
                 bif (↑(Arr.n r590) : Int) != api_Hall.Until a567 then
                  k false
                 else
                  neweltop_TopStops_l11 N N (0 : Int) (0 : Int) a567 (neweltop_Full.Escalator a569) (neweltop_Full.Boarded a569) (neweltop_Boarded.Stop (neweltop_Full.Boarded a569)) r587 r588 r590 (fun r600 =>
                   newelref01_CheckStop N (neweltop_Full.Escalator a569) (api_Stop.mk (api_Stop.Speed (neweltop_Boarded.Stop (neweltop_Full.Boarded a569))) (api_Span.mk (0 : Int) (w64 (w64 (r600 * neweltop_Boarded.Body (neweltop_Full.Boarded a569)) * neweltop_Boarded.Ticks (neweltop_Full.Boarded a569)))) (api_Stop.Fail (neweltop_Boarded.Stop (neweltop_Full.Boarded a569)))) (fun r601 =>
                   bif r601 != (0 : Int) then
                    neweltop_measures N  (fun r602 =>
                    k r602)
                   else
                    drive_Distance N (neweltop_Full.Escalator a569) (api_Stop.mk (api_Stop.Speed (neweltop_Boarded.Stop (neweltop_Full.Boarded a569))) (api_Span.mk (0 : Int) (w64 (w64 (r600 * neweltop_Boarded.Body (neweltop_Full.Boarded a569)) * neweltop_Boarded.Ticks (neweltop_Full.Boarded a569)))) (api_Stop.Fail (neweltop_Boarded.Stop (neweltop_Full.Boarded a569)))) (fun r603 r604 r605 =>
                    bif r605 != (0 : Int) then
                     bif r605 == (12 : Int) then
                      neweltop_measures N  (fun r606 =>
                      k r606)
                     else
                      k false
                    else
                     neweltop_TopStops_l22 N N (0 : Int) (mxI (0 : Int) (w64 (w64 (neweltop_Boarded.Tick (neweltop_Full.Boarded a569) - neweltop_Boarded.Ticks (neweltop_Full.Boarded a569)) + (1 : Int)))) a567 (neweltop_Full.Escalator a569) (neweltop_Full.Boarded a569) (api_Stop.mk (api_Stop.Speed (neweltop_Boarded.Stop (neweltop_Full.Boarded a569))) (api_Span.mk (0 : Int) (w64 (w64 (r600 * neweltop_Boarded.Body (neweltop_Full.Boarded a569)) * neweltop_Boarded.Ticks (neweltop_Full.Boarded a569)))) (api_Stop.Fail (neweltop_Boarded.Stop (neweltop_Full.Boarded a569)))) r587 r588 r590 r603 (fun r617 =>
                      k r617) (fun r618 =>
                      neweltop_TopStops_l29 N N r618 (0 : Int) (neweltop_Full.Escalator a569) (neweltop_Full.Boarded a569) (api_Stop.mk (api_Stop.Speed (neweltop_Boarded.Stop (neweltop_Full.Boarded a569))) (api_Span.mk (0 : Int) (w64 (w64 (r600 * neweltop_Boarded.Body (neweltop_Full.Boarded a569)) * neweltop_Boarded.Ticks (neweltop_Full.Boarded a569)))) (api_Stop.Fail (neweltop_Boarded.Stop (neweltop_Full.Boarded a569)))) r603 true (lst intC (0 : Nat) (zeroC [SV.int IntKind.i64 (0 : Int)])) (fun r627 r628 =>
                       drive_Play N (neweltop_Full.Escalator a569) (api_Stop.mk (api_Stop.Speed (neweltop_Boarded.Stop (neweltop_Full.Boarded a569))) (api_Span.mk (0 : Int) (w64 (w64 (r600 * neweltop_Boarded.Body (neweltop_Full.Boarded a569)) * neweltop_Boarded.Ticks (neweltop_Full.Boarded a569)))) (api_Stop.Fail (neweltop_Boarded.Stop (neweltop_Full.Boarded a569)))) r628 (fun r629 r630 r631 =>
                       bif r629 != (0 : Int) then
                        k false
                       else
                        bif (↑(Arr.n r631) : Int) != (↑(Arr.n r628) : Int) then
                         k false
                        else
                         newelref01_Rest N (api_Stop.Speed (api_Stop.mk (api_Stop.Speed (neweltop_Boarded.Stop (neweltop_Full.Boarded a569))) (api_Span.mk (0 : Int) (w64 (w64 (r600 * neweltop_Boarded.Body (neweltop_Full.Boarded a569)) * neweltop_Boarded.Ticks (neweltop_Full.Boarded a569)))) (api_Stop.Fail (neweltop_Boarded.Stop (neweltop_Full.Boarded a569))))) r631 (fun r632 r633 r634 =>
                         bif r634 then
                          bif decide (r632 ≥ api_Span.Low r603) then
                           bif decide (r632 ≤ api_Span.High r603) then
                            neweltop_measures N  (fun r635 =>
                            k r635)
                           else
                            k false
                          else
                           k false
                         else
                          k false)))))))))))))
noncomputable def neweltop_TopStops {R : Type} : Nat → api_Hall → api_Day → neweltop_Full → (Bool → Option R) → Option R := lock (@neweltop_TopStops_m R)
theorem neweltop_TopStops_def {R : Type} (N : Nat) (a567 : api_Hall) (a568 : api_Day) (a569 : neweltop_Full) (k : Bool → Option R) : neweltop_TopStops N a567 a568 a569 k = neweltop_TopStops_m N a567 a568 a569 k := by unfold neweltop_TopStops; rw [lock_eq]
def neweltop_TopStops_sp : Sp := ⟨[rAgg api_HallC, rAgg api_DayC, rAgg neweltop_FullC], []⟩
theorem neweltop_TopStops_sp_ok : neweltop_TopStops_sp.Ok := ⟨(allCons (rAgg_ok api_HallC_ok api_HallC_len) (allCons (rAgg_ok api_DayC_ok api_DayC_len) (allCons (rAgg_ok neweltop_FullC_ok neweltop_FullC_len) allNil))), eNil⟩
def neweltop_TopStops_rs : Sp := ⟨[rBool], []⟩
theorem neweltop_TopStops_rs_ok : neweltop_TopStops_rs.Ok := ⟨(allCons rBool_ok allNil), eNil⟩
def neweltop_TopStops_run {R : Type} (N : Nat) (args : List SV) (T : Tab) (kf : SV × Tab → Option R) : Option R :=
  neweltop_TopStops_m N (Cod.dec api_HallC (lget (toCs (lget args 0)))) (Cod.dec api_DayC (lget (toCs (lget args 1)))) (Cod.dec neweltop_FullC (lget (toCs (lget args 2)))) (fun q0 => kf (lget [.bool q0] 0, []))
def neweltop_TopStops_d29 {R : Type} (N : Nat) (S0 : St) (k : Exit → St → Option R) : Option R :=
  neweltop_TopStops_l29 N N (toI (lget S0.tmps 19)) (toI (lget S0.tmps 22)) (Cod.dec api_EscalatorC (lget (entCs (entAt S0.tab 0)))) (Cod.dec neweltop_BoardedC (lget (entCs (entAt S0.tab 1)))) (Cod.dec api_StopC (lget (entCs (entAt S0.tab 2)))) (Cod.dec api_SpanC (lget (entCs (entAt S0.tab 3)))) (entNl (entAt S0.tab 4)) (lst intC (entN (entAt S0.tab 4)) (entC (entAt S0.tab 4))) (fun q3 q4 => k (.exit 4) (neweltop_TopStops_x29_4 (Cod.dec api_EscalatorC (lget (entCs (entAt S0.tab 0)))) (Cod.dec api_StopC (lget (entCs (entAt S0.tab 2)))) (Cod.dec api_SpanC (lget (entCs (entAt S0.tab 3)))) q3 q4))
def neweltop_TopStops_d22 {R : Type} (N : Nat) (S0 : St) (k : Exit → St → Option R) : Option R :=
  neweltop_TopStops_l22 N N (toI (lget S0.tmps 19)) (toI (lget S0.tmps 20)) (Cod.dec api_HallC (lget (entCs (entAt S0.tab 0)))) (Cod.dec api_EscalatorC (lget (entCs (entAt S0.tab 1)))) (Cod.dec neweltop_BoardedC (lget (entCs (entAt S0.tab 2)))) (Cod.dec api_StopC (lget (entCs (entAt S0.tab 3)))) (entNl (entAt S0.tab 4)) (lst intC (entN (entAt S0.tab 4)) (entC (entAt S0.tab 4))) (mxD (entMn (entAt S0.tab 5)) (entMl (entAt S0.tab 5)) (entMg (entAt S0.tab 5))) (Cod.dec api_SpanC (lget (entCs (entAt S0.tab 6)))) (fun q0 => k .ret (neweltop_TopStops_x22_r q0)) (fun q0 => k (.exit 2) (neweltop_TopStops_x22_2 (Cod.dec api_EscalatorC (lget (entCs (entAt S0.tab 1)))) (Cod.dec neweltop_BoardedC (lget (entCs (entAt S0.tab 2)))) (Cod.dec api_StopC (lget (entCs (entAt S0.tab 3)))) (Cod.dec api_SpanC (lget (entCs (entAt S0.tab 6)))) q0))
def neweltop_TopStops_d11 {R : Type} (N : Nat) (S0 : St) (k : Exit → St → Option R) : Option R :=
  neweltop_TopStops_l11 N N (toI (lget S0.tmps 14)) (toI (lget S0.tmps 15)) (Cod.dec api_HallC (lget (entCs (entAt S0.tab 0)))) (Cod.dec api_EscalatorC (lget (entCs (entAt S0.tab 1)))) (Cod.dec neweltop_BoardedC (lget (entCs (entAt S0.tab 2)))) (Cod.dec api_StopC (lget (entCs (entAt S0.tab 3)))) (entNl (entAt S0.tab 4)) (lst intC (entN (entAt S0.tab 4)) (entC (entAt S0.tab 4))) (mxD (entMn (entAt S0.tab 5)) (entMl (entAt S0.tab 5)) (entMg (entAt S0.tab 5))) (fun q0 => k (.exit 0) (neweltop_TopStops_x11_0 (Cod.dec api_HallC (lget (entCs (entAt S0.tab 0)))) (Cod.dec api_EscalatorC (lget (entCs (entAt S0.tab 1)))) (Cod.dec neweltop_BoardedC (lget (entCs (entAt S0.tab 2)))) (Cod.dec api_StopC (lget (entCs (entAt S0.tab 3)))) (entNl (entAt S0.tab 4)) (lst intC (entN (entAt S0.tab 4)) (entC (entAt S0.tab 4))) (mxD (entMn (entAt S0.tab 5)) (entMl (entAt S0.tab 5)) (entMg (entAt S0.tab 5))) q0))
def neweltop_TopStops_lp {R : Type} (N : Nat) : Lp R := fun body S k => bif (Go.Sx.keyOf body).getD 0 == 11 then (neweltop_TopStops_L11.head.raw 0 S (fun S0 => neweltop_TopStops_d11 N S0 k)) else bif (Go.Sx.keyOf body).getD 0 == 22 then (neweltop_TopStops_L22.head.raw 0 S (fun S0 => neweltop_TopStops_d22 N S0 k)) else bif (Go.Sx.keyOf body).getD 0 == 29 then (neweltop_TopStops_L29.head.raw 0 S (fun S0 => neweltop_TopStops_d29 N S0 k)) else Option.none
theorem neweltop_TopStops_l11_eq {R : Type} (N : Nat) (k : Exit → St → Option R) (n : Nat) : ∀ (v0 : Int) (v1 : Int) (v2 : api_Hall) (v3 : api_Escalator) (v4 : neweltop_Boarded) (v5 : api_Stop) (v6 : Bool) (v7 : Arr Int) (v8 : Arr (Arr Int)), loopM E.Θ (neweltop_measures_cal N) (neweltop_TopStops_lp N) (noJn) 0 neweltop_TopStops_L11 (bodyAt E 3 11) n (neweltop_TopStops_h11 v0 v1 v2 v3 v4 v5 v6 v7 v8) k = neweltop_TopStops_l11 N n v0 v1 v2 v3 v4 v5 v6 v7 v8 (fun q0 => k (.exit 0) (neweltop_TopStops_x11_0 v2 v3 v4 v5 v6 v7 v8 q0)) := by
  induction n with
  | zero => intro v0 v1 v2 v3 v4 v5 v6 v7 v8; rfl
  | succ n ih =>
    intro v0 v1 v2 v3 v4 v5 v6 v7 v8
    refine Eq.trans (b := neweltop_TopStops_b11 N (fun v0 v1 v2 v3 v4 v5 v6 v7 v8 => loopM E.Θ (neweltop_measures_cal N) (neweltop_TopStops_lp N) (noJn) 0 neweltop_TopStops_L11 (bodyAt E 3 11) n (neweltop_TopStops_h11 v0 v1 v2 v3 v4 v5 v6 v7 v8) k) v0 v1 v2 v3 v4 v5 v6 v7 v8 (fun q0 => k (.exit 0) (neweltop_TopStops_x11_0 v2 v3 v4 v5 v6 v7 v8 q0))) (by kernel_rfl) ?_
    have h : (fun (v0 : Int) (v1 : Int) (v2 : api_Hall) (v3 : api_Escalator) (v4 : neweltop_Boarded) (v5 : api_Stop) (v6 : Bool) (v7 : Arr Int) (v8 : Arr (Arr Int)) => loopM E.Θ (neweltop_measures_cal N) (neweltop_TopStops_lp N) (noJn) 0 neweltop_TopStops_L11 (bodyAt E 3 11) n (neweltop_TopStops_h11 v0 v1 v2 v3 v4 v5 v6 v7 v8) k) = (fun (v0 : Int) (v1 : Int) (v2 : api_Hall) (v3 : api_Escalator) (v4 : neweltop_Boarded) (v5 : api_Stop) (v6 : Bool) (v7 : Arr Int) (v8 : Arr (Arr Int)) => neweltop_TopStops_l11 N n v0 v1 v2 v3 v4 v5 v6 v7 v8 (fun q0 => k (.exit 0) (neweltop_TopStops_x11_0 v2 v3 v4 v5 v6 v7 v8 q0))) := funext fun v0 => funext fun v1 => funext fun v2 => funext fun v3 => funext fun v4 => funext fun v5 => funext fun v6 => funext fun v7 => funext fun v8 => ih v0 v1 v2 v3 v4 v5 v6 v7 v8
    rw [h]
    rfl
theorem neweltop_TopStops_l22_eq {R : Type} (N : Nat) (k : Exit → St → Option R) (n : Nat) : ∀ (v0 : Int) (v1 : Int) (v2 : api_Hall) (v3 : api_Escalator) (v4 : neweltop_Boarded) (v5 : api_Stop) (v6 : Bool) (v7 : Arr Int) (v8 : Arr (Arr Int)) (v9 : api_Span), loopM E.Θ (neweltop_measures_cal N) (neweltop_TopStops_lp N) (noJn) 0 neweltop_TopStops_L22 (bodyAt E 3 22) n (neweltop_TopStops_h22 v0 v1 v2 v3 v4 v5 v6 v7 v8 v9) k = neweltop_TopStops_l22 N n v0 v1 v2 v3 v4 v5 v6 v7 v8 v9 (fun q0 => k .ret (neweltop_TopStops_x22_r q0)) (fun q0 => k (.exit 2) (neweltop_TopStops_x22_2 v3 v4 v5 v9 q0)) := by
  induction n with
  | zero => intro v0 v1 v2 v3 v4 v5 v6 v7 v8 v9; rfl
  | succ n ih =>
    intro v0 v1 v2 v3 v4 v5 v6 v7 v8 v9
    refine Eq.trans (b := neweltop_TopStops_b22 N (fun v0 v1 v2 v3 v4 v5 v6 v7 v8 v9 => loopM E.Θ (neweltop_measures_cal N) (neweltop_TopStops_lp N) (noJn) 0 neweltop_TopStops_L22 (bodyAt E 3 22) n (neweltop_TopStops_h22 v0 v1 v2 v3 v4 v5 v6 v7 v8 v9) k) v0 v1 v2 v3 v4 v5 v6 v7 v8 v9 (fun q0 => k .ret (neweltop_TopStops_x22_r q0)) (fun q0 => k (.exit 2) (neweltop_TopStops_x22_2 v3 v4 v5 v9 q0))) (by kernel_rfl) ?_
    have h : (fun (v0 : Int) (v1 : Int) (v2 : api_Hall) (v3 : api_Escalator) (v4 : neweltop_Boarded) (v5 : api_Stop) (v6 : Bool) (v7 : Arr Int) (v8 : Arr (Arr Int)) (v9 : api_Span) => loopM E.Θ (neweltop_measures_cal N) (neweltop_TopStops_lp N) (noJn) 0 neweltop_TopStops_L22 (bodyAt E 3 22) n (neweltop_TopStops_h22 v0 v1 v2 v3 v4 v5 v6 v7 v8 v9) k) = (fun (v0 : Int) (v1 : Int) (v2 : api_Hall) (v3 : api_Escalator) (v4 : neweltop_Boarded) (v5 : api_Stop) (v6 : Bool) (v7 : Arr Int) (v8 : Arr (Arr Int)) (v9 : api_Span) => neweltop_TopStops_l22 N n v0 v1 v2 v3 v4 v5 v6 v7 v8 v9 (fun q0 => k .ret (neweltop_TopStops_x22_r q0)) (fun q0 => k (.exit 2) (neweltop_TopStops_x22_2 v3 v4 v5 v9 q0))) := funext fun v0 => funext fun v1 => funext fun v2 => funext fun v3 => funext fun v4 => funext fun v5 => funext fun v6 => funext fun v7 => funext fun v8 => funext fun v9 => ih v0 v1 v2 v3 v4 v5 v6 v7 v8 v9
    rw [h]
    rfl
theorem neweltop_TopStops_l29_eq {R : Type} (N : Nat) (k : Exit → St → Option R) (n : Nat) : ∀ (v0 : Int) (v1 : Int) (v2 : api_Escalator) (v3 : neweltop_Boarded) (v4 : api_Stop) (v5 : api_Span) (v6 : Bool) (v7 : Arr Int), loopM E.Θ (neweltop_measures_cal N) (neweltop_TopStops_lp N) (noJn) 0 neweltop_TopStops_L29 (bodyAt E 3 29) n (neweltop_TopStops_h29 v0 v1 v2 v3 v4 v5 v6 v7) k = neweltop_TopStops_l29 N n v0 v1 v2 v3 v4 v5 v6 v7 (fun q3 q4 => k (.exit 4) (neweltop_TopStops_x29_4 v2 v4 v5 q3 q4)) := by
  induction n with
  | zero => intro v0 v1 v2 v3 v4 v5 v6 v7; rfl
  | succ n ih =>
    intro v0 v1 v2 v3 v4 v5 v6 v7
    refine Eq.trans (b := neweltop_TopStops_b29 N (fun v0 v1 v2 v3 v4 v5 v6 v7 => loopM E.Θ (neweltop_measures_cal N) (neweltop_TopStops_lp N) (noJn) 0 neweltop_TopStops_L29 (bodyAt E 3 29) n (neweltop_TopStops_h29 v0 v1 v2 v3 v4 v5 v6 v7) k) v0 v1 v2 v3 v4 v5 v6 v7 (fun q3 q4 => k (.exit 4) (neweltop_TopStops_x29_4 v2 v4 v5 q3 q4))) (by kernel_rfl) ?_
    have h : (fun (v0 : Int) (v1 : Int) (v2 : api_Escalator) (v3 : neweltop_Boarded) (v4 : api_Stop) (v5 : api_Span) (v6 : Bool) (v7 : Arr Int) => loopM E.Θ (neweltop_measures_cal N) (neweltop_TopStops_lp N) (noJn) 0 neweltop_TopStops_L29 (bodyAt E 3 29) n (neweltop_TopStops_h29 v0 v1 v2 v3 v4 v5 v6 v7) k) = (fun (v0 : Int) (v1 : Int) (v2 : api_Escalator) (v3 : neweltop_Boarded) (v4 : api_Stop) (v5 : api_Span) (v6 : Bool) (v7 : Arr Int) => neweltop_TopStops_l29 N n v0 v1 v2 v3 v4 v5 v6 v7 (fun q3 q4 => k (.exit 4) (neweltop_TopStops_x29_4 v2 v4 v5 q3 q4))) := funext fun v0 => funext fun v1 => funext fun v2 => funext fun v3 => funext fun v4 => funext fun v5 => funext fun v6 => funext fun v7 => ih v0 v1 v2 v3 v4 v5 v6 v7
    rw [h]
    rfl
theorem neweltop_TopStops_k29 {R : Type} (N : Nat) : LpKey (R := R) E 3 0 (neweltop_TopStops_lp N) 29 :=
  lpKey_of hE (neweltop_measures_cal_ok N) (lp := neweltop_TopStops_lp N) (jn := noJn) neweltop_TopStops_L29_ok [] kNil (by kernel_rfl) [] jNil (by kernel_rfl) N fun S k =>
    Eq.trans (b := neweltop_TopStops_L29.head.raw 0 S (fun S0 => neweltop_TopStops_d29 N S0 k)) (by kernel_rfl) (congrArg (neweltop_TopStops_L29.head.raw 0 S) (funext fun S0 => Eq.trans (neweltop_TopStops_l29_eq N k N (toI (lget S0.tmps 19)) (toI (lget S0.tmps 22)) (Cod.dec api_EscalatorC (lget (entCs (entAt S0.tab 0)))) (Cod.dec neweltop_BoardedC (lget (entCs (entAt S0.tab 1)))) (Cod.dec api_StopC (lget (entCs (entAt S0.tab 2)))) (Cod.dec api_SpanC (lget (entCs (entAt S0.tab 3)))) (entNl (entAt S0.tab 4)) (lst intC (entN (entAt S0.tab 4)) (entC (entAt S0.tab 4)))).symm (by kernel_rfl)))
theorem neweltop_TopStops_k11 {R : Type} (N : Nat) : LpKey (R := R) E 3 0 (neweltop_TopStops_lp N) 11 :=
  lpKey_of hE (neweltop_measures_cal_ok N) (lp := neweltop_TopStops_lp N) (jn := noJn) neweltop_TopStops_L11_ok [] kNil (by kernel_rfl) [] jNil (by kernel_rfl) N fun S k =>
    Eq.trans (b := neweltop_TopStops_L11.head.raw 0 S (fun S0 => neweltop_TopStops_d11 N S0 k)) (by kernel_rfl) (congrArg (neweltop_TopStops_L11.head.raw 0 S) (funext fun S0 => Eq.trans (neweltop_TopStops_l11_eq N k N (toI (lget S0.tmps 14)) (toI (lget S0.tmps 15)) (Cod.dec api_HallC (lget (entCs (entAt S0.tab 0)))) (Cod.dec api_EscalatorC (lget (entCs (entAt S0.tab 1)))) (Cod.dec neweltop_BoardedC (lget (entCs (entAt S0.tab 2)))) (Cod.dec api_StopC (lget (entCs (entAt S0.tab 3)))) (entNl (entAt S0.tab 4)) (lst intC (entN (entAt S0.tab 4)) (entC (entAt S0.tab 4))) (mxD (entMn (entAt S0.tab 5)) (entMl (entAt S0.tab 5)) (entMg (entAt S0.tab 5)))).symm (by kernel_rfl)))
theorem neweltop_TopStops_k22 {R : Type} (N : Nat) : LpKey (R := R) E 3 0 (neweltop_TopStops_lp N) 22 :=
  lpKey_of hE (neweltop_measures_cal_ok N) (lp := neweltop_TopStops_lp N) (jn := noJn) neweltop_TopStops_L22_ok [] kNil (by kernel_rfl) [] jNil (by kernel_rfl) N fun S k =>
    Eq.trans (b := neweltop_TopStops_L22.head.raw 0 S (fun S0 => neweltop_TopStops_d22 N S0 k)) (by kernel_rfl) (congrArg (neweltop_TopStops_L22.head.raw 0 S) (funext fun S0 => Eq.trans (neweltop_TopStops_l22_eq N k N (toI (lget S0.tmps 19)) (toI (lget S0.tmps 20)) (Cod.dec api_HallC (lget (entCs (entAt S0.tab 0)))) (Cod.dec api_EscalatorC (lget (entCs (entAt S0.tab 1)))) (Cod.dec neweltop_BoardedC (lget (entCs (entAt S0.tab 2)))) (Cod.dec api_StopC (lget (entCs (entAt S0.tab 3)))) (entNl (entAt S0.tab 4)) (lst intC (entN (entAt S0.tab 4)) (entC (entAt S0.tab 4))) (mxD (entMn (entAt S0.tab 5)) (entMl (entAt S0.tab 5)) (entMg (entAt S0.tab 5))) (Cod.dec api_SpanC (lget (entCs (entAt S0.tab 6))))).symm (by kernel_rfl)))
noncomputable def neweltop_TopStops_go {R : Type} (N : Nat) (args : List SV) (T : Tab) (kf : SV × Tab → Option R) : Option R :=
  neweltop_TopStops N (Cod.dec api_HallC (lget (toCs (lget args 0)))) (Cod.dec api_DayC (lget (toCs (lget args 1)))) (Cod.dec neweltop_FullC (lget (toCs (lget args 2)))) (fun q0 => kf (lget [.bool q0] 0, []))
noncomputable def neweltop_TopStops_cal {R : Type} (N : Nat) : Cal R := callM (neweltop_measures_cal N) 3 0 neweltop_TopStops_sp (neweltop_TopStops_go N)
theorem neweltop_TopStops_cal_ok {R : Type} (N : Nat) : CalOk E.P (neweltop_TopStops_cal (R := R) N) :=
  callM_ok hE (neweltop_measures_cal_ok N) (lp := neweltop_TopStops_lp N) (jn := noJn) (keys := [11, 22, 29]) (kCons (neweltop_TopStops_k11 N) (kCons (neweltop_TopStops_k22 N) (kCons (neweltop_TopStops_k29 N) kNil))) (by kernel_rfl) (js := []) jNil (by kernel_rfl) neweltop_TopStops_sp_ok neweltop_TopStops_rs_ok (fun args T kf => Eq.trans (neweltop_TopStops_def N (Cod.dec api_HallC (lget (toCs (lget args 0)))) (Cod.dec api_DayC (lget (toCs (lget args 1)))) (Cod.dec neweltop_FullC (lget (toCs (lget args 2)))) (fun q0 => kf (lget [.bool q0] 0, []))) (by kernel_rfl : neweltop_TopStops_run N args T kf = fnM E (neweltop_measures_cal N) (neweltop_TopStops_lp N) (noJn) 3 (neweltop_TopStops_sp.vs args) (neweltop_TopStops_sp.tab T) 0 (resK neweltop_TopStops_rs kf)))
theorem far6_l4 (N : Nat) {h : api_Hall} (hn : h.Trains.n ≤ 20) {R : Type} (kr : Bool → Option R) (k0 : Unit → Option R) : ∀ (q i n : Nat), i + q = h.Trains.n → q < n →
    newellaw06_Far_l4 N n (i : Int) h kr k0 = kr true ∨ newellaw06_Far_l4 N n (i : Int) h kr k0 = k0 () := by
  intro q
  induction q with
  | zero =>
    intro i n h1 h2
    obtain ⟨n, rfl⟩ : ∃ m, n = m + 1 := ⟨n - 1, by omega⟩
    right
    unfold newellaw06_Far_l4 newellaw06_Far_b4
    simp only [Ha.ltF (show h.Trains.n ≤ i by omega), cond_false]
  | succ q ih =>
    intro i n h1 h2
    obtain ⟨n, rfl⟩ : ∃ m, n = m + 1 := ⟨n - 1, by omega⟩
    unfold newellaw06_Far_l4 newellaw06_Far_b4
    simp only [Ha.ltT (show i < h.Trains.n by omega), nat_nonneg, Bool.and_self, cond_true, Int.toNat_natCast, Ha.ws (show i < 100000 by omega)]
    cases decide (((h.Trains.f i).Crowds.n : Int) > 10)
    · exact ih (i + 1) n (by omega) (by omega)
    · exact .inl rfl
theorem far6_or {N : Nat} (hN : 200 ≤ N) (h : api_Hall) {R : Type} (k : Bool → Option R) : newellaw06_Far N h k = k true ∨ newellaw06_Far N h k = k false := by
  rw [newellaw06_Far_def]
  unfold newellaw06_Far_m
  cases decide ((h.Combs.n : Int) > 12)
  rotate_left
  · exact .inl rfl
  by_cases c : (h.Trains.n : Int) > 20
  · simp only [c, decide_true, cond_true, cond_false, true_or]
  simp only [c, decide_false, cond_false]
  cases decide ((h.Shifts.n : Int) > 40)
  rotate_left
  · exact .inl rfl
  have hl := far6_l4 N (h := h) (by omega) (fun r260 => k r260) (fun (_ : Unit) => k false) h.Trains.n 0 N (by omega) (by omega)
  cases decide (h.Until > 40)
  rotate_left
  · cases decide (h.Until ≤ 100)
    · exact hl
    · exact .inl rfl
  · exact hl
theorem use_rates {N : Nat} (hN : 200 ≤ N) {h : api_Hall} (hv : Ha.HallV h) {c : Nat} (hc : c < h.Combs.n) {R : Type} (k : Int → Bool → Arr Int → Option R) (z : Option R)
    (H : ∀ out : Arr Int, out.n = h.Until.toNat → (∀ j, j < h.Until.toNat → 0 ≤ out.f j ∧ out.f j ≤ 1000) → k 0 false out = z) : halls_Rates N h (c : Int) k = z := by
  obtain ⟨out, a1, a2, a3⟩ := Ha.Rates_eq hN hv hc k
  exact a3.trans (H out a1 a2)
theorem use_play {N : Nat} (hN : 200 ≤ N) {h : api_Hall} (hv : Ha.HallV h) {d : api_Day} (hd : Ha.DayV h d) {R : Type} (k : Int → Arr (Arr Int) → Option R) (z : Option R)
    (H : ∀ rows : Arr (Arr Int), rows.n = h.Until.toNat → (∀ t, t < h.Until.toNat → (rows.f t).n = h.Combs.n ∧ ∀ c, c < h.Combs.n → 0 ≤ (rows.f t).f c ∧ (rows.f t).f c ≤ 48000) → k 0 rows = z) : halls_Play N h d k = z := by
  obtain ⟨out, a1, a2, a3⟩ := Ha.Play_eq hN hv hd k
  exact a3.trans (H out a1 a2)
theorem stops_l11 (N : Nat) (h : api_Hall) (e : api_Escalator) (x : neweltop_Boarded) (s : api_Stop) (b : Bool) (rates : Arr Int) (rows : Arr (Arr Int)) {R : Type} (k0 : Int → Option R) (z : Option R) (hn : rates.n ≤ 100) (hr : ∀ j, j < rates.n → 0 ≤ rates.f j ∧ rates.f j ≤ 1000)
    (H : ∀ g : Int, 0 ≤ g → g ≤ 1000 → (∀ j, j < rates.n → rates.f j ≤ g) → k0 g = z) :
    ∀ (q i n : Nat) (g : Int), i + q = rates.n → q < n → 0 ≤ g → g ≤ 1000 → (∀ j, j < i → rates.f j ≤ g) → neweltop_TopStops_l11 N n g (i : Int) h e x s b rates rows k0 = z := by
  intro q
  induction q with
  | zero =>
    intro i n g h1 h2 h3 h5 h4
    obtain ⟨n, rfl⟩ : ∃ m, n = m + 1 := ⟨n - 1, by omega⟩
    unfold neweltop_TopStops_l11 neweltop_TopStops_b11
    simp only [Ha.ltF (show rates.n ≤ i by omega), cond_false]
    exact H g h3 h5 (fun j hj => h4 j (by omega))
  | succ q ih =>
    intro i n g h1 h2 h3 h5 h4
    obtain ⟨n, rfl⟩ : ∃ m, n = m + 1 := ⟨n - 1, by omega⟩
    have hri := hr i (by omega)
    conv => lhs; unfold neweltop_TopStops_l11 neweltop_TopStops_b11
    simp only [Ha.ltT (show i < rates.n by omega), nat_nonneg, Bool.and_self, cond_true, Int.toNat_natCast, Ha.ws (show i < 100000 by omega)]
    exact ih (i + 1) n (mxI g (rates.f i)) (by omega) (by omega) (by rw [mxI_eq]; omega) (by rw [mxI_eq]; omega) (fun j hj => by
      rw [mxI_eq]
      by_cases e : j = i
      · subst e; omega
      · have := h4 j (by omega); omega)
theorem stops_l22 (N : Nat) {h : api_Hall} (e : api_Escalator) {x : neweltop_Boarded} (sp : api_Stop) (w0 : api_Span) (b : Bool) {rates : Arr Int} {rows : Arr (Arr Int)} {R : Type} (kr : Bool → Option R) (k2 : Int → Option R) (z : Option R) {g : Int} {t lo : Nat} (hn : rows.n ≤ 100) (ht : t < rows.n) (hrn : rates.n = rows.n) (hT : x.Tick = (t : Int))
    (hr : ∀ j, j < rates.n → 0 ≤ rates.f j ∧ rates.f j ≤ g) (hg : g ≤ 1000) (hrow : ∀ j, j < rows.n → (rows.f j).n = h.Combs.n) {C : Nat} (hC : x.Comb = (C : Int)) (hCl : C < h.Combs.n) (hz : ∀ j, j < rows.n → 0 ≤ (rows.f j).f C)
    (H : ∀ s' : Int, 0 ≤ s' → s' ≤ g * (((t + 1 : Nat) : Int) - lo) → k2 s' = z) :
    ∀ (q w n : Nat) (s : Int), w + q = t + 1 → q < n → lo ≤ w → 0 ≤ s → s ≤ g * ((w : Int) - lo) → neweltop_TopStops_l22 N n s (w : Int) h e x sp b rates rows w0 kr k2 = z := by
  intro q
  induction q with
  | zero =>
    intro w n s h1 h2 h3 h4 h5
    obtain ⟨n, rfl⟩ : ∃ m, n = m + 1 := ⟨n - 1, by omega⟩
    have hw : w = t + 1 := by omega
    subst hw
    unfold neweltop_TopStops_l22 neweltop_TopStops_b22
    have : decide (((t + 1 : Nat) : Int) ≤ (t : Int)) = false := by simp; omega
    simp only [hT, this, cond_false]
    exact H s h4 h5
  | succ q ih =>
    intro w n s h1 h2 h3 h4 h5
    obtain ⟨n, rfl⟩ : ∃ m, n = m + 1 := ⟨n - 1, by omega⟩
    have hw : w ≤ t := by omega
    have hg0 : 0 ≤ g := by have := hr w (by omega); omega
    have e1 : decide ((w : Int) ≤ (t : Int)) = true := by simp; omega
    have hl : mxL rows w = h.Combs.n := hrow w (by omega)
    have hz1 := hz w (by omega)
    have hr1 := hr w (by omega)
    have hgG : mxG rows w C = (rows.f w).f C := rfl
    have hm : 0 ≤ mnI ((rows.f w).f C) (rates.f w) ∧ mnI ((rows.f w).f C) (rates.f w) ≤ g := by rw [mnI_eq]; omega
    have hmul : g * (((w + 1 : Nat) : Int) - lo) = g * ((w : Int) - lo) + g := by
      rw [show ((w + 1 : Nat) : Int) - lo = ((w : Int) - lo) + 1 by omega, Int.mul_add, Int.mul_one]
    have hb : g * ((w : Int) - lo) ≤ 1000 * 100 := (mul_range hg0 hg (b := (w : Int) - lo) (B := 100) (by omega) (by omega)).2
    have hsum : w64 (s + mnI ((rows.f w).f C) (rates.f w)) = s + mnI ((rows.f w).f C) (rates.f w) := Ha.w64_mid (by omega) (by omega)
    have a3 := ih (w + 1) n (s + mnI ((rows.f w).f C) (rates.f w)) (by omega) (by omega) (by omega) (by omega) (by rw [hmul]; omega)
    conv => lhs; unfold neweltop_TopStops_l22 neweltop_TopStops_b22
    simp only [hT, e1, Ha.ltT (show w < rows.n by omega), nat_nonneg, Bool.and_self, cond_true, Int.toNat_natCast, hl, bne_self_eq_false, cond_false, hC, Ha.ltT hCl, Ha.ltT (show w < rates.n by omega), Ha.ws (show w < 100000 by omega), hgG, hsum]
    exact a3
theorem stops_l29 (N : Nat) (e : api_Escalator) {x : neweltop_Boarded} (sp : api_Stop) (w0 : api_Span) {R : Type} (k4 : Bool → Arr Int → Option R) (z : Option R) (s : Int)
    (H : ∀ (b : Bool) (a : Arr Int), a.Is 100 (fun _ => w64 (s * x.Body)) → k4 b a = z) :
    ∀ (q i n : Nat) (b : Bool) (a : Arr Int), i + q = 100 → q < n → a.Is i (fun _ => w64 (s * x.Body)) → neweltop_TopStops_l29 N n s (i : Int) e x sp w0 b a k4 = z := by
  intro q
  induction q with
  | zero =>
    intro i n b a h1 h2 h3
    obtain ⟨n, rfl⟩ : ∃ m, n = m + 1 := ⟨n - 1, by omega⟩
    have hi : i = 100 := by omega
    subst hi
    unfold neweltop_TopStops_l29 neweltop_TopStops_b29
    have : decide (((100 : Nat) : Int) < 100) = false := by decide
    simp only [this, cond_false]
    exact H b a h3
  | succ q ih =>
    intro i n b a h1 h2 h3
    obtain ⟨n, rfl⟩ : ∃ m, n = m + 1 := ⟨n - 1, by omega⟩
    have e1 : decide ((i : Int) < 100) = true := by simp; omega
    have hxl := h3.len
    have hr1 : room (a.n + 1) = true := room_of (by omega)
    conv => lhs; unfold neweltop_TopStops_l29 neweltop_TopStops_b29
    simp only [e1, cond_true, hr1, Ha.ws (show i < 100000 by omega)]
    exact ih (i + 1) n false _ (by omega) (by omega) (h3.push_int (z := [SV.int IntKind.i64 (0 : Int)]) (v := w64 (s * x.Body)) rfl)
section
open Ds
theorem gone_in {e : api_Escalator} {s : api_Stop} {a : Arr Int} (hH : HistOk e s a) (hr : pathV e s true (restS e s true) = 0) (hz : playV e s a.f (stopF (playV e s a.f) a.n 0) = 0) :
    0 ≤ wayS (pathV e s false) (restS e s false) ∧ wayS (pathV e s false) (restS e s false) ≤ wayS (playV e s a.f) (stopF (playV e s a.f) a.n 0) ∧
    wayS (playV e s a.f) (stopF (playV e s a.f) a.n 0) ≤ wayS (pathV e s true) (restS e s true) := by
  have hS := hH.vs
  have hn := hH.n
  have hbt := play_between hH
  have sv := stopF_spec (playV e s a.f) a.n 0
  have hTM := rest_le e s true
  have hsoftv := play_soft (e := e) hS.s1 a.f
  have hsoftM := path_soft (e := e) hS.s1 true
  have hsoftm := path_soft (e := e) hS.s1 false
  have hup : stopF (playV e s a.f) a.n 0 ≤ restS e s true := by
    rcases Nat.lt_or_ge a.n (restS e s true) with hlt | hge
    · omega
    · exact (Soft.less hsoftv hsoftM (n := a.n) (m := 100) (fun t h6 _ _ _ => (hbt t h6).2) hr hge).1
  refine ⟨?_, ?_, ?_⟩
  · have := way_mono (v := pathV e s false) (n := restS e s false) (fun t ht => (hsoftm.pos (n := 100) t ht).1) (Nat.zero_le _) (Nat.le_refl _)
    simpa [wayS] using this
  · exact (Soft.less hsoftm hsoftv (n := 100) (m := a.n) (fun t _ h7 _ _ => (hbt t h7).1) hz (by omega)).2.2
  · have a1 := way_le (u := playV e s a.f) (v := pathV e s true) (n := a.n) (fun t ht => (hbt t ht).2) (stopF (playV e s a.f) a.n 0) (by omega)
    have a2 := way_mono (v := pathV e s true) (n := restS e s true) (fun t ht => (hsoftM.pos (n := 100) t ht).1) hup (Nat.le_refl _)
    omega
theorem gone_rest {e : api_Escalator} {s : api_Stop} {a : Arr Int} (hH : HistOk e s a) (hr : pathV e s true (restS e s true) = 0) (hn : a.n = 100) : playV e s a.f (stopF (playV e s a.f) a.n 0) = 0 := by
  have hS := hH.vs
  have hbt := play_between hH
  have hTM := rest_le e s true
  exact (Soft.less (play_soft (e := e) hS.s1 a.f) (path_soft (e := e) hS.s1 true) (n := a.n) (m := 100) (fun t h6 _ _ _ => (hbt t h6).2) hr (by unfold restS at hTM; omega)).2.1
end
theorem topStops_true (h : api_Hall) (d : api_Day) (x : neweltop_Full) (hh : h.wf) (hd : d.wf) (hx : x.wf) : ∃ N, neweltop_TopStops N h d x (fun q0 => okK (lget [.bool q0] 0, [])) = some () := by
  refine ⟨2000, ?_⟩
  rw [neweltop_TopStops_def]
  unfold neweltop_TopStops_m
  have htr : okK (lget [SV.bool true] 0, []) = some () := rfl
  simp only [neweltop_measures_eq, htr]
  generalize x.Escalator = e
  generalize x.Boarded = y
  refine (far6_or (N := 2000) (by decide) h _).elim (fun e => by rw [e]; rfl) (fun e => ?_)
  rw [e, cond_false, Ds.Far_eq]
  rename_i e0
  clear e
  cases decide ((e0.Brakes.n : Int) > 10)
  rotate_left
  · rfl
  rw [cond_false]
  rcases Ha.refCheck_or (N := 2000) (by decide) h _ with e | ⟨hv, e⟩
  · rw [e]; rfl
  rw [e, bne_self_eq_false, cond_false]
  rcases Ha.refFits_or (N := 2000) (by decide) hv d _ with e | ⟨hdv, e⟩
  · rw [e]; rfl
  rw [e, Bool.not_true, cond_false]
  clear e
  have hu := hv.u
  by_cases c1 : y.Comb < 0
  · simp only [c1, decide_true, cond_true]
  by_cases c2 : y.Comb ≥ (h.Combs.n : Int)
  · simp only [c1, c2, decide_true, decide_false, cond_true, cond_false]
  by_cases c3 : y.Body < 0
  · simp only [c1, c2, c3, decide_true, decide_false, cond_true, cond_false]
  by_cases c4 : y.Body > 100
  · simp only [c1, c2, c3, c4, decide_true, decide_false, cond_true, cond_false]
  by_cases c5 : y.Ticks < 1
  · simp only [c1, c2, c3, c4, c5, decide_true, decide_false, cond_true, cond_false]
  by_cases c6 : y.Ticks > 20
  · simp only [c1, c2, c3, c4, c5, c6, decide_true, decide_false, cond_true, cond_false]
  by_cases c7 : y.Tick < 0
  · simp only [c1, c2, c3, c4, c5, c6, c7, decide_true, decide_false, cond_true, cond_false]
  by_cases c8 : y.Tick ≥ h.Until
  · simp only [c1, c2, c3, c4, c5, c6, c7, c8, decide_true, decide_false, cond_true, cond_false]
  simp only [c1, c2, c3, c4, c5, c6, c7, c8, decide_false, cond_false]
  obtain ⟨C, hC⟩ : ∃ C : Nat, y.Comb = (C : Int) := ⟨y.Comb.toNat, by omega⟩
  obtain ⟨t, hT⟩ : ∃ t : Nat, y.Tick = (t : Int) := ⟨y.Tick.toNat, by omega⟩
  obtain ⟨Q, hQ⟩ : ∃ Q : Nat, y.Ticks = (Q : Int) := ⟨y.Ticks.toNat, by omega⟩
  have hCl : C < h.Combs.n := by omega
  rw [hC]
  refine use_rates (by decide) hv hCl _ _ fun rates a1 a2 => ?_
  try dsimp only []
  refine use_play (by decide) hv hdv _ _ fun rows b1 b2 => ?_
  have e1 : ((rates.n : Int) != h.Until) = false := by rw [a1]; simp; omega
  have e2 : ((rows.n : Int) != h.Until) = false := by rw [b1]; simp; omega
  simp only [bne_self_eq_false, cond_false, e1, e2]
  have hn : rows.n ≤ 100 := by omega
  have hrn : rates.n = rows.n := by omega
  refine stops_l11 2000 h e0 y y.Stop false rates rows _ _ (by omega) (fun j hj => a2 j (by omega)) (fun g g1 g2 g3 => ?_) rates.n 0 2000 0 (by omega) (by omega) (Int.le_refl _) (by omega) (fun j hj => by omega)
  have m1 := mul_range g1 g2 (b := y.Body) (B := 100) (by omega) (by omega)
  have m2 := mul_range m1.1 m1.2 (b := y.Ticks) (B := 20) (by omega) (by omega)
  have ew : w64 (w64 (g * y.Body) * y.Ticks) = g * y.Body * y.Ticks := by rw [w64_eq (n := g * y.Body) (by omega) (by omega), w64_eq (by omega) (by omega)]
  rw [ew]
  generalize hs' : api_Stop.mk y.Stop.Speed (api_Span.mk 0 (g * y.Body * y.Ticks)) y.Stop.Fail = s'
  rw [Ds.refCheckStop_eq (by decide)]
  by_cases c9 : Ds.stopV e0 s' = 0
  rotate_left
  · have : (Ds.stopV e0 s' != 0) = true := by simpa using c9
    simp only [this, cond_true]
  obtain ⟨hV, hS⟩ := Ds.stopV_zero c9
  have eD := Ds.dist_zero hV hS
  rw [Ds.Distance_eq (by decide), eD]
  by_cases hr : Ds.pathV e0 s' true (Ds.restS e0 s' true) = 0
  rotate_left
  · simp only [c9, hr, if_false, bne_self_eq_false, cond_false]; rfl
  simp only [c9, hr, if_true, bne_self_eq_false, cond_false]
  have hQ0 : 1 ≤ Q := by omega
  have elo : mxI (0 : Int) (w64 (w64 (y.Tick - y.Ticks) + 1)) = ((t + 1 - Q : Nat) : Int) := by
    rw [Ha.w64_mid (x := y.Tick - y.Ticks) (by omega) (by omega), Ha.w64_mid (by omega) (by omega), mxI_eq]
    omega
  rw [elo]
  refine stops_l22 2000 e0 s' _ false _ _ _ hn (by omega) hrn hT (fun j hj => ⟨(a2 j (by omega)).1, g3 j hj⟩) g2 (fun j hj => (b2 j (by omega)).1) hC hCl (fun j hj => ((b2 j (by omega)).2 C hCl).1) (lo := t + 1 - Q) (fun s s1 s2 => ?_) (t + 1 - (t + 1 - Q)) (t + 1 - Q) 2000 0 (by omega) (by omega) (by omega) (Int.le_refl _) (by rw [Int.sub_self, Int.mul_zero]; exact Int.le_refl _)
  have hq : (((t + 1 : Nat) : Int) - ((t + 1 - Q : Nat) : Int)) ≤ y.Ticks := by omega
  have h3 : s ≤ g * y.Ticks := Int.le_trans s2 (Int.mul_le_mul_of_nonneg_left hq g1)
  have h4 : s * y.Body ≤ g * y.Body * y.Ticks := by
    have := Int.mul_le_mul_of_nonneg_right h3 (show 0 ≤ y.Body by omega)
    rw [Int.mul_assoc, Int.mul_comm y.Ticks, ← Int.mul_assoc] at this
    exact this
  have h5 : 0 ≤ s * y.Body := Int.mul_nonneg s1 (by omega)
  refine stops_l29 2000 e0 s' _ _ _ s (fun b a ha => ?_) 100 0 2000 true _ (by omega) (by omega) Arr.Is.zero
  rw [w64_eq (n := s * y.Body) (by omega) (by omega)] at ha
  have han := ha.len
  have hLo : s'.Loads.Low = 0 := by rw [← hs']
  have hHi : s'.Loads.High = g * y.Body * y.Ticks := by rw [← hs']
  have hH : Ds.HistOk e0 s' a := ⟨hV, hS, fun j _ hj => by
    rw [ha.get j (by omega), hLo, hHi]
    exact ⟨h5, h4⟩, by omega⟩
  obtain ⟨l, b', hb2, hk⟩ := Ds.Play_eq (N := 2000) (by decide) e0 s' a
  have hplay := Ds.playE_of hH
  rw [hplay, if_pos rfl] at hb2
  have hrest := fun k => Ds.Rest_eq (R := Unit) (N := 2000) (by decide) (v := Ds.playV e0 s' a.f) (m := a.n) (by omega) (Ds.play_B hH) hb2 k
  have ez : Ds.playV e0 s' a.f 0 = y.Stop.Speed := by rw [← hs']; rfl
  rw [ez] at hrest
  have hz := gone_rest hH hr han
  obtain ⟨_, w1, w2⟩ := gone_in hH hr hz
  try dsimp only []
  rw [hk, hplay]
  have hzb : (Ds.playV e0 s' a.f (Ds.stopF (Ds.playV e0 s' a.f) a.n 0) == 0) = true := by simpa using hz
  simp only [bne_self_eq_false, cond_false, hb2.len, hrest, hzb, cond_true, ge_iff_le, w1, w2, decide_true]
end
end Go.Proofs.Ytlikcijophbkbaa
