/-
  The model of the statement TopSingle, that it is what the code does (written by a program), and that it answers true.
-/
import Derived.Test.YtpillmoddoccfaaDsP9
set_option maxRecDepth 100000
set_option maxHeartbeats 0
set_option linter.unusedVariables false
set_option linter.unusedSimpArgs false
namespace Go.Proofs.Ytpillmoddoccfaa
open Go.Sx
noncomputable section

def neweltop_TopSingle_L100000 : LoopSp := ⟨⟨[3, 4, 5, 7, 19], ⟨(dr 3 ((rPtr 0 0) :: (rPtr 1 0) :: (rPtr 2 0) :: (dr 1 ((rPtr 3 0) :: (dr 11 ((rInt .i64) :: (dr 270 []))))))), [(0, eBlkC api_CircuitC), (1, eBlkC api_EscalatorC), (2, eBlkC neweltop_FaultC), (3, eBlkC api_StopC)]⟩, 4⟩, [(Option.none, ⟨[6], ⟨(dr 6 ((rBool) :: (dr 283 []))), []⟩, 0⟩)]⟩
theorem neweltop_TopSingle_L100000_ok : neweltop_TopSingle_L100000.Ok := ⟨⟨(drCons 3 (allCons (rPtr_ok 0 0) (allCons (rPtr_ok 1 0) (allCons (rPtr_ok 2 0) (drCons 1 (allCons (rPtr_ok 3 0) (drCons 11 (allCons (rInt_ok .i64) (drCons 270 allNil))))))))), (eCons (eBlkC_ok api_CircuitC_ok api_CircuitC_len) (eCons (eBlkC_ok api_EscalatorC_ok api_EscalatorC_len) (eCons (eBlkC_ok neweltop_FaultC_ok neweltop_FaultC_len) (eCons (eBlkC_ok api_StopC_ok api_StopC_len) eNil))))⟩, (xCons ⟨(drCons 6 (allCons rBool_ok (drCons 283 allNil))), eNil⟩ xNil)⟩
def neweltop_TopSingle_h100000 (v585 : Int) (v586 : api_Circuit) (v587 : api_Escalator) (v588 : neweltop_Fault) (v589 : api_Stop) : St := ⟨(un 3 ((.ptr 0 0) :: (.ptr 1 0) :: (.ptr 2 0) :: (un 1 ((.ptr 3 0) :: (un 11 ((.int .i64 v585) :: (un 270 []))))))), [(0, .blk (Cod.enc api_CircuitC v586)), (1, .blk (Cod.enc api_EscalatorC v587)), (2, .blk (Cod.enc neweltop_FaultC v588)), (3, .blk (Cod.enc api_StopC v589))], 4⟩
def neweltop_TopSingle_x100000_r (q0 : Bool) : St := ⟨(un 6 ((.bool q0) :: (un 283 []))), [], 0⟩
def neweltop_TopSingle_j0_m {R : Type} (N : Nat) (v585 : Int) (v586 : api_Circuit) (v587 : api_Escalator) (v588 : neweltop_Fault) (v589 : api_Stop) (kr : Bool → Option R) : Option R :=
  circuit_Runs N v586 (neweltop_Fault.Hazards v588) v585 (0 : Int) (fun r590 r591 =>
  drive_Play N v587 v589 (neweltop_Fault.Loads v588) (fun r592 r593 r594 =>
  drive_Holds N v587 v589 (fun r595 r596 =>
  bif r591 != (0 : Int) then
   kr false
  else
   bif r592 != (0 : Int) then
    kr false
   else
    bif r596 != (0 : Int) then
     kr false
    else
     bif r590 then
      kr false
     else
      bif !r595 then
       kr false
      else
       bif (↑(Arr.n r594) : Int) != (↑(Arr.n (neweltop_Fault.Loads v588)) : Int) then
        kr false
       else
        newelref01_Behind N r594 (fun r597 =>
        bif decide (r597 > neweltop_Fault.Back v588) then
         kr false
        else
         newelref01_Rest N (api_Stop.Speed v589) r594 (fun r598 r599 r600 =>
         bif decide (r598 ≤ neweltop_Fault.Way v588) then
          bif r600 then
           neweltop_measures N  (fun r601 =>
           kr r601)
          else
           bif decide ((↑(Arr.n (neweltop_Fault.Loads v588)) : Int) < (100 : Int)) then
            neweltop_measures N  (fun r602 =>
            kr r602)
           else
            kr false
         else
          kr false)))))
noncomputable def neweltop_TopSingle_j0 {R : Type} : Nat → Int → api_Circuit → api_Escalator → neweltop_Fault → api_Stop → (Bool → Option R) → Option R := lock (@neweltop_TopSingle_j0_m R)
theorem neweltop_TopSingle_j0_def {R : Type} (N : Nat) (v585 : Int) (v586 : api_Circuit) (v587 : api_Escalator) (v588 : neweltop_Fault) (v589 : api_Stop) (kr : Bool → Option R) : neweltop_TopSingle_j0 N v585 v586 v587 v588 v589 kr = neweltop_TopSingle_j0_m N v585 v586 v587 v588 v589 kr := by unfold neweltop_TopSingle_j0; rw [lock_eq]


def neweltop_TopSingle_m {R : Type} (N : Nat) (a547 : api_Circuit) (a548 : api_Escalator) (a549 : neweltop_Fault) (k : Bool → Option R) : Option R :=
  newellaw03_Far N a547 (fun r550 =>
  bif r550 then
   neweltop_measures N  (fun r551 =>
   k r551)
  else
   newellaw01_Far N a548 (fun r552 =>
   bif r552 then
    neweltop_measures N  (fun r553 =>
    k r553)
   else
    bif decide ((↑(Arr.n (neweltop_Fault.Loads a549)) : Int) > (100 : Int)) then
     neweltop_measures N  (fun r554 =>
     k r554)
    else
     newelref03_Check N a547 (fun r555 =>
     bif r555 != (0 : Int) then
      neweltop_measures N  (fun r556 =>
      k r556)
     else
      newelref01_CheckStop N a548 (neweltop_Fault.Stop a549) (fun r557 =>
      bif r557 != (0 : Int) then
       neweltop_measures N  (fun r558 =>
       k r558)
      else
       newelref01_History N (neweltop_Fault.Stop a549) (neweltop_Fault.Loads a549) (fun r559 =>
       bif !r559 then
        neweltop_measures N  (fun r560 =>
        k r560)
       else
        newelref03_Hazards N a547 (neweltop_Fault.Hazards a549) (fun r561 =>
        bif !r561 then
         neweltop_measures N  (fun r562 =>
         k r562)
        else
         bif neweltop_Fault.Hazards a549 == (0 : Int) then
          neweltop_measures N  (fun r563 =>
          k r563)
         else
          circuit_Critical N a547 (fun r564 r565 r566 =>
          drive_Critical N a548 (neweltop_Fault.Stop a549) (neweltop_Fault.Way a549) (neweltop_Fault.Back a549) (fun r567 r568 r569 =>
          drive_Distance N a548 (neweltop_Fault.Stop a549) (fun r570 r571 r572 =>
          drive_Back N a548 (neweltop_Fault.Stop a549) (fun r573 r574 =>
          drive_Holds N a548 (neweltop_Fault.Stop a549) (fun r575 r576 =>
          bif r564 != (0 : Int) then
           k false
          else
           bif r567 != (0 : Int) then
            bif r567 != (1 : Int) then
             k false
            else
             bif r572 != (0 : Int) then
              bif r572 != (12 : Int) then
               k false
              else
               bif r574 != (0 : Int) then
                bif r574 != (12 : Int) then
                 k false
                else
                 bif r576 != (0 : Int) then
                  k false
                 else
                  bif decide ((↑(Arr.n r566) : Int) > (0 : Int)) then
                   neweltop_measures N  (fun r577 =>
                   k r577)
                  else
                   bif decide ((↑(Arr.n r569) : Int) > (0 : Int)) then
                    neweltop_measures N  (fun r578 =>
                    k r578)
                   else
                    bif r567 != (0 : Int) then
                     neweltop_measures N  (fun r579 =>
                     k r579)
                    else
                     bif r572 != (0 : Int) then
                      neweltop_measures N  (fun r580 =>
                      k r580)
                     else
                      bif r574 != (0 : Int) then
                       neweltop_measures N  (fun r581 =>
                       k r581)
                      else
                       bif decide (api_Span.High r570 > neweltop_Fault.Way a549) then
                        neweltop_measures N  (fun r582 =>
                        k r582)
                       else
                        bif decide (r573 > neweltop_Fault.Back a549) then
                         neweltop_measures N  (fun r583 =>
                         k r583)
                        else
                         bif !r575 then
                          neweltop_measures N  (fun r584 =>
                          k r584)
                         else
                          bif decide (neweltop_Fault.Switch a549 ≥ (0 : Int)) then
                           bif decide (neweltop_Fault.Switch a549 < (↑(Arr.n (api_Circuit.Switches a547)) : Int)) then
                            bif decide (IntKind.wrap IntKind.u64 (neweltop_Fault.Switch a549) < (0 : Int)) then
                             Option.none
                            else
                             neweltop_TopSingle_j0 N (w64 ((1 : Int) * (2 : Int) ^ min (Int.toNat (IntKind.wrap IntKind.u64 (neweltop_Fault.Switch a549))) (IntKind.bits IntKind.i64))) a547 a548 a549 (neweltop_Fault.Stop a549) (fun r603 =>
                              k r603)
                           else
                            bif decide (neweltop_Fault.Brake a549 ≥ (0 : Int)) then
                             bif decide (neweltop_Fault.Brake a549 < (↑(Arr.n (api_Escalator.Brakes a548)) : Int)) then
                              bif decide (IntKind.wrap IntKind.u64 (neweltop_Fault.Brake a549) < (0 : Int)) then
                               Option.none
                              else
                               neweltop_TopSingle_j0 N (0 : Int) a547 a548 a549 (api_Stop.mk (api_Stop.Speed (neweltop_Fault.Stop a549)) (api_Stop.Loads (neweltop_Fault.Stop a549)) (w64 (↑(BitVec.toNat (BitVec.ofInt (IntKind.bits IntKind.i64) (api_Stop.Fail (neweltop_Fault.Stop a549)) ||| BitVec.ofInt (IntKind.bits IntKind.i64) (w64 ((1 : Int) * (2 : Int) ^ min (Int.toNat (IntKind.wrap IntKind.u64 (neweltop_Fault.Brake a549))) (IntKind.bits IntKind.i64))))) : Int))) (fun r604 =>
                                k r604)
                             else
                              neweltop_TopSingle_j0 N (0 : Int) a547 a548 a549 (neweltop_Fault.Stop a549) (fun r605 =>
                               k r605)
                            else
                             neweltop_TopSingle_j0 N (0 : Int) a547 a548 a549 (neweltop_Fault.Stop a549) (fun r606 =>
                              k r606)
                          else
                           bif decide (neweltop_Fault.Brake a549 ≥ (0 : Int)) then
                            bif decide (neweltop_Fault.Brake a549 < (↑(Arr.n (api_Escalator.Brakes a548)) : Int)) then
                             bif decide (IntKind.wrap IntKind.u64 (neweltop_Fault.Brake a549) < (0 : Int)) then
                              Option.none
                             else
                              neweltop_TopSingle_j0 N (0 : Int) a547 a548 a549 (api_Stop.mk (api_Stop.Speed (neweltop_Fault.Stop a549)) (api_Stop.Loads (neweltop_Fault.Stop a549)) (w64 (↑(BitVec.toNat (BitVec.ofInt (IntKind.bits IntKind.i64) (api_Stop.Fail (neweltop_Fault.Stop a549)) ||| BitVec.ofInt (IntKind.bits IntKind.i64) (w64 ((1 : Int) * (2 : Int) ^ min (Int.toNat (IntKind.wrap IntKind.u64 (neweltop_Fault.Brake a549))) (IntKind.bits IntKind.i64))))) : Int))) (fun r607 =>
                               k r607)
                            else
                             neweltop_TopSingle_j0 N (0 : Int) a547 a548 a549 (neweltop_Fault.Stop a549) (fun r608 =>
                              k r608)
                           else
                            neweltop_TopSingle_j0 N (0 : Int) a547 a548 a549 (neweltop_Fault.Stop a549) (fun r609 =>
                             k r609)
               else
                bif r576 != (0 : Int) then
                 k false
                else
                 bif decide ((↑(Arr.n r566) : Int) > (0 : Int)) then
                  neweltop_measures N  (fun r610 =>
                  k r610)
                 else
                  bif decide ((↑(Arr.n r569) : Int) > (0 : Int)) then
                   neweltop_measures N  (fun r611 =>
                   k r611)
                  else
                   bif r567 != (0 : Int) then
                    neweltop_measures N  (fun r612 =>
                    k r612)
                   else
                    bif r572 != (0 : Int) then
                     neweltop_measures N  (fun r613 =>
                     k r613)
                    else
                     bif r574 != (0 : Int) then
                      neweltop_measures N  (fun r614 =>
                      k r614)
                     else
                      bif decide (api_Span.High r570 > neweltop_Fault.Way a549) then
                       neweltop_measures N  (fun r615 =>
                       k r615)
                      else
                       bif decide (r573 > neweltop_Fault.Back a549) then
                        neweltop_measures N  (fun r616 =>
                        k r616)
                       else
                        bif !r575 then
                         neweltop_measures N  (fun r617 =>
                         k r617)
                        else
                         bif decide (neweltop_Fault.Switch a549 ≥ (0 : Int)) then
                          bif decide (neweltop_Fault.Switch a549 < (↑(Arr.n (api_Circuit.Switches a547)) : Int)) then
                           bif decide (IntKind.wrap IntKind.u64 (neweltop_Fault.Switch a549) < (0 : Int)) then
                            Option.none
                           else
                            neweltop_TopSingle_j0 N (w64 ((1 : Int) * (2 : Int) ^ min (Int.toNat (IntKind.wrap IntKind.u64 (neweltop_Fault.Switch a549))) (IntKind.bits IntKind.i64))) a547 a548 a549 (neweltop_Fault.Stop a549) (fun r618 =>
                             k r618)
                          else
                           bif decide (neweltop_Fault.Brake a549 ≥ (0 : Int)) then
                            bif decide (neweltop_Fault.Brake a549 < (↑(Arr.n (api_Escalator.Brakes a548)) : Int)) then
                             bif decide (IntKind.wrap IntKind.u64 (neweltop_Fault.Brake a549) < (0 : Int)) then
                              Option.none
                             else
                              neweltop_TopSingle_j0 N (0 : Int) a547 a548 a549 (api_Stop.mk (api_Stop.Speed (neweltop_Fault.Stop a549)) (api_Stop.Loads (neweltop_Fault.Stop a549)) (w64 (↑(BitVec.toNat (BitVec.ofInt (IntKind.bits IntKind.i64) (api_Stop.Fail (neweltop_Fault.Stop a549)) ||| BitVec.ofInt (IntKind.bits IntKind.i64) (w64 ((1 : Int) * (2 : Int) ^ min (Int.toNat (IntKind.wrap IntKind.u64 (neweltop_Fault.Brake a549))) (IntKind.bits IntKind.i64))))) : Int))) (fun r619 =>
                               k r619)
                            else
                             neweltop_TopSingle_j0 N (0 : Int) a547 a548 a549 (neweltop_Fault.Stop a549) (fun r620 =>
                              k r620)
                           else
                            neweltop_TopSingle_j0 N (0 : Int) a547 a548 a549 (neweltop_Fault.Stop a549) (fun r621 =>
                             k r621)
                         else
                          bif decide (neweltop_Fault.Brake a549 ≥ (0 : Int)) then
                           bif decide (neweltop_Fault.Brake a549 < (↑(Arr.n (api_Escalator.Brakes a548)) : Int)) then
                            bif decide (IntKind.wrap IntKind.u64 (neweltop_Fault.Brake a549) < (0 : Int)) then
                             Option.none
                            else
                             neweltop_TopSingle_j0 N (0 : Int) a547 a548 a549 (api_Stop.mk (api_Stop.Speed (neweltop_Fault.Stop a549)) (api_Stop.Loads (neweltop_Fault.Stop a549)) (w64 (↑(BitVec.toNat (BitVec.ofInt (IntKind.bits IntKind.i64) (api_Stop.Fail (neweltop_Fault.Stop a549)) ||| BitVec.ofInt (IntKind.bits IntKind.i64) (w64 ((1 : Int) * (2 : Int) ^ min (Int.toNat (IntKind.wrap IntKind.u64 (neweltop_Fault.Brake a549))) (IntKind.bits IntKind.i64))))) : Int))) (fun r622 =>
                              k r622)
                           else
                            neweltop_TopSingle_j0 N (0 : Int) a547 a548 a549 (neweltop_Fault.Stop a549) (fun r623 =>
                             k r623)
                          else
                           neweltop_TopSingle_j0 N (0 : Int) a547 a548 a549 (neweltop_Fault.Stop a549) (fun r624 =>
                            k r624)
             else
              bif r574 != (0 : Int) then
               bif r574 != (12 : Int) then
                k false
               else
                bif r576 != (0 : Int) then
                 k false
                else
                 bif decide ((↑(Arr.n r566) : Int) > (0 : Int)) then
                  neweltop_measures N  (fun r625 =>
                  k r625)
                 else
                  bif decide ((↑(Arr.n r569) : Int) > (0 : Int)) then
                   neweltop_measures N  (fun r626 =>
                   k r626)
                  else
                   bif r567 != (0 : Int) then
                    neweltop_measures N  (fun r627 =>
                    k r627)
                   else
                    bif r572 != (0 : Int) then
                     neweltop_measures N  (fun r628 =>
                     k r628)
                    else
                     bif r574 != (0 : Int) then
                      neweltop_measures N  (fun r629 =>
                      k r629)
                     else
                      bif decide (api_Span.High r570 > neweltop_Fault.Way a549) then
                       neweltop_measures N  (fun r630 =>
                       k r630)
                      else
                       bif decide (r573 > neweltop_Fault.Back a549) then
                        neweltop_measures N  (fun r631 =>
                        k r631)
                       else
                        bif !r575 then
                         neweltop_measures N  (fun r632 =>
                         k r632)
                        else
                         bif decide (neweltop_Fault.Switch a549 ≥ (0 : Int)) then
                          bif decide (neweltop_Fault.Switch a549 < (↑(Arr.n (api_Circuit.Switches a547)) : Int)) then
                           bif decide (IntKind.wrap IntKind.u64 (neweltop_Fault.Switch a549) < (0 : Int)) then
                            Option.none
                           else
                            neweltop_TopSingle_j0 N (w64 ((1 : Int) * (2 : Int) ^ min (Int.toNat (IntKind.wrap IntKind.u64 (neweltop_Fault.Switch a549))) (IntKind.bits IntKind.i64))) a547 a548 a549 (neweltop_Fault.Stop a549) (fun r633 =>
                             k r633)
                          else
                           bif decide (neweltop_Fault.Brake a549 ≥ (0 : Int)) then
                            bif decide (neweltop_Fault.Brake a549 < (↑(Arr.n (api_Escalator.Brakes a548)) : Int)) then
                             bif decide (IntKind.wrap IntKind.u64 (neweltop_Fault.Brake a549) < (0 : Int)) then
                              Option.none
                             else
                              neweltop_TopSingle_j0 N (0 : Int) a547 a548 a549 (api_Stop.mk (api_Stop.Speed (neweltop_Fault.Stop a549)) (api_Stop.Loads (neweltop_Fault.Stop a549)) (w64 (↑(BitVec.toNat (BitVec.ofInt (IntKind.bits IntKind.i64) (api_Stop.Fail (neweltop_Fault.Stop a549)) ||| BitVec.ofInt (IntKind.bits IntKind.i64) (w64 ((1 : Int) * (2 : Int) ^ min (Int.toNat (IntKind.wrap IntKind.u64 (neweltop_Fault.Brake a549))) (IntKind.bits IntKind.i64))))) : Int))) (fun r634 =>
                               k r634)
                            else
                             neweltop_TopSingle_j0 N (0 : Int) a547 a548 a549 (neweltop_Fault.Stop a549) (fun r635 =>
                              k r635)
                           else
                            neweltop_TopSingle_j0 N (0 : Int) a547 a548 a549 (neweltop_Fault.Stop a549) (fun r636 =>
                             k r636)
                         else
                          bif decide (neweltop_Fault.Brake a549 ≥ (0 : Int)) then
                           bif decide (neweltop_Fault.Brake a549 < (↑(Arr.n (api_Escalator.Brakes a548)) : Int)) then
                            bif decide (IntKind.wrap IntKind.u64 (neweltop_Fault.Brake a549) < (0 : Int)) then
                             Option.none
                            else
                             neweltop_TopSingle_j0 N (0 : Int) a547 a548 a549 (api_Stop.mk (api_Stop.Speed (neweltop_Fault.Stop a549)) (api_Stop.Loads (neweltop_Fault.Stop a549)) (w64 (↑(BitVec.toNat (BitVec.ofInt (IntKind.bits IntKind.i64) (api_Stop.Fail (neweltop_Fault.Stop a549)) ||| BitVec.ofInt (IntKind.bits IntKind.i64) (w64 ((1 : Int) * (2 : Int) ^ min (Int.toNat (IntKind.wrap IntKind.u64 (neweltop_Fault.Brake a549))) (IntKind.bits IntKind.i64))))) : Int))) (fun r637 =>
                              k r637)
                           else
                            neweltop_TopSingle_j0 N (0 : Int) a547 a548 a549 (neweltop_Fault.Stop a549) (fun r638 =>
                             k r638)
                          else
                           neweltop_TopSingle_j0 N (0 : Int) a547 a548 a549 (neweltop_Fault.Stop a549) (fun r639 =>
                            k r639)
              else
               bif r576 != (0 : Int) then
                k false
               else
                bif decide ((↑(Arr.n r566) : Int) > (0 : Int)) then
                 neweltop_measures N  (fun r640 =>
                 k r640)
                else
                 bif decide ((↑(Arr.n r569) : Int) > (0 : Int)) then
                  neweltop_measures N  (fun r641 =>
                  k r641)
                 else
                  bif r567 != (0 : Int) then
                   neweltop_measures N  (fun r642 =>
                   k r642)
                  else
                   bif r572 != (0 : Int) then
                    neweltop_measures N  (fun r643 =>
                    k r643)
                   else
                    bif r574 != (0 : Int) then
                     neweltop_measures N  (fun r644 =>
                     k r644)
                    else
                     bif decide (api_Span.High r570 > neweltop_Fault.Way a549) then
                      neweltop_measures N  (fun r645 =>
                      k r645)
                     else
                      bif decide (r573 > neweltop_Fault.Back a549) then
                       neweltop_measures N  (fun r646 =>
                       k r646)
                      else
                       bif !r575 then
                        neweltop_measures N  (fun r647 =>
                        k r647)
                       else
                        bif decide (neweltop_Fault.Switch a549 ≥ (0 : Int)) then
                         bif decide (neweltop_Fault.Switch a549 < (↑(Arr.n (api_Circuit.Switches a547)) : Int)) then
                          bif decide (IntKind.wrap IntKind.u64 (neweltop_Fault.Switch a549) < (0 : Int)) then
                           Option.none
                          else
                           neweltop_TopSingle_j0 N (w64 ((1 : Int) * (2 : Int) ^ min (Int.toNat (IntKind.wrap IntKind.u64 (neweltop_Fault.Switch a549))) (IntKind.bits IntKind.i64))) a547 a548 a549 (neweltop_Fault.Stop a549) (fun r648 =>
                            k r648)
                         else
                          bif decide (neweltop_Fault.Brake a549 ≥ (0 : Int)) then
                           bif decide (neweltop_Fault.Brake a549 < (↑(Arr.n (api_Escalator.Brakes a548)) : Int)) then
                            bif decide (IntKind.wrap IntKind.u64 (neweltop_Fault.Brake a549) < (0 : Int)) then
                             Option.none
                            else
                             neweltop_TopSingle_j0 N (0 : Int) a547 a548 a549 (api_Stop.mk (api_Stop.Speed (neweltop_Fault.Stop a549)) (api_Stop.Loads (neweltop_Fault.Stop a549)) (w64 (↑(BitVec.toNat (BitVec.ofInt (IntKind.bits IntKind.i64) (api_Stop.Fail (neweltop_Fault.Stop a549)) ||| BitVec.ofInt (IntKind.bits IntKind.i64) (w64 ((1 : Int) * (2 : Int) ^ min (Int.toNat (IntKind.wrap IntKind.u64 (neweltop_Fault.Brake a549))) (IntKind.bits IntKind.i64))))) : Int))) (fun r649 =>
                              k r649)
                           else
                            neweltop_TopSingle_j0 N (0 : Int) a547 a548 a549 (neweltop_Fault.Stop a549) (fun r650 =>
                             k r650)
                          else
                           neweltop_TopSingle_j0 N (0 : Int) a547 a548 a549 (neweltop_Fault.Stop a549) (fun r651 =>
                            k r651)
                        else
                         bif decide (neweltop_Fault.Brake a549 ≥ (0 : Int)) then
                          bif decide (neweltop_Fault.Brake a549 < (↑(Arr.n (api_Escalator.Brakes a548)) : Int)) then
                           bif decide (IntKind.wrap IntKind.u64 (neweltop_Fault.Brake a549) < (0 : Int)) then
                            Option.none
                           else
                            neweltop_TopSingle_j0 N (0 : Int) a547 a548 a549 (api_Stop.mk (api_Stop.Speed (neweltop_Fault.Stop a549)) (api_Stop.Loads (neweltop_Fault.Stop a549)) (w64 (↑(BitVec.toNat (BitVec.ofInt (IntKind.bits IntKind.i64) (api_Stop.Fail (neweltop_Fault.Stop a549)) ||| BitVec.ofInt (IntKind.bits IntKind.i64) (w64 ((1 : Int) * (2 : Int) ^ min (Int.toNat (IntKind.wrap IntKind.u64 (neweltop_Fault.Brake a549))) (IntKind.bits IntKind.i64))))) : Int))) (fun r652 =>
                             k r652)
                          else
                           neweltop_TopSingle_j0 N (0 : Int) a547 a548 a549 (neweltop_Fault.Stop a549) (fun r653 =>
                            k r653)
                         else
                          neweltop_TopSingle_j0 N (0 : Int) a547 a548 a549 (neweltop_Fault.Stop a549) (fun r654 =>
                           k r654)
           else
            bif r572 != (0 : Int) then
             bif r572 != (12 : Int) then
              k false
             else
              bif r574 != (0 : Int) then
               bif r574 != (12 : Int) then
                k false
               else
                bif r576 != (0 : Int) then
                 k false
                else
                 bif decide ((↑(Arr.n r566) : Int) > (0 : Int)) then
                  neweltop_measures N  (fun r655 =>
                  k r655)
                 else
                  bif decide ((↑(Arr.n r569) : Int) > (0 : Int)) then
                   neweltop_measures N  (fun r656 =>
                   k r656)
                  else
                   bif r567 != (0 : Int) then
                    neweltop_measures N  (fun r657 =>
                    k r657)
                   else
                    bif r572 != (0 : Int) then
                     neweltop_measures N  (fun r658 =>
                     k r658)
                    else
                     bif r574 != (0 : Int) then
                      neweltop_measures N  (fun r659 =>
                      k r659)
                     else
                      bif decide (api_Span.High r570 > neweltop_Fault.Way a549) then
                       neweltop_measures N  (fun r660 =>
                       k r660)
                      else
                       bif decide (r573 > neweltop_Fault.Back a549) then
                        neweltop_measures N  (fun r661 =>
                        k r661)
                       else
                        bif !r575 then
                         neweltop_measures N  (fun r662 =>
                         k r662)
                        else
                         bif decide (neweltop_Fault.Switch a549 ≥ (0 : Int)) then
                          bif decide (neweltop_Fault.Switch a549 < (↑(Arr.n (api_Circuit.Switches a547)) : Int)) then
                           bif decide (IntKind.wrap IntKind.u64 (neweltop_Fault.Switch a549) < (0 : Int)) then
                            Option.none
                           else
                            neweltop_TopSingle_j0 N (w64 ((1 : Int) * (2 : Int) ^ min (Int.toNat (IntKind.wrap IntKind.u64 (neweltop_Fault.Switch a549))) (IntKind.bits IntKind.i64))) a547 a548 a549 (neweltop_Fault.Stop a549) (fun r663 =>
                             k r663)
                          else
                           bif decide (neweltop_Fault.Brake a549 ≥ (0 : Int)) then
                            bif decide (neweltop_Fault.Brake a549 < (↑(Arr.n (api_Escalator.Brakes a548)) : Int)) then
                             bif decide (IntKind.wrap IntKind.u64 (neweltop_Fault.Brake a549) < (0 : Int)) then
                              Option.none
                             else
                              neweltop_TopSingle_j0 N (0 : Int) a547 a548 a549 (api_Stop.mk (api_Stop.Speed (neweltop_Fault.Stop a549)) (api_Stop.Loads (neweltop_Fault.Stop a549)) (w64 (↑(BitVec.toNat (BitVec.ofInt (IntKind.bits IntKind.i64) (api_Stop.Fail (neweltop_Fault.Stop a549)) ||| BitVec.ofInt (IntKind.bits IntKind.i64) (w64 ((1 : Int) * (2 : Int) ^ min (Int.toNat (IntKind.wrap IntKind.u64 (neweltop_Fault.Brake a549))) (IntKind.bits IntKind.i64))))) : Int))) (fun r664 =>
                               k r664)
                            else
                             neweltop_TopSingle_j0 N (0 : Int) a547 a548 a549 (neweltop_Fault.Stop a549) (fun r665 =>
                              k r665)
                           else
                            neweltop_TopSingle_j0 N (0 : Int) a547 a548 a549 (neweltop_Fault.Stop a549) (fun r666 =>
                             k r666)
                         else
                          bif decide (neweltop_Fault.Brake a549 ≥ (0 : Int)) then
                           bif decide (neweltop_Fault.Brake a549 < (↑(Arr.n (api_Escalator.Brakes a548)) : Int)) then
                            bif decide (IntKind.wrap IntKind.u64 (neweltop_Fault.Brake a549) < (0 : Int)) then
                             Option.none
                            else
                             neweltop_TopSingle_j0 N (0 : Int) a547 a548 a549 (api_Stop.mk (api_Stop.Speed (neweltop_Fault.Stop a549)) (api_Stop.Loads (neweltop_Fault.Stop a549)) (w64 (↑(BitVec.toNat (BitVec.ofInt (IntKind.bits IntKind.i64) (api_Stop.Fail (neweltop_Fault.Stop a549)) ||| BitVec.ofInt (IntKind.bits IntKind.i64) (w64 ((1 : Int) * (2 : Int) ^ min (Int.toNat (IntKind.wrap IntKind.u64 (neweltop_Fault.Brake a549))) (IntKind.bits IntKind.i64))))) : Int))) (fun r667 =>
                              k r667)
                           else
                            neweltop_TopSingle_j0 N (0 : Int) a547 a548 a549 (neweltop_Fault.Stop a549) (fun r668 =>
                             k r668)
                          else
                           neweltop_TopSingle_j0 N (0 : Int) a547 a548 a549 (neweltop_Fault.Stop a549) (fun r669 =>
                            k r669)
              else
               bif r576 != (0 : Int) then
                k false
               else
                bif decide ((↑(Arr.n r566) : Int) > (0 : Int)) then
                 neweltop_measures N  (fun r670 =>
                 k r670)
                else
                 bif decide ((↑(Arr.n r569) : Int) > (0 : Int)) then
                  neweltop_measures N  (fun r671 =>
                  k r671)
                 else
                  bif r567 != (0 : Int) then
                   neweltop_measures N  (fun r672 =>
                   k r672)
                  else
                   bif r572 != (0 : Int) then
                    neweltop_measures N  (fun r673 =>
                    k r673)
                   else
                    bif r574 != (0 : Int) then
                     neweltop_measures N  (fun r674 =>
                     k r674)
                    else
                     bif decide (api_Span.High r570 > neweltop_Fault.Way a549) then
                      neweltop_measures N  (fun r675 =>
                      k r675)
                     else
                      bif decide (r573 > neweltop_Fault.Back a549) then
                       neweltop_measures N  (fun r676 =>
                       k r676)
                      else
                       bif !r575 then
                        neweltop_measures N  (fun r677 =>
                        k r677)
                       else
                        bif decide (neweltop_Fault.Switch a549 ≥ (0 : Int)) then
                         bif decide (neweltop_Fault.Switch a549 < (↑(Arr.n (api_Circuit.Switches a547)) : Int)) then
                          bif decide (IntKind.wrap IntKind.u64 (neweltop_Fault.Switch a549) < (0 : Int)) then
                           Option.none
                          else
                           neweltop_TopSingle_j0 N (w64 ((1 : Int) * (2 : Int) ^ min (Int.toNat (IntKind.wrap IntKind.u64 (neweltop_Fault.Switch a549))) (IntKind.bits IntKind.i64))) a547 a548 a549 (neweltop_Fault.Stop a549) (fun r678 =>
                            k r678)
                         else
                          bif decide (neweltop_Fault.Brake a549 ≥ (0 : Int)) then
                           bif decide (neweltop_Fault.Brake a549 < (↑(Arr.n (api_Escalator.Brakes a548)) : Int)) then
                            bif decide (IntKind.wrap IntKind.u64 (neweltop_Fault.Brake a549) < (0 : Int)) then
                             Option.none
                            else
                             neweltop_TopSingle_j0 N (0 : Int) a547 a548 a549 (api_Stop.mk (api_Stop.Speed (neweltop_Fault.Stop a549)) (api_Stop.Loads (neweltop_Fault.Stop a549)) (w64 (↑(BitVec.toNat (BitVec.ofInt (IntKind.bits IntKind.i64) (api_Stop.Fail (neweltop_Fault.Stop a549)) ||| BitVec.ofInt (IntKind.bits IntKind.i64) (w64 ((1 : Int) * (2 : Int) ^ min (Int.toNat (IntKind.wrap IntKind.u64 (neweltop_Fault.Brake a549))) (IntKind.bits IntKind.i64))))) : Int))) (fun r679 =>
                              k r679)
                           else
                            neweltop_TopSingle_j0 N (0 : Int) a547 a548 a549 (neweltop_Fault.Stop a549) (fun r680 =>
                             k r680)
                          else
                           neweltop_TopSingle_j0 N (0 : Int) a547 a548 a549 (neweltop_Fault.Stop a549) (fun r681 =>
                            k r681)
                        else
                         bif decide (neweltop_Fault.Brake a549 ≥ (0 : Int)) then
                          bif decide (neweltop_Fault.Brake a549 < (↑(Arr.n (api_Escalator.Brakes a548)) : Int)) then
                           bif decide (IntKind.wrap IntKind.u64 (neweltop_Fault.Brake a549) < (0 : Int)) then
                            Option.none
                           else
                            neweltop_TopSingle_j0 N (0 : Int) a547 a548 a549 (api_Stop.mk (api_Stop.Speed (neweltop_Fault.Stop a549)) (api_Stop.Loads (neweltop_Fault.Stop a549)) (w64 (↑(BitVec.toNat (BitVec.ofInt (IntKind.bits IntKind.i64) (api_Stop.Fail (neweltop_Fault.Stop a549)) ||| BitVec.ofInt (IntKind.bits IntKind.i64) (w64 ((1 : Int) * (2 : Int) ^ min (Int.toNat (IntKind.wrap IntKind.u64 (neweltop_Fault.Brake a549))) (IntKind.bits IntKind.i64))))) : Int))) (fun r682 =>
                             k r682)
                          else
                           neweltop_TopSingle_j0 N (0 : Int) a547 a548 a549 (neweltop_Fault.Stop a549) (fun r683 =>
                            k r683)
                         else
                          neweltop_TopSingle_j0 N (0 : Int) a547 a548 a549 (neweltop_Fault.Stop a549) (fun r684 =>
                           k r684)
            else
             bif r574 != (0 : Int) then
              bif r574 != (12 : Int) then
               k false
              else
               bif r576 != (0 : Int) then
                k false
               else
                bif decide ((↑(Arr.n r566) : Int) > (0 : Int)) then
                 neweltop_measures N  (fun r685 =>
                 k r685)
                else
                 bif decide ((↑(Arr.n r569) : Int) > (0 : Int)) then
                  neweltop_measures N  (fun r686 =>
                  k r686)
                 else
                  bif r567 != (0 : Int) then
                   neweltop_measures N  (fun r687 =>
                   k r687)
                  else
                   bif r572 != (0 : Int) then
                    neweltop_measures N  (fun r688 =>
                    k r688)
                   else
                    bif r574 != (0 : Int) then
                     neweltop_measures N  (fun r689 =>
                     k r689)
                    else
                     bif decide (api_Span.High r570 > neweltop_Fault.Way a549) then
                      neweltop_measures N  (fun r690 =>
                      k r690)
                     else
                      bif decide (r573 > neweltop_Fault.Back a549) then
                       neweltop_measures N  (fun r691 =>
                       k r691)
                      else
                       bif !r575 then
                        neweltop_measures N  (fun r692 =>
                        k r692)
                       else
                        bif decide (neweltop_Fault.Switch a549 ≥ (0 : Int)) then
                         bif decide (neweltop_Fault.Switch a549 < (↑(Arr.n (api_Circuit.Switches a547)) : Int)) then
                          bif decide (IntKind.wrap IntKind.u64 (neweltop_Fault.Switch a549) < (0 : Int)) then
                           Option.none
                          else
                           neweltop_TopSingle_j0 N (w64 ((1 : Int) * (2 : Int) ^ min (Int.toNat (IntKind.wrap IntKind.u64 (neweltop_Fault.Switch a549))) (IntKind.bits IntKind.i64))) a547 a548 a549 (neweltop_Fault.Stop a549) (fun r693 =>
                            k r693)
                         else
                          bif decide (neweltop_Fault.Brake a549 ≥ (0 : Int)) then
                           bif decide (neweltop_Fault.Brake a549 < (↑(Arr.n (api_Escalator.Brakes a548)) : Int)) then
                            bif decide (IntKind.wrap IntKind.u64 (neweltop_Fault.Brake a549) < (0 : Int)) then
                             Option.none
                            else
                             neweltop_TopSingle_j0 N (0 : Int) a547 a548 a549 (api_Stop.mk (api_Stop.Speed (neweltop_Fault.Stop a549)) (api_Stop.Loads (neweltop_Fault.Stop a549)) (w64 (↑(BitVec.toNat (BitVec.ofInt (IntKind.bits IntKind.i64) (api_Stop.Fail (neweltop_Fault.Stop a549)) ||| BitVec.ofInt (IntKind.bits IntKind.i64) (w64 ((1 : Int) * (2 : Int) ^ min (Int.toNat (IntKind.wrap IntKind.u64 (neweltop_Fault.Brake a549))) (IntKind.bits IntKind.i64))))) : Int))) (fun r694 =>
                              k r694)
                           else
                            neweltop_TopSingle_j0 N (0 : Int) a547 a548 a549 (neweltop_Fault.Stop a549) (fun r695 =>
                             k r695)
                          else
                           neweltop_TopSingle_j0 N (0 : Int) a547 a548 a549 (neweltop_Fault.Stop a549) (fun r696 =>
                            k r696)
                        else
                         bif decide (neweltop_Fault.Brake a549 ≥ (0 : Int)) then
                          bif decide (neweltop_Fault.Brake a549 < (↑(Arr.n (api_Escalator.Brakes a548)) : Int)) then
                           bif decide (IntKind.wrap IntKind.u64 (neweltop_Fault.Brake a549) < (0 : Int)) then
                            Option.none
                           else
                            neweltop_TopSingle_j0 N (0 : Int) a547 a548 a549 (api_Stop.mk (api_Stop.Speed (neweltop_Fault.Stop a549)) (api_Stop.Loads (neweltop_Fault.Stop a549)) (w64 (↑(BitVec.toNat (BitVec.ofInt (IntKind.bits IntKind.i64) (api_Stop.Fail (neweltop_Fault.Stop a549)) ||| BitVec.ofInt (IntKind.bits IntKind.i64) (w64 ((1 : Int) * (2 : Int) ^ min (Int.toNat (IntKind.wrap IntKind.u64 (neweltop_Fault.Brake a549))) (IntKind.bits IntKind.i64))))) : Int))) (fun r697 =>
                             k r697)
                          else
                           neweltop_TopSingle_j0 N (0 : Int) a547 a548 a549 (neweltop_Fault.Stop a549) (fun r698 =>
                            k r698)
                         else
                          neweltop_TopSingle_j0 N (0 : Int) a547 a548 a549 (neweltop_Fault.Stop a549) (fun r699 =>
                           k r699)
             else
              bif r576 != (0 : Int) then
               k false
              else
               bif decide ((↑(Arr.n r566) : Int) > (0 : Int)) then
                neweltop_measures N  (fun r700 =>
                k r700)
               else
                bif decide ((↑(Arr.n r569) : Int) > (0 : Int)) then
                 neweltop_measures N  (fun r701 =>
                 k r701)
                else
                 bif r567 != (0 : Int) then
                  neweltop_measures N  (fun r702 =>
                  k r702)
                 else
                  bif r572 != (0 : Int) then
                   neweltop_measures N  (fun r703 =>
                   k r703)
                  else
                   bif r574 != (0 : Int) then
                    neweltop_measures N  (fun r704 =>
                    k r704)
                   else
                    bif decide (api_Span.High r570 > neweltop_Fault.Way a549) then
                     neweltop_measures N  (fun r705 =>
                     k r705)
                    else
                     bif decide (r573 > neweltop_Fault.Back a549) then
                      neweltop_measures N  (fun r706 =>
                      k r706)
                     else
                      bif !r575 then
                       neweltop_measures N  (fun r707 =>
                       k r707)
                      else
                       bif decide (neweltop_Fault.Switch a549 ≥ (0 : Int)) then
                        bif decide (neweltop_Fault.Switch a549 < (↑(Arr.n (api_Circuit.Switches a547)) : Int)) then
                         bif decide (IntKind.wrap IntKind.u64 (neweltop_Fault.Switch a549) < (0 : Int)) then
                          Option.none
                         else
                          neweltop_TopSingle_j0 N (w64 ((1 : Int) * (2 : Int) ^ min (Int.toNat (IntKind.wrap IntKind.u64 (neweltop_Fault.Switch a549))) (IntKind.bits IntKind.i64))) a547 a548 a549 (neweltop_Fault.Stop a549) (fun r708 =>
                           k r708)
                        else
                         bif decide (neweltop_Fault.Brake a549 ≥ (0 : Int)) then
                          bif decide (neweltop_Fault.Brake a549 < (↑(Arr.n (api_Escalator.Brakes a548)) : Int)) then
                           bif decide (IntKind.wrap IntKind.u64 (neweltop_Fault.Brake a549) < (0 : Int)) then
                            Option.none
                           else
                            neweltop_TopSingle_j0 N (0 : Int) a547 a548 a549 (api_Stop.mk (api_Stop.Speed (neweltop_Fault.Stop a549)) (api_Stop.Loads (neweltop_Fault.Stop a549)) (w64 (↑(BitVec.toNat (BitVec.ofInt (IntKind.bits IntKind.i64) (api_Stop.Fail (neweltop_Fault.Stop a549)) ||| BitVec.ofInt (IntKind.bits IntKind.i64) (w64 ((1 : Int) * (2 : Int) ^ min (Int.toNat (IntKind.wrap IntKind.u64 (neweltop_Fault.Brake a549))) (IntKind.bits IntKind.i64))))) : Int))) (fun r709 =>
                             k r709)
                          else
                           neweltop_TopSingle_j0 N (0 : Int) a547 a548 a549 (neweltop_Fault.Stop a549) (fun r710 =>
                            k r710)
                         else
                          neweltop_TopSingle_j0 N (0 : Int) a547 a548 a549 (neweltop_Fault.Stop a549) (fun r711 =>
                           k r711)
                       else
                        bif decide (neweltop_Fault.Brake a549 ≥ (0 : Int)) then
                         bif decide (neweltop_Fault.Brake a549 < (↑(Arr.n (api_Escalator.Brakes a548)) : Int)) then
                          bif decide (IntKind.wrap IntKind.u64 (neweltop_Fault.Brake a549) < (0 : Int)) then
                           Option.none
                          else
                           neweltop_TopSingle_j0 N (0 : Int) a547 a548 a549 (api_Stop.mk (api_Stop.Speed (neweltop_Fault.Stop a549)) (api_Stop.Loads (neweltop_Fault.Stop a549)) (w64 (↑(BitVec.toNat (BitVec.ofInt (IntKind.bits IntKind.i64) (api_Stop.Fail (neweltop_Fault.Stop a549)) ||| BitVec.ofInt (IntKind.bits IntKind.i64) (w64 ((1 : Int) * (2 : Int) ^ min (Int.toNat (IntKind.wrap IntKind.u64 (neweltop_Fault.Brake a549))) (IntKind.bits IntKind.i64))))) : Int))) (fun r712 =>
                            k r712)
                         else
                          neweltop_TopSingle_j0 N (0 : Int) a547 a548 a549 (neweltop_Fault.Stop a549) (fun r713 =>
                           k r713)
                        else
                         neweltop_TopSingle_j0 N (0 : Int) a547 a548 a549 (neweltop_Fault.Stop a549) (fun r714 =>
                          k r714))))))))))))
noncomputable def neweltop_TopSingle {R : Type} : Nat → api_Circuit → api_Escalator → neweltop_Fault → (Bool → Option R) → Option R := lock (@neweltop_TopSingle_m R)
theorem neweltop_TopSingle_def {R : Type} (N : Nat) (a547 : api_Circuit) (a548 : api_Escalator) (a549 : neweltop_Fault) (k : Bool → Option R) : neweltop_TopSingle N a547 a548 a549 k = neweltop_TopSingle_m N a547 a548 a549 k := by unfold neweltop_TopSingle; rw [lock_eq]
def neweltop_TopSingle_sp : Sp := ⟨[rAgg api_CircuitC, rAgg api_EscalatorC, rAgg neweltop_FaultC], []⟩
theorem neweltop_TopSingle_sp_ok : neweltop_TopSingle_sp.Ok := ⟨(allCons (rAgg_ok api_CircuitC_ok api_CircuitC_len) (allCons (rAgg_ok api_EscalatorC_ok api_EscalatorC_len) (allCons (rAgg_ok neweltop_FaultC_ok neweltop_FaultC_len) allNil))), eNil⟩
def neweltop_TopSingle_rs : Sp := ⟨[rBool], []⟩
theorem neweltop_TopSingle_rs_ok : neweltop_TopSingle_rs.Ok := ⟨(allCons rBool_ok allNil), eNil⟩
def neweltop_TopSingle_run {R : Type} (N : Nat) (args : List SV) (T : Tab) (kf : SV × Tab → Option R) : Option R :=
  neweltop_TopSingle_m N (Cod.dec api_CircuitC (lget (toCs (lget args 0)))) (Cod.dec api_EscalatorC (lget (toCs (lget args 1)))) (Cod.dec neweltop_FaultC (lget (toCs (lget args 2)))) (fun q0 => kf (lget [.bool q0] 0, []))
def neweltop_TopSingle_d100000 {R : Type} (N : Nat) (S0 : St) (k : Exit → St → Option R) : Option R :=
  neweltop_TopSingle_j0 N (toI (lget S0.tmps 19)) (Cod.dec api_CircuitC (lget (entCs (entAt S0.tab 0)))) (Cod.dec api_EscalatorC (lget (entCs (entAt S0.tab 1)))) (Cod.dec neweltop_FaultC (lget (entCs (entAt S0.tab 2)))) (Cod.dec api_StopC (lget (entCs (entAt S0.tab 3)))) (fun q0 => k .ret (neweltop_TopSingle_x100000_r q0))
def neweltop_TopSingle_lp {R : Type} (N : Nat) : Lp R := fun body S k => Option.none
def neweltop_TopSingle_jn {R : Type} (N : Nat) : Jn R := fun b => bif isJ 18 19 b then some (fun S k => neweltop_TopSingle_L100000.head.raw 0 S (fun S0 => neweltop_TopSingle_d100000 N S0 k)) else Option.none
theorem neweltop_TopSingle_j0_eq {R : Type} (N : Nat) (k : Exit → St → Option R) : ∀ (v0 : Int) (v1 : api_Circuit) (v2 : api_Escalator) (v3 : neweltop_Fault) (v4 : api_Stop), joinM E.Θ (neweltop_measures_cal N) (neweltop_TopSingle_lp N) (neweltop_TopSingle_jn N) 0 neweltop_TopSingle_L100000 (joinAt E 5 (18, 19)) (neweltop_TopSingle_h100000 v0 v1 v2 v3 v4) k = neweltop_TopSingle_j0 N v0 v1 v2 v3 v4 (fun q0 => k .ret (neweltop_TopSingle_x100000_r q0)) := by
  intro v0 v1 v2 v3 v4; exact Eq.trans (b := neweltop_TopSingle_j0_m N v0 v1 v2 v3 v4 (fun q0 => k .ret (neweltop_TopSingle_x100000_r q0))) (by kernel_rfl) (neweltop_TopSingle_j0_def N v0 v1 v2 v3 v4 (fun q0 => k .ret (neweltop_TopSingle_x100000_r q0))).symm
theorem neweltop_TopSingle_q0 {R : Type} (N : Nat) : JnKey (R := R) E 5 0 (neweltop_TopSingle_jn N) (18, 19) :=
  jnKey_of hE (neweltop_measures_cal_ok N) (lp := neweltop_TopSingle_lp N) (jn := neweltop_TopSingle_jn N) neweltop_TopSingle_L100000_ok [] kNil (by kernel_rfl) [] jNil (by kernel_rfl) (fun S k => neweltop_TopSingle_L100000.head.raw 0 S (fun S0 => neweltop_TopSingle_d100000 N S0 k)) (by kernel_rfl) fun S k =>
    congrArg (neweltop_TopSingle_L100000.head.raw 0 S) (funext fun S0 => Eq.trans (neweltop_TopSingle_j0_eq N k (toI (lget S0.tmps 19)) (Cod.dec api_CircuitC (lget (entCs (entAt S0.tab 0)))) (Cod.dec api_EscalatorC (lget (entCs (entAt S0.tab 1)))) (Cod.dec neweltop_FaultC (lget (entCs (entAt S0.tab 2)))) (Cod.dec api_StopC (lget (entCs (entAt S0.tab 3))))).symm (by kernel_rfl))
noncomputable def neweltop_TopSingle_go {R : Type} (N : Nat) (args : List SV) (T : Tab) (kf : SV × Tab → Option R) : Option R :=
  neweltop_TopSingle N (Cod.dec api_CircuitC (lget (toCs (lget args 0)))) (Cod.dec api_EscalatorC (lget (toCs (lget args 1)))) (Cod.dec neweltop_FaultC (lget (toCs (lget args 2)))) (fun q0 => kf (lget [.bool q0] 0, []))
noncomputable def neweltop_TopSingle_cal {R : Type} (N : Nat) : Cal R := callM (neweltop_measures_cal N) 5 0 neweltop_TopSingle_sp (neweltop_TopSingle_go N)
theorem neweltop_TopSingle_cal_ok {R : Type} (N : Nat) : CalOk E.P (neweltop_TopSingle_cal (R := R) N) :=
  callM_ok hE (neweltop_measures_cal_ok N) (lp := neweltop_TopSingle_lp N) (jn := neweltop_TopSingle_jn N) (keys := []) kNil (by kernel_rfl) (js := [(18, 19)]) (jCons (neweltop_TopSingle_q0 N) jNil) (by kernel_rfl) neweltop_TopSingle_sp_ok neweltop_TopSingle_rs_ok (fun args T kf => Eq.trans (neweltop_TopSingle_def N (Cod.dec api_CircuitC (lget (toCs (lget args 0)))) (Cod.dec api_EscalatorC (lget (toCs (lget args 1)))) (Cod.dec neweltop_FaultC (lget (toCs (lget args 2)))) (fun q0 => kf (lget [.bool q0] 0, []))) (by kernel_rfl : neweltop_TopSingle_run N args T kf = fnM E (neweltop_measures_cal N) (neweltop_TopSingle_lp N) (neweltop_TopSingle_jn N) 5 (neweltop_TopSingle_sp.vs args) (neweltop_TopSingle_sp.tab T) 0 (resK neweltop_TopSingle_rs kf)))


section
open Ds
theorem bit_eq1 {a : Int} (h0 : 0 ≤ a) (h1 : a < 9223372036854775808) {i : Nat} (hi : i < 64) :
    (w64 (↑(BitVec.toNat (BitVec.ofInt (IntKind.bits IntKind.i64) (Int.fdiv a ((2 : Int) ^ min i (IntKind.bits IntKind.i64))) &&& BitVec.ofInt (IntKind.bits IntKind.i64) (1 : Int))) : Int) == (1 : Int)) = a.toNat.testBit i := by
  have := bit64 h0 h1 hi
  unfold w64
  rw [this]
  cases a.toNat.testBit i <;> rfl
/-- Any history of a stop that comes to rest. -/
theorem play_rest {e : api_Escalator} {s : api_Stop} {a : Arr Int} (hH : HistOk e s a) (hr : pathV e s true (restS e s true) = 0) :
    wayS (playV e s a.f) (stopF (playV e s a.f) a.n 0) ≤ wayS (pathV e s true) (restS e s true) ∧ (playV e s a.f (stopF (playV e s a.f) a.n 0) = 0 ∨ a.n < 100) ∧ backS (playV e s a.f) a.n ≤ backS (pathV e s false) 100 := by
  have hS := hH.vs
  have hbt := play_between hH
  have sv := stopF_spec (playV e s a.f) a.n 0
  have hTM := rest_le e s true
  have hn := hH.n
  have hsoftv := play_soft (e := e) hS.s1 a.f
  have hsoftM := path_soft (e := e) hS.s1 true
  have hup : stopF (playV e s a.f) a.n 0 ≤ restS e s true := by
    rcases Nat.lt_or_ge a.n (restS e s true) with hlt | hge
    · omega
    · exact (Soft.less hsoftv hsoftM (n := a.n) (m := 100) (fun t h6 _ _ _ => (hbt t h6).2) hr hge).1
  refine ⟨?_, ?_, ?_⟩
  · have a1 := way_le (u := playV e s a.f) (v := pathV e s true) (n := a.n) (fun t ht => (hbt t ht).2) (stopF (playV e s a.f) a.n 0) (by omega)
    have a2 := way_mono (v := pathV e s true) (n := restS e s true) (fun t ht => (hsoftM.pos (n := 100) t ht).1) hup (Nat.le_refl _)
    omega
  · rcases Nat.lt_or_ge a.n 100 with h6 | h6
    · exact Or.inr h6
    · exact Or.inl (Soft.less hsoftv hsoftM (n := a.n) (m := 100) (fun t h6 _ _ _ => (hbt t h6).2) hr (Nat.le_trans hTM h6)).2.1
  · have a1 := back_le (u := playV e s a.f) (v := pathV e s false) (n := a.n) (fun t ht => (hbt t ht).1) a.n (Nat.le_refl _)
    have a2 := back_mono (v := pathV e s false) (a := a.n) (b := 100) (by omega)
    omega

theorem far3_l4 (N : Nat) {c : api_Circuit} (hn : c.Wires.n ≤ 40) {R : Type} (kr : Bool → Option R) (k0 : Unit → Option R) : ∀ (q i n : Nat), i + q = c.Wires.n → q < n →
    newellaw03_Far_l4 N n (i : Int) c kr k0 = kr true ∨ newellaw03_Far_l4 N n (i : Int) c kr k0 = k0 () := by
  intro q
  induction q with
  | zero =>
    intro i n h1 h2
    obtain ⟨n, rfl⟩ : ∃ m, n = m + 1 := ⟨n - 1, by omega⟩
    right
    unfold newellaw03_Far_l4 newellaw03_Far_b4
    simp only [Ci.ltF (show c.Wires.n ≤ i by omega), cond_false]
  | succ q ih =>
    intro i n h1 h2
    obtain ⟨n, rfl⟩ : ∃ m, n = m + 1 := ⟨n - 1, by omega⟩
    unfold newellaw03_Far_l4 newellaw03_Far_b4
    simp only [Ci.ltT (show i < c.Wires.n by omega), nat_nonneg, Bool.and_self, cond_true, Int.toNat_natCast, w64_succ (show i < 1000000000000 by omega)]
    by_cases c1 : ((c.Wires.f i).Of.n : Int) > 40
    · left; simp only [c1, decide_true, cond_true]
    · simp only [c1, decide_false, cond_false]
      exact ih (i + 1) n (by omega) (by omega)
theorem far3 {N : Nat} (hN : 100 ≤ N) (c : api_Circuit) {R : Type} (k : Bool → Option R) : newellaw03_Far N c k = k true ∨ newellaw03_Far N c k = k false := by
  rw [newellaw03_Far_def]
  unfold newellaw03_Far_m
  by_cases c1 : (c.Switches.n : Int) > 20
  · left; simp only [c1, decide_true, cond_true]
  by_cases c2 : (c.Wires.n : Int) > 40
  · left; simp only [c1, c2, decide_true, decide_false, cond_true, cond_false]
  simp only [c1, c2, decide_false, cond_false]
  exact far3_l4 N (by omega) (fun r4 => k r4) (fun _ => k false) c.Wires.n 0 N (by omega) (by omega)

/-- The machine stops, and the band comes to rest. -/
theorem single_end {c : api_Circuit} {e : api_Escalator} {x : neweltop_Fault} (hc : Ci.VCi c) {s : api_Stop} (hH : HistOk e s x.Loads) (hs : SafeP e s x.Way x.Back) {hz cl : Nat} (hhz : x.Hazards = (hz : Int)) (h1 : hz < 2 ^ c.Hazards.toNat) (h2 : cl < 2 ^ c.Switches.n) (hr : Ci.condS c hz cl NN 0 = false) :
    neweltop_TopSingle_j0 NN (cl : Int) c e x s (fun r => okK (lget [.bool r] 0, [])) = some () := by
  obtain ⟨a1, a2, a3, a4, a5⟩ := hs
  rw [neweltop_TopSingle_j0_def]
  unfold neweltop_TopSingle_j0_m
  rw [hhz, Ci.runs_eq (show 2000 ≤ NN by decide) hc h1 h2, hr]
  obtain ⟨l, b, hb2, hk⟩ := Play_eq (N := NN) (by decide) e s x.Loads
  have hplay := playE_of hH
  rw [hplay, if_pos rfl] at hb2
  have hn := hH.n
  have hrest := fun k => Rest_eq (R := Unit) (N := NN) (by decide) (v := playV e s x.Loads.f) (m := x.Loads.n) (by omega) (play_B hH) hb2 k
  have e0 : playV e s x.Loads.f 0 = s.Speed := rfl
  rw [e0] at hrest
  have hpr := play_rest hH a1
  have hbeh := fun k => Behind_eq (R := Unit) (N := NN) (by decide) (v := playV e s x.Loads.f) (m := x.Loads.n) (by omega) (play_B hH) hb2 k
  rw [hk, Holds_eq (by decide), hold_zero hH.ve hH.vs, hplay]
  have c1 : ¬ (backS (playV e s x.Loads.f) x.Loads.n > x.Back) := by omega
  have c2 : wayS (playV e s x.Loads.f) (stopF (playV e s x.Loads.f) x.Loads.n 0) ≤ x.Way := by omega
  simp only [bne_self_eq_false, cond_false, a5, decide_true, Bool.not_true, hb2.len, hbeh, c1, decide_false, hrest, c2, cond_true, neweltop_measures_eq]
  rcases hpr.2.1 with h8 | h8
  · simp only [h8, BEq.rfl, cond_true]; rfl
  · have c3 : decide ((x.Loads.n : Int) < 100) = true := by simp; omega
    simp only [c3, cond_true]
    cases (playV e s x.Loads.f (stopF (playV e s x.Loads.f) x.Loads.n 0) == 0) <;> rfl

theorem topSingle_true (c : api_Circuit) (e : api_Escalator) (x : neweltop_Fault) (hc0 : c.wf) (he : e.wf) (hx : x.wf) : ∃ N, neweltop_TopSingle N c e x (fun q0 => okK (lget [.bool q0] 0, [])) = some () := by
  refine ⟨NN, ?_⟩
  have htr : okK (lget [SV.bool true] 0, []) = some () := rfl
  rw [neweltop_TopSingle_def]
  unfold neweltop_TopSingle_m
  simp only [neweltop_measures_eq, htr]
  refine (far3 (N := NN) (by decide) c _).elim (fun h => h.trans rfl) (fun h => h.trans ?_)
  simp only [cond_false, Far_eq]
  by_cases h1 : (e.Brakes.n : Int) > 10
  · simp only [h1, decide_true, cond_true]
  simp only [h1, decide_false, cond_false]
  by_cases h2 : (x.Loads.n : Int) > 100
  · simp only [h2, decide_true, cond_true]
  simp only [h2, decide_false, cond_false]
  refine (Ci.refCi (N := NN) (by decide) c _).elim (fun ⟨v, hv, h⟩ => h.trans ?_) (fun ⟨hc, h⟩ => h.trans ?_)
  · have : (v != 0) = true := by simpa using hv
    simp only [this, cond_true]
  simp only [bne_self_eq_false, cond_false, refCheckStop_eq (show 10 ≤ NN by decide), History_eq (show 2000 ≤ NN by decide) (show x.Loads.n ≤ 1000 by omega), Ci.refHz hc]
  by_cases h3 : stopV e x.Stop = 0
  case neg =>
    have : (stopV e x.Stop != 0) = true := by simpa using h3
    simp only [this, cond_true]
  obtain ⟨hV, hS⟩ := stopV_zero h3
  simp only [h3, bne_self_eq_false, cond_false]
  cases hv : histV x.Stop x.Loads
  · rfl
  simp only [Bool.not_true, cond_false]
  by_cases h4 : 0 ≤ x.Hazards ∧ x.Hazards ≤ ((2 ^ c.Hazards.toNat : Nat) : Int) - 1
  rotate_left
  · simp only [h4, decide_false, Bool.not_false, cond_true]
  simp only [h4, and_self, decide_true, Bool.not_true, cond_false]
  by_cases h5 : x.Hazards = 0
  · have : (x.Hazards == 0) = true := by simpa using h5
    simp only [this, cond_true]
  have d5 : (x.Hazards == 0) = false := by simpa using h5
  simp only [d5, cond_false]
  obtain ⟨cb, ca, hca, hcc⟩ := Ci.crit_ok (N := NN) (by decide) hc
  refine (hcc _).trans ?_
  simp only [bne_self_eq_false, cond_false, Critical_eq (show 2000 ≤ NN by decide), Distance_eq (show 200 ≤ NN by decide), Back_eq (show 200 ≤ NN by decide), Holds_eq (show 200 ≤ NN by decide), hold_zero hV hS, dist_zero hV hS, back_zero hV hS]
  have hcrit : critV e x.Stop x.Way x.Back = if (0 ≤ x.Way ∧ x.Way ≤ 10000000) ∧ (0 ≤ x.Back ∧ x.Back ≤ 10000000) then (0, critA e x.Stop x.Way x.Back e.Brakes.n) else (1, true, lst intC 0 (zeroC [SV.int IntKind.i64 0])) := by
    unfold critV; rw [h3]; simp
  rw [hcrit]
  have b1 : ((1 : Int) != 0) = true := rfl
  have b2 : ((1 : Int) != 1) = false := rfl
  have b3 : ((12 : Int) != 0) = true := rfl
  have b4 : ((12 : Int) != 12) = false := rfl
  have cs : ∀ (A B : Bool) (y : Option Unit), y = some () → (bif A then some () else bif B then some () else y) = some () := by intro A B y h; cases A <;> cases B <;> simp [h]
  by_cases h6 : (0 ≤ x.Way ∧ x.Way ≤ 10000000) ∧ (0 ≤ x.Back ∧ x.Back ≤ 10000000)
  case neg =>
    by_cases h7 : pathV e x.Stop true (restS e x.Stop true) = 0
    all_goals by_cases h8 : pathV e x.Stop false 100 < 0
    all_goals
      simp only [h6, h7, h8, if_true, if_false, b1, b2, b3, b4, bne_self_eq_false, cond_true, cond_false]
      exact cs _ _ _ rfl
  by_cases h7 : pathV e x.Stop true (restS e x.Stop true) = 0
  case neg =>
    by_cases h8 : pathV e x.Stop false 100 < 0
    all_goals
      simp only [h6, h7, h8, if_true, if_false, and_self, b1, b2, b3, b4, bne_self_eq_false, cond_true, cond_false]
      exact cs _ _ _ rfl
  by_cases h8 : pathV e x.Stop false 100 < 0
  case pos =>
    simp only [h6, h7, h8, if_true, if_false, and_self, b1, b2, b3, b4, bne_self_eq_false, cond_true, cond_false]
    exact cs _ _ _ rfl
  simp only [h6, h7, h8, if_true, if_false, and_self, bne_self_eq_false, cond_false]
  by_cases h9 : (ca.n : Int) > 0
  · simp only [h9, decide_true, cond_true]
  by_cases h10 : ((critA e x.Stop x.Way x.Back e.Brakes.n).2.n : Int) > 0
  · simp only [h9, h10, decide_true, decide_false, cond_true, cond_false]
  by_cases h11 : wayS (pathV e x.Stop true) (restS e x.Stop true) > x.Way
  · simp only [h9, h10, h11, decide_true, decide_false, cond_true, cond_false]
  by_cases h12 : backS (pathV e x.Stop false) 100 > x.Back
  · simp only [h9, h10, h11, h12, decide_true, decide_false, cond_true, cond_false]
  by_cases h13 : e.Pull * x.Stop.Loads.High ≤ e.Drag + gripE e x.Stop.Fail 20
  rotate_left
  · simp only [h9, h10, h11, h12, h13, decide_false, Bool.not_false, cond_true, cond_false]
  simp only [h9, h10, h11, h12, h13, decide_true, decide_false, Bool.not_true, cond_false]
  -- the circuit stops the machine
  have hcs := hc.s
  obtain ⟨hz, hhz⟩ : ∃ hz : Nat, x.Hazards = (hz : Int) := ⟨x.Hazards.toNat, by omega⟩
  have hz0 : hz ≠ 0 := fun h => h5 (by rw [hhz, h]; rfl)
  have hz1 : hz < 2 ^ c.Hazards.toNat := by omega
  have hnone := hca (by omega)
  have safeC := fun cl hcl => Ci.safe (N := NN) (by decide) hc hnone hz0 hz1 (cl := cl) hcl
  have p0 : 0 < 2 ^ c.Switches.n := Nat.two_pow_pos _
  have hH : HistOk e x.Stop x.Loads := ⟨hV, hS, (histV_iff.1 hv).1, by omega⟩
  have hsafe : SafeP e x.Stop x.Way x.Back := ⟨h7, by omega, by omega, by omega, h13⟩
  have plain : neweltop_TopSingle_j0 NN 0 c e x x.Stop (fun r => okK (lget [.bool r] 0, [])) = some () :=
    single_end hc hH hsafe hhz hz1 (cl := 0) p0 (safeC 0 (.inl rfl))
  -- one more brake that fails
  have hn := hV.n
  have hf := (hS.ls hV).f2
  have hf1 := hS.f1
  have brake : ∀ {i : Nat}, i < e.Brakes.n → x.Brake = (i : Int) → neweltop_TopSingle_j0 NN 0 c e x (api_Stop.mk x.Stop.Speed x.Stop.Loads (w64 (↑(BitVec.toNat (BitVec.ofInt (IntKind.bits IntKind.i64) x.Stop.Fail ||| BitVec.ofInt (IntKind.bits IntKind.i64) (w64 ((1 : Int) * (2 : Int) ^ min (Int.toNat (i : Int)) (IntKind.bits IntKind.i64))))) : Int))) (fun r => okK (lget [.bool r] 0, [])) = some () := fun {i} hin hi => by
    rw [Int.toNat_natCast, or_eq hf1 hf (show i < 3 by omega)]
    show neweltop_TopSingle_j0 NN 0 c e x (moreF x.Stop i) _ = some ()
    have hS' := moreF_ok hV hS hin
    have hsafe' : SafeP e (moreF x.Stop i) x.Way x.Back := by
      rcases critA_none (show (critA e x.Stop x.Way x.Back e.Brakes.n).2.n = 0 by omega) i hin with g | g
      · have : moreF x.Stop i = x.Stop := by
          have g' : (moreF x.Stop i).Fail = x.Stop.Fail := g
          show (⟨x.Stop.Speed, x.Stop.Loads, (moreF x.Stop i).Fail⟩ : api_Stop) = x.Stop
          rw [g']
        rw [this]; exact hsafe
      · exact g
    exact single_end hc ⟨hV, hS', (histV_iff.1 hv).1, by omega⟩ hsafe' hhz hz1 (cl := 0) p0 (safeC 0 (.inl rfl))
  have brakes : (bif decide (x.Brake ≥ (0 : Int)) then
       bif decide (x.Brake < (↑(Arr.n (api_Escalator.Brakes e)) : Int)) then
        bif decide (IntKind.wrap IntKind.u64 x.Brake < (0 : Int)) then Option.none
        else neweltop_TopSingle_j0 NN (0 : Int) c e x (api_Stop.mk x.Stop.Speed x.Stop.Loads (w64 (↑(BitVec.toNat (BitVec.ofInt (IntKind.bits IntKind.i64) x.Stop.Fail ||| BitVec.ofInt (IntKind.bits IntKind.i64) (w64 ((1 : Int) * (2 : Int) ^ min (Int.toNat (IntKind.wrap IntKind.u64 x.Brake)) (IntKind.bits IntKind.i64))))) : Int))) (fun r => okK (lget [.bool r] 0, []))
       else neweltop_TopSingle_j0 NN (0 : Int) c e x x.Stop (fun r => okK (lget [.bool r] 0, []))
      else neweltop_TopSingle_j0 NN (0 : Int) c e x x.Stop (fun r => okK (lget [.bool r] 0, []))) = some () := by
    by_cases g1 : x.Brake ≥ 0
    rotate_left
    · simp only [g1, decide_false, cond_false]; exact plain
    by_cases g2 : x.Brake < (e.Brakes.n : Int)
    rotate_left
    · simp only [g1, g2, decide_true, decide_false, cond_true, cond_false]; exact plain
    obtain ⟨i, hi⟩ : ∃ i : Nat, x.Brake = (i : Int) := ⟨x.Brake.toNat, by omega⟩
    have hu : IntKind.wrap IntKind.u64 x.Brake = (i : Int) := by rw [hi]; exact u64_nat (by omega)
    simp only [g1, g2, decide_true, cond_true, hu, Ci.natF, cond_false]
    exact brake (by omega) hi
  by_cases g1 : x.Switch ≥ 0
  rotate_left
  · simp only [g1, decide_false, cond_false]; exact brakes
  by_cases g2 : x.Switch < (c.Switches.n : Int)
  rotate_left
  · simp only [g1, g2, decide_true, decide_false, cond_true, cond_false]; exact brakes
  obtain ⟨i, hi⟩ : ∃ i : Nat, x.Switch = (i : Int) := ⟨x.Switch.toNat, by omega⟩
  have hu : IntKind.wrap IntKind.u64 x.Switch = (i : Int) := by rw [hi]; exact u64_nat (by omega)
  simp only [g1, g2, decide_true, cond_true, hu, Ci.natF, cond_false, Ci.shl_eq (show i < 60 by omega)]
  exact single_end hc hH hsafe hhz hz1 (cl := 2 ^ i) (Nat.pow_lt_pow_right (by omega) (by omega)) (safeC (2 ^ i) (.inr ⟨i, by omega, rfl⟩))
end
end
end Go.Proofs.Ytpillmoddoccfaa
