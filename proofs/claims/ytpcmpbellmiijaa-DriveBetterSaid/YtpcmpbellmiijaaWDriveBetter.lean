/-
  The model of the statement DriveBetter, that it is what the code does (written by a program), and that it answers true.
-/
import Derived.Test.YtpcmpbellmiijaaP9
set_option maxRecDepth 100000
set_option maxHeartbeats 0
set_option linter.unusedVariables false
set_option linter.unusedSimpArgs false
namespace Go.Proofs.Ytpcmpbellmiijaa
open Go.Sx
noncomputable section

def newellaw01_DriveBetter_L100000 : LoopSp := ⟨⟨[4, 5, 7, 10, 11, 12], ⟨(dr 4 ((rPtr 0 0) :: (rPtr 1 0) :: (dr 1 ((rPtr 2 0) :: (dr 2 ((rPtr 3 0) :: (rPtr 4 0) :: (rPtr 5 0) :: (dr 148 []))))))), [(0, eBlkC api_StopC), (1, eBlkC newellaw01_BetterC), (2, eBlkC api_SpanC), (3, eBlk [rBool, rInt .i64, rInt .i64, rInt .i64, rInt .i64, rRow 6]), (4, eBlkC api_StopC), (5, eBlkC api_BrakeC), (6, eRow api_BrakeC)]⟩, 7⟩, [(some 1000000, ⟨[4, 5, 7, 10, 11], ⟨(dr 4 ((rPtr 0 0) :: (rPtr 1 0) :: (dr 1 ((rPtr 2 0) :: (dr 2 ((rPtr 3 0) :: (rPtr 4 0) :: (dr 149 []))))))), [(0, eBlkC api_StopC), (1, eBlkC newellaw01_BetterC), (2, eBlkC api_SpanC), (3, eBlk [rBool, rInt .i64, rInt .i64, rInt .i64, rInt .i64, rRow 5]), (4, eBlkC api_StopC), (5, eRow api_BrakeC)]⟩, 6⟩)]⟩
theorem newellaw01_DriveBetter_L100000_ok : newellaw01_DriveBetter_L100000.Ok := ⟨⟨(drCons 4 (allCons (rPtr_ok 0 0) (allCons (rPtr_ok 1 0) (drCons 1 (allCons (rPtr_ok 2 0) (drCons 2 (allCons (rPtr_ok 3 0) (allCons (rPtr_ok 4 0) (allCons (rPtr_ok 5 0) (drCons 148 allNil)))))))))), (eCons (eBlkC_ok api_StopC_ok api_StopC_len) (eCons (eBlkC_ok newellaw01_BetterC_ok newellaw01_BetterC_len) (eCons (eBlkC_ok api_SpanC_ok api_SpanC_len) (eCons (eBlk_ok (allCons rBool_ok (allCons (rInt_ok .i64) (allCons (rInt_ok .i64) (allCons (rInt_ok .i64) (allCons (rInt_ok .i64) (allCons (rRow_ok 6) allNil))))))) (eCons (eBlkC_ok api_StopC_ok api_StopC_len) (eCons (eBlkC_ok api_BrakeC_ok api_BrakeC_len) (eCons (eRow_ok api_BrakeC_ok) eNil)))))))⟩, (xCons ⟨(drCons 4 (allCons (rPtr_ok 0 0) (allCons (rPtr_ok 1 0) (drCons 1 (allCons (rPtr_ok 2 0) (drCons 2 (allCons (rPtr_ok 3 0) (allCons (rPtr_ok 4 0) (drCons 149 allNil))))))))), (eCons (eBlkC_ok api_StopC_ok api_StopC_len) (eCons (eBlkC_ok newellaw01_BetterC_ok newellaw01_BetterC_len) (eCons (eBlkC_ok api_SpanC_ok api_SpanC_len) (eCons (eBlk_ok (allCons rBool_ok (allCons (rInt_ok .i64) (allCons (rInt_ok .i64) (allCons (rInt_ok .i64) (allCons (rInt_ok .i64) (allCons (rRow_ok 5) allNil))))))) (eCons (eBlkC_ok api_StopC_ok api_StopC_len) (eCons (eRow_ok api_BrakeC_ok) eNil))))))⟩ xNil)⟩
def newellaw01_DriveBetter_h100000 (v498 : api_Stop) (v499 : newellaw01_Better) (v500 : api_Span) (v501 : Bool) (v502 : Int) (v503 : Int) (v504 : Int) (v505 : Int) (v506 : api_Stop) (v507 : api_Brake) (v508 : Bool) (v509 : Arr api_Brake) : St := ⟨(un 4 ((.ptr 0 0) :: (.ptr 1 0) :: (un 1 ((.ptr 2 0) :: (un 2 ((.ptr 3 0) :: (.ptr 4 0) :: (.ptr 5 0) :: (un 148 []))))))), [(0, .blk (Cod.enc api_StopC v498)), (1, .blk (Cod.enc newellaw01_BetterC v499)), (2, .blk (Cod.enc api_SpanC v500)), (3, .blk [.bool v501, .int .i64 v502, .int .i64 v503, .int .i64 v504, .int .i64 v505, .row 6]), (4, .blk (Cod.enc api_StopC v506)), (5, .blk (Cod.enc api_BrakeC v507)), (6, rowE api_BrakeC v508 v509)], 7⟩
def newellaw01_DriveBetter_x100000_n (v498 : api_Stop) (v499 : newellaw01_Better) (v500 : api_Span) (v501 : Bool) (v502 : Int) (v503 : Int) (v504 : Int) (v505 : Int) (v506 : api_Stop) (v508 : Bool) (q10 : Arr api_Brake) : St := ⟨(un 4 ((.ptr 0 0) :: (.ptr 1 0) :: (un 1 ((.ptr 2 0) :: (un 2 ((.ptr 3 0) :: (.ptr 4 0) :: (un 149 []))))))), [(0, .blk (Cod.enc api_StopC v498)), (1, .blk (Cod.enc newellaw01_BetterC v499)), (2, .blk (Cod.enc api_SpanC v500)), (3, .blk [.bool v501, .int .i64 v502, .int .i64 v503, .int .i64 v504, .int .i64 v505, .row 5]), (4, .blk (Cod.enc api_StopC v506)), (5, rowE api_BrakeC v508 q10)], 6⟩
def newellaw01_DriveBetter_j0_m {R : Type} (N : Nat) (v498 : api_Stop) (v499 : newellaw01_Better) (v500 : api_Span) (v501 : Bool) (v502 : Int) (v503 : Int) (v504 : Int) (v505 : Int) (v506 : api_Stop) (v507 : api_Brake) (v508 : Bool) (v509 : Arr api_Brake) (kn : Arr api_Brake → Option R) : Option R :=
  bif decide (newellaw01_Better.Delay v499 ≥ (0 : Int)) then
   bif decide (newellaw01_Better.Delay v499 ≤ api_Brake.Delay v507) then
    bif decide ((0 : Int) ≤ newellaw01_Better.Brake v499) && decide (newellaw01_Better.Brake v499 < (↑(Arr.n v509) : Int)) then
     kn (lst api_BrakeC (Arr.n v509) (setCs (Int.toNat (newellaw01_Better.Brake v499)) (0 : Nat) (Cod.cell api_BrakeC (Arr.f v509)) [SV.int IntKind.i64 (api_Brake.Force v507), SV.int IntKind.i64 (newellaw01_Better.Delay v499)]))
    else
     Option.none
   else
    bif decide ((0 : Int) ≤ newellaw01_Better.Brake v499) && decide (newellaw01_Better.Brake v499 < (↑(Arr.n v509) : Int)) then
     kn (lst api_BrakeC (Arr.n v509) (setCs (Int.toNat (newellaw01_Better.Brake v499)) (0 : Nat) (Cod.cell api_BrakeC (Arr.f v509)) [SV.int IntKind.i64 (api_Brake.Force v507), SV.int IntKind.i64 (api_Brake.Delay v507)]))
    else
     Option.none
  else
   bif decide ((0 : Int) ≤ newellaw01_Better.Brake v499) && decide (newellaw01_Better.Brake v499 < (↑(Arr.n v509) : Int)) then
    kn (lst api_BrakeC (Arr.n v509) (setCs (Int.toNat (newellaw01_Better.Brake v499)) (0 : Nat) (Cod.cell api_BrakeC (Arr.f v509)) [SV.int IntKind.i64 (api_Brake.Force v507), SV.int IntKind.i64 (api_Brake.Delay v507)]))
   else
    Option.none
noncomputable def newellaw01_DriveBetter_j0 {R : Type} : Nat → api_Stop → newellaw01_Better → api_Span → Bool → Int → Int → Int → Int → api_Stop → api_Brake → Bool → Arr api_Brake → (Arr api_Brake → Option R) → Option R := lock (@newellaw01_DriveBetter_j0_m R)
theorem newellaw01_DriveBetter_j0_def {R : Type} (N : Nat) (v498 : api_Stop) (v499 : newellaw01_Better) (v500 : api_Span) (v501 : Bool) (v502 : Int) (v503 : Int) (v504 : Int) (v505 : Int) (v506 : api_Stop) (v507 : api_Brake) (v508 : Bool) (v509 : Arr api_Brake) (kn : Arr api_Brake → Option R) : newellaw01_DriveBetter_j0 N v498 v499 v500 v501 v502 v503 v504 v505 v506 v507 v508 v509 kn = newellaw01_DriveBetter_j0_m N v498 v499 v500 v501 v502 v503 v504 v505 v506 v507 v508 v509 kn := by unfold newellaw01_DriveBetter_j0; rw [lock_eq]

def newellaw01_DriveBetter_L100003 : LoopSp := ⟨⟨[7, 10, 11], ⟨(dr 7 ((rPtr 0 0) :: (dr 2 ((rPtr 1 0) :: (rPtr 2 0) :: (dr 149 []))))), [(0, eBlkC api_SpanC), (1, eBlk [rBool, rInt .i64, rInt .i64, rInt .i64, rInt .i64, rRow 3]), (2, eBlkC api_StopC), (3, eRow api_BrakeC)]⟩, 4⟩, [(Option.none, ⟨[6], ⟨(dr 6 ((rBool) :: (dr 154 []))), []⟩, 0⟩)]⟩
theorem newellaw01_DriveBetter_L100003_ok : newellaw01_DriveBetter_L100003.Ok := ⟨⟨(drCons 7 (allCons (rPtr_ok 0 0) (drCons 2 (allCons (rPtr_ok 1 0) (allCons (rPtr_ok 2 0) (drCons 149 allNil)))))), (eCons (eBlkC_ok api_SpanC_ok api_SpanC_len) (eCons (eBlk_ok (allCons rBool_ok (allCons (rInt_ok .i64) (allCons (rInt_ok .i64) (allCons (rInt_ok .i64) (allCons (rInt_ok .i64) (allCons (rRow_ok 3) allNil))))))) (eCons (eBlkC_ok api_StopC_ok api_StopC_len) (eCons (eRow_ok api_BrakeC_ok) eNil))))⟩, (xCons ⟨(drCons 6 (allCons rBool_ok (drCons 154 allNil))), eNil⟩ xNil)⟩
def newellaw01_DriveBetter_h100003 (v533 : api_Span) (v534 : Bool) (v535 : Int) (v536 : Int) (v537 : Int) (v538 : Int) (v539 : api_Stop) (v540 : Bool) (v541 : Arr api_Brake) : St := ⟨(un 7 ((.ptr 0 0) :: (un 2 ((.ptr 1 0) :: (.ptr 2 0) :: (un 149 []))))), [(0, .blk (Cod.enc api_SpanC v533)), (1, .blk [.bool v534, .int .i64 v535, .int .i64 v536, .int .i64 v537, .int .i64 v538, .row 3]), (2, .blk (Cod.enc api_StopC v539)), (3, rowE api_BrakeC v540 v541)], 4⟩
def newellaw01_DriveBetter_x100003_r (q0 : Bool) : St := ⟨(un 6 ((.bool q0) :: (un 154 []))), [], 0⟩
def newellaw01_DriveBetter_j3_m {R : Type} (N : Nat) (v533 : api_Span) (v534 : Bool) (v535 : Int) (v536 : Int) (v537 : Int) (v538 : Int) (v539 : api_Stop) (v540 : Bool) (v541 : Arr api_Brake) (kr : Bool → Option R) : Option R :=
  drive_Distance N (api_Escalator.mk v534 v535 v536 v537 v538 v541) v539 (fun r542 r543 r544 =>
  bif r544 == (0 : Int) then
   bif decide (api_Span.High r542 ≤ api_Span.High v533) then
    newellaw01_works N  (fun r545 =>
    kr r545)
   else
    kr false
  else
   kr false)
noncomputable def newellaw01_DriveBetter_j3 {R : Type} : Nat → api_Span → Bool → Int → Int → Int → Int → api_Stop → Bool → Arr api_Brake → (Bool → Option R) → Option R := lock (@newellaw01_DriveBetter_j3_m R)
theorem newellaw01_DriveBetter_j3_def {R : Type} (N : Nat) (v533 : api_Span) (v534 : Bool) (v535 : Int) (v536 : Int) (v537 : Int) (v538 : Int) (v539 : api_Stop) (v540 : Bool) (v541 : Arr api_Brake) (kr : Bool → Option R) : newellaw01_DriveBetter_j3 N v533 v534 v535 v536 v537 v538 v539 v540 v541 kr = newellaw01_DriveBetter_j3_m N v533 v534 v535 v536 v537 v538 v539 v540 v541 kr := by unfold newellaw01_DriveBetter_j3; rw [lock_eq]

def newellaw01_DriveBetter_L100002 : LoopSp := ⟨⟨[4, 5, 7, 10, 11], ⟨(dr 4 ((rPtr 0 0) :: (rPtr 1 0) :: (dr 1 ((rPtr 2 0) :: (dr 2 ((rPtr 3 0) :: (rPtr 4 0) :: (dr 149 []))))))), [(0, eBlkC api_StopC), (1, eBlkC newellaw01_BetterC), (2, eBlkC api_SpanC), (3, eBlk [rBool, rInt .i64, rInt .i64, rInt .i64, rInt .i64, rRow 5]), (4, eBlkC api_StopC), (5, eRow api_BrakeC)]⟩, 6⟩, [(Option.none, ⟨[6], ⟨(dr 6 ((rBool) :: (dr 154 []))), []⟩, 0⟩)]⟩
theorem newellaw01_DriveBetter_L100002_ok : newellaw01_DriveBetter_L100002.Ok := ⟨⟨(drCons 4 (allCons (rPtr_ok 0 0) (allCons (rPtr_ok 1 0) (drCons 1 (allCons (rPtr_ok 2 0) (drCons 2 (allCons (rPtr_ok 3 0) (allCons (rPtr_ok 4 0) (drCons 149 allNil))))))))), (eCons (eBlkC_ok api_StopC_ok api_StopC_len) (eCons (eBlkC_ok newellaw01_BetterC_ok newellaw01_BetterC_len) (eCons (eBlkC_ok api_SpanC_ok api_SpanC_len) (eCons (eBlk_ok (allCons rBool_ok (allCons (rInt_ok .i64) (allCons (rInt_ok .i64) (allCons (rInt_ok .i64) (allCons (rInt_ok .i64) (allCons (rRow_ok 5) allNil))))))) (eCons (eBlkC_ok api_StopC_ok api_StopC_len) (eCons (eRow_ok api_BrakeC_ok) eNil))))))⟩, (xCons ⟨(drCons 6 (allCons rBool_ok (drCons 154 allNil))), eNil⟩ xNil)⟩
def newellaw01_DriveBetter_h100002 (v522 : api_Stop) (v523 : newellaw01_Better) (v524 : api_Span) (v525 : Bool) (v526 : Int) (v527 : Int) (v528 : Int) (v529 : Int) (v530 : api_Stop) (v531 : Bool) (v532 : Arr api_Brake) : St := ⟨(un 4 ((.ptr 0 0) :: (.ptr 1 0) :: (un 1 ((.ptr 2 0) :: (un 2 ((.ptr 3 0) :: (.ptr 4 0) :: (un 149 []))))))), [(0, .blk (Cod.enc api_StopC v522)), (1, .blk (Cod.enc newellaw01_BetterC v523)), (2, .blk (Cod.enc api_SpanC v524)), (3, .blk [.bool v525, .int .i64 v526, .int .i64 v527, .int .i64 v528, .int .i64 v529, .row 5]), (4, .blk (Cod.enc api_StopC v530)), (5, rowE api_BrakeC v531 v532)], 6⟩
def newellaw01_DriveBetter_x100002_r (q0 : Bool) : St := ⟨(un 6 ((.bool q0) :: (un 154 []))), [], 0⟩
def newellaw01_DriveBetter_j2_m {R : Type} (N : Nat) (v522 : api_Stop) (v523 : newellaw01_Better) (v524 : api_Span) (v525 : Bool) (v526 : Int) (v527 : Int) (v528 : Int) (v529 : Int) (v530 : api_Stop) (v531 : Bool) (v532 : Arr api_Brake) (kr : Bool → Option R) : Option R :=
  bif decide (api_Span.Low (newellaw01_Better.Loads v523) ≥ api_Span.Low (api_Stop.Loads v522)) then
   bif decide (api_Span.Low (newellaw01_Better.Loads v523) ≤ api_Span.High (newellaw01_Better.Loads v523)) then
    bif decide (api_Span.High (newellaw01_Better.Loads v523) ≤ api_Span.High (api_Stop.Loads v522)) then
     newellaw01_DriveBetter_j3 N v524 v525 v526 v527 v528 v529 (api_Stop.mk (api_Stop.Speed v530) (newellaw01_Better.Loads v523) (api_Stop.Fail v530)) v531 v532 (fun r546 =>
      kr r546)
    else
     newellaw01_DriveBetter_j3 N v524 v525 v526 v527 v528 v529 v530 v531 v532 (fun r547 =>
      kr r547)
   else
    newellaw01_DriveBetter_j3 N v524 v525 v526 v527 v528 v529 v530 v531 v532 (fun r548 =>
     kr r548)
  else
   newellaw01_DriveBetter_j3 N v524 v525 v526 v527 v528 v529 v530 v531 v532 (fun r549 =>
    kr r549)
noncomputable def newellaw01_DriveBetter_j2 {R : Type} : Nat → api_Stop → newellaw01_Better → api_Span → Bool → Int → Int → Int → Int → api_Stop → Bool → Arr api_Brake → (Bool → Option R) → Option R := lock (@newellaw01_DriveBetter_j2_m R)
theorem newellaw01_DriveBetter_j2_def {R : Type} (N : Nat) (v522 : api_Stop) (v523 : newellaw01_Better) (v524 : api_Span) (v525 : Bool) (v526 : Int) (v527 : Int) (v528 : Int) (v529 : Int) (v530 : api_Stop) (v531 : Bool) (v532 : Arr api_Brake) (kr : Bool → Option R) : newellaw01_DriveBetter_j2 N v522 v523 v524 v525 v526 v527 v528 v529 v530 v531 v532 kr = newellaw01_DriveBetter_j2_m N v522 v523 v524 v525 v526 v527 v528 v529 v530 v531 v532 kr := by unfold newellaw01_DriveBetter_j2; rw [lock_eq]

def newellaw01_DriveBetter_L100001 : LoopSp := ⟨⟨[4, 5, 7, 10, 11], ⟨(dr 4 ((rPtr 0 0) :: (rPtr 1 0) :: (dr 1 ((rPtr 2 0) :: (dr 2 ((rPtr 3 0) :: (rPtr 4 0) :: (dr 149 []))))))), [(0, eBlkC api_StopC), (1, eBlkC newellaw01_BetterC), (2, eBlkC api_SpanC), (3, eBlk [rBool, rInt .i64, rInt .i64, rInt .i64, rInt .i64, rRow 5]), (4, eBlkC api_StopC), (5, eRow api_BrakeC)]⟩, 6⟩, [(Option.none, ⟨[6], ⟨(dr 6 ((rBool) :: (dr 154 []))), []⟩, 0⟩)]⟩
theorem newellaw01_DriveBetter_L100001_ok : newellaw01_DriveBetter_L100001.Ok := ⟨⟨(drCons 4 (allCons (rPtr_ok 0 0) (allCons (rPtr_ok 1 0) (drCons 1 (allCons (rPtr_ok 2 0) (drCons 2 (allCons (rPtr_ok 3 0) (allCons (rPtr_ok 4 0) (drCons 149 allNil))))))))), (eCons (eBlkC_ok api_StopC_ok api_StopC_len) (eCons (eBlkC_ok newellaw01_BetterC_ok newellaw01_BetterC_len) (eCons (eBlkC_ok api_SpanC_ok api_SpanC_len) (eCons (eBlk_ok (allCons rBool_ok (allCons (rInt_ok .i64) (allCons (rInt_ok .i64) (allCons (rInt_ok .i64) (allCons (rInt_ok .i64) (allCons (rRow_ok 5) allNil))))))) (eCons (eBlkC_ok api_StopC_ok api_StopC_len) (eCons (eRow_ok api_BrakeC_ok) eNil))))))⟩, (xCons ⟨(drCons 6 (allCons rBool_ok (drCons 154 allNil))), eNil⟩ xNil)⟩
def newellaw01_DriveBetter_h100001 (v511 : api_Stop) (v512 : newellaw01_Better) (v513 : api_Span) (v514 : Bool) (v515 : Int) (v516 : Int) (v517 : Int) (v518 : Int) (v519 : api_Stop) (v520 : Bool) (v521 : Arr api_Brake) : St := ⟨(un 4 ((.ptr 0 0) :: (.ptr 1 0) :: (un 1 ((.ptr 2 0) :: (un 2 ((.ptr 3 0) :: (.ptr 4 0) :: (un 149 []))))))), [(0, .blk (Cod.enc api_StopC v511)), (1, .blk (Cod.enc newellaw01_BetterC v512)), (2, .blk (Cod.enc api_SpanC v513)), (3, .blk [.bool v514, .int .i64 v515, .int .i64 v516, .int .i64 v517, .int .i64 v518, .row 5]), (4, .blk (Cod.enc api_StopC v519)), (5, rowE api_BrakeC v520 v521)], 6⟩
def newellaw01_DriveBetter_x100001_r (q0 : Bool) : St := ⟨(un 6 ((.bool q0) :: (un 154 []))), [], 0⟩
def newellaw01_DriveBetter_j1_m {R : Type} (N : Nat) (v511 : api_Stop) (v512 : newellaw01_Better) (v513 : api_Span) (v514 : Bool) (v515 : Int) (v516 : Int) (v517 : Int) (v518 : Int) (v519 : api_Stop) (v520 : Bool) (v521 : Arr api_Brake) (kr : Bool → Option R) : Option R :=
  bif decide (newellaw01_Better.Slower v512 ≥ (0 : Int)) then
   bif decide (newellaw01_Better.Slower v512 ≤ api_Stop.Speed v511) then
    newellaw01_DriveBetter_j2 N v511 v512 v513 v514 v515 v516 v517 v518 (api_Stop.mk (newellaw01_Better.Slower v512) (api_Stop.Loads v519) (w64 (↑(BitVec.toNat (BitVec.ofInt (IntKind.bits IntKind.i64) (api_Stop.Fail v519) &&& ~~~BitVec.ofInt (IntKind.bits IntKind.i64) (newellaw01_Better.Mended v512))) : Int))) v520 v521 (fun r550 =>
     kr r550)
   else
    newellaw01_DriveBetter_j2 N v511 v512 v513 v514 v515 v516 v517 v518 (api_Stop.mk (api_Stop.Speed v519) (api_Stop.Loads v519) (w64 (↑(BitVec.toNat (BitVec.ofInt (IntKind.bits IntKind.i64) (api_Stop.Fail v519) &&& ~~~BitVec.ofInt (IntKind.bits IntKind.i64) (newellaw01_Better.Mended v512))) : Int))) v520 v521 (fun r551 =>
     kr r551)
  else
   newellaw01_DriveBetter_j2 N v511 v512 v513 v514 v515 v516 v517 v518 (api_Stop.mk (api_Stop.Speed v519) (api_Stop.Loads v519) (w64 (↑(BitVec.toNat (BitVec.ofInt (IntKind.bits IntKind.i64) (api_Stop.Fail v519) &&& ~~~BitVec.ofInt (IntKind.bits IntKind.i64) (newellaw01_Better.Mended v512))) : Int))) v520 v521 (fun r552 =>
    kr r552)
noncomputable def newellaw01_DriveBetter_j1 {R : Type} : Nat → api_Stop → newellaw01_Better → api_Span → Bool → Int → Int → Int → Int → api_Stop → Bool → Arr api_Brake → (Bool → Option R) → Option R := lock (@newellaw01_DriveBetter_j1_m R)
theorem newellaw01_DriveBetter_j1_def {R : Type} (N : Nat) (v511 : api_Stop) (v512 : newellaw01_Better) (v513 : api_Span) (v514 : Bool) (v515 : Int) (v516 : Int) (v517 : Int) (v518 : Int) (v519 : api_Stop) (v520 : Bool) (v521 : Arr api_Brake) (kr : Bool → Option R) : newellaw01_DriveBetter_j1 N v511 v512 v513 v514 v515 v516 v517 v518 v519 v520 v521 kr = newellaw01_DriveBetter_j1_m N v511 v512 v513 v514 v515 v516 v517 v518 v519 v520 v521 kr := by unfold newellaw01_DriveBetter_j1; rw [lock_eq]


def newellaw01_DriveBetter_m {R : Type} (N : Nat) (a487 : api_Escalator) (a488 : api_Stop) (a489 : newellaw01_Better) (k : Bool → Option R) : Option R :=
  newellaw01_Far N a487 (fun r490 =>
  bif r490 then
   newellaw01_works N  (fun r491 =>
   k r491)
  else
   newelref01_CheckStop N a487 a488 (fun r492 =>
   bif r492 != (0 : Int) then
    newellaw01_works N  (fun r493 =>
    k r493)
   else
    drive_Distance N a487 a488 (fun r494 r495 r496 =>
    bif r496 != (0 : Int) then
     bif r496 == (12 : Int) then
      newellaw01_works N  (fun r497 =>
      k r497)
     else
      k false
    else
     bif room ((0 : Nat) + Arr.n (api_Escalator.Brakes a487)) then
      bif decide (newellaw01_Better.Brake a489 ≥ (0 : Int)) then
       bif decide (newellaw01_Better.Brake a489 < (↑((0 : Nat) + Arr.n (api_Escalator.Brakes a487)) : Int)) then
        bif decide ((0 : Int) ≤ newellaw01_Better.Brake a489) && decide (newellaw01_Better.Brake a489 < (↑((0 : Nat) + Arr.n (api_Escalator.Brakes a487)) : Int)) then
         bif decide (newellaw01_Better.Force a489 ≥ api_Brake.Force (Arr.f (api_Escalator.Brakes a487) (Int.toNat (newellaw01_Better.Brake a489) - (0 : Nat)))) then
          bif decide (newellaw01_Better.Force a489 ≤ (10000000 : Int)) then
           newellaw01_DriveBetter_j0 N a488 a489 r494 (api_Escalator.Up a487) (api_Escalator.Empty a487) (api_Escalator.Pull a487) (api_Escalator.Drag a487) (api_Escalator.Motor a487) a488 (api_Brake.mk (newellaw01_Better.Force a489) (api_Brake.Delay (Arr.f (api_Escalator.Brakes a487) (Int.toNat (newellaw01_Better.Brake a489) - (0 : Nat))))) (bif Arr.n (api_Escalator.Brakes a487) == (0 : Nat) then false else false) (lst api_BrakeC ((0 : Nat) + Arr.n (api_Escalator.Brakes a487)) (catC (0 : Nat) (litC [SV.int IntKind.i64 (0 : Int), SV.int IntKind.i64 (0 : Int)] []) (Cod.cell api_BrakeC (Arr.f (api_Escalator.Brakes a487))))) (fun r510 =>
            newellaw01_DriveBetter_j1 N a488 a489 r494 (api_Escalator.Up a487) (api_Escalator.Empty a487) (api_Escalator.Pull a487) (api_Escalator.Drag a487) (api_Escalator.Motor a487) a488 (bif Arr.n (api_Escalator.Brakes a487) == (0 : Nat) then false else false) r510 (fun r553 =>
             k r553))
          else
           newellaw01_DriveBetter_j0 N a488 a489 r494 (api_Escalator.Up a487) (api_Escalator.Empty a487) (api_Escalator.Pull a487) (api_Escalator.Drag a487) (api_Escalator.Motor a487) a488 (api_Brake.mk (api_Brake.Force (Arr.f (api_Escalator.Brakes a487) (Int.toNat (newellaw01_Better.Brake a489) - (0 : Nat)))) (api_Brake.Delay (Arr.f (api_Escalator.Brakes a487) (Int.toNat (newellaw01_Better.Brake a489) - (0 : Nat))))) (bif Arr.n (api_Escalator.Brakes a487) == (0 : Nat) then false else false) (lst api_BrakeC ((0 : Nat) + Arr.n (api_Escalator.Brakes a487)) (catC (0 : Nat) (litC [SV.int IntKind.i64 (0 : Int), SV.int IntKind.i64 (0 : Int)] []) (Cod.cell api_BrakeC (Arr.f (api_Escalator.Brakes a487))))) (fun r554 =>
            newellaw01_DriveBetter_j1 N a488 a489 r494 (api_Escalator.Up a487) (api_Escalator.Empty a487) (api_Escalator.Pull a487) (api_Escalator.Drag a487) (api_Escalator.Motor a487) a488 (bif Arr.n (api_Escalator.Brakes a487) == (0 : Nat) then false else false) r554 (fun r555 =>
             k r555))
         else
          newellaw01_DriveBetter_j0 N a488 a489 r494 (api_Escalator.Up a487) (api_Escalator.Empty a487) (api_Escalator.Pull a487) (api_Escalator.Drag a487) (api_Escalator.Motor a487) a488 (api_Brake.mk (api_Brake.Force (Arr.f (api_Escalator.Brakes a487) (Int.toNat (newellaw01_Better.Brake a489) - (0 : Nat)))) (api_Brake.Delay (Arr.f (api_Escalator.Brakes a487) (Int.toNat (newellaw01_Better.Brake a489) - (0 : Nat))))) (bif Arr.n (api_Escalator.Brakes a487) == (0 : Nat) then false else false) (lst api_BrakeC ((0 : Nat) + Arr.n (api_Escalator.Brakes a487)) (catC (0 : Nat) (litC [SV.int IntKind.i64 (0 : Int), SV.int IntKind.i64 (0 : Int)] []) (Cod.cell api_BrakeC (Arr.f (api_Escalator.Brakes a487))))) (fun r556 =>
           newellaw01_DriveBetter_j1 N a488 a489 r494 (api_Escalator.Up a487) (api_Escalator.Empty a487) (api_Escalator.Pull a487) (api_Escalator.Drag a487) (api_Escalator.Motor a487) a488 (bif Arr.n (api_Escalator.Brakes a487) == (0 : Nat) then false else false) r556 (fun r557 =>
            k r557))
        else
         Option.none
       else
        newellaw01_DriveBetter_j1 N a488 a489 r494 (api_Escalator.Up a487) (api_Escalator.Empty a487) (api_Escalator.Pull a487) (api_Escalator.Drag a487) (api_Escalator.Motor a487) a488 (bif Arr.n (api_Escalator.Brakes a487) == (0 : Nat) then false else false) (lst api_BrakeC ((0 : Nat) + Arr.n (api_Escalator.Brakes a487)) (catC (0 : Nat) (litC [SV.int IntKind.i64 (0 : Int), SV.int IntKind.i64 (0 : Int)] []) (Cod.cell api_BrakeC (Arr.f (api_Escalator.Brakes a487))))) (fun r558 =>
         k r558)
      else
       newellaw01_DriveBetter_j1 N a488 a489 r494 (api_Escalator.Up a487) (api_Escalator.Empty a487) (api_Escalator.Pull a487) (api_Escalator.Drag a487) (api_Escalator.Motor a487) a488 (bif Arr.n (api_Escalator.Brakes a487) == (0 : Nat) then false else false) (lst api_BrakeC ((0 : Nat) + Arr.n (api_Escalator.Brakes a487)) (catC (0 : Nat) (litC [SV.int IntKind.i64 (0 : Int), SV.int IntKind.i64 (0 : Int)] []) (Cod.cell api_BrakeC (Arr.f (api_Escalator.Brakes a487))))) (fun r559 =>
        k r559)
     else
      Option.none)))
noncomputable def newellaw01_DriveBetter {R : Type} : Nat → api_Escalator → api_Stop → newellaw01_Better → (Bool → Option R) → Option R := lock (@newellaw01_DriveBetter_m R)
theorem newellaw01_DriveBetter_def {R : Type} (N : Nat) (a487 : api_Escalator) (a488 : api_Stop) (a489 : newellaw01_Better) (k : Bool → Option R) : newellaw01_DriveBetter N a487 a488 a489 k = newellaw01_DriveBetter_m N a487 a488 a489 k := by unfold newellaw01_DriveBetter; rw [lock_eq]
def newellaw01_DriveBetter_sp : Sp := ⟨[rAgg api_EscalatorC, rAgg api_StopC, rAgg newellaw01_BetterC], []⟩
theorem newellaw01_DriveBetter_sp_ok : newellaw01_DriveBetter_sp.Ok := ⟨(allCons (rAgg_ok api_EscalatorC_ok api_EscalatorC_len) (allCons (rAgg_ok api_StopC_ok api_StopC_len) (allCons (rAgg_ok newellaw01_BetterC_ok newellaw01_BetterC_len) allNil))), eNil⟩
def newellaw01_DriveBetter_rs : Sp := ⟨[rBool], []⟩
theorem newellaw01_DriveBetter_rs_ok : newellaw01_DriveBetter_rs.Ok := ⟨(allCons rBool_ok allNil), eNil⟩
def newellaw01_DriveBetter_run {R : Type} (N : Nat) (args : List SV) (T : Tab) (kf : SV × Tab → Option R) : Option R :=
  newellaw01_DriveBetter_m N (Cod.dec api_EscalatorC (lget (toCs (lget args 0)))) (Cod.dec api_StopC (lget (toCs (lget args 1)))) (Cod.dec newellaw01_BetterC (lget (toCs (lget args 2)))) (fun q0 => kf (lget [.bool q0] 0, []))
def newellaw01_DriveBetter_d100003 {R : Type} (N : Nat) (S0 : St) (k : Exit → St → Option R) : Option R :=
  newellaw01_DriveBetter_j3 N (Cod.dec api_SpanC (lget (entCs (entAt S0.tab 0)))) (toB (lget (entCs (entAt S0.tab 1)) 0)) (toI (lget (entCs (entAt S0.tab 1)) 1)) (toI (lget (entCs (entAt S0.tab 1)) 2)) (toI (lget (entCs (entAt S0.tab 1)) 3)) (toI (lget (entCs (entAt S0.tab 1)) 4)) (Cod.dec api_StopC (lget (entCs (entAt S0.tab 2)))) (entNl (entAt S0.tab 3)) (lst api_BrakeC (entN (entAt S0.tab 3)) (entC (entAt S0.tab 3))) (fun q0 => k .ret (newellaw01_DriveBetter_x100003_r q0))
def newellaw01_DriveBetter_d100002 {R : Type} (N : Nat) (S0 : St) (k : Exit → St → Option R) : Option R :=
  newellaw01_DriveBetter_j2 N (Cod.dec api_StopC (lget (entCs (entAt S0.tab 0)))) (Cod.dec newellaw01_BetterC (lget (entCs (entAt S0.tab 1)))) (Cod.dec api_SpanC (lget (entCs (entAt S0.tab 2)))) (toB (lget (entCs (entAt S0.tab 3)) 0)) (toI (lget (entCs (entAt S0.tab 3)) 1)) (toI (lget (entCs (entAt S0.tab 3)) 2)) (toI (lget (entCs (entAt S0.tab 3)) 3)) (toI (lget (entCs (entAt S0.tab 3)) 4)) (Cod.dec api_StopC (lget (entCs (entAt S0.tab 4)))) (entNl (entAt S0.tab 5)) (lst api_BrakeC (entN (entAt S0.tab 5)) (entC (entAt S0.tab 5))) (fun q0 => k .ret (newellaw01_DriveBetter_x100002_r q0))
def newellaw01_DriveBetter_d100001 {R : Type} (N : Nat) (S0 : St) (k : Exit → St → Option R) : Option R :=
  newellaw01_DriveBetter_j1 N (Cod.dec api_StopC (lget (entCs (entAt S0.tab 0)))) (Cod.dec newellaw01_BetterC (lget (entCs (entAt S0.tab 1)))) (Cod.dec api_SpanC (lget (entCs (entAt S0.tab 2)))) (toB (lget (entCs (entAt S0.tab 3)) 0)) (toI (lget (entCs (entAt S0.tab 3)) 1)) (toI (lget (entCs (entAt S0.tab 3)) 2)) (toI (lget (entCs (entAt S0.tab 3)) 3)) (toI (lget (entCs (entAt S0.tab 3)) 4)) (Cod.dec api_StopC (lget (entCs (entAt S0.tab 4)))) (entNl (entAt S0.tab 5)) (lst api_BrakeC (entN (entAt S0.tab 5)) (entC (entAt S0.tab 5))) (fun q0 => k .ret (newellaw01_DriveBetter_x100001_r q0))
def newellaw01_DriveBetter_d100000 {R : Type} (N : Nat) (S0 : St) (k : Exit → St → Option R) : Option R :=
  newellaw01_DriveBetter_j0 N (Cod.dec api_StopC (lget (entCs (entAt S0.tab 0)))) (Cod.dec newellaw01_BetterC (lget (entCs (entAt S0.tab 1)))) (Cod.dec api_SpanC (lget (entCs (entAt S0.tab 2)))) (toB (lget (entCs (entAt S0.tab 3)) 0)) (toI (lget (entCs (entAt S0.tab 3)) 1)) (toI (lget (entCs (entAt S0.tab 3)) 2)) (toI (lget (entCs (entAt S0.tab 3)) 3)) (toI (lget (entCs (entAt S0.tab 3)) 4)) (Cod.dec api_StopC (lget (entCs (entAt S0.tab 4)))) (Cod.dec api_BrakeC (lget (entCs (entAt S0.tab 5)))) (entNl (entAt S0.tab 6)) (lst api_BrakeC (entN (entAt S0.tab 6)) (entC (entAt S0.tab 6))) (fun q10 => k .normal (newellaw01_DriveBetter_x100000_n (Cod.dec api_StopC (lget (entCs (entAt S0.tab 0)))) (Cod.dec newellaw01_BetterC (lget (entCs (entAt S0.tab 1)))) (Cod.dec api_SpanC (lget (entCs (entAt S0.tab 2)))) (toB (lget (entCs (entAt S0.tab 3)) 0)) (toI (lget (entCs (entAt S0.tab 3)) 1)) (toI (lget (entCs (entAt S0.tab 3)) 2)) (toI (lget (entCs (entAt S0.tab 3)) 3)) (toI (lget (entCs (entAt S0.tab 3)) 4)) (Cod.dec api_StopC (lget (entCs (entAt S0.tab 4)))) (entNl (entAt S0.tab 6)) q10))
def newellaw01_DriveBetter_lp {R : Type} (N : Nat) : Lp R := fun body S k => Option.none
def newellaw01_DriveBetter_jn {R : Type} (N : Nat) : Jn R := fun b => bif isJ 12 7 b then some (fun S k => newellaw01_DriveBetter_L100000.head.raw 0 S (fun S0 => newellaw01_DriveBetter_d100000 N S0 k)) else bif isJ 15 19 b then some (fun S k => newellaw01_DriveBetter_L100001.head.raw 0 S (fun S0 => newellaw01_DriveBetter_d100001 N S0 k)) else bif isJ 18 11 b then some (fun S k => newellaw01_DriveBetter_L100002.head.raw 0 S (fun S0 => newellaw01_DriveBetter_d100002 N S0 k)) else bif isJ 20 5 b then some (fun S k => newellaw01_DriveBetter_L100003.head.raw 0 S (fun S0 => newellaw01_DriveBetter_d100003 N S0 k)) else Option.none
theorem newellaw01_DriveBetter_j0_eq {R : Type} (N : Nat) (k : Exit → St → Option R) : ∀ (v0 : api_Stop) (v1 : newellaw01_Better) (v2 : api_Span) (v3 : Bool) (v4 : Int) (v5 : Int) (v6 : Int) (v7 : Int) (v8 : api_Stop) (v9 : api_Brake) (v10 : Bool) (v11 : Arr api_Brake), joinM E.Θ (newelref01_Legal_cal N) (newellaw01_DriveBetter_lp N) (newellaw01_DriveBetter_jn N) 0 newellaw01_DriveBetter_L100000 (joinAt E 3 (12, 7)) (newellaw01_DriveBetter_h100000 v0 v1 v2 v3 v4 v5 v6 v7 v8 v9 v10 v11) k = newellaw01_DriveBetter_j0 N v0 v1 v2 v3 v4 v5 v6 v7 v8 v9 v10 v11 (fun q10 => k .normal (newellaw01_DriveBetter_x100000_n v0 v1 v2 v3 v4 v5 v6 v7 v8 v10 q10)) := by
  intro v0 v1 v2 v3 v4 v5 v6 v7 v8 v9 v10 v11; exact Eq.trans (b := newellaw01_DriveBetter_j0_m N v0 v1 v2 v3 v4 v5 v6 v7 v8 v9 v10 v11 (fun q10 => k .normal (newellaw01_DriveBetter_x100000_n v0 v1 v2 v3 v4 v5 v6 v7 v8 v10 q10))) (by kernel_rfl) (newellaw01_DriveBetter_j0_def N v0 v1 v2 v3 v4 v5 v6 v7 v8 v9 v10 v11 (fun q10 => k .normal (newellaw01_DriveBetter_x100000_n v0 v1 v2 v3 v4 v5 v6 v7 v8 v10 q10))).symm
theorem newellaw01_DriveBetter_j1_eq {R : Type} (N : Nat) (k : Exit → St → Option R) : ∀ (v0 : api_Stop) (v1 : newellaw01_Better) (v2 : api_Span) (v3 : Bool) (v4 : Int) (v5 : Int) (v6 : Int) (v7 : Int) (v8 : api_Stop) (v9 : Bool) (v10 : Arr api_Brake), joinM E.Θ (newelref01_Legal_cal N) (newellaw01_DriveBetter_lp N) (newellaw01_DriveBetter_jn N) 0 newellaw01_DriveBetter_L100001 (joinAt E 3 (15, 19)) (newellaw01_DriveBetter_h100001 v0 v1 v2 v3 v4 v5 v6 v7 v8 v9 v10) k = newellaw01_DriveBetter_j1 N v0 v1 v2 v3 v4 v5 v6 v7 v8 v9 v10 (fun q0 => k .ret (newellaw01_DriveBetter_x100001_r q0)) := by
  intro v0 v1 v2 v3 v4 v5 v6 v7 v8 v9 v10; exact Eq.trans (b := newellaw01_DriveBetter_j1_m N v0 v1 v2 v3 v4 v5 v6 v7 v8 v9 v10 (fun q0 => k .ret (newellaw01_DriveBetter_x100001_r q0))) (by kernel_rfl) (newellaw01_DriveBetter_j1_def N v0 v1 v2 v3 v4 v5 v6 v7 v8 v9 v10 (fun q0 => k .ret (newellaw01_DriveBetter_x100001_r q0))).symm
theorem newellaw01_DriveBetter_j2_eq {R : Type} (N : Nat) (k : Exit → St → Option R) : ∀ (v0 : api_Stop) (v1 : newellaw01_Better) (v2 : api_Span) (v3 : Bool) (v4 : Int) (v5 : Int) (v6 : Int) (v7 : Int) (v8 : api_Stop) (v9 : Bool) (v10 : Arr api_Brake), joinM E.Θ (newelref01_Legal_cal N) (newellaw01_DriveBetter_lp N) (newellaw01_DriveBetter_jn N) 0 newellaw01_DriveBetter_L100002 (joinAt E 3 (18, 11)) (newellaw01_DriveBetter_h100002 v0 v1 v2 v3 v4 v5 v6 v7 v8 v9 v10) k = newellaw01_DriveBetter_j2 N v0 v1 v2 v3 v4 v5 v6 v7 v8 v9 v10 (fun q0 => k .ret (newellaw01_DriveBetter_x100002_r q0)) := by
  intro v0 v1 v2 v3 v4 v5 v6 v7 v8 v9 v10; exact Eq.trans (b := newellaw01_DriveBetter_j2_m N v0 v1 v2 v3 v4 v5 v6 v7 v8 v9 v10 (fun q0 => k .ret (newellaw01_DriveBetter_x100002_r q0))) (by kernel_rfl) (newellaw01_DriveBetter_j2_def N v0 v1 v2 v3 v4 v5 v6 v7 v8 v9 v10 (fun q0 => k .ret (newellaw01_DriveBetter_x100002_r q0))).symm
theorem newellaw01_DriveBetter_j3_eq {R : Type} (N : Nat) (k : Exit → St → Option R) : ∀ (v0 : api_Span) (v1 : Bool) (v2 : Int) (v3 : Int) (v4 : Int) (v5 : Int) (v6 : api_Stop) (v7 : Bool) (v8 : Arr api_Brake), joinM E.Θ (newelref01_Legal_cal N) (newellaw01_DriveBetter_lp N) (newellaw01_DriveBetter_jn N) 0 newellaw01_DriveBetter_L100003 (joinAt E 3 (20, 5)) (newellaw01_DriveBetter_h100003 v0 v1 v2 v3 v4 v5 v6 v7 v8) k = newellaw01_DriveBetter_j3 N v0 v1 v2 v3 v4 v5 v6 v7 v8 (fun q0 => k .ret (newellaw01_DriveBetter_x100003_r q0)) := by
  intro v0 v1 v2 v3 v4 v5 v6 v7 v8; exact Eq.trans (b := newellaw01_DriveBetter_j3_m N v0 v1 v2 v3 v4 v5 v6 v7 v8 (fun q0 => k .ret (newellaw01_DriveBetter_x100003_r q0))) (by kernel_rfl) (newellaw01_DriveBetter_j3_def N v0 v1 v2 v3 v4 v5 v6 v7 v8 (fun q0 => k .ret (newellaw01_DriveBetter_x100003_r q0))).symm
theorem newellaw01_DriveBetter_q3 {R : Type} (N : Nat) : JnKey (R := R) E 3 0 (newellaw01_DriveBetter_jn N) (20, 5) :=
  jnKey_of hE (newelref01_Legal_cal_ok N) (lp := newellaw01_DriveBetter_lp N) (jn := newellaw01_DriveBetter_jn N) newellaw01_DriveBetter_L100003_ok [] kNil (by kernel_rfl) [] jNil (by kernel_rfl) (fun S k => newellaw01_DriveBetter_L100003.head.raw 0 S (fun S0 => newellaw01_DriveBetter_d100003 N S0 k)) (by kernel_rfl) fun S k =>
    congrArg (newellaw01_DriveBetter_L100003.head.raw 0 S) (funext fun S0 => Eq.trans (newellaw01_DriveBetter_j3_eq N k (Cod.dec api_SpanC (lget (entCs (entAt S0.tab 0)))) (toB (lget (entCs (entAt S0.tab 1)) 0)) (toI (lget (entCs (entAt S0.tab 1)) 1)) (toI (lget (entCs (entAt S0.tab 1)) 2)) (toI (lget (entCs (entAt S0.tab 1)) 3)) (toI (lget (entCs (entAt S0.tab 1)) 4)) (Cod.dec api_StopC (lget (entCs (entAt S0.tab 2)))) (entNl (entAt S0.tab 3)) (lst api_BrakeC (entN (entAt S0.tab 3)) (entC (entAt S0.tab 3)))).symm (by kernel_rfl))
theorem newellaw01_DriveBetter_q0 {R : Type} (N : Nat) : JnKey (R := R) E 3 0 (newellaw01_DriveBetter_jn N) (12, 7) :=
  jnKey_of hE (newelref01_Legal_cal_ok N) (lp := newellaw01_DriveBetter_lp N) (jn := newellaw01_DriveBetter_jn N) newellaw01_DriveBetter_L100000_ok [] kNil (by kernel_rfl) [] jNil (by kernel_rfl) (fun S k => newellaw01_DriveBetter_L100000.head.raw 0 S (fun S0 => newellaw01_DriveBetter_d100000 N S0 k)) (by kernel_rfl) fun S k =>
    congrArg (newellaw01_DriveBetter_L100000.head.raw 0 S) (funext fun S0 => Eq.trans (newellaw01_DriveBetter_j0_eq N k (Cod.dec api_StopC (lget (entCs (entAt S0.tab 0)))) (Cod.dec newellaw01_BetterC (lget (entCs (entAt S0.tab 1)))) (Cod.dec api_SpanC (lget (entCs (entAt S0.tab 2)))) (toB (lget (entCs (entAt S0.tab 3)) 0)) (toI (lget (entCs (entAt S0.tab 3)) 1)) (toI (lget (entCs (entAt S0.tab 3)) 2)) (toI (lget (entCs (entAt S0.tab 3)) 3)) (toI (lget (entCs (entAt S0.tab 3)) 4)) (Cod.dec api_StopC (lget (entCs (entAt S0.tab 4)))) (Cod.dec api_BrakeC (lget (entCs (entAt S0.tab 5)))) (entNl (entAt S0.tab 6)) (lst api_BrakeC (entN (entAt S0.tab 6)) (entC (entAt S0.tab 6)))).symm (by kernel_rfl))
theorem newellaw01_DriveBetter_q2 {R : Type} (N : Nat) : JnKey (R := R) E 3 0 (newellaw01_DriveBetter_jn N) (18, 11) :=
  jnKey_of hE (newelref01_Legal_cal_ok N) (lp := newellaw01_DriveBetter_lp N) (jn := newellaw01_DriveBetter_jn N) newellaw01_DriveBetter_L100002_ok [] kNil (by kernel_rfl) [(20, 5)] (jCons (newellaw01_DriveBetter_q3 N) jNil) (by kernel_rfl) (fun S k => newellaw01_DriveBetter_L100002.head.raw 0 S (fun S0 => newellaw01_DriveBetter_d100002 N S0 k)) (by kernel_rfl) fun S k =>
    congrArg (newellaw01_DriveBetter_L100002.head.raw 0 S) (funext fun S0 => Eq.trans (newellaw01_DriveBetter_j2_eq N k (Cod.dec api_StopC (lget (entCs (entAt S0.tab 0)))) (Cod.dec newellaw01_BetterC (lget (entCs (entAt S0.tab 1)))) (Cod.dec api_SpanC (lget (entCs (entAt S0.tab 2)))) (toB (lget (entCs (entAt S0.tab 3)) 0)) (toI (lget (entCs (entAt S0.tab 3)) 1)) (toI (lget (entCs (entAt S0.tab 3)) 2)) (toI (lget (entCs (entAt S0.tab 3)) 3)) (toI (lget (entCs (entAt S0.tab 3)) 4)) (Cod.dec api_StopC (lget (entCs (entAt S0.tab 4)))) (entNl (entAt S0.tab 5)) (lst api_BrakeC (entN (entAt S0.tab 5)) (entC (entAt S0.tab 5)))).symm (by kernel_rfl))
theorem newellaw01_DriveBetter_q1 {R : Type} (N : Nat) : JnKey (R := R) E 3 0 (newellaw01_DriveBetter_jn N) (15, 19) :=
  jnKey_of hE (newelref01_Legal_cal_ok N) (lp := newellaw01_DriveBetter_lp N) (jn := newellaw01_DriveBetter_jn N) newellaw01_DriveBetter_L100001_ok [] kNil (by kernel_rfl) [(18, 11), (20, 5)] (jCons (newellaw01_DriveBetter_q2 N) (jCons (newellaw01_DriveBetter_q3 N) jNil)) (by kernel_rfl) (fun S k => newellaw01_DriveBetter_L100001.head.raw 0 S (fun S0 => newellaw01_DriveBetter_d100001 N S0 k)) (by kernel_rfl) fun S k =>
    congrArg (newellaw01_DriveBetter_L100001.head.raw 0 S) (funext fun S0 => Eq.trans (newellaw01_DriveBetter_j1_eq N k (Cod.dec api_StopC (lget (entCs (entAt S0.tab 0)))) (Cod.dec newellaw01_BetterC (lget (entCs (entAt S0.tab 1)))) (Cod.dec api_SpanC (lget (entCs (entAt S0.tab 2)))) (toB (lget (entCs (entAt S0.tab 3)) 0)) (toI (lget (entCs (entAt S0.tab 3)) 1)) (toI (lget (entCs (entAt S0.tab 3)) 2)) (toI (lget (entCs (entAt S0.tab 3)) 3)) (toI (lget (entCs (entAt S0.tab 3)) 4)) (Cod.dec api_StopC (lget (entCs (entAt S0.tab 4)))) (entNl (entAt S0.tab 5)) (lst api_BrakeC (entN (entAt S0.tab 5)) (entC (entAt S0.tab 5)))).symm (by kernel_rfl))
noncomputable def newellaw01_DriveBetter_go {R : Type} (N : Nat) (args : List SV) (T : Tab) (kf : SV × Tab → Option R) : Option R :=
  newellaw01_DriveBetter N (Cod.dec api_EscalatorC (lget (toCs (lget args 0)))) (Cod.dec api_StopC (lget (toCs (lget args 1)))) (Cod.dec newellaw01_BetterC (lget (toCs (lget args 2)))) (fun q0 => kf (lget [.bool q0] 0, []))
noncomputable def newellaw01_DriveBetter_cal {R : Type} (N : Nat) : Cal R := callM (newelref01_Legal_cal N) 3 0 newellaw01_DriveBetter_sp (newellaw01_DriveBetter_go N)
theorem newellaw01_DriveBetter_cal_ok {R : Type} (N : Nat) : CalOk E.P (newellaw01_DriveBetter_cal (R := R) N) :=
  callM_ok hE (newelref01_Legal_cal_ok N) (lp := newellaw01_DriveBetter_lp N) (jn := newellaw01_DriveBetter_jn N) (keys := []) kNil (by kernel_rfl) (js := [(12, 7), (15, 19), (18, 11), (20, 5)]) (jCons (newellaw01_DriveBetter_q0 N) (jCons (newellaw01_DriveBetter_q1 N) (jCons (newellaw01_DriveBetter_q2 N) (jCons (newellaw01_DriveBetter_q3 N) jNil)))) (by kernel_rfl) newellaw01_DriveBetter_sp_ok newellaw01_DriveBetter_rs_ok (fun args T kf => Eq.trans (newellaw01_DriveBetter_def N (Cod.dec api_EscalatorC (lget (toCs (lget args 0)))) (Cod.dec api_StopC (lget (toCs (lget args 1)))) (Cod.dec newellaw01_BetterC (lget (toCs (lget args 2)))) (fun q0 => kf (lget [.bool q0] 0, []))) (by kernel_rfl : newellaw01_DriveBetter_run N args T kf = fnM E (newelref01_Legal_cal N) (newellaw01_DriveBetter_lp N) (newellaw01_DriveBetter_jn N) 3 (newellaw01_DriveBetter_sp.vs args) (newellaw01_DriveBetter_sp.tab T) 0 (resK newellaw01_DriveBetter_rs kf)))

theorem cond_dec {α : Type} {p : Prop} [Decidable p] {x y z : α} (h1 : p → x = z) (h2 : ¬ p → y = z) : (bif decide p then x else y) = z := by
  by_cases h : p
  · simp only [h, decide_true, cond_true]; exact h1 h
  · simp only [h, decide_false, cond_false]; exact h2 h
theorem cond_dec2 {α : Type} {p q : Prop} [Decidable p] [Decidable q] {x y z : α} (h1 : p ∧ q → x = z) (h2 : ¬ (p ∧ q) → y = z) : (bif decide p && decide q then x else y) = z := by
  rw [← Bool.decide_and]
  exact cond_dec h1 h2
/-- Brakes that are better, each of them. -/
structure BetterA (A a : Arr api_Brake) : Prop where
  n : A.n = a.n
  ok : ∀ i, i < a.n → okBrake (A.f i) ∧ (a.f i).Force ≤ (A.f i).Force ∧ (A.f i).Delay ≤ (a.f i).Delay
theorem betterA_copy {a : Arr api_Brake} (h : okBrakes a 0) (z : List SV) : BetterA (lst api_BrakeC (0 + a.n) (catC 0 (litC z []) (Cod.cell api_BrakeC a.f))) a where
  n := by simp [lst]
  ok := fun i hi => by
    have e : (lst api_BrakeC (0 + a.n) (catC 0 (litC z []) (Cod.cell api_BrakeC a.f))).f i = a.f i := rfl
    rw [e]
    exact ⟨h i (by omega) hi, Int.le_refl _, Int.le_refl _⟩
theorem betterA_set {a : Arr api_Brake} (h : okBrakes a 0) (z : List SV) {j : Nat} {F D : Int} (hF : (a.f j).Force ≤ F) (hF2 : F ≤ 10000000) (hD : 0 ≤ D) (hD2 : D ≤ (a.f j).Delay) (hj : j < a.n) :
    BetterA (lst api_BrakeC (0 + a.n) (setCs j 0 (catC 0 (litC z []) (Cod.cell api_BrakeC a.f)) [SV.int IntKind.i64 F, SV.int IntKind.i64 D])) a where
  n := by simp [lst]
  ok := fun i hi => by
    have hb := h i (by omega) hi
    by_cases e : i = j
    · subst e
      have e1 : (lst api_BrakeC (0 + a.n) (setCs i 0 (catC 0 (litC z []) (Cod.cell api_BrakeC a.f)) [SV.int IntKind.i64 F, SV.int IntKind.i64 D])).f i = ⟨F, D⟩ := by
        simp [lst, setCs, setC, api_BrakeC, toI]
      rw [e1]
      obtain ⟨⟨b1, b2⟩, b3, b4⟩ := hb
      exact ⟨⟨⟨by show 0 ≤ F; omega, hF2⟩, ⟨hD, by show D ≤ 20; omega⟩⟩, hF, hD2⟩
    · have e0 : (i == j) = false := by simpa using e
      have e1 : (lst api_BrakeC (0 + a.n) (setCs j 0 (catC 0 (litC z []) (Cod.cell api_BrakeC a.f)) [SV.int IntKind.i64 F, SV.int IntKind.i64 D])).f i = a.f i := by
        show api_BrakeC.dec (fun k => setC j 1 (setC j 0 (catC 0 (litC z []) (Cod.cell api_BrakeC a.f)) (SV.int IntKind.i64 F)) (SV.int IntKind.i64 D) i k) = a.f i
        simp only [setC, e0, Bool.false_and, cond_false]
        rfl
      rw [e1]
      exact ⟨hb, Int.le_refl _, Int.le_refl _⟩
theorem grip_more {A a : Arr api_Brake} (h : BetterA A a) {fail fail' : Int} (hf : ∀ i, fail'.toNat.testBit i = true → fail.toNat.testBit i = true) (t : Int) : ∀ i, i ≤ a.n → gripS a fail t i ≤ gripS A fail' t i := by
  intro i
  induction i with
  | zero => intro _; exact Int.le_refl _
  | succ i ih =>
    intro hi
    have h1 := ih (by omega)
    obtain ⟨⟨⟨b1, b2⟩, b3, b4⟩, h3, h4⟩ := h.ok i (by omega)
    simp only [gripS]
    by_cases c : fail.toNat.testBit i = false ∧ (a.f i).Delay ≤ t
    · have c' : fail'.toNat.testBit i = false := by
        cases hb : fail'.toNat.testBit i
        · rfl
        · rw [hf i hb] at c; cases c.1
      rw [if_pos c, if_pos ⟨c', by omega⟩]
      omega
    · rw [if_neg c]
      split <;> omega
theorem better_leaf {e : api_Escalator} {s : api_Stop} (hV : VE e) (hS : VS e s) (hr : pathV e s true (restS e s true) = 0) {A : Arr api_Brake} (hA : BetterA A e.Brakes) {v mended : Int} {L : api_Span} (hv : 0 ≤ v) (hv2 : v ≤ s.Speed)
    (hl : s.Loads.Low ≤ L.Low) (hl2 : L.Low ≤ L.High) (hl3 : L.High ≤ s.Loads.High) {R : Type} (K F : Option R) :
    drive_Distance NN ⟨e.Up, e.Empty, e.Pull, e.Drag, e.Motor, A⟩ ⟨v, L, w64 (↑(BitVec.toNat (BitVec.ofInt (IntKind.bits IntKind.i64) s.Fail &&& ~~~BitVec.ofInt (IntKind.bits IntKind.i64) mended)) : Int)⟩
      (fun r1 r2 r3 => bif r3 == 0 then bif decide (r1.High ≤ wayS (pathV e s true) (restS e s true)) then K else F else F) = K := by
  have hf1 := hS.f1
  have hf2 := hS.f2
  have hn := hV.n
  have hp := pow_small hn
  have ef : s.Fail = ((s.Fail.toNat : Nat) : Int) := by omega
  obtain ⟨m, hm, hm2, hm3⟩ := andNot64 (a := s.Fail.toNat) (by omega) mended
  have hw : w64 (↑(BitVec.toNat (BitVec.ofInt (IntKind.bits IntKind.i64) s.Fail &&& ~~~BitVec.ofInt (IntKind.bits IntKind.i64) mended)) : Int) = (m : Int) := by
    unfold w64
    conv => lhs; rw [ef]
    exact hm
  rw [hw]
  let y : api_Escalator := ⟨e.Up, e.Empty, e.Pull, e.Drag, e.Motor, A⟩
  let t : api_Stop := ⟨v, L, (m : Int)⟩
  have hVy : VE y := ⟨hV.e1, hV.e2, hV.p1, hV.p2, hV.d1, hV.d2, hV.m1, hV.m2, by show A.n ≤ 3; rw [hA.n]; exact hn, fun j _ hj => (hA.ok j (by rw [← hA.n]; exact hj)).1⟩
  have l1 := hS.l1; have l3 := hS.l3; have s2 := hS.s2
  have hSt : VS y t := ⟨hv, by show v ≤ 1000; omega, by show 0 ≤ L.Low; omega, hl2, by show L.High ≤ 100000; omega, by show (0 : Int) ≤ (m : Int); omega, by show (m : Int) < 2 ^ A.n; rw [hA.n]; omega⟩
  have hdom : ∀ u, u ≤ 100 → (∀ x, x < u → pathV y t true x ≠ 0) → pathV y t true u ≤ pathV e s true u := by
    intro u
    induction u with
    | zero => intro _ _; exact hv2
    | succ u ih =>
      intro hu hx
      have h1 := ih (by omega) (fun x hx' => hx x (by omega))
      have hpos : 0 < pathV y t true u := by
        have hsf := path_soft (e := y) (s := t) hv true
        have : ∀ w, w ≤ u → 0 ≤ pathV y t true w := by
          intro w
          induction w with
          | zero => intro _; exact hsf.1
          | succ w ihw => intro hw'; exact hsf.2 w (by have := ihw (by omega); have := hx w (by omega); omega)
        have := this u (Nat.le_refl _)
        have := hx u (by omega)
        omega
      have hg : gripE e s.Fail u ≤ gripE y t.Fail u := by
        have := grip_more hA (fail := s.Fail) (fail' := (m : Int)) (fun i hi => hm3 i (by simpa using hi)) (u : Int) e.Brakes.n (by omega)
        have e1 : gripE y t.Fail u = gripS A (m : Int) u A.n := rfl
        rw [e1, hA.n]
        exact this
      have hgb := gripE_bounds hV s.Fail (u : Int)
      have e1' := hV.e1
      have tickle : ∀ ld : Int, s.Loads.Low ≤ ld → ld ≤ s.Loads.High → tickS y (pathV y t true u) ld (gripE y t.Fail u) ≤ edgeV e s true (pathV e s true u) u := by
        intro ld a1 a2
        have b1 := (edge_bounds (hS.ls hV) (v := pathV y t true u) (t := (u : Int)) a1 a2).2
        have b2 := edge_mono (e := e) (s := s) true (t := (u : Int)) h1
        have b3 : tickS y (pathV y t true u) ld (gripE y t.Fail u) ≤ tickS e (pathV y t true u) ld (gripE e s.Fail u) := by
          have q : (gOf e ld - (e.Drag + gripE y t.Fail u)) / (e.Empty + ld) ≤ (gOf e ld - (e.Drag + gripE e s.Fail u)) / (e.Empty + ld) := Int.ediv_le_ediv (by omega) (by omega)
          show (if pathV y t true u < 0 ∨ (pathV y t true u = 0 ∧ gOf e ld < 0) then _ else max 0 (pathV y t true u + (gOf e ld - (e.Drag + gripE y t.Fail u)) / (e.Empty + ld))) ≤ (if pathV y t true u < 0 ∨ (pathV y t true u = 0 ∧ gOf e ld < 0) then _ else max 0 (pathV y t true u + (gOf e ld - (e.Drag + gripE e s.Fail u)) / (e.Empty + ld)))
          rw [if_neg (by omega), if_neg (by omega)]
          omega
        omega
      have c1 := tickle L.Low hl (by omega)
      have c2 := tickle L.High (by omega) hl3
      show edgeV y t true (pathV y t true u) u ≤ edgeV e s true (pathV e s true u) u
      have ee : edgeV y t true (pathV y t true u) u = max (tickS y (pathV y t true u) L.Low (gripE y t.Fail u)) (tickS y (pathV y t true u) L.High (gripE y t.Fail u)) := rfl
      rw [ee]
      omega
  have hless := Soft.less (path_soft (e := y) (s := t) hv true) (path_soft (e := e) hS.s1 true) (n := 100) (m := 100) (fun u h6 _ _ h7 => hdom u h6 h7) hr (rest_le e s true)
  refine Eq.trans (Distance_eq (N := NN) (by decide) y t _) ?_
  have h0 : pathV y t true (restS y t true) = 0 := hless.2.1
  rw [dist_zero hVy hSt, if_pos h0]
  have c1 : wayS (pathV y t true) (restS y t true) ≤ wayS (pathV e s true) (restS e s true) := hless.2.2
  simp only [BEq.rfl, cond_true, c1, decide_true]
theorem betterA_set2 {a0 a : Arr api_Brake} (h : okBrakes a0 0) (hn : a.n = a0.n) (hf : ∀ i, a.f i = a0.f i) {j : Nat} {F D : Int} (hF : (a0.f j).Force ≤ F) (hF2 : F ≤ 10000000) (hD : 0 ≤ D) (hD2 : D ≤ (a0.f j).Delay) (hj : j < a0.n) :
    BetterA (lst api_BrakeC a.n (setCs j 0 (Cod.cell api_BrakeC a.f) [SV.int IntKind.i64 F, SV.int IntKind.i64 D])) a0 where
  n := hn
  ok := fun i hi => by
    have hb := h i (by omega) hi
    by_cases e : i = j
    · subst e
      have e1 : (lst api_BrakeC a.n (setCs i 0 (Cod.cell api_BrakeC a.f) [SV.int IntKind.i64 F, SV.int IntKind.i64 D])).f i = ⟨F, D⟩ := by
        simp [lst, setCs, setC, api_BrakeC, toI]
      rw [e1]
      obtain ⟨⟨b1, b2⟩, b3, b4⟩ := hb
      exact ⟨⟨⟨by show 0 ≤ F; omega, hF2⟩, ⟨hD, by show D ≤ 20; omega⟩⟩, hF, hD2⟩
    · have e0 : (i == j) = false := by simpa using e
      have e1 : (lst api_BrakeC a.n (setCs j 0 (Cod.cell api_BrakeC a.f) [SV.int IntKind.i64 F, SV.int IntKind.i64 D])).f i = a0.f i := by
        show api_BrakeC.dec (fun k => setC j 1 (setC j 0 (Cod.cell api_BrakeC a.f) (SV.int IntKind.i64 F)) (SV.int IntKind.i64 D) i k) = a0.f i
        simp only [setC, e0, Bool.false_and, cond_false]
        exact hf i
      rw [e1]
      exact ⟨hb, Int.le_refl _, Int.le_refl _⟩

section
variable {e : api_Escalator} {s : api_Stop} (hV : VE e) (hS : VS e s) (hr : pathV e s true (restS e s true) = 0) {W : api_Span} (hW : W.High = wayS (pathV e s true) (restS e s true))
include hV hS hr hW
theorem better_j3 {A : Arr api_Brake} (hA : BetterA A e.Brakes) {v mended : Int} {L : api_Span} (hv : 0 ≤ v) (hv2 : v ≤ s.Speed)
    (hl : s.Loads.Low ≤ L.Low) (hl2 : L.Low ≤ L.High) (hl3 : L.High ≤ s.Loads.High) (b : Bool) {R : Type} (kr : Bool → Option R) :
    newellaw01_DriveBetter_j3 NN W e.Up e.Empty e.Pull e.Drag e.Motor ⟨v, L, w64 (↑(BitVec.toNat (BitVec.ofInt (IntKind.bits IntKind.i64) s.Fail &&& ~~~BitVec.ofInt (IntKind.bits IntKind.i64) mended)) : Int)⟩ b A kr = kr true := by
  rw [newellaw01_DriveBetter_j3_def]
  unfold newellaw01_DriveBetter_j3_m
  simp only [works_eq, hW]
  exact better_leaf hV hS hr hA hv hv2 hl hl2 hl3 _ _
theorem better_j2 {A : Arr api_Brake} (hA : BetterA A e.Brakes) {v : Int} (x : newellaw01_Better) (hv : 0 ≤ v) (hv2 : v ≤ s.Speed) (b : Bool) {R : Type} (kr : Bool → Option R) :
    newellaw01_DriveBetter_j2 NN s x W e.Up e.Empty e.Pull e.Drag e.Motor ⟨v, s.Loads, w64 (↑(BitVec.toNat (BitVec.ofInt (IntKind.bits IntKind.i64) s.Fail &&& ~~~BitVec.ofInt (IntKind.bits IntKind.i64) x.Mended)) : Int)⟩ b A kr = kr true := by
  rw [newellaw01_DriveBetter_j2_def]
  unfold newellaw01_DriveBetter_j2_m
  have l2 := hS.l2
  have same : newellaw01_DriveBetter_j3 NN W e.Up e.Empty e.Pull e.Drag e.Motor ⟨v, s.Loads, w64 (↑(BitVec.toNat (BitVec.ofInt (IntKind.bits IntKind.i64) s.Fail &&& ~~~BitVec.ofInt (IntKind.bits IntKind.i64) x.Mended)) : Int)⟩ b A (fun r => kr r) = kr true :=
    better_j3 hV hS hr hW hA hv hv2 (Int.le_refl _) l2 (Int.le_refl _) b _
  refine cond_dec (fun c1 => cond_dec (fun c2 => cond_dec (fun c3 => ?_) (fun _ => same)) (fun _ => same)) (fun _ => same)
  exact better_j3 hV hS hr hW hA hv hv2 (by omega) (by omega) (by omega) b _
theorem better_j1 {A : Arr api_Brake} (hA : BetterA A e.Brakes) (x : newellaw01_Better) (b : Bool) {R : Type} (kr : Bool → Option R) :
    newellaw01_DriveBetter_j1 NN s x W e.Up e.Empty e.Pull e.Drag e.Motor s b A kr = kr true := by
  rw [newellaw01_DriveBetter_j1_def]
  unfold newellaw01_DriveBetter_j1_m
  have s1 := hS.s1
  have same := better_j2 hV hS hr hW hA x s1 (Int.le_refl _) b (fun r => kr r)
  refine cond_dec (fun c1 => cond_dec (fun c2 => ?_) (fun _ => same)) (fun _ => same)
  exact better_j2 hV hS hr hW hA x (by omega) (by omega) b _
theorem better_j0 {a : Arr api_Brake} (hn : a.n = e.Brakes.n) (hf : ∀ i, a.f i = e.Brakes.f i) (x : newellaw01_Better) (hx : 0 ≤ x.Brake) (hx2 : x.Brake < e.Brakes.n) {F : Int} (hF : (e.Brakes.f x.Brake.toNat).Force ≤ F) (hF2 : F ≤ 10000000) (b b' : Bool) {R : Type} (kr : Bool → Option R) :
    newellaw01_DriveBetter_j0 NN s x W e.Up e.Empty e.Pull e.Drag e.Motor s ⟨F, (e.Brakes.f x.Brake.toNat).Delay⟩ b a (fun A => newellaw01_DriveBetter_j1 NN s x W e.Up e.Empty e.Pull e.Drag e.Motor s b' A kr) = kr true := by
  rw [newellaw01_DriveBetter_j0_def]
  unfold newellaw01_DriveBetter_j0_m
  have hj : x.Brake.toNat < e.Brakes.n := by omega
  have hb := hV.br _ (by omega) hj
  have hc : (decide ((0 : Int) ≤ x.Brake) && decide (x.Brake < (a.n : Int))) = true := by simp; omega
  simp only [hc, cond_true]
  have same := better_j1 hV hS hr hW (betterA_set2 hV.br hn hf hF hF2 hb.2.1 (Int.le_refl _) hj) x b' kr
  refine cond_dec (fun c1 => cond_dec (fun c2 => ?_) (fun _ => same)) (fun _ => same)
  exact better_j1 hV hS hr hW (betterA_set2 hV.br hn hf hF hF2 (by omega) c2 hj) x b' kr
end

theorem driveBetter_true (e : api_Escalator) (s : api_Stop) (x : newellaw01_Better) (he : e.wf) (hs : s.wf) (hx : x.wf) : ∃ N, newellaw01_DriveBetter N e s x (fun q0 => okK (lget [.bool q0] 0, [])) = some () := by
  refine ⟨NN, ?_⟩
  rw [newellaw01_DriveBetter_def]
  unfold newellaw01_DriveBetter_m
  rw [Far_eq]
  by_cases h1 : (e.Brakes.n : Int) > 10
  · simp only [h1, decide_true, cond_true, works_eq]; rfl
  rw [cond_neg (by simpa using h1), refCheckStop_eq (by decide)]
  by_cases h3 : stopV e s = 0
  case neg => rw [cond_pos (by simpa using h3), works_eq]; rfl
  obtain ⟨hV, hS⟩ := stopV_zero h3
  rw [cond_neg (by simpa using h3), Distance_eq (by decide), dist_zero hV hS]
  by_cases hr : pathV e s true (restS e s true) = 0
  case neg => rw [if_neg hr]; simp only [works_eq]; rfl
  rw [if_pos hr]
  rw [cond_neg (by simp)]
  have hn := hV.n
  rw [cond_pos (room_of (by omega))]
  have hob := hV.br
  have hc := betterA_copy hob [SV.int IntKind.i64 (0 : Int), SV.int IntKind.i64 (0 : Int)]
  have htr : okK (lget [SV.bool true] 0, []) = some () := rfl
  refine cond_dec (fun c1 => cond_dec (fun c2 => ?_) (fun _ => (better_j1 hV hS hr rfl hc x _ _).trans htr)) (fun _ => (better_j1 hV hS hr rfl hc x _ _).trans htr)
  have hcn : (lst api_BrakeC (0 + e.Brakes.n) (catC 0 (litC [SV.int IntKind.i64 (0 : Int), SV.int IntKind.i64 (0 : Int)] []) (Cod.cell api_BrakeC e.Brakes.f))).n = e.Brakes.n := hc.n
  have hx2 : x.Brake < (e.Brakes.n : Int) := by omega
  have hb := hob x.Brake.toNat (by omega) (by omega)
  rw [cond_pos (by simp; omega)]
  have same := (better_j0 hV hS hr rfl (W := ⟨wayS (pathV e s false) (restS e s false), wayS (pathV e s true) (restS e s true)⟩) hcn (fun _ => rfl) x c1 hx2 (Int.le_refl _) hb.1.2 (bif e.Brakes.n == 0 then false else false) (bif e.Brakes.n == 0 then false else false) (fun q0 => okK (lget [.bool q0] 0, []))).trans htr
  refine cond_dec (fun c3 => cond_dec (fun c4 => ?_) (fun _ => same)) (fun _ => same)
  exact (better_j0 hV hS hr rfl (W := ⟨wayS (pathV e s false) (restS e s false), wayS (pathV e s true) (restS e s true)⟩) hcn (fun _ => rfl) x c1 hx2 c3 c4 _ _ _).trans htr
end
end Go.Proofs.Ytpcmpbellmiijaa
