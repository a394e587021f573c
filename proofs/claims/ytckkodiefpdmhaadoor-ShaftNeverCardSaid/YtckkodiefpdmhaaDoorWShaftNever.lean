import Derived.Test.YtckkodiefpdmhaaDoorR2
set_option maxRecDepth 100000
set_option maxHeartbeats 0
set_option linter.unusedSectionVars false
set_option linter.unusedVariables false
set_option linter.unusedSimpArgs false
namespace Go.Proofs.YtckkodiefpdmhaaDoor
open Go.Sx
noncomputable section
def newellaw09_ShaftNever_L14 : LoopSp := ⟨⟨[1, 2, 5, 6, 8, 9], ⟨(dr 1 ((rInt .i64) :: (rPtr 0 0) :: (dr 2 ((rRow 1) :: (rInt .i64) :: (dr 1 ((rInt .i64) :: (rInt .i64) :: (dr 201 []))))))), [(0, eBlkC api_WorksC), (1, eRow intC)]⟩, 2⟩, [(Option.none, ⟨[4], ⟨(dr 4 ((rBool) :: (dr 206 []))), []⟩, 0⟩), (some 2, ⟨[1, 2, 5, 6, 8], ⟨(dr 1 ((rInt .i64) :: (rPtr 0 0) :: (dr 2 ((rRow 1) :: (rInt .i64) :: (dr 1 ((rInt .i64) :: (dr 202 []))))))), [(0, eBlkC api_WorksC), (1, eRow intC)]⟩, 2⟩)]⟩
theorem newellaw09_ShaftNever_L14_ok : newellaw09_ShaftNever_L14.Ok := ⟨⟨(drCons 1 (allCons (rInt_ok .i64) (allCons (rPtr_ok 0 0) (drCons 2 (allCons (rRow_ok 1) (allCons (rInt_ok .i64) (drCons 1 (allCons (rInt_ok .i64) (allCons (rInt_ok .i64) (drCons 201 allNil)))))))))), (eCons (eBlkC_ok api_WorksC_ok api_WorksC_len) (eCons (eRow_ok intC_ok) eNil))⟩, (xCons ⟨(drCons 4 (allCons rBool_ok (drCons 206 allNil))), eNil⟩ (xCons ⟨(drCons 1 (allCons (rInt_ok .i64) (allCons (rPtr_ok 0 0) (drCons 2 (allCons (rRow_ok 1) (allCons (rInt_ok .i64) (drCons 1 (allCons (rInt_ok .i64) (drCons 202 allNil))))))))), (eCons (eBlkC_ok api_WorksC_ok api_WorksC_len) (eCons (eRow_ok intC_ok) eNil))⟩ xNil))⟩
def newellaw09_ShaftNever_h14 (v1530 : Int) (v1531 : Int) (v1532 : Int) (v1533 : Int) (v1534 : api_Works) (v1535 : Bool) (v1536 : Arr Int) : St := ⟨(un 1 ((.int .i64 v1530) :: (.ptr 0 0) :: (un 2 ((.row 1) :: (.int .i64 v1531) :: (un 1 ((.int .i64 v1532) :: (.int .i64 v1533) :: (un 201 []))))))), [(0, .blk (Cod.enc api_WorksC v1534)), (1, rowE intC v1535 v1536)], 2⟩
def newellaw09_ShaftNever_x14_r (q0 : Bool) : St := ⟨(un 4 ((.bool q0) :: (un 206 []))), [], 0⟩
def newellaw09_ShaftNever_x14_2 (v1530 : Int) (v1531 : Int) (v1532 : Int) (v1534 : api_Works) (v1535 : Bool) (v1536 : Arr Int) : St := ⟨(un 1 ((.int .i64 v1530) :: (.ptr 0 0) :: (un 2 ((.row 1) :: (.int .i64 v1531) :: (un 1 ((.int .i64 v1532) :: (un 202 []))))))), [(0, .blk (Cod.enc api_WorksC v1534)), (1, rowE intC v1535 v1536)], 2⟩
def newellaw09_ShaftNever_b14 {R : Type} (N : Nat) (rc : Int → Int → Int → Int → api_Works → Bool → Arr Int → Option R) (v1530 : Int) (v1531 : Int) (v1532 : Int) (v1533 : Int) (v1534 : api_Works) (v1535 : Bool) (v1536 : Arr Int) (kr : Bool → Option R) (k2 : Unit → Option R) : Option R :=
  bif decide ((0 : Int) ≤ v1532) && decide (v1532 < (↑(Arr.n (api_Works.Jobs v1534)) : Int)) then
   bif decide (v1533 < (↑(Arr.n (api_Job.After (Arr.f (api_Works.Jobs v1534) (Int.toNat v1532)))) : Int)) then
    bif decide ((0 : Int) ≤ v1532) && decide (v1532 < (↑(Arr.n (api_Works.Jobs v1534)) : Int)) then
     bif decide ((0 : Int) ≤ v1533) && decide (v1533 < (↑(Arr.n (api_Job.After (Arr.f (api_Works.Jobs v1534) (Int.toNat v1532)))) : Int)) then
      bif decide ((0 : Int) ≤ v1532) && decide (v1532 < (↑(Arr.n v1536) : Int)) then
       bif decide ((0 : Int) ≤ Arr.f (api_Job.After (Arr.f (api_Works.Jobs v1534) (Int.toNat v1532))) (Int.toNat v1533)) && decide (Arr.f (api_Job.After (Arr.f (api_Works.Jobs v1534) (Int.toNat v1532))) (Int.toNat v1533) < (↑(Arr.n v1536) : Int)) then
        bif decide ((0 : Int) ≤ Arr.f (api_Job.After (Arr.f (api_Works.Jobs v1534) (Int.toNat v1532))) (Int.toNat v1533)) && decide (Arr.f (api_Job.After (Arr.f (api_Works.Jobs v1534) (Int.toNat v1532))) (Int.toNat v1533) < (↑(Arr.n (api_Works.Jobs v1534)) : Int)) then
         bif decide (Arr.f v1536 (Int.toNat v1532) < w64 (Arr.f v1536 (Int.toNat (Arr.f (api_Job.After (Arr.f (api_Works.Jobs v1534) (Int.toNat v1532))) (Int.toNat v1533))) + api_Job.Nights (Arr.f (api_Works.Jobs v1534) (Int.toNat (Arr.f (api_Job.After (Arr.f (api_Works.Jobs v1534) (Int.toNat v1532))) (Int.toNat v1533)))))) then
          kr false
         else
          rc v1530 v1531 v1532 (w64 (v1533 + (1 : Int))) v1534 v1535 v1536
        else
         Option.none
       else
        Option.none
      else
       Option.none
     else
      Option.none
    else
     Option.none
   else
    k2 ()
  else
   Option.none
def newellaw09_ShaftNever_l14 {R : Type} (N : Nat) : Nat → Int → Int → Int → Int → api_Works → Bool → Arr Int → (Bool → Option R) → (Unit → Option R) → Option R
  | 0, _, _, _, _, _, _, _, _, _ => Option.none
  | n + 1, v1530, v1531, v1532, v1533, v1534, v1535, v1536, kr, k2 => newellaw09_ShaftNever_b14 N (fun v1530 v1531 v1532 v1533 v1534 v1535 v1536 => newellaw09_ShaftNever_l14 N n v1530 v1531 v1532 v1533 v1534 v1535 v1536 kr k2) v1530 v1531 v1532 v1533 v1534 v1535 v1536 kr k2
def newellaw09_ShaftNever_L9 : LoopSp := ⟨⟨[1, 2, 5, 6, 8], ⟨(dr 1 ((rInt .i64) :: (rPtr 0 0) :: (dr 2 ((rRow 1) :: (rInt .i64) :: (dr 1 ((rInt .i64) :: (dr 202 []))))))), [(0, eBlkC api_WorksC), (1, eRow intC)]⟩, 2⟩, [(Option.none, ⟨[4], ⟨(dr 4 ((rBool) :: (dr 206 []))), []⟩, 0⟩), (some 0, ⟨[1, 2, 5], ⟨(dr 1 ((rInt .i64) :: (rPtr 0 0) :: (dr 2 ((rRow 1) :: (dr 205 []))))), [(0, eBlkC api_WorksC), (1, eRow intC)]⟩, 2⟩)]⟩
theorem newellaw09_ShaftNever_L9_ok : newellaw09_ShaftNever_L9.Ok := ⟨⟨(drCons 1 (allCons (rInt_ok .i64) (allCons (rPtr_ok 0 0) (drCons 2 (allCons (rRow_ok 1) (allCons (rInt_ok .i64) (drCons 1 (allCons (rInt_ok .i64) (drCons 202 allNil))))))))), (eCons (eBlkC_ok api_WorksC_ok api_WorksC_len) (eCons (eRow_ok intC_ok) eNil))⟩, (xCons ⟨(drCons 4 (allCons rBool_ok (drCons 206 allNil))), eNil⟩ (xCons ⟨(drCons 1 (allCons (rInt_ok .i64) (allCons (rPtr_ok 0 0) (drCons 2 (allCons (rRow_ok 1) (drCons 205 allNil)))))), (eCons (eBlkC_ok api_WorksC_ok api_WorksC_len) (eCons (eRow_ok intC_ok) eNil))⟩ xNil))⟩
def newellaw09_ShaftNever_h9 (v1524 : Int) (v1525 : Int) (v1526 : Int) (v1527 : api_Works) (v1528 : Bool) (v1529 : Arr Int) : St := ⟨(un 1 ((.int .i64 v1524) :: (.ptr 0 0) :: (un 2 ((.row 1) :: (.int .i64 v1525) :: (un 1 ((.int .i64 v1526) :: (un 202 []))))))), [(0, .blk (Cod.enc api_WorksC v1527)), (1, rowE intC v1528 v1529)], 2⟩
def newellaw09_ShaftNever_x9_r (q0 : Bool) : St := ⟨(un 4 ((.bool q0) :: (un 206 []))), [], 0⟩
def newellaw09_ShaftNever_x9_0 (v1524 : Int) (v1527 : api_Works) (v1528 : Bool) (v1529 : Arr Int) : St := ⟨(un 1 ((.int .i64 v1524) :: (.ptr 0 0) :: (un 2 ((.row 1) :: (un 205 []))))), [(0, .blk (Cod.enc api_WorksC v1527)), (1, rowE intC v1528 v1529)], 2⟩
def newellaw09_ShaftNever_b9 {R : Type} (N : Nat) (rc : Int → Int → Int → api_Works → Bool → Arr Int → Option R) (v1524 : Int) (v1525 : Int) (v1526 : Int) (v1527 : api_Works) (v1528 : Bool) (v1529 : Arr Int) (kr : Bool → Option R) (k0 : Unit → Option R) : Option R :=
  bif decide (v1526 < (↑(Arr.n v1529) : Int)) then
   bif decide ((0 : Int) ≤ v1526) && decide (v1526 < (↑(Arr.n v1529) : Int)) then
    bif decide (Arr.f v1529 (Int.toNat v1526) < (0 : Int)) then
     kr false
    else
     bif decide ((0 : Int) ≤ v1526) && decide (v1526 < (↑(Arr.n v1529) : Int)) then
      bif decide ((0 : Int) ≤ v1526) && decide (v1526 < (↑(Arr.n (api_Works.Jobs v1527)) : Int)) then
       bif decide (Arr.f v1529 (Int.toNat v1526) > w64 (v1525 - api_Job.Nights (Arr.f (api_Works.Jobs v1527) (Int.toNat v1526)))) then
        kr false
       else
        newellaw09_ShaftNever_l14 N N v1524 v1525 v1526 (0 : Int) v1527 v1528 v1529 (fun r1537 =>
         kr r1537) (fun (_ : Unit) =>
         rc v1524 v1525 (w64 (v1526 + (1 : Int))) v1527 v1528 v1529)
      else
       Option.none
     else
      Option.none
   else
    Option.none
  else
   k0 ()
def newellaw09_ShaftNever_l9 {R : Type} (N : Nat) : Nat → Int → Int → Int → api_Works → Bool → Arr Int → (Bool → Option R) → (Unit → Option R) → Option R
  | 0, _, _, _, _, _, _, _, _ => Option.none
  | n + 1, v1524, v1525, v1526, v1527, v1528, v1529, kr, k0 => newellaw09_ShaftNever_b9 N (fun v1524 v1525 v1526 v1527 v1528 v1529 => newellaw09_ShaftNever_l9 N n v1524 v1525 v1526 v1527 v1528 v1529 kr k0) v1524 v1525 v1526 v1527 v1528 v1529 kr k0
def newellaw09_ShaftNever_L24 : LoopSp := ⟨⟨[1, 2, 5, 11, 12, 13, 14, 15], ⟨(dr 1 ((rInt .i64) :: (rPtr 0 0) :: (dr 2 ((rRow 1) :: (dr 5 ((rInt .i64) :: (rInt .i64) :: (rInt .i64) :: (rInt .i64) :: (rInt .i64) :: (dr 195 []))))))), [(0, eBlkC api_WorksC), (1, eRow intC)]⟩, 2⟩, [(Option.none, ⟨[4], ⟨(dr 4 ((rBool) :: (dr 206 []))), []⟩, 0⟩), (some 4, ⟨[2, 11, 12, 13, 14], ⟨(dr 2 ((rPtr 0 0) :: (dr 8 ((rInt .i64) :: (rInt .i64) :: (rInt .i64) :: (rInt .i64) :: (dr 196 []))))), [(0, eBlkC api_WorksC)]⟩, 1⟩)]⟩
theorem newellaw09_ShaftNever_L24_ok : newellaw09_ShaftNever_L24.Ok := ⟨⟨(drCons 1 (allCons (rInt_ok .i64) (allCons (rPtr_ok 0 0) (drCons 2 (allCons (rRow_ok 1) (drCons 5 (allCons (rInt_ok .i64) (allCons (rInt_ok .i64) (allCons (rInt_ok .i64) (allCons (rInt_ok .i64) (allCons (rInt_ok .i64) (drCons 195 allNil)))))))))))), (eCons (eBlkC_ok api_WorksC_ok api_WorksC_len) (eCons (eRow_ok intC_ok) eNil))⟩, (xCons ⟨(drCons 4 (allCons rBool_ok (drCons 206 allNil))), eNil⟩ (xCons ⟨(drCons 2 (allCons (rPtr_ok 0 0) (drCons 8 (allCons (rInt_ok .i64) (allCons (rInt_ok .i64) (allCons (rInt_ok .i64) (allCons (rInt_ok .i64) (drCons 196 allNil)))))))), (eCons (eBlkC_ok api_WorksC_ok api_WorksC_len) eNil)⟩ xNil))⟩
def newellaw09_ShaftNever_h24 (v1543 : Int) (v1544 : Int) (v1545 : Int) (v1546 : Int) (v1547 : Int) (v1548 : Int) (v1549 : api_Works) (v1550 : Bool) (v1551 : Arr Int) : St := ⟨(un 1 ((.int .i64 v1543) :: (.ptr 0 0) :: (un 2 ((.row 1) :: (un 5 ((.int .i64 v1544) :: (.int .i64 v1545) :: (.int .i64 v1546) :: (.int .i64 v1547) :: (.int .i64 v1548) :: (un 195 []))))))), [(0, .blk (Cod.enc api_WorksC v1549)), (1, rowE intC v1550 v1551)], 2⟩
def newellaw09_ShaftNever_x24_r (q0 : Bool) : St := ⟨(un 4 ((.bool q0) :: (un 206 []))), [], 0⟩
def newellaw09_ShaftNever_x24_4 (v1544 : Int) (v1545 : Int) (v1549 : api_Works) (q2 : Int) (q3 : Int) : St := ⟨(un 2 ((.ptr 0 0) :: (un 8 ((.int .i64 v1544) :: (.int .i64 v1545) :: (.int .i64 q2) :: (.int .i64 q3) :: (un 196 []))))), [(0, .blk (Cod.enc api_WorksC v1549))], 1⟩
def newellaw09_ShaftNever_b24 {R : Type} (N : Nat) (rc : Int → Int → Int → Int → Int → Int → api_Works → Bool → Arr Int → Option R) (v1543 : Int) (v1544 : Int) (v1545 : Int) (v1546 : Int) (v1547 : Int) (v1548 : Int) (v1549 : api_Works) (v1550 : Bool) (v1551 : Arr Int) (kr : Bool → Option R) (k4 : Int → Int → Option R) : Option R :=
  bif decide (v1548 < (↑(Arr.n v1551) : Int)) then
   bif decide ((0 : Int) ≤ v1548) && decide (v1548 < (↑(Arr.n v1551) : Int)) then
    bif decide (Arr.f v1551 (Int.toNat v1548) ≤ v1543) then
     bif decide ((0 : Int) ≤ v1548) && decide (v1548 < (↑(Arr.n v1551) : Int)) then
      bif decide ((0 : Int) ≤ v1548) && decide (v1548 < (↑(Arr.n (api_Works.Jobs v1549)) : Int)) then
       bif decide (v1543 < w64 (Arr.f v1551 (Int.toNat v1548) + api_Job.Nights (Arr.f (api_Works.Jobs v1549) (Int.toNat v1548)))) then
        bif decide ((0 : Int) ≤ v1548) && decide (v1548 < (↑(Arr.n (api_Works.Jobs v1549)) : Int)) then
         bif decide (IntKind.wrap IntKind.u64 (api_Job.Machine (Arr.f (api_Works.Jobs v1549) (Int.toNat v1548))) < (0 : Int)) then
          Option.none
         else
          bif w64 (↑(BitVec.toNat (BitVec.ofInt (IntKind.bits IntKind.i64) v1547 &&& BitVec.ofInt (IntKind.bits IntKind.i64) (w64 ((1 : Int) * (2 : Int) ^ min (Int.toNat (IntKind.wrap IntKind.u64 (api_Job.Machine (Arr.f (api_Works.Jobs v1549) (Int.toNat v1548))))) (IntKind.bits IntKind.i64))))) : Int) != (0 : Int) then
           kr false
          else
           rc v1543 v1544 v1545 (w64 (v1546 + (1 : Int))) (w64 (↑(BitVec.toNat (BitVec.ofInt (IntKind.bits IntKind.i64) v1547 ||| BitVec.ofInt (IntKind.bits IntKind.i64) (w64 ((1 : Int) * (2 : Int) ^ min (Int.toNat (IntKind.wrap IntKind.u64 (api_Job.Machine (Arr.f (api_Works.Jobs v1549) (Int.toNat v1548))))) (IntKind.bits IntKind.i64))))) : Int)) (w64 (v1548 + (1 : Int))) v1549 v1550 v1551
        else
         Option.none
       else
        rc v1543 v1544 v1545 v1546 v1547 (w64 (v1548 + (1 : Int))) v1549 v1550 v1551
      else
       Option.none
     else
      Option.none
    else
     rc v1543 v1544 v1545 v1546 v1547 (w64 (v1548 + (1 : Int))) v1549 v1550 v1551
   else
    Option.none
  else
   k4 v1546 v1547
def newellaw09_ShaftNever_l24 {R : Type} (N : Nat) : Nat → Int → Int → Int → Int → Int → Int → api_Works → Bool → Arr Int → (Bool → Option R) → (Int → Int → Option R) → Option R
  | 0, _, _, _, _, _, _, _, _, _, _, _ => Option.none
  | n + 1, v1543, v1544, v1545, v1546, v1547, v1548, v1549, v1550, v1551, kr, k4 => newellaw09_ShaftNever_b24 N (fun v1543 v1544 v1545 v1546 v1547 v1548 v1549 v1550 v1551 => newellaw09_ShaftNever_l24 N n v1543 v1544 v1545 v1546 v1547 v1548 v1549 v1550 v1551 kr k4) v1543 v1544 v1545 v1546 v1547 v1548 v1549 v1550 v1551 kr k4
def newellaw09_ShaftNever_L35 : LoopSp := ⟨⟨[2, 11, 17], ⟨(dr 2 ((rPtr 0 0) :: (dr 8 ((rInt .i64) :: (dr 5 ((rInt .i64) :: (dr 193 []))))))), [(0, eBlkC api_WorksC)]⟩, 1⟩, [(Option.none, ⟨[4], ⟨(dr 4 ((rBool) :: (dr 206 []))), []⟩, 0⟩), (some 6, ⟨[], ⟨(dr 211 []), []⟩, 0⟩)]⟩
theorem newellaw09_ShaftNever_L35_ok : newellaw09_ShaftNever_L35.Ok := ⟨⟨(drCons 2 (allCons (rPtr_ok 0 0) (drCons 8 (allCons (rInt_ok .i64) (drCons 5 (allCons (rInt_ok .i64) (drCons 193 allNil))))))), (eCons (eBlkC_ok api_WorksC_ok api_WorksC_len) eNil)⟩, (xCons ⟨(drCons 4 (allCons rBool_ok (drCons 206 allNil))), eNil⟩ (xCons ⟨(drCons 211 allNil), eNil⟩ xNil))⟩
def newellaw09_ShaftNever_h35 (v1555 : Int) (v1556 : Int) (v1557 : api_Works) : St := ⟨(un 2 ((.ptr 0 0) :: (un 8 ((.int .i64 v1555) :: (un 5 ((.int .i64 v1556) :: (un 193 []))))))), [(0, .blk (Cod.enc api_WorksC v1557))], 1⟩
def newellaw09_ShaftNever_x35_r (q0 : Bool) : St := ⟨(un 4 ((.bool q0) :: (un 206 []))), [], 0⟩
def newellaw09_ShaftNever_x35_6  : St := ⟨(un 211 []), [], 0⟩
def newellaw09_ShaftNever_b35 {R : Type} (N : Nat) (rc : Int → Int → api_Works → Option R) (v1555 : Int) (v1556 : Int) (v1557 : api_Works) (kr : Bool → Option R) (k6 : Unit → Option R) : Option R :=
  bif decide (v1556 < (↑(Arr.n (api_Works.Never v1557)) : Int)) then
   bif decide ((0 : Int) ≤ v1556) && decide (v1556 < (↑(Arr.n (api_Works.Never v1557)) : Int)) then
    bif decide ((0 : Int) ≤ v1556) && decide (v1556 < (↑(Arr.n (api_Works.Never v1557)) : Int)) then
     bif w64 (↑(BitVec.toNat (BitVec.ofInt (IntKind.bits IntKind.i64) v1555 &&& BitVec.ofInt (IntKind.bits IntKind.i64) (Arr.f (api_Works.Never v1557) (Int.toNat v1556)))) : Int) == Arr.f (api_Works.Never v1557) (Int.toNat v1556) then
      kr false
     else
      rc v1555 (w64 (v1556 + (1 : Int))) v1557
    else
     Option.none
   else
    Option.none
  else
   k6 ()
def newellaw09_ShaftNever_l35 {R : Type} (N : Nat) : Nat → Int → Int → api_Works → (Bool → Option R) → (Unit → Option R) → Option R
  | 0, _, _, _, _, _ => Option.none
  | n + 1, v1555, v1556, v1557, kr, k6 => newellaw09_ShaftNever_b35 N (fun v1555 v1556 v1557 => newellaw09_ShaftNever_l35 N n v1555 v1556 v1557 kr k6) v1555 v1556 v1557 kr k6
def newellaw09_ShaftNever_m {R : Type} (N : Nat) (a1512 : api_Works) (a1513 : Int) (k : Bool → Option R) : Option R :=
  newellaw09_FarWorks N a1512 (fun r1514 =>
  bif r1514 then
   newellaw09_works N  (fun r1515 =>
   k r1515)
  else
   newelref09_CheckWorks N a1512 (fun r1516 =>
   bif r1516 != (0 : Int) then
    newellaw09_works N  (fun r1517 =>
    k r1517)
   else
    shaft_Plan N a1512 (fun r1518 r1519 r1520 r1521 =>
    bif r1519 != (0 : Int) then
     bif r1519 == (3 : Int) then
      newellaw09_works N  (fun r1522 =>
      k r1522)
     else
      bif r1519 == (2 : Int) then
       newellaw09_works N  (fun r1523 =>
       k r1523)
      else
       k false
    else
     bif (↑(Arr.n r1521) : Int) != (↑(Arr.n (api_Works.Jobs a1512)) : Int) then
      k false
     else
      bif decide (r1518 > api_Works.Until a1512) then
       k false
      else
       newellaw09_ShaftNever_l9 N N a1513 r1518 (0 : Int) a1512 r1520 r1521 (fun r1538 =>
        k r1538) (fun (_ : Unit) =>
        bif decide (a1513 < (0 : Int)) then
         newellaw09_works N  (fun r1539 =>
         k r1539)
        else
         bif decide (a1513 ≥ api_Works.Until a1512) then
          newellaw09_works N  (fun r1540 =>
          k r1540)
         else
          shaft_Out N a1512 r1521 a1513 (fun r1541 r1542 =>
          newellaw09_ShaftNever_l24 N N a1513 r1541 r1542 (0 : Int) (0 : Int) (0 : Int) a1512 r1520 r1521 (fun r1552 =>
           k r1552) (fun r1553 r1554 =>
           bif r1542 != (0 : Int) then
            k false
           else
            bif r1541 != r1554 then
             k false
            else
             bif decide (r1553 > api_Works.Crews a1512) then
              k false
             else
              newellaw09_ShaftNever_l35 N N r1541 (0 : Int) a1512 (fun r1558 =>
               k r1558) (fun (_ : Unit) =>
               newellaw09_works N  (fun r1559 =>
               k r1559))))))))
noncomputable def newellaw09_ShaftNever {R : Type} : Nat → api_Works → Int → (Bool → Option R) → Option R := lock (@newellaw09_ShaftNever_m R)
theorem newellaw09_ShaftNever_def {R : Type} (N : Nat) (a1512 : api_Works) (a1513 : Int) (k : Bool → Option R) : newellaw09_ShaftNever N a1512 a1513 k = newellaw09_ShaftNever_m N a1512 a1513 k := by unfold newellaw09_ShaftNever; rw [lock_eq]
def newellaw09_ShaftNever_sp : Sp := ⟨[rAgg api_WorksC, rInt .i64], []⟩
theorem newellaw09_ShaftNever_sp_ok : newellaw09_ShaftNever_sp.Ok := ⟨(allCons (rAgg_ok api_WorksC_ok api_WorksC_len) (allCons (rInt_ok .i64) allNil)), eNil⟩
def newellaw09_ShaftNever_rs : Sp := ⟨[rBool], []⟩
theorem newellaw09_ShaftNever_rs_ok : newellaw09_ShaftNever_rs.Ok := ⟨(allCons rBool_ok allNil), eNil⟩
def newellaw09_ShaftNever_run {R : Type} (N : Nat) (args : List SV) (T : Tab) (kf : SV × Tab → Option R) : Option R :=
  newellaw09_ShaftNever_m N (Cod.dec api_WorksC (lget (toCs (lget args 0)))) (toI (lget args 1)) (fun q0 => kf (lget [.bool q0] 0, []))
def newellaw09_ShaftNever_d35 {R : Type} (N : Nat) (S0 : St) (k : Exit → St → Option R) : Option R :=
  newellaw09_ShaftNever_l35 N N (toI (lget S0.tmps 11)) (toI (lget S0.tmps 17)) (Cod.dec api_WorksC (lget (entCs (entAt S0.tab 0)))) (fun q0 => k .ret (newellaw09_ShaftNever_x35_r q0)) (fun (_ : Unit) => k (.exit 6) (newellaw09_ShaftNever_x35_6 ))
def newellaw09_ShaftNever_d24 {R : Type} (N : Nat) (S0 : St) (k : Exit → St → Option R) : Option R :=
  newellaw09_ShaftNever_l24 N N (toI (lget S0.tmps 1)) (toI (lget S0.tmps 11)) (toI (lget S0.tmps 12)) (toI (lget S0.tmps 13)) (toI (lget S0.tmps 14)) (toI (lget S0.tmps 15)) (Cod.dec api_WorksC (lget (entCs (entAt S0.tab 0)))) (entNl (entAt S0.tab 1)) (lst intC (entN (entAt S0.tab 1)) (entC (entAt S0.tab 1))) (fun q0 => k .ret (newellaw09_ShaftNever_x24_r q0)) (fun q2 q3 => k (.exit 4) (newellaw09_ShaftNever_x24_4 (toI (lget S0.tmps 11)) (toI (lget S0.tmps 12)) (Cod.dec api_WorksC (lget (entCs (entAt S0.tab 0)))) q2 q3))
def newellaw09_ShaftNever_d14 {R : Type} (N : Nat) (S0 : St) (k : Exit → St → Option R) : Option R :=
  newellaw09_ShaftNever_l14 N N (toI (lget S0.tmps 1)) (toI (lget S0.tmps 6)) (toI (lget S0.tmps 8)) (toI (lget S0.tmps 9)) (Cod.dec api_WorksC (lget (entCs (entAt S0.tab 0)))) (entNl (entAt S0.tab 1)) (lst intC (entN (entAt S0.tab 1)) (entC (entAt S0.tab 1))) (fun q0 => k .ret (newellaw09_ShaftNever_x14_r q0)) (fun (_ : Unit) => k (.exit 2) (newellaw09_ShaftNever_x14_2 (toI (lget S0.tmps 1)) (toI (lget S0.tmps 6)) (toI (lget S0.tmps 8)) (Cod.dec api_WorksC (lget (entCs (entAt S0.tab 0)))) (entNl (entAt S0.tab 1)) (lst intC (entN (entAt S0.tab 1)) (entC (entAt S0.tab 1)))))
def newellaw09_ShaftNever_d9 {R : Type} (N : Nat) (S0 : St) (k : Exit → St → Option R) : Option R :=
  newellaw09_ShaftNever_l9 N N (toI (lget S0.tmps 1)) (toI (lget S0.tmps 6)) (toI (lget S0.tmps 8)) (Cod.dec api_WorksC (lget (entCs (entAt S0.tab 0)))) (entNl (entAt S0.tab 1)) (lst intC (entN (entAt S0.tab 1)) (entC (entAt S0.tab 1))) (fun q0 => k .ret (newellaw09_ShaftNever_x9_r q0)) (fun (_ : Unit) => k (.exit 0) (newellaw09_ShaftNever_x9_0 (toI (lget S0.tmps 1)) (Cod.dec api_WorksC (lget (entCs (entAt S0.tab 0)))) (entNl (entAt S0.tab 1)) (lst intC (entN (entAt S0.tab 1)) (entC (entAt S0.tab 1)))))
def newellaw09_ShaftNever_lp {R : Type} (N : Nat) : Lp R := fun body S k => bif (Go.Sx.keyOf body).getD 0 == 9 then (newellaw09_ShaftNever_L9.head.raw 0 S (fun S0 => newellaw09_ShaftNever_d9 N S0 k)) else bif (Go.Sx.keyOf body).getD 0 == 14 then (newellaw09_ShaftNever_L14.head.raw 0 S (fun S0 => newellaw09_ShaftNever_d14 N S0 k)) else bif (Go.Sx.keyOf body).getD 0 == 24 then (newellaw09_ShaftNever_L24.head.raw 0 S (fun S0 => newellaw09_ShaftNever_d24 N S0 k)) else bif (Go.Sx.keyOf body).getD 0 == 35 then (newellaw09_ShaftNever_L35.head.raw 0 S (fun S0 => newellaw09_ShaftNever_d35 N S0 k)) else Option.none
theorem newellaw09_ShaftNever_l9_eq {R : Type} (N : Nat) (k : Exit → St → Option R) (n : Nat) : ∀ (v0 : Int) (v1 : Int) (v2 : Int) (v3 : api_Works) (v4 : Bool) (v5 : Arr Int), loopM E.Θ (newellaw09_works_cal N) (newellaw09_ShaftNever_lp N) (noJn) 0 newellaw09_ShaftNever_L9 (bodyAt E 8 9) n (newellaw09_ShaftNever_h9 v0 v1 v2 v3 v4 v5) k = newellaw09_ShaftNever_l9 N n v0 v1 v2 v3 v4 v5 (fun q0 => k .ret (newellaw09_ShaftNever_x9_r q0)) (fun (_ : Unit) => k (.exit 0) (newellaw09_ShaftNever_x9_0 v0 v3 v4 v5)) := by
  induction n with
  | zero => intro v0 v1 v2 v3 v4 v5; rfl
  | succ n ih =>
    intro v0 v1 v2 v3 v4 v5
    refine Eq.trans (b := newellaw09_ShaftNever_b9 N (fun v0 v1 v2 v3 v4 v5 => loopM E.Θ (newellaw09_works_cal N) (newellaw09_ShaftNever_lp N) (noJn) 0 newellaw09_ShaftNever_L9 (bodyAt E 8 9) n (newellaw09_ShaftNever_h9 v0 v1 v2 v3 v4 v5) k) v0 v1 v2 v3 v4 v5 (fun q0 => k .ret (newellaw09_ShaftNever_x9_r q0)) (fun (_ : Unit) => k (.exit 0) (newellaw09_ShaftNever_x9_0 v0 v3 v4 v5))) (by kernel_rfl) ?_
    have h : (fun (v0 : Int) (v1 : Int) (v2 : Int) (v3 : api_Works) (v4 : Bool) (v5 : Arr Int) => loopM E.Θ (newellaw09_works_cal N) (newellaw09_ShaftNever_lp N) (noJn) 0 newellaw09_ShaftNever_L9 (bodyAt E 8 9) n (newellaw09_ShaftNever_h9 v0 v1 v2 v3 v4 v5) k) = (fun (v0 : Int) (v1 : Int) (v2 : Int) (v3 : api_Works) (v4 : Bool) (v5 : Arr Int) => newellaw09_ShaftNever_l9 N n v0 v1 v2 v3 v4 v5 (fun q0 => k .ret (newellaw09_ShaftNever_x9_r q0)) (fun (_ : Unit) => k (.exit 0) (newellaw09_ShaftNever_x9_0 v0 v3 v4 v5))) := funext fun v0 => funext fun v1 => funext fun v2 => funext fun v3 => funext fun v4 => funext fun v5 => ih v0 v1 v2 v3 v4 v5
    rw [h]
    rfl
theorem newellaw09_ShaftNever_l14_eq {R : Type} (N : Nat) (k : Exit → St → Option R) (n : Nat) : ∀ (v0 : Int) (v1 : Int) (v2 : Int) (v3 : Int) (v4 : api_Works) (v5 : Bool) (v6 : Arr Int), loopM E.Θ (newellaw09_works_cal N) (newellaw09_ShaftNever_lp N) (noJn) 0 newellaw09_ShaftNever_L14 (bodyAt E 8 14) n (newellaw09_ShaftNever_h14 v0 v1 v2 v3 v4 v5 v6) k = newellaw09_ShaftNever_l14 N n v0 v1 v2 v3 v4 v5 v6 (fun q0 => k .ret (newellaw09_ShaftNever_x14_r q0)) (fun (_ : Unit) => k (.exit 2) (newellaw09_ShaftNever_x14_2 v0 v1 v2 v4 v5 v6)) := by
  induction n with
  | zero => intro v0 v1 v2 v3 v4 v5 v6; rfl
  | succ n ih =>
    intro v0 v1 v2 v3 v4 v5 v6
    refine Eq.trans (b := newellaw09_ShaftNever_b14 N (fun v0 v1 v2 v3 v4 v5 v6 => loopM E.Θ (newellaw09_works_cal N) (newellaw09_ShaftNever_lp N) (noJn) 0 newellaw09_ShaftNever_L14 (bodyAt E 8 14) n (newellaw09_ShaftNever_h14 v0 v1 v2 v3 v4 v5 v6) k) v0 v1 v2 v3 v4 v5 v6 (fun q0 => k .ret (newellaw09_ShaftNever_x14_r q0)) (fun (_ : Unit) => k (.exit 2) (newellaw09_ShaftNever_x14_2 v0 v1 v2 v4 v5 v6))) (by kernel_rfl) ?_
    have h : (fun (v0 : Int) (v1 : Int) (v2 : Int) (v3 : Int) (v4 : api_Works) (v5 : Bool) (v6 : Arr Int) => loopM E.Θ (newellaw09_works_cal N) (newellaw09_ShaftNever_lp N) (noJn) 0 newellaw09_ShaftNever_L14 (bodyAt E 8 14) n (newellaw09_ShaftNever_h14 v0 v1 v2 v3 v4 v5 v6) k) = (fun (v0 : Int) (v1 : Int) (v2 : Int) (v3 : Int) (v4 : api_Works) (v5 : Bool) (v6 : Arr Int) => newellaw09_ShaftNever_l14 N n v0 v1 v2 v3 v4 v5 v6 (fun q0 => k .ret (newellaw09_ShaftNever_x14_r q0)) (fun (_ : Unit) => k (.exit 2) (newellaw09_ShaftNever_x14_2 v0 v1 v2 v4 v5 v6))) := funext fun v0 => funext fun v1 => funext fun v2 => funext fun v3 => funext fun v4 => funext fun v5 => funext fun v6 => ih v0 v1 v2 v3 v4 v5 v6
    rw [h]
    rfl
theorem newellaw09_ShaftNever_l24_eq {R : Type} (N : Nat) (k : Exit → St → Option R) (n : Nat) : ∀ (v0 : Int) (v1 : Int) (v2 : Int) (v3 : Int) (v4 : Int) (v5 : Int) (v6 : api_Works) (v7 : Bool) (v8 : Arr Int), loopM E.Θ (newellaw09_works_cal N) (newellaw09_ShaftNever_lp N) (noJn) 0 newellaw09_ShaftNever_L24 (bodyAt E 8 24) n (newellaw09_ShaftNever_h24 v0 v1 v2 v3 v4 v5 v6 v7 v8) k = newellaw09_ShaftNever_l24 N n v0 v1 v2 v3 v4 v5 v6 v7 v8 (fun q0 => k .ret (newellaw09_ShaftNever_x24_r q0)) (fun q2 q3 => k (.exit 4) (newellaw09_ShaftNever_x24_4 v1 v2 v6 q2 q3)) := by
  induction n with
  | zero => intro v0 v1 v2 v3 v4 v5 v6 v7 v8; rfl
  | succ n ih =>
    intro v0 v1 v2 v3 v4 v5 v6 v7 v8
    refine Eq.trans (b := newellaw09_ShaftNever_b24 N (fun v0 v1 v2 v3 v4 v5 v6 v7 v8 => loopM E.Θ (newellaw09_works_cal N) (newellaw09_ShaftNever_lp N) (noJn) 0 newellaw09_ShaftNever_L24 (bodyAt E 8 24) n (newellaw09_ShaftNever_h24 v0 v1 v2 v3 v4 v5 v6 v7 v8) k) v0 v1 v2 v3 v4 v5 v6 v7 v8 (fun q0 => k .ret (newellaw09_ShaftNever_x24_r q0)) (fun q2 q3 => k (.exit 4) (newellaw09_ShaftNever_x24_4 v1 v2 v6 q2 q3))) (by kernel_rfl) ?_
    have h : (fun (v0 : Int) (v1 : Int) (v2 : Int) (v3 : Int) (v4 : Int) (v5 : Int) (v6 : api_Works) (v7 : Bool) (v8 : Arr Int) => loopM E.Θ (newellaw09_works_cal N) (newellaw09_ShaftNever_lp N) (noJn) 0 newellaw09_ShaftNever_L24 (bodyAt E 8 24) n (newellaw09_ShaftNever_h24 v0 v1 v2 v3 v4 v5 v6 v7 v8) k) = (fun (v0 : Int) (v1 : Int) (v2 : Int) (v3 : Int) (v4 : Int) (v5 : Int) (v6 : api_Works) (v7 : Bool) (v8 : Arr Int) => newellaw09_ShaftNever_l24 N n v0 v1 v2 v3 v4 v5 v6 v7 v8 (fun q0 => k .ret (newellaw09_ShaftNever_x24_r q0)) (fun q2 q3 => k (.exit 4) (newellaw09_ShaftNever_x24_4 v1 v2 v6 q2 q3))) := funext fun v0 => funext fun v1 => funext fun v2 => funext fun v3 => funext fun v4 => funext fun v5 => funext fun v6 => funext fun v7 => funext fun v8 => ih v0 v1 v2 v3 v4 v5 v6 v7 v8
    rw [h]
    rfl
theorem newellaw09_ShaftNever_l35_eq {R : Type} (N : Nat) (k : Exit → St → Option R) (n : Nat) : ∀ (v0 : Int) (v1 : Int) (v2 : api_Works), loopM E.Θ (newellaw09_works_cal N) (newellaw09_ShaftNever_lp N) (noJn) 0 newellaw09_ShaftNever_L35 (bodyAt E 8 35) n (newellaw09_ShaftNever_h35 v0 v1 v2) k = newellaw09_ShaftNever_l35 N n v0 v1 v2 (fun q0 => k .ret (newellaw09_ShaftNever_x35_r q0)) (fun (_ : Unit) => k (.exit 6) (newellaw09_ShaftNever_x35_6 )) := by
  induction n with
  | zero => intro v0 v1 v2; rfl
  | succ n ih =>
    intro v0 v1 v2
    refine Eq.trans (b := newellaw09_ShaftNever_b35 N (fun v0 v1 v2 => loopM E.Θ (newellaw09_works_cal N) (newellaw09_ShaftNever_lp N) (noJn) 0 newellaw09_ShaftNever_L35 (bodyAt E 8 35) n (newellaw09_ShaftNever_h35 v0 v1 v2) k) v0 v1 v2 (fun q0 => k .ret (newellaw09_ShaftNever_x35_r q0)) (fun (_ : Unit) => k (.exit 6) (newellaw09_ShaftNever_x35_6 ))) (by kernel_rfl) ?_
    have h : (fun (v0 : Int) (v1 : Int) (v2 : api_Works) => loopM E.Θ (newellaw09_works_cal N) (newellaw09_ShaftNever_lp N) (noJn) 0 newellaw09_ShaftNever_L35 (bodyAt E 8 35) n (newellaw09_ShaftNever_h35 v0 v1 v2) k) = (fun (v0 : Int) (v1 : Int) (v2 : api_Works) => newellaw09_ShaftNever_l35 N n v0 v1 v2 (fun q0 => k .ret (newellaw09_ShaftNever_x35_r q0)) (fun (_ : Unit) => k (.exit 6) (newellaw09_ShaftNever_x35_6 ))) := funext fun v0 => funext fun v1 => funext fun v2 => ih v0 v1 v2
    rw [h]
    rfl
theorem newellaw09_ShaftNever_k35 {R : Type} (N : Nat) : LpKey (R := R) E 8 0 (newellaw09_ShaftNever_lp N) 35 :=
  lpKey_of hE (newellaw09_works_cal_ok N) (lp := newellaw09_ShaftNever_lp N) (jn := noJn) newellaw09_ShaftNever_L35_ok [] kNil (by kernel_rfl) [] jNil (by kernel_rfl) N fun S k =>
    Eq.trans (b := newellaw09_ShaftNever_L35.head.raw 0 S (fun S0 => newellaw09_ShaftNever_d35 N S0 k)) (by kernel_rfl) (congrArg (newellaw09_ShaftNever_L35.head.raw 0 S) (funext fun S0 => Eq.trans (newellaw09_ShaftNever_l35_eq N k N (toI (lget S0.tmps 11)) (toI (lget S0.tmps 17)) (Cod.dec api_WorksC (lget (entCs (entAt S0.tab 0))))).symm (by kernel_rfl)))
theorem newellaw09_ShaftNever_k14 {R : Type} (N : Nat) : LpKey (R := R) E 8 0 (newellaw09_ShaftNever_lp N) 14 :=
  lpKey_of hE (newellaw09_works_cal_ok N) (lp := newellaw09_ShaftNever_lp N) (jn := noJn) newellaw09_ShaftNever_L14_ok [] kNil (by kernel_rfl) [] jNil (by kernel_rfl) N fun S k =>
    Eq.trans (b := newellaw09_ShaftNever_L14.head.raw 0 S (fun S0 => newellaw09_ShaftNever_d14 N S0 k)) (by kernel_rfl) (congrArg (newellaw09_ShaftNever_L14.head.raw 0 S) (funext fun S0 => Eq.trans (newellaw09_ShaftNever_l14_eq N k N (toI (lget S0.tmps 1)) (toI (lget S0.tmps 6)) (toI (lget S0.tmps 8)) (toI (lget S0.tmps 9)) (Cod.dec api_WorksC (lget (entCs (entAt S0.tab 0)))) (entNl (entAt S0.tab 1)) (lst intC (entN (entAt S0.tab 1)) (entC (entAt S0.tab 1)))).symm (by kernel_rfl)))
theorem newellaw09_ShaftNever_k24 {R : Type} (N : Nat) : LpKey (R := R) E 8 0 (newellaw09_ShaftNever_lp N) 24 :=
  lpKey_of hE (newellaw09_works_cal_ok N) (lp := newellaw09_ShaftNever_lp N) (jn := noJn) newellaw09_ShaftNever_L24_ok [] kNil (by kernel_rfl) [] jNil (by kernel_rfl) N fun S k =>
    Eq.trans (b := newellaw09_ShaftNever_L24.head.raw 0 S (fun S0 => newellaw09_ShaftNever_d24 N S0 k)) (by kernel_rfl) (congrArg (newellaw09_ShaftNever_L24.head.raw 0 S) (funext fun S0 => Eq.trans (newellaw09_ShaftNever_l24_eq N k N (toI (lget S0.tmps 1)) (toI (lget S0.tmps 11)) (toI (lget S0.tmps 12)) (toI (lget S0.tmps 13)) (toI (lget S0.tmps 14)) (toI (lget S0.tmps 15)) (Cod.dec api_WorksC (lget (entCs (entAt S0.tab 0)))) (entNl (entAt S0.tab 1)) (lst intC (entN (entAt S0.tab 1)) (entC (entAt S0.tab 1)))).symm (by kernel_rfl)))
theorem newellaw09_ShaftNever_k9 {R : Type} (N : Nat) : LpKey (R := R) E 8 0 (newellaw09_ShaftNever_lp N) 9 :=
  lpKey_of hE (newellaw09_works_cal_ok N) (lp := newellaw09_ShaftNever_lp N) (jn := noJn) newellaw09_ShaftNever_L9_ok [14] (kCons (newellaw09_ShaftNever_k14 N) kNil) (by kernel_rfl) [] jNil (by kernel_rfl) N fun S k =>
    Eq.trans (b := newellaw09_ShaftNever_L9.head.raw 0 S (fun S0 => newellaw09_ShaftNever_d9 N S0 k)) (by kernel_rfl) (congrArg (newellaw09_ShaftNever_L9.head.raw 0 S) (funext fun S0 => Eq.trans (newellaw09_ShaftNever_l9_eq N k N (toI (lget S0.tmps 1)) (toI (lget S0.tmps 6)) (toI (lget S0.tmps 8)) (Cod.dec api_WorksC (lget (entCs (entAt S0.tab 0)))) (entNl (entAt S0.tab 1)) (lst intC (entN (entAt S0.tab 1)) (entC (entAt S0.tab 1)))).symm (by kernel_rfl)))
noncomputable def newellaw09_ShaftNever_go {R : Type} (N : Nat) (args : List SV) (T : Tab) (kf : SV × Tab → Option R) : Option R :=
  newellaw09_ShaftNever N (Cod.dec api_WorksC (lget (toCs (lget args 0)))) (toI (lget args 1)) (fun q0 => kf (lget [.bool q0] 0, []))
noncomputable def newellaw09_ShaftNever_cal {R : Type} (N : Nat) : Cal R := callM (newellaw09_works_cal N) 8 0 newellaw09_ShaftNever_sp (newellaw09_ShaftNever_go N)
theorem newellaw09_ShaftNever_cal_ok {R : Type} (N : Nat) : CalOk E.P (newellaw09_ShaftNever_cal (R := R) N) :=
  callM_ok hE (newellaw09_works_cal_ok N) (lp := newellaw09_ShaftNever_lp N) (jn := noJn) (keys := [9, 14, 24, 35]) (kCons (newellaw09_ShaftNever_k9 N) (kCons (newellaw09_ShaftNever_k14 N) (kCons (newellaw09_ShaftNever_k24 N) (kCons (newellaw09_ShaftNever_k35 N) kNil)))) (by kernel_rfl) (js := []) jNil (by kernel_rfl) newellaw09_ShaftNever_sp_ok newellaw09_ShaftNever_rs_ok (fun args T kf => Eq.trans (newellaw09_ShaftNever_def N (Cod.dec api_WorksC (lget (toCs (lget args 0)))) (toI (lget args 1)) (fun q0 => kf (lget [.bool q0] 0, []))) (by kernel_rfl : newellaw09_ShaftNever_run N args T kf = fnM E (newellaw09_works_cal N) (newellaw09_ShaftNever_lp N) (noJn) 8 (newellaw09_ShaftNever_sp.vs args) (newellaw09_ShaftNever_sp.tab T) 0 (resK newellaw09_ShaftNever_rs kf)))
section
open Classical
variable {R : Type}
theorem endN_le {w : api_Works} {f : Nat → Int} {B : Int} (hB : 0 ≤ B) : ∀ i, (∀ j, j < i → f j + (w.Jobs.f j).Nights ≤ B) → endN w f i ≤ B := by
  intro i
  induction i with
  | zero => intro _; exact hB
  | succ i ih =>
    intro h
    have h1 := ih (fun j hj => h j (by omega))
    have h2 := h i (by omega)
    simp only [endN]
    omega
theorem endN_ge {w : api_Works} {f : Nat → Int} : ∀ i j, j < i → f j + (w.Jobs.f j).Nights ≤ endN w f i := by
  intro i
  induction i with
  | zero => intro j hj; omega
  | succ i ih =>
    intro j hj
    simp only [endN]
    by_cases e : j = i
    · subst e; omega
    · have := ih j (by omega); omega
theorem nt_mono {w : api_Works} {p : Arr Int} {x : Int} : ∀ d i, (nt w p x (i + d)).2.2 = false → (nt w p x i).2.2 = false := by
  intro d
  induction d with
  | zero => intro i h; exact h
  | succ d ih =>
    intro i h
    apply ih i
    rw [show i + (d + 1) = (i + d) + 1 by omega] at h
    simp only [nt] at h
    cases c : (decide (p.f (i + d) ≤ x) && decide (x < p.f (i + d) + (w.Jobs.f (i + d)).Nights))
    · rw [c, cond_false] at h; exact h
    · rw [c, cond_true] at h
      simp only [Bool.or_eq_false_iff] at h
      exact h.1
variable {w : api_Works} (v : VW w) {p : Arr Int} (hn : p.n = w.Jobs.n) (g : Good w p)
include v hn g
theorem b24 : ∀ i, i < w.Jobs.n → 0 ≤ p.f i ∧ p.f i ≤ 24 := fun i hi => by
  have := g.fits v i hi
  have h2 := (v.jobs i hi).n
  have h3 := v.u
  unfold job at h2
  omega
theorem nv_l14 (N : Nat) (x en : Int) (nl : Bool) {i : Nat} (hi : i < w.Jobs.n) (kr : Bool → Option R) (k2 : Unit → Option R) : ∀ (q k n : Nat), k + q = (w.Jobs.f i).After.n → (w.Jobs.f i).After.n ≤ 10 → q < n → newellaw09_ShaftNever_l14 N n x en (i : Int) (k : Int) w nl p kr k2 = k2 () := by
  intro q
  induction q with
  | zero =>
    intro k n h1 h2 h3
    obtain ⟨n, rfl⟩ : ∃ m, n = m + 1 := ⟨n - 1, by omega⟩
    unfold newellaw09_ShaftNever_l14 newellaw09_ShaftNever_b14
    simp only [ltT hi, nat_nonneg, Bool.and_self, cond_true, Int.toNat_natCast]
    rw [ltF (show (w.Jobs.f i).After.n ≤ k by omega), cond_false]
  | succ q ih =>
    intro k n h1 h2 h3
    obtain ⟨n, rfl⟩ : ∃ m, n = m + 1 := ⟨n - 1, by omega⟩
    have hA := v.nf i hi k (by unfold job; omega)
    unfold job at hA
    obtain ⟨a, ha⟩ : ∃ a : Nat, (w.Jobs.f i).After.f k = (a : Int) := ⟨((w.Jobs.f i).After.f k).toNat, by omega⟩
    have ha2 : a < i := by omega
    have hb := b24 v hn g a (by omega)
    have hN := (v.jobs a (by omega)).n
    unfold job at hN
    have hl : ¬ p.f i < p.f a + (w.Jobs.f a).Nights := fun c => by
      have h4 := g.b2 i hi
      have : bad2 w p i = true := anyN_iff.2 ⟨k, by omega, by omega, by unfold late; rw [ha, Int.toNat_natCast]; exact decide_eq_true c⟩
      rw [h4] at this; cases this
    unfold newellaw09_ShaftNever_l14 newellaw09_ShaftNever_b14
    simp only [hn, ltT hi, ltT (show k < (w.Jobs.f i).After.n by omega), nat_nonneg, Bool.and_self, cond_true, Int.toNat_natCast, ha, ltT (show a < w.Jobs.n by omega), w64_eq (show -9223372036854775808 ≤ p.f a + (w.Jobs.f a).Nights by omega) (by omega), decide_eq_false hl, cond_false, w64_succ (show k < 1000000000000 by omega)]
    exact ih (k + 1) n (by omega) h2 (by omega)
theorem nv_l9 (N : Nat) (hN : 20 ≤ N) (x en : Int) (nl : Bool) (hen : ∀ j, j < w.Jobs.n → p.f j + (w.Jobs.f j).Nights ≤ en) (he2 : 0 ≤ en ∧ en ≤ 24) (kr : Bool → Option R) (k0 : Unit → Option R) : ∀ (q i n : Nat), i + q = w.Jobs.n → q < n → newellaw09_ShaftNever_l9 N n x en (i : Int) w nl p kr k0 = k0 () := by
  have hj := v.j
  intro q
  induction q with
  | zero =>
    intro i n h1 h2
    obtain ⟨n, rfl⟩ : ∃ m, n = m + 1 := ⟨n - 1, by omega⟩
    unfold newellaw09_ShaftNever_l9 newellaw09_ShaftNever_b9
    rw [ltF (show p.n ≤ i by omega), cond_false]
  | succ q ih =>
    intro i n h1 h2
    obtain ⟨n, rfl⟩ : ∃ m, n = m + 1 := ⟨n - 1, by omega⟩
    have hi : i < w.Jobs.n := by omega
    have hb := b24 v hn g i hi
    have hNi := (v.jobs i hi).n
    unfold job at hNi
    have := hen i hi
    unfold newellaw09_ShaftNever_l9 newellaw09_ShaftNever_b9
    simp only [hn, ltT hi, nat_nonneg, Bool.and_self, cond_true, Int.toNat_natCast, decide_eq_false (show ¬ p.f i < 0 by omega), cond_false, w64_eq (show -9223372036854775808 ≤ en - (w.Jobs.f i).Nights by omega) (by omega), decide_eq_false (show ¬ p.f i > en - (w.Jobs.f i).Nights by omega), w64_succ (show i < 1000000000000 by omega)]
    have h14 := nv_l14 (R := R) v hn g N x en nl hi (fun r1537 => kr r1537) (fun _ => newellaw09_ShaftNever_l9 N n x en ((i + 1 : Nat) : Int) w nl p kr k0) (w.Jobs.f i).After.n 0 N (by omega) (after_le v hi) (by have := after_le v hi; omega)
    exact h14.trans (ih (i + 1) n (by omega) (by omega))
theorem nv_l24 (N : Nat) (x r1 r2 : Int) (nl : Bool) (hx : 0 ≤ x ∧ x ≤ 1000) (h3 : (ntA w p x).2.2 = false) (kr : Bool → Option R) (k4 : Int → Int → Option R) : ∀ (q i n : Nat), i + q = w.Jobs.n → q < n →
    newellaw09_ShaftNever_l24 N n x r1 r2 (((nt w p x i).2.1 : Nat) : Int) (((nt w p x i).1 : Nat) : Int) (i : Int) w nl p kr k4 = k4 (((ntA w p x).2.1 : Nat) : Int) (((ntA w p x).1 : Nat) : Int) := by
  intro q
  induction q with
  | zero =>
    intro i n h1 h2
    obtain ⟨n, rfl⟩ : ∃ m, n = m + 1 := ⟨n - 1, by omega⟩
    unfold newellaw09_ShaftNever_l24 newellaw09_ShaftNever_b24
    rw [ltF (show p.n ≤ i by omega), cond_false]
    have : i = w.Jobs.n := by omega
    subst this; rfl
  | succ q ih =>
    intro i n h1 h2
    obtain ⟨n, rfl⟩ : ∃ m, n = m + 1 := ⟨n - 1, by omega⟩
    have hr := ih (i + 1) n (by omega) (by omega)
    rw [← hr]
    have hS := nt_lt v p x i (by omega)
    have hm := (v.jobs i (by omega)).m
    have hni := (v.jobs i (by omega)).n
    have hm2 := v.m
    have hjn := v.j
    have hbi := b24 v hn g i (by omega)
    unfold job at hm hni
    have hno : (nt w p x (i + 1)).2.2 = false := nt_mono q (i + 1) (by rw [show i + 1 + q = w.Jobs.n by omega]; exact h3)
    conv => lhs; unfold newellaw09_ShaftNever_l24 newellaw09_ShaftNever_b24
    simp only [nt] at hno
    simp only [hn, ltT (show i < w.Jobs.n by omega), nat_nonneg, Bool.and_self, cond_true, Int.toNat_natCast (n := i), w64_succ (show i < 1000000000000 by omega), u64_pos hm.1 (by omega),
      w64_eq (show -9223372036854775808 ≤ p.f i + (w.Jobs.f i).Nights by omega) (by omega), decide_eq_false (show ¬ (w.Jobs.f i).Machine < 0 by omega), cond_false,
      or_bit hS.1 hm.1 (by omega), and_bit hS.1 hm.1 (by omega), w64_succ (show (nt w p x i).2.1 < 1000000000000 by omega), nt]
    by_cases c1 : p.f i ≤ x
    rotate_left
    · simp only [c1, decide_false, cond_false, Bool.false_and]
    by_cases c2 : x < p.f i + (w.Jobs.f i).Nights
    rotate_left
    · simp only [c1, c2, decide_true, decide_false, cond_true, cond_false, Bool.and_false]
    simp only [c1, c2, decide_true, cond_true, Bool.and_self, Bool.or_eq_false_iff] at hno ⊢
    rw [hno.2, cond_false]
theorem nv_l35 (N : Nat) {S : Nat} (hS : S < 4096) (hs : anyN (inSet w S) w.Never.n 0 = false) (kr : Bool → Option R) (k6 : Unit → Option R) : ∀ (q i n : Nat), i + q = w.Never.n → q < n → newellaw09_ShaftNever_l35 N n ((S : Nat) : Int) (i : Int) w kr k6 = k6 () := by
  have hnv := v.nv
  intro q
  induction q with
  | zero =>
    intro i n h1 h2
    obtain ⟨n, rfl⟩ : ∃ m, n = m + 1 := ⟨n - 1, by omega⟩
    unfold newellaw09_ShaftNever_l35 newellaw09_ShaftNever_b35
    rw [ltF (show w.Never.n ≤ i by omega), cond_false]
  | succ q ih =>
    intro i n h1 h2
    obtain ⟨n, rfl⟩ : ∃ m, n = m + 1 := ⟨n - 1, by omega⟩
    have : inSet w S i = false := by
      cases e : inSet w S i
      · rfl
      · have : anyN (inSet w S) w.Never.n 0 = true := anyN_iff.2 ⟨i, by omega, by omega, e⟩
        rw [hs] at this; cases this
    unfold newellaw09_ShaftNever_l35 newellaw09_ShaftNever_b35
    simp only [ltT (show i < w.Never.n by omega), nat_nonneg, Bool.and_self, cond_true, Int.toNat_natCast (n := i), w64_succ (show i < 1000000000000 by omega)]
    rw [never_eq v hS (by omega), this, cond_false]
    exact ih (i + 1) n (by omega) (by omega)
theorem sOut_ok (nf : NF w) (N : Nat) (hN : 100 ≤ N) (x : Int) (hx : 0 ≤ x ∧ x < w.Until) (k : Int → Int → Option R) : shaft_Out N w p x k = k (((ntA w p x).1 : Nat) : Int) 0 := by
  have u := v.u
  have hj := v.j
  rw [shaft_Out_def]
  unfold shaft_Out_m
  rw [ck_eq nf p N hN, if_pos v, if_pos hn, show ((0 : Int) != 0) = false from rfl, cond_false, decide_eq_false (show ¬ x < 0 by omega), cond_false, decide_eq_false (show ¬ x ≥ w.Until by omega), cond_false, cont_eq p (by omega) N (by omega)]
  have hb := b24 v hn g
  have : anyN (outB p) p.n 0 = false := by
    cases e : anyN (outB p) p.n 0
    · rfl
    · obtain ⟨i, h1, h2, h3⟩ := anyN_iff.1 e
      unfold outB at h3
      rw [decide_eq_true (hb i (by omega))] at h3; cases h3
  rw [this, cond_false, night_eq v hn hb N (by omega) x ⟨by omega, by omega⟩]
omit v hn g in
theorem shaftNever_true (w : api_Works) (x : Int) (hw : w.wf) (hx : i64 x) : ∃ N, newellaw09_ShaftNever N w x (fun q0 => okK (lget [.bool q0] 0, [])) = some () := by
  refine ⟨200200, ?_⟩
  rw [newellaw09_ShaftNever_def]
  unfold newellaw09_ShaftNever_m
  have hM : (200100 : Nat) ≤ 200200 := by omega
  refine viaFarW (by omega) (fun b hb => ?_)
  simp only [works_eq _ hM]
  cases b
  rotate_left
  · rfl
  have nf := hb rfl
  rw [cond_false, rWorks_eq nf _ (show 100 ≤ 200200 by omega)]
  unfold errW
  by_cases v : VW w
  rotate_left
  · rw [if_neg v]; rfl
  rw [if_pos v, show ((0 : Int) != 0) = false from rfl, cond_false]
  refine viaPlan nf hM (fun nl arr hp => ?_)
  rcases plE_cases v with h0 | h0 | h0
  rotate_left
  · rw [h0]; rfl
  · rw [h0]; rfl
  obtain ⟨b, e, hst, hd⟩ := hp.1 h0
  have hs := stP_spec w (cnt w)
  rw [hst] at hs
  obtain ⟨_, s2, s3, _⟩ := hs
  have hn := hd.1
  have g : Good w arr := by
    rw [← good_iff, hd.judge v]
    unfold okX at s2
    simpa using s2
  have hE : plEnd w = e := by unfold plEnd; rw [if_pos h0, hst]
  have hE2 : e = endN w arr.f w.Jobs.n := by rw [hd.ends, s3]
  have vu := v.u
  have hf := g.fits v
  have e1 : endN w arr.f w.Jobs.n ≤ w.Until := endN_le (by omega) _ (fun j hj => (hf j hj).2)
  have e2 : ∀ j, j < w.Jobs.n → arr.f j + (w.Jobs.f j).Nights ≤ e := fun j hj => by rw [hE2]; exact endN_ge _ j hj
  have e3 : 0 ≤ e := by
    have := v.j
    have h1 := e2 0 (by omega)
    have h2 := hf 0 (by omega)
    have h3 := (v.jobs 0 (by omega)).n
    unfold job at h3
    omega
  rw [h0, show ((0 : Int) != 0) = false from rfl, cond_false, eqB' hn, cond_false, hE, decide_eq_false (show ¬ e > w.Until by omega), cond_false]
  have vj := v.j
  have L9 := fun (kr : Bool → Option Unit) (k0 : Unit → Option Unit) => nv_l9 (R := Unit) v hn g 200200 (by omega) x e nl e2 ⟨e3, by omega⟩ kr k0 w.Jobs.n 0 200200 (by omega) (by omega)
  refine (L9 _ _).trans ?_
  by_cases x1 : x < 0
  · rw [decide_eq_true x1]; rfl
  rw [decide_eq_false x1, cond_false]
  by_cases x2 : x ≥ w.Until
  · rw [decide_eq_true x2]; rfl
  rw [decide_eq_false x2, cond_false, sOut_ok v hn g nf 200200 (by omega) x ⟨by omega, by omega⟩]
  have hxn : ((x.toNat : Nat) : Int) = x := by omega
  have b3 := g.b3 x.toNat (by omega)
  have b4 := g.b4 x.toNat (by omega)
  have b5 := g.b5 x.toNat (by omega)
  unfold bad3 at b3
  unfold bad4 at b4
  unfold bad5 at b5
  rw [hxn] at b3 b4 b5
  have L24 := fun (kr : Bool → Option Unit) (k4 : Int → Int → Option Unit) => nv_l24 (R := Unit) v hn g 200200 x (((ntA w arr x).1 : Nat) : Int) 0 nl ⟨by omega, by omega⟩ b3 kr k4 w.Jobs.n 0 200200 (by omega) (by omega)
  refine (L24 _ _).trans ?_
  rw [show ((0 : Int) != 0) = false from rfl, cond_false, bne_self_eq_false, cond_false, b4, cond_false]
  have vn := v.nv
  exact nv_l35 (R := Unit) v hn g 200200 (nt_lt v arr x _ (Nat.le_refl _)).1 b5 _ _ w.Never.n 0 200200 (by omega) (by omega)
end
end
end Go.Proofs.YtckkodiefpdmhaaDoor
