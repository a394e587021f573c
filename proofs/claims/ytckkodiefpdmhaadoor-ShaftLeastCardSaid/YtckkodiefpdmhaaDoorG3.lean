import Derived.Test.YtckkodiefpdmhaaDoorG2
set_option maxRecDepth 100000
set_option maxHeartbeats 0
set_option linter.unusedVariables false
namespace Go.Proofs.YtckkodiefpdmhaaDoor
open Go.Sx
noncomputable section
def newelref09_reason_L2 : LoopSp := ⟨⟨[1, 2, 6], ⟨(dr 1 ((rSl intC) :: (rPtr 0 0) :: (dr 3 ((rInt .i64) :: (dr 148 []))))), [(0, eBlkC api_WorksC)]⟩, 1⟩, [(Option.none, ⟨[4, 5], ⟨(dr 4 ((rInt .i64) :: (rInt .i64) :: (dr 149 []))), []⟩, 0⟩), (some 0, ⟨[1, 2], ⟨(dr 1 ((rSl intC) :: (rPtr 0 0) :: (dr 152 []))), [(0, eBlkC api_WorksC)]⟩, 1⟩)]⟩
theorem newelref09_reason_L2_ok : newelref09_reason_L2.Ok := ⟨⟨(drCons 1 (allCons (rSl_ok intC_ok) (allCons (rPtr_ok 0 0) (drCons 3 (allCons (rInt_ok .i64) (drCons 148 allNil)))))), (eCons (eBlkC_ok api_WorksC_ok api_WorksC_len) eNil)⟩, (xCons ⟨(drCons 4 (allCons (rInt_ok .i64) (allCons (rInt_ok .i64) (drCons 149 allNil)))), eNil⟩ (xCons ⟨(drCons 1 (allCons (rSl_ok intC_ok) (allCons (rPtr_ok 0 0) (drCons 152 allNil)))), (eCons (eBlkC_ok api_WorksC_ok api_WorksC_len) eNil)⟩ xNil))⟩
def newelref09_reason_h2 (v604 : Arr Int) (v605 : Int) (v606 : api_Works) : St := ⟨(un 1 ((slC intC v604) :: (.ptr 0 0) :: (un 3 ((.int .i64 v605) :: (un 148 []))))), [(0, .blk (Cod.enc api_WorksC v606))], 1⟩
def newelref09_reason_x2_r (q0 : Int) (q1 : Int) : St := ⟨(un 4 ((.int .i64 q0) :: (.int .i64 q1) :: (un 149 []))), [], 0⟩
def newelref09_reason_x2_0 (v604 : Arr Int) (v606 : api_Works) : St := ⟨(un 1 ((slC intC v604) :: (.ptr 0 0) :: (un 152 []))), [(0, .blk (Cod.enc api_WorksC v606))], 1⟩
def newelref09_reason_b2 {R : Type} (N : Nat) (rc : Arr Int → Int → api_Works → Option R) (v604 : Arr Int) (v605 : Int) (v606 : api_Works) (kr : Int → Int → Option R) (k0 : Unit → Option R) : Option R :=
  bif decide (v605 < (↑(Arr.n (api_Works.Jobs v606)) : Int)) then
   bif decide ((0 : Int) ≤ v605) && decide (v605 < (↑(Arr.n v604) : Int)) then
    bif decide (Arr.f v604 (Int.toNat v605) < (0 : Int)) then
     kr (1 : Int) v605
    else
     bif decide ((0 : Int) ≤ v605) && decide (v605 < (↑(Arr.n v604) : Int)) then
      bif decide ((0 : Int) ≤ v605) && decide (v605 < (↑(Arr.n (api_Works.Jobs v606)) : Int)) then
       bif decide (Arr.f v604 (Int.toNat v605) > w64 (api_Works.Until v606 - api_Job.Nights (Arr.f (api_Works.Jobs v606) (Int.toNat v605)))) then
        kr (1 : Int) v605
       else
        rc v604 (w64 (v605 + (1 : Int))) v606
      else
       Option.none
     else
      Option.none
   else
    Option.none
  else
   k0 ()
def newelref09_reason_l2 {R : Type} (N : Nat) : Nat → Arr Int → Int → api_Works → (Int → Int → Option R) → (Unit → Option R) → Option R
  | 0, _, _, _, _, _ => Option.none
  | n + 1, v604, v605, v606, kr, k0 => newelref09_reason_b2 N (fun v604 v605 v606 => newelref09_reason_l2 N n v604 v605 v606 kr k0) v604 v605 v606 kr k0
def newelref09_reason_L10 : LoopSp := ⟨⟨[1, 2, 7, 8], ⟨(dr 1 ((rSl intC) :: (rPtr 0 0) :: (dr 4 ((rInt .i64) :: (rInt .i64) :: (dr 146 []))))), [(0, eBlkC api_WorksC)]⟩, 1⟩, [(Option.none, ⟨[4, 5], ⟨(dr 4 ((rInt .i64) :: (rInt .i64) :: (dr 149 []))), []⟩, 0⟩), (some 4, ⟨[1, 2, 7], ⟨(dr 1 ((rSl intC) :: (rPtr 0 0) :: (dr 4 ((rInt .i64) :: (dr 147 []))))), [(0, eBlkC api_WorksC)]⟩, 1⟩)]⟩
theorem newelref09_reason_L10_ok : newelref09_reason_L10.Ok := ⟨⟨(drCons 1 (allCons (rSl_ok intC_ok) (allCons (rPtr_ok 0 0) (drCons 4 (allCons (rInt_ok .i64) (allCons (rInt_ok .i64) (drCons 146 allNil))))))), (eCons (eBlkC_ok api_WorksC_ok api_WorksC_len) eNil)⟩, (xCons ⟨(drCons 4 (allCons (rInt_ok .i64) (allCons (rInt_ok .i64) (drCons 149 allNil)))), eNil⟩ (xCons ⟨(drCons 1 (allCons (rSl_ok intC_ok) (allCons (rPtr_ok 0 0) (drCons 4 (allCons (rInt_ok .i64) (drCons 147 allNil)))))), (eCons (eBlkC_ok api_WorksC_ok api_WorksC_len) eNil)⟩ xNil))⟩
def newelref09_reason_h10 (v612 : Arr Int) (v613 : Int) (v614 : Int) (v615 : api_Works) : St := ⟨(un 1 ((slC intC v612) :: (.ptr 0 0) :: (un 4 ((.int .i64 v613) :: (.int .i64 v614) :: (un 146 []))))), [(0, .blk (Cod.enc api_WorksC v615))], 1⟩
def newelref09_reason_x10_r (v613 : Int) (q0 : Int) : St := ⟨(un 4 ((.int .i64 q0) :: (.int .i64 v613) :: (un 149 []))), [], 0⟩
def newelref09_reason_x10_4 (v612 : Arr Int) (v613 : Int) (v615 : api_Works) : St := ⟨(un 1 ((slC intC v612) :: (.ptr 0 0) :: (un 4 ((.int .i64 v613) :: (un 147 []))))), [(0, .blk (Cod.enc api_WorksC v615))], 1⟩
def newelref09_reason_b10 {R : Type} (N : Nat) (rc : Arr Int → Int → Int → api_Works → Option R) (v612 : Arr Int) (v613 : Int) (v614 : Int) (v615 : api_Works) (kr : Int → Option R) (k4 : Unit → Option R) : Option R :=
  bif decide ((0 : Int) ≤ v613) && decide (v613 < (↑(Arr.n (api_Works.Jobs v615)) : Int)) then
   bif decide (v614 < (↑(Arr.n (api_Job.After (Arr.f (api_Works.Jobs v615) (Int.toNat v613)))) : Int)) then
    bif decide ((0 : Int) ≤ v613) && decide (v613 < (↑(Arr.n (api_Works.Jobs v615)) : Int)) then
     bif decide ((0 : Int) ≤ v614) && decide (v614 < (↑(Arr.n (api_Job.After (Arr.f (api_Works.Jobs v615) (Int.toNat v613)))) : Int)) then
      bif decide ((0 : Int) ≤ v613) && decide (v613 < (↑(Arr.n v612) : Int)) then
       bif decide ((0 : Int) ≤ Arr.f (api_Job.After (Arr.f (api_Works.Jobs v615) (Int.toNat v613))) (Int.toNat v614)) && decide (Arr.f (api_Job.After (Arr.f (api_Works.Jobs v615) (Int.toNat v613))) (Int.toNat v614) < (↑(Arr.n v612) : Int)) then
        bif decide ((0 : Int) ≤ Arr.f (api_Job.After (Arr.f (api_Works.Jobs v615) (Int.toNat v613))) (Int.toNat v614)) && decide (Arr.f (api_Job.After (Arr.f (api_Works.Jobs v615) (Int.toNat v613))) (Int.toNat v614) < (↑(Arr.n (api_Works.Jobs v615)) : Int)) then
         bif decide (Arr.f v612 (Int.toNat v613) < w64 (Arr.f v612 (Int.toNat (Arr.f (api_Job.After (Arr.f (api_Works.Jobs v615) (Int.toNat v613))) (Int.toNat v614))) + api_Job.Nights (Arr.f (api_Works.Jobs v615) (Int.toNat (Arr.f (api_Job.After (Arr.f (api_Works.Jobs v615) (Int.toNat v613))) (Int.toNat v614)))))) then
          kr (2 : Int)
         else
          rc v612 v613 (w64 (v614 + (1 : Int))) v615
        else
         Option.none
       else
        Option.none
      else
       Option.none
     else
      Option.none
    else
     Option.none
   else
    k4 ()
  else
   Option.none
def newelref09_reason_l10 {R : Type} (N : Nat) : Nat → Arr Int → Int → Int → api_Works → (Int → Option R) → (Unit → Option R) → Option R
  | 0, _, _, _, _, _, _ => Option.none
  | n + 1, v612, v613, v614, v615, kr, k4 => newelref09_reason_b10 N (fun v612 v613 v614 v615 => newelref09_reason_l10 N n v612 v613 v614 v615 kr k4) v612 v613 v614 v615 kr k4
def newelref09_reason_L7 : LoopSp := ⟨⟨[1, 2, 7], ⟨(dr 1 ((rSl intC) :: (rPtr 0 0) :: (dr 4 ((rInt .i64) :: (dr 147 []))))), [(0, eBlkC api_WorksC)]⟩, 1⟩, [(Option.none, ⟨[4, 5], ⟨(dr 4 ((rInt .i64) :: (rInt .i64) :: (dr 149 []))), []⟩, 0⟩), (some 2, ⟨[1, 2], ⟨(dr 1 ((rSl intC) :: (rPtr 0 0) :: (dr 152 []))), [(0, eBlkC api_WorksC)]⟩, 1⟩)]⟩
theorem newelref09_reason_L7_ok : newelref09_reason_L7.Ok := ⟨⟨(drCons 1 (allCons (rSl_ok intC_ok) (allCons (rPtr_ok 0 0) (drCons 4 (allCons (rInt_ok .i64) (drCons 147 allNil)))))), (eCons (eBlkC_ok api_WorksC_ok api_WorksC_len) eNil)⟩, (xCons ⟨(drCons 4 (allCons (rInt_ok .i64) (allCons (rInt_ok .i64) (drCons 149 allNil)))), eNil⟩ (xCons ⟨(drCons 1 (allCons (rSl_ok intC_ok) (allCons (rPtr_ok 0 0) (drCons 152 allNil)))), (eCons (eBlkC_ok api_WorksC_ok api_WorksC_len) eNil)⟩ xNil))⟩
def newelref09_reason_h7 (v609 : Arr Int) (v610 : Int) (v611 : api_Works) : St := ⟨(un 1 ((slC intC v609) :: (.ptr 0 0) :: (un 4 ((.int .i64 v610) :: (un 147 []))))), [(0, .blk (Cod.enc api_WorksC v611))], 1⟩
def newelref09_reason_x7_r (q0 : Int) (q1 : Int) : St := ⟨(un 4 ((.int .i64 q0) :: (.int .i64 q1) :: (un 149 []))), [], 0⟩
def newelref09_reason_x7_2 (v609 : Arr Int) (v611 : api_Works) : St := ⟨(un 1 ((slC intC v609) :: (.ptr 0 0) :: (un 152 []))), [(0, .blk (Cod.enc api_WorksC v611))], 1⟩
def newelref09_reason_b7 {R : Type} (N : Nat) (rc : Arr Int → Int → api_Works → Option R) (v609 : Arr Int) (v610 : Int) (v611 : api_Works) (kr : Int → Int → Option R) (k2 : Unit → Option R) : Option R :=
  bif decide (v610 < (↑(Arr.n (api_Works.Jobs v611)) : Int)) then
   newelref09_reason_l10 N N v609 v610 (0 : Int) v611 (fun r616 =>
    kr r616 v610) (fun (_ : Unit) =>
    rc v609 (w64 (v610 + (1 : Int))) v611)
  else
   k2 ()
def newelref09_reason_l7 {R : Type} (N : Nat) : Nat → Arr Int → Int → api_Works → (Int → Int → Option R) → (Unit → Option R) → Option R
  | 0, _, _, _, _, _ => Option.none
  | n + 1, v609, v610, v611, kr, k2 => newelref09_reason_b7 N (fun v609 v610 v611 => newelref09_reason_l7 N n v609 v610 v611 kr k2) v609 v610 v611 kr k2
def newelref09_reason_L24 : LoopSp := ⟨⟨[1, 2, 10, 11, 12, 13, 14, 15, 16], ⟨(dr 1 ((rSl intC) :: (rPtr 0 0) :: (dr 7 ((rInt .i64) :: (rInt .i64) :: (rInt .i64) :: (rInt .i64) :: (rBool) :: (rBool) :: (rInt .i64) :: (dr 138 []))))), [(0, eBlkC api_WorksC)]⟩, 1⟩, [(some 10, ⟨[1, 2, 10, 11, 13, 14, 15], ⟨(dr 1 ((rSl intC) :: (rPtr 0 0) :: (dr 7 ((rInt .i64) :: (rInt .i64) :: (dr 1 ((rInt .i64) :: (rBool) :: (rBool) :: (dr 139 []))))))), [(0, eBlkC api_WorksC)]⟩, 1⟩)]⟩
theorem newelref09_reason_L24_ok : newelref09_reason_L24.Ok := ⟨⟨(drCons 1 (allCons (rSl_ok intC_ok) (allCons (rPtr_ok 0 0) (drCons 7 (allCons (rInt_ok .i64) (allCons (rInt_ok .i64) (allCons (rInt_ok .i64) (allCons (rInt_ok .i64) (allCons rBool_ok (allCons rBool_ok (allCons (rInt_ok .i64) (drCons 138 allNil)))))))))))), (eCons (eBlkC_ok api_WorksC_ok api_WorksC_len) eNil)⟩, (xCons ⟨(drCons 1 (allCons (rSl_ok intC_ok) (allCons (rPtr_ok 0 0) (drCons 7 (allCons (rInt_ok .i64) (allCons (rInt_ok .i64) (drCons 1 (allCons (rInt_ok .i64) (allCons rBool_ok (allCons rBool_ok (drCons 139 allNil))))))))))), (eCons (eBlkC_ok api_WorksC_ok api_WorksC_len) eNil)⟩ xNil)⟩
def newelref09_reason_h24 (v647 : Arr Int) (v648 : Int) (v649 : Int) (v650 : Int) (v651 : Int) (v652 : Bool) (v653 : Bool) (v654 : Int) (v655 : api_Works) : St := ⟨(un 1 ((slC intC v647) :: (.ptr 0 0) :: (un 7 ((.int .i64 v648) :: (.int .i64 v649) :: (.int .i64 v650) :: (.int .i64 v651) :: (.bool v652) :: (.bool v653) :: (.int .i64 v654) :: (un 138 []))))), [(0, .blk (Cod.enc api_WorksC v655))], 1⟩
def newelref09_reason_x24_10 (v647 : Arr Int) (v648 : Int) (v649 : Int) (v651 : Int) (v652 : Bool) (v655 : api_Works) (q5 : Bool) : St := ⟨(un 1 ((slC intC v647) :: (.ptr 0 0) :: (un 7 ((.int .i64 v648) :: (.int .i64 v649) :: (un 1 ((.int .i64 v651) :: (.bool v652) :: (.bool q5) :: (un 139 []))))))), [(0, .blk (Cod.enc api_WorksC v655))], 1⟩
def newelref09_reason_b24 {R : Type} (N : Nat) (rc : Arr Int → Int → Int → Int → Int → Bool → Bool → Int → api_Works → Option R) (v647 : Arr Int) (v648 : Int) (v649 : Int) (v650 : Int) (v651 : Int) (v652 : Bool) (v653 : Bool) (v654 : Int) (v655 : api_Works) (k10 : Bool → Option R) : Option R :=
  bif decide (v654 < (↑(Arr.n (api_Works.Never v655)) : Int)) then
   bif v653 then
    rc v647 v648 v649 v650 v651 v652 true (w64 (v654 + (1 : Int))) v655
   else
    bif decide ((0 : Int) ≤ v654) && decide (v654 < (↑(Arr.n (api_Works.Never v655)) : Int)) then
     bif decide ((0 : Int) ≤ v654) && decide (v654 < (↑(Arr.n (api_Works.Never v655)) : Int)) then
      rc v647 v648 v649 v650 v651 v652 (w64 (↑(BitVec.toNat (BitVec.ofInt (IntKind.bits IntKind.i64) v650 &&& BitVec.ofInt (IntKind.bits IntKind.i64) (Arr.f (api_Works.Never v655) (Int.toNat v654)))) : Int) == Arr.f (api_Works.Never v655) (Int.toNat v654)) (w64 (v654 + (1 : Int))) v655
     else
      Option.none
    else
     Option.none
  else
   k10 v653
def newelref09_reason_l24 {R : Type} (N : Nat) : Nat → Arr Int → Int → Int → Int → Int → Bool → Bool → Int → api_Works → (Bool → Option R) → Option R
  | 0, _, _, _, _, _, _, _, _, _, _ => Option.none
  | n + 1, v647, v648, v649, v650, v651, v652, v653, v654, v655, k10 => newelref09_reason_b24 N (fun v647 v648 v649 v650 v651 v652 v653 v654 v655 => newelref09_reason_l24 N n v647 v648 v649 v650 v651 v652 v653 v654 v655 k10) v647 v648 v649 v650 v651 v652 v653 v654 v655 k10
def newelref09_reason_L19 : LoopSp := ⟨⟨[1, 2, 10, 11], ⟨(dr 1 ((rSl intC) :: (rPtr 0 0) :: (dr 7 ((rInt .i64) :: (rInt .i64) :: (dr 143 []))))), [(0, eBlkC api_WorksC)]⟩, 1⟩, [(Option.none, ⟨[4, 5], ⟨(dr 4 ((rInt .i64) :: (rInt .i64) :: (dr 149 []))), []⟩, 0⟩), (some 8, ⟨[1, 2, 10], ⟨(dr 1 ((rSl intC) :: (rPtr 0 0) :: (dr 7 ((rInt .i64) :: (dr 144 []))))), [(0, eBlkC api_WorksC)]⟩, 1⟩)]⟩
theorem newelref09_reason_L19_ok : newelref09_reason_L19.Ok := ⟨⟨(drCons 1 (allCons (rSl_ok intC_ok) (allCons (rPtr_ok 0 0) (drCons 7 (allCons (rInt_ok .i64) (allCons (rInt_ok .i64) (drCons 143 allNil))))))), (eCons (eBlkC_ok api_WorksC_ok api_WorksC_len) eNil)⟩, (xCons ⟨(drCons 4 (allCons (rInt_ok .i64) (allCons (rInt_ok .i64) (drCons 149 allNil)))), eNil⟩ (xCons ⟨(drCons 1 (allCons (rSl_ok intC_ok) (allCons (rPtr_ok 0 0) (drCons 7 (allCons (rInt_ok .i64) (drCons 144 allNil)))))), (eCons (eBlkC_ok api_WorksC_ok api_WorksC_len) eNil)⟩ xNil))⟩
def newelref09_reason_h19 (v622 : Arr Int) (v623 : Int) (v624 : Int) (v625 : api_Works) : St := ⟨(un 1 ((slC intC v622) :: (.ptr 0 0) :: (un 7 ((.int .i64 v623) :: (.int .i64 v624) :: (un 143 []))))), [(0, .blk (Cod.enc api_WorksC v625))], 1⟩
def newelref09_reason_x19_r (v623 : Int) (q1 : Int) : St := ⟨(un 4 ((.int .i64 v623) :: (.int .i64 q1) :: (un 149 []))), [], 0⟩
def newelref09_reason_x19_8 (v622 : Arr Int) (v623 : Int) (v625 : api_Works) : St := ⟨(un 1 ((slC intC v622) :: (.ptr 0 0) :: (un 7 ((.int .i64 v623) :: (un 144 []))))), [(0, .blk (Cod.enc api_WorksC v625))], 1⟩
def newelref09_reason_b19 {R : Type} (N : Nat) (rc : Arr Int → Int → Int → api_Works → Option R) (v622 : Arr Int) (v623 : Int) (v624 : Int) (v625 : api_Works) (kr : Int → Option R) (k8 : Unit → Option R) : Option R :=
  bif decide (v624 < api_Works.Until v625) then
   newelref09_out N v625 v622 v624 (fun r644 r645 r646 =>
   newelref09_reason_l24 N N v622 v623 v624 r644 r645 r646 false (0 : Int) v625 (fun r656 =>
    bif v623 == (3 : Int) then
     bif r646 then
      kr v624
     else
      bif v623 == (4 : Int) then
       bif decide (r645 > api_Works.Crews v625) then
        kr v624
       else
        bif v623 == (5 : Int) then
         bif r656 then
          kr v624
         else
          rc v622 v623 (w64 (v624 + (1 : Int))) v625
        else
         rc v622 v623 (w64 (v624 + (1 : Int))) v625
      else
       bif v623 == (5 : Int) then
        bif r656 then
         kr v624
        else
         rc v622 v623 (w64 (v624 + (1 : Int))) v625
       else
        rc v622 v623 (w64 (v624 + (1 : Int))) v625
    else
     bif v623 == (4 : Int) then
      bif decide (r645 > api_Works.Crews v625) then
       kr v624
      else
       bif v623 == (5 : Int) then
        bif r656 then
         kr v624
        else
         rc v622 v623 (w64 (v624 + (1 : Int))) v625
       else
        rc v622 v623 (w64 (v624 + (1 : Int))) v625
     else
      bif v623 == (5 : Int) then
       bif r656 then
        kr v624
       else
        rc v622 v623 (w64 (v624 + (1 : Int))) v625
      else
       rc v622 v623 (w64 (v624 + (1 : Int))) v625))
  else
   k8 ()
def newelref09_reason_l19 {R : Type} (N : Nat) : Nat → Arr Int → Int → Int → api_Works → (Int → Option R) → (Unit → Option R) → Option R
  | 0, _, _, _, _, _, _ => Option.none
  | n + 1, v622, v623, v624, v625, kr, k8 => newelref09_reason_b19 N (fun v622 v623 v624 v625 => newelref09_reason_l19 N n v622 v623 v624 v625 kr k8) v622 v623 v624 v625 kr k8
def newelref09_reason_L16 : LoopSp := ⟨⟨[1, 2, 10], ⟨(dr 1 ((rSl intC) :: (rPtr 0 0) :: (dr 7 ((rInt .i64) :: (dr 144 []))))), [(0, eBlkC api_WorksC)]⟩, 1⟩, [(Option.none, ⟨[4, 5], ⟨(dr 4 ((rInt .i64) :: (rInt .i64) :: (dr 149 []))), []⟩, 0⟩), (some 6, ⟨[], ⟨(dr 155 []), []⟩, 0⟩)]⟩
theorem newelref09_reason_L16_ok : newelref09_reason_L16.Ok := ⟨⟨(drCons 1 (allCons (rSl_ok intC_ok) (allCons (rPtr_ok 0 0) (drCons 7 (allCons (rInt_ok .i64) (drCons 144 allNil)))))), (eCons (eBlkC_ok api_WorksC_ok api_WorksC_len) eNil)⟩, (xCons ⟨(drCons 4 (allCons (rInt_ok .i64) (allCons (rInt_ok .i64) (drCons 149 allNil)))), eNil⟩ (xCons ⟨(drCons 155 allNil), eNil⟩ xNil))⟩
def newelref09_reason_h16 (v619 : Arr Int) (v620 : Int) (v621 : api_Works) : St := ⟨(un 1 ((slC intC v619) :: (.ptr 0 0) :: (un 7 ((.int .i64 v620) :: (un 144 []))))), [(0, .blk (Cod.enc api_WorksC v621))], 1⟩
def newelref09_reason_x16_r (q0 : Int) (q1 : Int) : St := ⟨(un 4 ((.int .i64 q0) :: (.int .i64 q1) :: (un 149 []))), [], 0⟩
def newelref09_reason_x16_6  : St := ⟨(un 155 []), [], 0⟩
def newelref09_reason_b16 {R : Type} (N : Nat) (rc : Arr Int → Int → api_Works → Option R) (v619 : Arr Int) (v620 : Int) (v621 : api_Works) (kr : Int → Int → Option R) (k6 : Unit → Option R) : Option R :=
  bif decide (v620 ≤ (5 : Int)) then
   newelref09_reason_l19 N N v619 v620 (0 : Int) v621 (fun r657 =>
    kr v620 r657) (fun (_ : Unit) =>
    rc v619 (w64 (v620 + (1 : Int))) v621)
  else
   k6 ()
def newelref09_reason_l16 {R : Type} (N : Nat) : Nat → Arr Int → Int → api_Works → (Int → Int → Option R) → (Unit → Option R) → Option R
  | 0, _, _, _, _, _ => Option.none
  | n + 1, v619, v620, v621, kr, k6 => newelref09_reason_b16 N (fun v619 v620 v621 => newelref09_reason_l16 N n v619 v620 v621 kr k6) v619 v620 v621 kr k6
def newelref09_reason_m {R : Type} (N : Nat) (a602 : api_Works) (a603 : Arr Int) (k : Int → Int → Option R) : Option R :=
  newelref09_reason_l2 N N a603 (0 : Int) a602 (fun r607 r608 =>
   k r607 r608) (fun (_ : Unit) =>
   newelref09_reason_l7 N N a603 (0 : Int) a602 (fun r617 r618 =>
    k r617 r618) (fun (_ : Unit) =>
    newelref09_reason_l16 N N a603 (3 : Int) a602 (fun r658 r659 =>
     k r658 r659) (fun (_ : Unit) =>
     k (0 : Int) (0 : Int))))
noncomputable def newelref09_reason {R : Type} : Nat → api_Works → Arr Int → (Int → Int → Option R) → Option R := lock (@newelref09_reason_m R)
theorem newelref09_reason_def {R : Type} (N : Nat) (a602 : api_Works) (a603 : Arr Int) (k : Int → Int → Option R) : newelref09_reason N a602 a603 k = newelref09_reason_m N a602 a603 k := by unfold newelref09_reason; rw [lock_eq]
def newelref09_reason_sp : Sp := ⟨[rAgg api_WorksC, rSl intC], []⟩
theorem newelref09_reason_sp_ok : newelref09_reason_sp.Ok := ⟨(allCons (rAgg_ok api_WorksC_ok api_WorksC_len) (allCons (rSl_ok intC_ok) allNil)), eNil⟩
def newelref09_reason_rs : Sp := ⟨[rTup [rInt .i64, rInt .i64]], []⟩
theorem newelref09_reason_rs_ok : newelref09_reason_rs.Ok := ⟨(allCons (rTup_ok (allCons (rInt_ok .i64) (allCons (rInt_ok .i64) allNil))) allNil), eNil⟩
def newelref09_reason_run {R : Type} (N : Nat) (args : List SV) (T : Tab) (kf : SV × Tab → Option R) : Option R :=
  newelref09_reason_m N (Cod.dec api_WorksC (lget (toCs (lget args 0)))) (lstC intC (lget args 1)) (fun q0 q1 => kf (lget [.tup [.int .i64 q0, .int .i64 q1]] 0, []))
def newelref09_reason_d24 {R : Type} (N : Nat) (S0 : St) (k : Exit → St → Option R) : Option R :=
  newelref09_reason_l24 N N (lstC intC (lget S0.tmps 1)) (toI (lget S0.tmps 10)) (toI (lget S0.tmps 11)) (toI (lget S0.tmps 12)) (toI (lget S0.tmps 13)) (toB (lget S0.tmps 14)) (toB (lget S0.tmps 15)) (toI (lget S0.tmps 16)) (Cod.dec api_WorksC (lget (entCs (entAt S0.tab 0)))) (fun q5 => k (.exit 10) (newelref09_reason_x24_10 (lstC intC (lget S0.tmps 1)) (toI (lget S0.tmps 10)) (toI (lget S0.tmps 11)) (toI (lget S0.tmps 13)) (toB (lget S0.tmps 14)) (Cod.dec api_WorksC (lget (entCs (entAt S0.tab 0)))) q5))
def newelref09_reason_d19 {R : Type} (N : Nat) (S0 : St) (k : Exit → St → Option R) : Option R :=
  newelref09_reason_l19 N N (lstC intC (lget S0.tmps 1)) (toI (lget S0.tmps 10)) (toI (lget S0.tmps 11)) (Cod.dec api_WorksC (lget (entCs (entAt S0.tab 0)))) (fun q1 => k .ret (newelref09_reason_x19_r (toI (lget S0.tmps 10)) q1)) (fun (_ : Unit) => k (.exit 8) (newelref09_reason_x19_8 (lstC intC (lget S0.tmps 1)) (toI (lget S0.tmps 10)) (Cod.dec api_WorksC (lget (entCs (entAt S0.tab 0))))))
def newelref09_reason_d16 {R : Type} (N : Nat) (S0 : St) (k : Exit → St → Option R) : Option R :=
  newelref09_reason_l16 N N (lstC intC (lget S0.tmps 1)) (toI (lget S0.tmps 10)) (Cod.dec api_WorksC (lget (entCs (entAt S0.tab 0)))) (fun q0 q1 => k .ret (newelref09_reason_x16_r q0 q1)) (fun (_ : Unit) => k (.exit 6) (newelref09_reason_x16_6 ))
def newelref09_reason_d10 {R : Type} (N : Nat) (S0 : St) (k : Exit → St → Option R) : Option R :=
  newelref09_reason_l10 N N (lstC intC (lget S0.tmps 1)) (toI (lget S0.tmps 7)) (toI (lget S0.tmps 8)) (Cod.dec api_WorksC (lget (entCs (entAt S0.tab 0)))) (fun q0 => k .ret (newelref09_reason_x10_r (toI (lget S0.tmps 7)) q0)) (fun (_ : Unit) => k (.exit 4) (newelref09_reason_x10_4 (lstC intC (lget S0.tmps 1)) (toI (lget S0.tmps 7)) (Cod.dec api_WorksC (lget (entCs (entAt S0.tab 0))))))
def newelref09_reason_d7 {R : Type} (N : Nat) (S0 : St) (k : Exit → St → Option R) : Option R :=
  newelref09_reason_l7 N N (lstC intC (lget S0.tmps 1)) (toI (lget S0.tmps 7)) (Cod.dec api_WorksC (lget (entCs (entAt S0.tab 0)))) (fun q0 q1 => k .ret (newelref09_reason_x7_r q0 q1)) (fun (_ : Unit) => k (.exit 2) (newelref09_reason_x7_2 (lstC intC (lget S0.tmps 1)) (Cod.dec api_WorksC (lget (entCs (entAt S0.tab 0))))))
def newelref09_reason_d2 {R : Type} (N : Nat) (S0 : St) (k : Exit → St → Option R) : Option R :=
  newelref09_reason_l2 N N (lstC intC (lget S0.tmps 1)) (toI (lget S0.tmps 6)) (Cod.dec api_WorksC (lget (entCs (entAt S0.tab 0)))) (fun q0 q1 => k .ret (newelref09_reason_x2_r q0 q1)) (fun (_ : Unit) => k (.exit 0) (newelref09_reason_x2_0 (lstC intC (lget S0.tmps 1)) (Cod.dec api_WorksC (lget (entCs (entAt S0.tab 0))))))
def newelref09_reason_lp {R : Type} (N : Nat) : Lp R := fun body S k => bif (Go.Sx.keyOf body).getD 0 == 2 then (newelref09_reason_L2.head.raw 0 S (fun S0 => newelref09_reason_d2 N S0 k)) else bif (Go.Sx.keyOf body).getD 0 == 7 then (newelref09_reason_L7.head.raw 0 S (fun S0 => newelref09_reason_d7 N S0 k)) else bif (Go.Sx.keyOf body).getD 0 == 10 then (newelref09_reason_L10.head.raw 0 S (fun S0 => newelref09_reason_d10 N S0 k)) else bif (Go.Sx.keyOf body).getD 0 == 16 then (newelref09_reason_L16.head.raw 0 S (fun S0 => newelref09_reason_d16 N S0 k)) else bif (Go.Sx.keyOf body).getD 0 == 19 then (newelref09_reason_L19.head.raw 0 S (fun S0 => newelref09_reason_d19 N S0 k)) else bif (Go.Sx.keyOf body).getD 0 == 24 then (newelref09_reason_L24.head.raw 0 S (fun S0 => newelref09_reason_d24 N S0 k)) else Option.none
theorem newelref09_reason_l2_eq {R : Type} (N : Nat) (k : Exit → St → Option R) (n : Nat) : ∀ (v0 : Arr Int) (v1 : Int) (v2 : api_Works), loopM E.Θ (newelref09_out_cal N) (newelref09_reason_lp N) (noJn) 0 newelref09_reason_L2 (bodyAt E 55 2) n (newelref09_reason_h2 v0 v1 v2) k = newelref09_reason_l2 N n v0 v1 v2 (fun q0 q1 => k .ret (newelref09_reason_x2_r q0 q1)) (fun (_ : Unit) => k (.exit 0) (newelref09_reason_x2_0 v0 v2)) := by
  induction n with
  | zero => intro v0 v1 v2; rfl
  | succ n ih =>
    intro v0 v1 v2
    refine Eq.trans (b := newelref09_reason_b2 N (fun v0 v1 v2 => loopM E.Θ (newelref09_out_cal N) (newelref09_reason_lp N) (noJn) 0 newelref09_reason_L2 (bodyAt E 55 2) n (newelref09_reason_h2 v0 v1 v2) k) v0 v1 v2 (fun q0 q1 => k .ret (newelref09_reason_x2_r q0 q1)) (fun (_ : Unit) => k (.exit 0) (newelref09_reason_x2_0 v0 v2))) (by kernel_rfl) ?_
    have h : (fun (v0 : Arr Int) (v1 : Int) (v2 : api_Works) => loopM E.Θ (newelref09_out_cal N) (newelref09_reason_lp N) (noJn) 0 newelref09_reason_L2 (bodyAt E 55 2) n (newelref09_reason_h2 v0 v1 v2) k) = (fun (v0 : Arr Int) (v1 : Int) (v2 : api_Works) => newelref09_reason_l2 N n v0 v1 v2 (fun q0 q1 => k .ret (newelref09_reason_x2_r q0 q1)) (fun (_ : Unit) => k (.exit 0) (newelref09_reason_x2_0 v0 v2))) := funext fun v0 => funext fun v1 => funext fun v2 => ih v0 v1 v2
    rw [h]
    rfl
theorem newelref09_reason_l7_eq {R : Type} (N : Nat) (k : Exit → St → Option R) (n : Nat) : ∀ (v0 : Arr Int) (v1 : Int) (v2 : api_Works), loopM E.Θ (newelref09_out_cal N) (newelref09_reason_lp N) (noJn) 0 newelref09_reason_L7 (bodyAt E 55 7) n (newelref09_reason_h7 v0 v1 v2) k = newelref09_reason_l7 N n v0 v1 v2 (fun q0 q1 => k .ret (newelref09_reason_x7_r q0 q1)) (fun (_ : Unit) => k (.exit 2) (newelref09_reason_x7_2 v0 v2)) := by
  induction n with
  | zero => intro v0 v1 v2; rfl
  | succ n ih =>
    intro v0 v1 v2
    refine Eq.trans (b := newelref09_reason_b7 N (fun v0 v1 v2 => loopM E.Θ (newelref09_out_cal N) (newelref09_reason_lp N) (noJn) 0 newelref09_reason_L7 (bodyAt E 55 7) n (newelref09_reason_h7 v0 v1 v2) k) v0 v1 v2 (fun q0 q1 => k .ret (newelref09_reason_x7_r q0 q1)) (fun (_ : Unit) => k (.exit 2) (newelref09_reason_x7_2 v0 v2))) (by kernel_rfl) ?_
    have h : (fun (v0 : Arr Int) (v1 : Int) (v2 : api_Works) => loopM E.Θ (newelref09_out_cal N) (newelref09_reason_lp N) (noJn) 0 newelref09_reason_L7 (bodyAt E 55 7) n (newelref09_reason_h7 v0 v1 v2) k) = (fun (v0 : Arr Int) (v1 : Int) (v2 : api_Works) => newelref09_reason_l7 N n v0 v1 v2 (fun q0 q1 => k .ret (newelref09_reason_x7_r q0 q1)) (fun (_ : Unit) => k (.exit 2) (newelref09_reason_x7_2 v0 v2))) := funext fun v0 => funext fun v1 => funext fun v2 => ih v0 v1 v2
    rw [h]
    rfl
theorem newelref09_reason_l10_eq {R : Type} (N : Nat) (k : Exit → St → Option R) (n : Nat) : ∀ (v0 : Arr Int) (v1 : Int) (v2 : Int) (v3 : api_Works), loopM E.Θ (newelref09_out_cal N) (newelref09_reason_lp N) (noJn) 0 newelref09_reason_L10 (bodyAt E 55 10) n (newelref09_reason_h10 v0 v1 v2 v3) k = newelref09_reason_l10 N n v0 v1 v2 v3 (fun q0 => k .ret (newelref09_reason_x10_r v1 q0)) (fun (_ : Unit) => k (.exit 4) (newelref09_reason_x10_4 v0 v1 v3)) := by
  induction n with
  | zero => intro v0 v1 v2 v3; rfl
  | succ n ih =>
    intro v0 v1 v2 v3
    refine Eq.trans (b := newelref09_reason_b10 N (fun v0 v1 v2 v3 => loopM E.Θ (newelref09_out_cal N) (newelref09_reason_lp N) (noJn) 0 newelref09_reason_L10 (bodyAt E 55 10) n (newelref09_reason_h10 v0 v1 v2 v3) k) v0 v1 v2 v3 (fun q0 => k .ret (newelref09_reason_x10_r v1 q0)) (fun (_ : Unit) => k (.exit 4) (newelref09_reason_x10_4 v0 v1 v3))) (by kernel_rfl) ?_
    have h : (fun (v0 : Arr Int) (v1 : Int) (v2 : Int) (v3 : api_Works) => loopM E.Θ (newelref09_out_cal N) (newelref09_reason_lp N) (noJn) 0 newelref09_reason_L10 (bodyAt E 55 10) n (newelref09_reason_h10 v0 v1 v2 v3) k) = (fun (v0 : Arr Int) (v1 : Int) (v2 : Int) (v3 : api_Works) => newelref09_reason_l10 N n v0 v1 v2 v3 (fun q0 => k .ret (newelref09_reason_x10_r v1 q0)) (fun (_ : Unit) => k (.exit 4) (newelref09_reason_x10_4 v0 v1 v3))) := funext fun v0 => funext fun v1 => funext fun v2 => funext fun v3 => ih v0 v1 v2 v3
    rw [h]
    rfl
theorem newelref09_reason_l16_eq {R : Type} (N : Nat) (k : Exit → St → Option R) (n : Nat) : ∀ (v0 : Arr Int) (v1 : Int) (v2 : api_Works), loopM E.Θ (newelref09_out_cal N) (newelref09_reason_lp N) (noJn) 0 newelref09_reason_L16 (bodyAt E 55 16) n (newelref09_reason_h16 v0 v1 v2) k = newelref09_reason_l16 N n v0 v1 v2 (fun q0 q1 => k .ret (newelref09_reason_x16_r q0 q1)) (fun (_ : Unit) => k (.exit 6) (newelref09_reason_x16_6 )) := by
  induction n with
  | zero => intro v0 v1 v2; rfl
  | succ n ih =>
    intro v0 v1 v2
    refine Eq.trans (b := newelref09_reason_b16 N (fun v0 v1 v2 => loopM E.Θ (newelref09_out_cal N) (newelref09_reason_lp N) (noJn) 0 newelref09_reason_L16 (bodyAt E 55 16) n (newelref09_reason_h16 v0 v1 v2) k) v0 v1 v2 (fun q0 q1 => k .ret (newelref09_reason_x16_r q0 q1)) (fun (_ : Unit) => k (.exit 6) (newelref09_reason_x16_6 ))) (by kernel_rfl) ?_
    have h : (fun (v0 : Arr Int) (v1 : Int) (v2 : api_Works) => loopM E.Θ (newelref09_out_cal N) (newelref09_reason_lp N) (noJn) 0 newelref09_reason_L16 (bodyAt E 55 16) n (newelref09_reason_h16 v0 v1 v2) k) = (fun (v0 : Arr Int) (v1 : Int) (v2 : api_Works) => newelref09_reason_l16 N n v0 v1 v2 (fun q0 q1 => k .ret (newelref09_reason_x16_r q0 q1)) (fun (_ : Unit) => k (.exit 6) (newelref09_reason_x16_6 ))) := funext fun v0 => funext fun v1 => funext fun v2 => ih v0 v1 v2
    rw [h]
    rfl
theorem newelref09_reason_l19_eq {R : Type} (N : Nat) (k : Exit → St → Option R) (n : Nat) : ∀ (v0 : Arr Int) (v1 : Int) (v2 : Int) (v3 : api_Works), loopM E.Θ (newelref09_out_cal N) (newelref09_reason_lp N) (noJn) 0 newelref09_reason_L19 (bodyAt E 55 19) n (newelref09_reason_h19 v0 v1 v2 v3) k = newelref09_reason_l19 N n v0 v1 v2 v3 (fun q1 => k .ret (newelref09_reason_x19_r v1 q1)) (fun (_ : Unit) => k (.exit 8) (newelref09_reason_x19_8 v0 v1 v3)) := by
  induction n with
  | zero => intro v0 v1 v2 v3; rfl
  | succ n ih =>
    intro v0 v1 v2 v3
    refine Eq.trans (b := newelref09_reason_b19 N (fun v0 v1 v2 v3 => loopM E.Θ (newelref09_out_cal N) (newelref09_reason_lp N) (noJn) 0 newelref09_reason_L19 (bodyAt E 55 19) n (newelref09_reason_h19 v0 v1 v2 v3) k) v0 v1 v2 v3 (fun q1 => k .ret (newelref09_reason_x19_r v1 q1)) (fun (_ : Unit) => k (.exit 8) (newelref09_reason_x19_8 v0 v1 v3))) (by kernel_rfl) ?_
    have h : (fun (v0 : Arr Int) (v1 : Int) (v2 : Int) (v3 : api_Works) => loopM E.Θ (newelref09_out_cal N) (newelref09_reason_lp N) (noJn) 0 newelref09_reason_L19 (bodyAt E 55 19) n (newelref09_reason_h19 v0 v1 v2 v3) k) = (fun (v0 : Arr Int) (v1 : Int) (v2 : Int) (v3 : api_Works) => newelref09_reason_l19 N n v0 v1 v2 v3 (fun q1 => k .ret (newelref09_reason_x19_r v1 q1)) (fun (_ : Unit) => k (.exit 8) (newelref09_reason_x19_8 v0 v1 v3))) := funext fun v0 => funext fun v1 => funext fun v2 => funext fun v3 => ih v0 v1 v2 v3
    rw [h]
    rfl
theorem newelref09_reason_l24_eq {R : Type} (N : Nat) (k : Exit → St → Option R) (n : Nat) : ∀ (v0 : Arr Int) (v1 : Int) (v2 : Int) (v3 : Int) (v4 : Int) (v5 : Bool) (v6 : Bool) (v7 : Int) (v8 : api_Works), loopM E.Θ (newelref09_out_cal N) (newelref09_reason_lp N) (noJn) 0 newelref09_reason_L24 (bodyAt E 55 24) n (newelref09_reason_h24 v0 v1 v2 v3 v4 v5 v6 v7 v8) k = newelref09_reason_l24 N n v0 v1 v2 v3 v4 v5 v6 v7 v8 (fun q5 => k (.exit 10) (newelref09_reason_x24_10 v0 v1 v2 v4 v5 v8 q5)) := by
  induction n with
  | zero => intro v0 v1 v2 v3 v4 v5 v6 v7 v8; rfl
  | succ n ih =>
    intro v0 v1 v2 v3 v4 v5 v6 v7 v8
    refine Eq.trans (b := newelref09_reason_b24 N (fun v0 v1 v2 v3 v4 v5 v6 v7 v8 => loopM E.Θ (newelref09_out_cal N) (newelref09_reason_lp N) (noJn) 0 newelref09_reason_L24 (bodyAt E 55 24) n (newelref09_reason_h24 v0 v1 v2 v3 v4 v5 v6 v7 v8) k) v0 v1 v2 v3 v4 v5 v6 v7 v8 (fun q5 => k (.exit 10) (newelref09_reason_x24_10 v0 v1 v2 v4 v5 v8 q5))) (by kernel_rfl) ?_
    have h : (fun (v0 : Arr Int) (v1 : Int) (v2 : Int) (v3 : Int) (v4 : Int) (v5 : Bool) (v6 : Bool) (v7 : Int) (v8 : api_Works) => loopM E.Θ (newelref09_out_cal N) (newelref09_reason_lp N) (noJn) 0 newelref09_reason_L24 (bodyAt E 55 24) n (newelref09_reason_h24 v0 v1 v2 v3 v4 v5 v6 v7 v8) k) = (fun (v0 : Arr Int) (v1 : Int) (v2 : Int) (v3 : Int) (v4 : Int) (v5 : Bool) (v6 : Bool) (v7 : Int) (v8 : api_Works) => newelref09_reason_l24 N n v0 v1 v2 v3 v4 v5 v6 v7 v8 (fun q5 => k (.exit 10) (newelref09_reason_x24_10 v0 v1 v2 v4 v5 v8 q5))) := funext fun v0 => funext fun v1 => funext fun v2 => funext fun v3 => funext fun v4 => funext fun v5 => funext fun v6 => funext fun v7 => funext fun v8 => ih v0 v1 v2 v3 v4 v5 v6 v7 v8
    rw [h]
    rfl
theorem newelref09_reason_k24 {R : Type} (N : Nat) : LpKey (R := R) E 55 0 (newelref09_reason_lp N) 24 :=
  lpKey_of hE (newelref09_out_cal_ok N) (lp := newelref09_reason_lp N) (jn := noJn) newelref09_reason_L24_ok [] kNil (by kernel_rfl) [] jNil (by kernel_rfl) N fun S k =>
    Eq.trans (b := newelref09_reason_L24.head.raw 0 S (fun S0 => newelref09_reason_d24 N S0 k)) (by kernel_rfl) (congrArg (newelref09_reason_L24.head.raw 0 S) (funext fun S0 => Eq.trans (newelref09_reason_l24_eq N k N (lstC intC (lget S0.tmps 1)) (toI (lget S0.tmps 10)) (toI (lget S0.tmps 11)) (toI (lget S0.tmps 12)) (toI (lget S0.tmps 13)) (toB (lget S0.tmps 14)) (toB (lget S0.tmps 15)) (toI (lget S0.tmps 16)) (Cod.dec api_WorksC (lget (entCs (entAt S0.tab 0))))).symm (by kernel_rfl)))
theorem newelref09_reason_k2 {R : Type} (N : Nat) : LpKey (R := R) E 55 0 (newelref09_reason_lp N) 2 :=
  lpKey_of hE (newelref09_out_cal_ok N) (lp := newelref09_reason_lp N) (jn := noJn) newelref09_reason_L2_ok [] kNil (by kernel_rfl) [] jNil (by kernel_rfl) N fun S k =>
    Eq.trans (b := newelref09_reason_L2.head.raw 0 S (fun S0 => newelref09_reason_d2 N S0 k)) (by kernel_rfl) (congrArg (newelref09_reason_L2.head.raw 0 S) (funext fun S0 => Eq.trans (newelref09_reason_l2_eq N k N (lstC intC (lget S0.tmps 1)) (toI (lget S0.tmps 6)) (Cod.dec api_WorksC (lget (entCs (entAt S0.tab 0))))).symm (by kernel_rfl)))
theorem newelref09_reason_k10 {R : Type} (N : Nat) : LpKey (R := R) E 55 0 (newelref09_reason_lp N) 10 :=
  lpKey_of hE (newelref09_out_cal_ok N) (lp := newelref09_reason_lp N) (jn := noJn) newelref09_reason_L10_ok [] kNil (by kernel_rfl) [] jNil (by kernel_rfl) N fun S k =>
    Eq.trans (b := newelref09_reason_L10.head.raw 0 S (fun S0 => newelref09_reason_d10 N S0 k)) (by kernel_rfl) (congrArg (newelref09_reason_L10.head.raw 0 S) (funext fun S0 => Eq.trans (newelref09_reason_l10_eq N k N (lstC intC (lget S0.tmps 1)) (toI (lget S0.tmps 7)) (toI (lget S0.tmps 8)) (Cod.dec api_WorksC (lget (entCs (entAt S0.tab 0))))).symm (by kernel_rfl)))
theorem newelref09_reason_k7 {R : Type} (N : Nat) : LpKey (R := R) E 55 0 (newelref09_reason_lp N) 7 :=
  lpKey_of hE (newelref09_out_cal_ok N) (lp := newelref09_reason_lp N) (jn := noJn) newelref09_reason_L7_ok [10] (kCons (newelref09_reason_k10 N) kNil) (by kernel_rfl) [] jNil (by kernel_rfl) N fun S k =>
    Eq.trans (b := newelref09_reason_L7.head.raw 0 S (fun S0 => newelref09_reason_d7 N S0 k)) (by kernel_rfl) (congrArg (newelref09_reason_L7.head.raw 0 S) (funext fun S0 => Eq.trans (newelref09_reason_l7_eq N k N (lstC intC (lget S0.tmps 1)) (toI (lget S0.tmps 7)) (Cod.dec api_WorksC (lget (entCs (entAt S0.tab 0))))).symm (by kernel_rfl)))
theorem newelref09_reason_k19 {R : Type} (N : Nat) : LpKey (R := R) E 55 0 (newelref09_reason_lp N) 19 :=
  lpKey_of hE (newelref09_out_cal_ok N) (lp := newelref09_reason_lp N) (jn := noJn) newelref09_reason_L19_ok [24] (kCons (newelref09_reason_k24 N) kNil) (by kernel_rfl) [] jNil (by kernel_rfl) N fun S k =>
    Eq.trans (b := newelref09_reason_L19.head.raw 0 S (fun S0 => newelref09_reason_d19 N S0 k)) (by kernel_rfl) (congrArg (newelref09_reason_L19.head.raw 0 S) (funext fun S0 => Eq.trans (newelref09_reason_l19_eq N k N (lstC intC (lget S0.tmps 1)) (toI (lget S0.tmps 10)) (toI (lget S0.tmps 11)) (Cod.dec api_WorksC (lget (entCs (entAt S0.tab 0))))).symm (by kernel_rfl)))
theorem newelref09_reason_k16 {R : Type} (N : Nat) : LpKey (R := R) E 55 0 (newelref09_reason_lp N) 16 :=
  lpKey_of hE (newelref09_out_cal_ok N) (lp := newelref09_reason_lp N) (jn := noJn) newelref09_reason_L16_ok [19, 24] (kCons (newelref09_reason_k19 N) (kCons (newelref09_reason_k24 N) kNil)) (by kernel_rfl) [] jNil (by kernel_rfl) N fun S k =>
    Eq.trans (b := newelref09_reason_L16.head.raw 0 S (fun S0 => newelref09_reason_d16 N S0 k)) (by kernel_rfl) (congrArg (newelref09_reason_L16.head.raw 0 S) (funext fun S0 => Eq.trans (newelref09_reason_l16_eq N k N (lstC intC (lget S0.tmps 1)) (toI (lget S0.tmps 10)) (Cod.dec api_WorksC (lget (entCs (entAt S0.tab 0))))).symm (by kernel_rfl)))
noncomputable def newelref09_reason_go {R : Type} (N : Nat) (args : List SV) (T : Tab) (kf : SV × Tab → Option R) : Option R :=
  newelref09_reason N (Cod.dec api_WorksC (lget (toCs (lget args 0)))) (lstC intC (lget args 1)) (fun q0 q1 => kf (lget [.tup [.int .i64 q0, .int .i64 q1]] 0, []))
noncomputable def newelref09_reason_cal {R : Type} (N : Nat) : Cal R := callM (newelref09_out_cal N) 55 0 newelref09_reason_sp (newelref09_reason_go N)
theorem newelref09_reason_cal_ok {R : Type} (N : Nat) : CalOk E.P (newelref09_reason_cal (R := R) N) :=
  callM_ok hE (newelref09_out_cal_ok N) (lp := newelref09_reason_lp N) (jn := noJn) (keys := [2, 7, 10, 16, 19, 24]) (kCons (newelref09_reason_k2 N) (kCons (newelref09_reason_k7 N) (kCons (newelref09_reason_k10 N) (kCons (newelref09_reason_k16 N) (kCons (newelref09_reason_k19 N) (kCons (newelref09_reason_k24 N) kNil)))))) (by kernel_rfl) (js := []) jNil (by kernel_rfl) newelref09_reason_sp_ok newelref09_reason_rs_ok (fun args T kf => Eq.trans (newelref09_reason_def N (Cod.dec api_WorksC (lget (toCs (lget args 0)))) (lstC intC (lget args 1)) (fun q0 q1 => kf (lget [.tup [.int .i64 q0, .int .i64 q1]] 0, []))) (by kernel_rfl : newelref09_reason_run N args T kf = fnM E (newelref09_out_cal N) (newelref09_reason_lp N) (noJn) 55 (newelref09_reason_sp.vs args) (newelref09_reason_sp.tab T) 0 (resK newelref09_reason_rs kf)))
def shaft_checkPlan_m {R : Type} (N : Nat) (a664 : api_Works) (a665 : Arr Int) (k : Int → Option R) : Option R :=
  shaft_CheckWorks N a664 (fun r666 =>
  bif r666 != (0 : Int) then
   k r666
  else
   bif (↑(Arr.n a665) : Int) != (↑(Arr.n (api_Works.Jobs a664)) : Int) then
    k (1 : Int)
   else
    k (0 : Int))
noncomputable def shaft_checkPlan {R : Type} : Nat → api_Works → Arr Int → (Int → Option R) → Option R := lock (@shaft_checkPlan_m R)
theorem shaft_checkPlan_def {R : Type} (N : Nat) (a664 : api_Works) (a665 : Arr Int) (k : Int → Option R) : shaft_checkPlan N a664 a665 k = shaft_checkPlan_m N a664 a665 k := by unfold shaft_checkPlan; rw [lock_eq]
def shaft_checkPlan_sp : Sp := ⟨[rAgg api_WorksC, rSl intC], []⟩
theorem shaft_checkPlan_sp_ok : shaft_checkPlan_sp.Ok := ⟨(allCons (rAgg_ok api_WorksC_ok api_WorksC_len) (allCons (rSl_ok intC_ok) allNil)), eNil⟩
def shaft_checkPlan_rs : Sp := ⟨[rInt .i64], []⟩
theorem shaft_checkPlan_rs_ok : shaft_checkPlan_rs.Ok := ⟨(allCons (rInt_ok .i64) allNil), eNil⟩
def shaft_checkPlan_run {R : Type} (N : Nat) (args : List SV) (T : Tab) (kf : SV × Tab → Option R) : Option R :=
  shaft_checkPlan_m N (Cod.dec api_WorksC (lget (toCs (lget args 0)))) (lstC intC (lget args 1)) (fun q0 => kf (lget [.int .i64 q0] 0, []))
def shaft_checkPlan_lp {R : Type} (N : Nat) : Lp R := fun body S k => Option.none
noncomputable def shaft_checkPlan_go {R : Type} (N : Nat) (args : List SV) (T : Tab) (kf : SV × Tab → Option R) : Option R :=
  shaft_checkPlan N (Cod.dec api_WorksC (lget (toCs (lget args 0)))) (lstC intC (lget args 1)) (fun q0 => kf (lget [.int .i64 q0] 0, []))
noncomputable def shaft_checkPlan_cal {R : Type} (N : Nat) : Cal R := callM (newelref09_reason_cal N) 56 0 shaft_checkPlan_sp (shaft_checkPlan_go N)
theorem shaft_checkPlan_cal_ok {R : Type} (N : Nat) : CalOk E.P (shaft_checkPlan_cal (R := R) N) :=
  callM_ok hE (newelref09_reason_cal_ok N) (lp := shaft_checkPlan_lp N) (jn := noJn) (keys := []) kNil (by kernel_rfl) (js := []) jNil (by kernel_rfl) shaft_checkPlan_sp_ok shaft_checkPlan_rs_ok (fun args T kf => Eq.trans (shaft_checkPlan_def N (Cod.dec api_WorksC (lget (toCs (lget args 0)))) (lstC intC (lget args 1)) (fun q0 => kf (lget [.int .i64 q0] 0, []))) (by kernel_rfl : shaft_checkPlan_run N args T kf = fnM E (newelref09_reason_cal N) (shaft_checkPlan_lp N) (noJn) 56 (shaft_checkPlan_sp.vs args) (shaft_checkPlan_sp.tab T) 0 (resK shaft_checkPlan_rs kf)))
def shaft_night_L2 : LoopSp := ⟨⟨[1, 2, 6, 7, 8, 12, 13, 14], ⟨(dr 1 ((rSl intC) :: (rInt .i64) :: (dr 3 ((rInt .i64) :: (rInt .i64) :: (rBool) :: (dr 3 ((rSl api_JobC) :: (rInt .i64) :: (rInt .i64) :: (dr 41 []))))))), []⟩, 0⟩, [(some 0, ⟨[6, 7, 8], ⟨(dr 6 ((rInt .i64) :: (rInt .i64) :: (rBool) :: (dr 47 []))), []⟩, 0⟩)]⟩
theorem shaft_night_L2_ok : shaft_night_L2.Ok := ⟨⟨(drCons 1 (allCons (rSl_ok intC_ok) (allCons (rInt_ok .i64) (drCons 3 (allCons (rInt_ok .i64) (allCons (rInt_ok .i64) (allCons rBool_ok (drCons 3 (allCons (rSl_ok api_JobC_ok) (allCons (rInt_ok .i64) (allCons (rInt_ok .i64) (drCons 41 allNil)))))))))))), eNil⟩, (xCons ⟨(drCons 6 (allCons (rInt_ok .i64) (allCons (rInt_ok .i64) (allCons rBool_ok (drCons 47 allNil))))), eNil⟩ xNil)⟩
def shaft_night_h2 (v706 : Arr Int) (v707 : Int) (v708 : Int) (v709 : Int) (v710 : Bool) (v711 : Arr api_Job) (v712 : Int) (v713 : Int) : St := ⟨(un 1 ((slC intC v706) :: (.int .i64 v707) :: (un 3 ((.int .i64 v708) :: (.int .i64 v709) :: (.bool v710) :: (un 3 ((slC api_JobC v711) :: (.int .i64 v712) :: (.int .i64 v713) :: (un 41 []))))))), [], 0⟩
def shaft_night_x2_0 (q0 : Int) (q1 : Int) (q2 : Bool) : St := ⟨(un 6 ((.int .i64 q0) :: (.int .i64 q1) :: (.bool q2) :: (un 47 []))), [], 0⟩
def shaft_night_b2 {R : Type} (N : Nat) (rc : Arr Int → Int → Int → Int → Bool → Arr api_Job → Int → Int → Option R) (v706 : Arr Int) (v707 : Int) (v708 : Int) (v709 : Int) (v710 : Bool) (v711 : Arr api_Job) (v712 : Int) (v713 : Int) (k0 : Int → Int → Bool → Option R) : Option R :=
  bif decide (v713 < v712) then
   bif decide ((0 : Int) ≤ v713) && decide (v713 < (↑(Arr.n v711) : Int)) then
    bif decide ((0 : Int) ≤ v713) && decide (v713 < (↑(Arr.n v706) : Int)) then
     bif decide (Arr.f v706 (Int.toNat v713) ≤ v707) then
      bif decide ((0 : Int) ≤ v713) && decide (v713 < (↑(Arr.n v706) : Int)) then
       bif decide (v707 < w64 (Arr.f v706 (Int.toNat v713) + api_Job.Nights (Arr.f v711 (Int.toNat v713)))) then
        bif v710 then
         bif decide (api_Job.Machine (Arr.f v711 (Int.toNat v713)) < (0 : Int)) then
          Option.none
         else
          rc v706 v707 (w64 (↑(BitVec.toNat (BitVec.ofInt (IntKind.bits IntKind.i64) v708 ||| BitVec.ofInt (IntKind.bits IntKind.i64) (w64 ((1 : Int) * (2 : Int) ^ min (Int.toNat (api_Job.Machine (Arr.f v711 (Int.toNat v713)))) (IntKind.bits IntKind.i64))))) : Int)) (w64 (v709 + (1 : Int))) true v711 v712 (w64 (v713 + (1 : Int)))
        else
         bif decide (api_Job.Machine (Arr.f v711 (Int.toNat v713)) < (0 : Int)) then
          Option.none
         else
          bif decide (api_Job.Machine (Arr.f v711 (Int.toNat v713)) < (0 : Int)) then
           Option.none
          else
           rc v706 v707 (w64 (↑(BitVec.toNat (BitVec.ofInt (IntKind.bits IntKind.i64) v708 ||| BitVec.ofInt (IntKind.bits IntKind.i64) (w64 ((1 : Int) * (2 : Int) ^ min (Int.toNat (api_Job.Machine (Arr.f v711 (Int.toNat v713)))) (IntKind.bits IntKind.i64))))) : Int)) (w64 (v709 + (1 : Int))) (w64 (↑(BitVec.toNat (BitVec.ofInt (IntKind.bits IntKind.i64) (Int.fdiv v708 ((2 : Int) ^ min (Int.toNat (api_Job.Machine (Arr.f v711 (Int.toNat v713)))) (IntKind.bits IntKind.i64))) &&& BitVec.ofInt (IntKind.bits IntKind.i64) (1 : Int))) : Int) == (1 : Int)) v711 v712 (w64 (v713 + (1 : Int)))
       else
        rc v706 v707 v708 v709 v710 v711 v712 (w64 (v713 + (1 : Int)))
      else
       Option.none
     else
      rc v706 v707 v708 v709 v710 v711 v712 (w64 (v713 + (1 : Int)))
    else
     Option.none
   else
    Option.none
  else
   k0 v708 v709 v710
def shaft_night_l2 {R : Type} (N : Nat) : Nat → Arr Int → Int → Int → Int → Bool → Arr api_Job → Int → Int → (Int → Int → Bool → Option R) → Option R
  | 0, _, _, _, _, _, _, _, _, _ => Option.none
  | n + 1, v706, v707, v708, v709, v710, v711, v712, v713, k0 => shaft_night_b2 N (fun v706 v707 v708 v709 v710 v711 v712 v713 => shaft_night_l2 N n v706 v707 v708 v709 v710 v711 v712 v713 k0) v706 v707 v708 v709 v710 v711 v712 v713 k0
def shaft_night_m {R : Type} (N : Nat) (a703 : api_Works) (a704 : Arr Int) (a705 : Int) (k : Int → Int → Bool → Option R) : Option R :=
  shaft_night_l2 N N a704 a705 (0 : Int) (0 : Int) false (api_Works.Jobs a703) ((↑(Arr.n (api_Works.Jobs a703)) : Int)) (0 : Int) (fun r714 r715 r716 =>
   k r714 r715 r716)
noncomputable def shaft_night {R : Type} : Nat → api_Works → Arr Int → Int → (Int → Int → Bool → Option R) → Option R := lock (@shaft_night_m R)
theorem shaft_night_def {R : Type} (N : Nat) (a703 : api_Works) (a704 : Arr Int) (a705 : Int) (k : Int → Int → Bool → Option R) : shaft_night N a703 a704 a705 k = shaft_night_m N a703 a704 a705 k := by unfold shaft_night; rw [lock_eq]
def shaft_night_sp : Sp := ⟨[rAgg api_WorksC, rSl intC, rInt .i64], []⟩
theorem shaft_night_sp_ok : shaft_night_sp.Ok := ⟨(allCons (rAgg_ok api_WorksC_ok api_WorksC_len) (allCons (rSl_ok intC_ok) (allCons (rInt_ok .i64) allNil))), eNil⟩
def shaft_night_rs : Sp := ⟨[rTup [rInt .i64, rInt .i64, rBool]], []⟩
theorem shaft_night_rs_ok : shaft_night_rs.Ok := ⟨(allCons (rTup_ok (allCons (rInt_ok .i64) (allCons (rInt_ok .i64) (allCons rBool_ok allNil)))) allNil), eNil⟩
def shaft_night_run {R : Type} (N : Nat) (args : List SV) (T : Tab) (kf : SV × Tab → Option R) : Option R :=
  shaft_night_m N (Cod.dec api_WorksC (lget (toCs (lget args 0)))) (lstC intC (lget args 1)) (toI (lget args 2)) (fun q0 q1 q2 => kf (lget [.tup [.int .i64 q0, .int .i64 q1, .bool q2]] 0, []))
def shaft_night_d2 {R : Type} (N : Nat) (S0 : St) (k : Exit → St → Option R) : Option R :=
  shaft_night_l2 N N (lstC intC (lget S0.tmps 1)) (toI (lget S0.tmps 2)) (toI (lget S0.tmps 6)) (toI (lget S0.tmps 7)) (toB (lget S0.tmps 8)) (lstC api_JobC (lget S0.tmps 12)) (toI (lget S0.tmps 13)) (toI (lget S0.tmps 14)) (fun q0 q1 q2 => k (.exit 0) (shaft_night_x2_0 q0 q1 q2))
def shaft_night_lp {R : Type} (N : Nat) : Lp R := fun body S k => bif (Go.Sx.keyOf body).getD 0 == 2 then (shaft_night_L2.head.raw 0 S (fun S0 => shaft_night_d2 N S0 k)) else Option.none
theorem shaft_night_l2_eq {R : Type} (N : Nat) (k : Exit → St → Option R) (n : Nat) : ∀ (v0 : Arr Int) (v1 : Int) (v2 : Int) (v3 : Int) (v4 : Bool) (v5 : Arr api_Job) (v6 : Int) (v7 : Int), loopM E.Θ (shaft_checkPlan_cal N) (shaft_night_lp N) (noJn) 0 shaft_night_L2 (bodyAt E 59 2) n (shaft_night_h2 v0 v1 v2 v3 v4 v5 v6 v7) k = shaft_night_l2 N n v0 v1 v2 v3 v4 v5 v6 v7 (fun q0 q1 q2 => k (.exit 0) (shaft_night_x2_0 q0 q1 q2)) := by
  induction n with
  | zero => intro v0 v1 v2 v3 v4 v5 v6 v7; rfl
  | succ n ih =>
    intro v0 v1 v2 v3 v4 v5 v6 v7
    refine Eq.trans (b := shaft_night_b2 N (fun v0 v1 v2 v3 v4 v5 v6 v7 => loopM E.Θ (shaft_checkPlan_cal N) (shaft_night_lp N) (noJn) 0 shaft_night_L2 (bodyAt E 59 2) n (shaft_night_h2 v0 v1 v2 v3 v4 v5 v6 v7) k) v0 v1 v2 v3 v4 v5 v6 v7 (fun q0 q1 q2 => k (.exit 0) (shaft_night_x2_0 q0 q1 q2))) (by kernel_rfl) ?_
    have h : (fun (v0 : Arr Int) (v1 : Int) (v2 : Int) (v3 : Int) (v4 : Bool) (v5 : Arr api_Job) (v6 : Int) (v7 : Int) => loopM E.Θ (shaft_checkPlan_cal N) (shaft_night_lp N) (noJn) 0 shaft_night_L2 (bodyAt E 59 2) n (shaft_night_h2 v0 v1 v2 v3 v4 v5 v6 v7) k) = (fun (v0 : Arr Int) (v1 : Int) (v2 : Int) (v3 : Int) (v4 : Bool) (v5 : Arr api_Job) (v6 : Int) (v7 : Int) => shaft_night_l2 N n v0 v1 v2 v3 v4 v5 v6 v7 (fun q0 q1 q2 => k (.exit 0) (shaft_night_x2_0 q0 q1 q2))) := funext fun v0 => funext fun v1 => funext fun v2 => funext fun v3 => funext fun v4 => funext fun v5 => funext fun v6 => funext fun v7 => ih v0 v1 v2 v3 v4 v5 v6 v7
    rw [h]
    rfl
theorem shaft_night_k2 {R : Type} (N : Nat) : LpKey (R := R) E 59 0 (shaft_night_lp N) 2 :=
  lpKey_of hE (shaft_checkPlan_cal_ok N) (lp := shaft_night_lp N) (jn := noJn) shaft_night_L2_ok [] kNil (by kernel_rfl) [] jNil (by kernel_rfl) N fun S k =>
    Eq.trans (b := shaft_night_L2.head.raw 0 S (fun S0 => shaft_night_d2 N S0 k)) (by kernel_rfl) (congrArg (shaft_night_L2.head.raw 0 S) (funext fun S0 => Eq.trans (shaft_night_l2_eq N k N (lstC intC (lget S0.tmps 1)) (toI (lget S0.tmps 2)) (toI (lget S0.tmps 6)) (toI (lget S0.tmps 7)) (toB (lget S0.tmps 8)) (lstC api_JobC (lget S0.tmps 12)) (toI (lget S0.tmps 13)) (toI (lget S0.tmps 14))).symm (by kernel_rfl)))
noncomputable def shaft_night_go {R : Type} (N : Nat) (args : List SV) (T : Tab) (kf : SV × Tab → Option R) : Option R :=
  shaft_night N (Cod.dec api_WorksC (lget (toCs (lget args 0)))) (lstC intC (lget args 1)) (toI (lget args 2)) (fun q0 q1 q2 => kf (lget [.tup [.int .i64 q0, .int .i64 q1, .bool q2]] 0, []))
noncomputable def shaft_night_cal {R : Type} (N : Nat) : Cal R := callM (shaft_checkPlan_cal N) 59 0 shaft_night_sp (shaft_night_go N)
theorem shaft_night_cal_ok {R : Type} (N : Nat) : CalOk E.P (shaft_night_cal (R := R) N) :=
  callM_ok hE (shaft_checkPlan_cal_ok N) (lp := shaft_night_lp N) (jn := noJn) (keys := [2]) (kCons (shaft_night_k2 N) kNil) (by kernel_rfl) (js := []) jNil (by kernel_rfl) shaft_night_sp_ok shaft_night_rs_ok (fun args T kf => Eq.trans (shaft_night_def N (Cod.dec api_WorksC (lget (toCs (lget args 0)))) (lstC intC (lget args 1)) (toI (lget args 2)) (fun q0 q1 q2 => kf (lget [.tup [.int .i64 q0, .int .i64 q1, .bool q2]] 0, []))) (by kernel_rfl : shaft_night_run N args T kf = fnM E (shaft_checkPlan_cal N) (shaft_night_lp N) (noJn) 59 (shaft_night_sp.vs args) (shaft_night_sp.tab T) 0 (resK shaft_night_rs kf)))
def shaft_judge_1_m {R : Type} (N : Nat) (a720 : Int) (a721 : Int) (a722 : Bool) (k : Unit → Option R) : Option R :=
  k ()
noncomputable def shaft_judge_1 {R : Type} : Nat → Int → Int → Bool → (Unit → Option R) → Option R := lock (@shaft_judge_1_m R)
theorem shaft_judge_1_def {R : Type} (N : Nat) (a720 : Int) (a721 : Int) (a722 : Bool) (k : Unit → Option R) : shaft_judge_1 N a720 a721 a722 k = shaft_judge_1_m N a720 a721 a722 k := by unfold shaft_judge_1; rw [lock_eq]
def shaft_judge_1_sp : Sp := ⟨[rInt .i64, rInt .i64, rBool], []⟩
theorem shaft_judge_1_sp_ok : shaft_judge_1_sp.Ok := ⟨(allCons (rInt_ok .i64) (allCons (rInt_ok .i64) (allCons rBool_ok allNil))), eNil⟩
def shaft_judge_1_rs : Sp := ⟨[rBool], []⟩
theorem shaft_judge_1_rs_ok : shaft_judge_1_rs.Ok := ⟨(allCons rBool_ok allNil), eNil⟩
def shaft_judge_1_run {R : Type} (N : Nat) (args : List SV) (T : Tab) (kf : SV × Tab → Option R) : Option R :=
  shaft_judge_1_m N (toI (lget args 0)) (toI (lget args 1)) (toB (lget args 2)) (fun (_ : Unit) => kf (lget [.bool (toB (lget args 2))] 0, []))
def shaft_judge_1_lp {R : Type} (N : Nat) : Lp R := fun body S k => Option.none
noncomputable def shaft_judge_1_go {R : Type} (N : Nat) (args : List SV) (T : Tab) (kf : SV × Tab → Option R) : Option R :=
  shaft_judge_1 N (toI (lget args 0)) (toI (lget args 1)) (toB (lget args 2)) (fun (_ : Unit) => kf (lget [.bool (toB (lget args 2))] 0, []))
noncomputable def shaft_judge_1_cal {R : Type} (N : Nat) : Cal R := callM (shaft_night_cal N) 73 0 shaft_judge_1_sp (shaft_judge_1_go N)
theorem shaft_judge_1_cal_ok {R : Type} (N : Nat) : CalOk E.P (shaft_judge_1_cal (R := R) N) :=
  callM_ok hE (shaft_night_cal_ok N) (lp := shaft_judge_1_lp N) (jn := noJn) (keys := []) kNil (by kernel_rfl) (js := []) jNil (by kernel_rfl) shaft_judge_1_sp_ok shaft_judge_1_rs_ok (fun args T kf => Eq.trans (shaft_judge_1_def N (toI (lget args 0)) (toI (lget args 1)) (toB (lget args 2)) (fun (_ : Unit) => kf (lget [.bool (toB (lget args 2))] 0, []))) (by kernel_rfl : shaft_judge_1_run N args T kf = fnM E (shaft_night_cal N) (shaft_judge_1_lp N) (noJn) 73 (shaft_judge_1_sp.vs args) (shaft_judge_1_sp.tab T) 0 (resK shaft_judge_1_rs kf)))
def shaft_judge_2_m {R : Type} (N : Nat) (a734 : Int) (a735 : Int) (a736 : Bool) (a737 : Int) (a738 : Arr api_Job) (a739 : Arr Int) (a740 : Int) (a741 : Int) (k : Bool → Option R) : Option R :=
  k (decide (a735 > a740))
noncomputable def shaft_judge_2 {R : Type} : Nat → Int → Int → Bool → Int → Arr api_Job → Arr Int → Int → Int → (Bool → Option R) → Option R := lock (@shaft_judge_2_m R)
theorem shaft_judge_2_def {R : Type} (N : Nat) (a734 : Int) (a735 : Int) (a736 : Bool) (a737 : Int) (a738 : Arr api_Job) (a739 : Arr Int) (a740 : Int) (a741 : Int) (k : Bool → Option R) : shaft_judge_2 N a734 a735 a736 a737 a738 a739 a740 a741 k = shaft_judge_2_m N a734 a735 a736 a737 a738 a739 a740 a741 k := by unfold shaft_judge_2; rw [lock_eq]
def shaft_judge_2_sp : Sp := ⟨[rInt .i64, rInt .i64, rBool, rPtr 0 0], [(0, eBlk [rInt .i64, rSl api_JobC, rSl intC, rInt .i64, rInt .i64])]⟩
theorem shaft_judge_2_sp_ok : shaft_judge_2_sp.Ok := ⟨(allCons (rInt_ok .i64) (allCons (rInt_ok .i64) (allCons rBool_ok (allCons (rPtr_ok 0 0) allNil)))), (eCons (eBlk_ok (allCons (rInt_ok .i64) (allCons (rSl_ok api_JobC_ok) (allCons (rSl_ok intC_ok) (allCons (rInt_ok .i64) (allCons (rInt_ok .i64) allNil)))))) eNil)⟩
def shaft_judge_2_rs : Sp := ⟨[rBool], [(0, eBlk [rInt .i64, rSl api_JobC, rSl intC, rInt .i64, rInt .i64])]⟩
theorem shaft_judge_2_rs_ok : shaft_judge_2_rs.Ok := ⟨(allCons rBool_ok allNil), (eCons (eBlk_ok (allCons (rInt_ok .i64) (allCons (rSl_ok api_JobC_ok) (allCons (rSl_ok intC_ok) (allCons (rInt_ok .i64) (allCons (rInt_ok .i64) allNil)))))) eNil)⟩
def shaft_judge_2_run {R : Type} (N : Nat) (args : List SV) (T : Tab) (kf : SV × Tab → Option R) : Option R :=
  shaft_judge_2_m N (toI (lget args 0)) (toI (lget args 1)) (toB (lget args 2)) (toI (lget (entCs (entAt T 0)) 0)) (lstC api_JobC (lget (entCs (entAt T 0)) 1)) (lstC intC (lget (entCs (entAt T 0)) 2)) (toI (lget (entCs (entAt T 0)) 3)) (toI (lget (entCs (entAt T 0)) 4)) (fun q0 => kf (lget [.bool q0] 0, [(0, .blk [.int .i64 (toI (lget (entCs (entAt T 0)) 0)), slC api_JobC (lstC api_JobC (lget (entCs (entAt T 0)) 1)), slC intC (lstC intC (lget (entCs (entAt T 0)) 2)), .int .i64 (toI (lget (entCs (entAt T 0)) 3)), .int .i64 (toI (lget (entCs (entAt T 0)) 4))])]))
def shaft_judge_2_lp {R : Type} (N : Nat) : Lp R := fun body S k => Option.none
noncomputable def shaft_judge_2_go {R : Type} (N : Nat) (args : List SV) (T : Tab) (kf : SV × Tab → Option R) : Option R :=
  shaft_judge_2 N (toI (lget args 0)) (toI (lget args 1)) (toB (lget args 2)) (toI (lget (entCs (entAt T 0)) 0)) (lstC api_JobC (lget (entCs (entAt T 0)) 1)) (lstC intC (lget (entCs (entAt T 0)) 2)) (toI (lget (entCs (entAt T 0)) 3)) (toI (lget (entCs (entAt T 0)) 4)) (fun q0 => kf (lget [.bool q0] 0, [(0, .blk [.int .i64 (toI (lget (entCs (entAt T 0)) 0)), slC api_JobC (lstC api_JobC (lget (entCs (entAt T 0)) 1)), slC intC (lstC intC (lget (entCs (entAt T 0)) 2)), .int .i64 (toI (lget (entCs (entAt T 0)) 3)), .int .i64 (toI (lget (entCs (entAt T 0)) 4))])]))
noncomputable def shaft_judge_2_cal {R : Type} (N : Nat) : Cal R := callM (shaft_judge_1_cal N) 74 1 shaft_judge_2_sp (shaft_judge_2_go N)
theorem shaft_judge_2_cal_ok {R : Type} (N : Nat) : CalOk E.P (shaft_judge_2_cal (R := R) N) :=
  callM_ok hE (shaft_judge_1_cal_ok N) (lp := shaft_judge_2_lp N) (jn := noJn) (keys := []) kNil (by kernel_rfl) (js := []) jNil (by kernel_rfl) shaft_judge_2_sp_ok shaft_judge_2_rs_ok (fun args T kf => Eq.trans (shaft_judge_2_def N (toI (lget args 0)) (toI (lget args 1)) (toB (lget args 2)) (toI (lget (entCs (entAt T 0)) 0)) (lstC api_JobC (lget (entCs (entAt T 0)) 1)) (lstC intC (lget (entCs (entAt T 0)) 2)) (toI (lget (entCs (entAt T 0)) 3)) (toI (lget (entCs (entAt T 0)) 4)) (fun q0 => kf (lget [.bool q0] 0, [(0, .blk [.int .i64 (toI (lget (entCs (entAt T 0)) 0)), slC api_JobC (lstC api_JobC (lget (entCs (entAt T 0)) 1)), slC intC (lstC intC (lget (entCs (entAt T 0)) 2)), .int .i64 (toI (lget (entCs (entAt T 0)) 3)), .int .i64 (toI (lget (entCs (entAt T 0)) 4))])]))) (by kernel_rfl : shaft_judge_2_run N args T kf = fnM E (shaft_judge_1_cal N) (shaft_judge_2_lp N) (noJn) 74 (shaft_judge_2_sp.vs args) (shaft_judge_2_sp.tab T) 1 (resK shaft_judge_2_rs kf)))
def shaft_judge_3_1_m {R : Type} (N : Nat) (a770 : Int) (a771 : Int) (k : Bool → Option R) : Option R :=
  k (w64 (↑(BitVec.toNat (BitVec.ofInt (IntKind.bits IntKind.i64) a771 &&& BitVec.ofInt (IntKind.bits IntKind.i64) a770)) : Int) == a770)
noncomputable def shaft_judge_3_1 {R : Type} : Nat → Int → Int → (Bool → Option R) → Option R := lock (@shaft_judge_3_1_m R)
theorem shaft_judge_3_1_def {R : Type} (N : Nat) (a770 : Int) (a771 : Int) (k : Bool → Option R) : shaft_judge_3_1 N a770 a771 k = shaft_judge_3_1_m N a770 a771 k := by unfold shaft_judge_3_1; rw [lock_eq]
def shaft_judge_3_1_sp : Sp := ⟨[rInt .i64, rPtr 0 0], [(0, eBlk [rInt .i64])]⟩
theorem shaft_judge_3_1_sp_ok : shaft_judge_3_1_sp.Ok := ⟨(allCons (rInt_ok .i64) (allCons (rPtr_ok 0 0) allNil)), (eCons (eBlk_ok (allCons (rInt_ok .i64) allNil)) eNil)⟩
def shaft_judge_3_1_rs : Sp := ⟨[rBool], [(0, eBlk [rInt .i64])]⟩
theorem shaft_judge_3_1_rs_ok : shaft_judge_3_1_rs.Ok := ⟨(allCons rBool_ok allNil), (eCons (eBlk_ok (allCons (rInt_ok .i64) allNil)) eNil)⟩
def shaft_judge_3_1_run {R : Type} (N : Nat) (args : List SV) (T : Tab) (kf : SV × Tab → Option R) : Option R :=
  shaft_judge_3_1_m N (toI (lget args 0)) (toI (lget (entCs (entAt T 0)) 0)) (fun q0 => kf (lget [.bool q0] 0, [(0, .blk [.int .i64 (toI (lget (entCs (entAt T 0)) 0))])]))
def shaft_judge_3_1_lp {R : Type} (N : Nat) : Lp R := fun body S k => Option.none
noncomputable def shaft_judge_3_1_go {R : Type} (N : Nat) (args : List SV) (T : Tab) (kf : SV × Tab → Option R) : Option R :=
  shaft_judge_3_1 N (toI (lget args 0)) (toI (lget (entCs (entAt T 0)) 0)) (fun q0 => kf (lget [.bool q0] 0, [(0, .blk [.int .i64 (toI (lget (entCs (entAt T 0)) 0))])]))
noncomputable def shaft_judge_3_1_cal {R : Type} (N : Nat) : Cal R := callM (shaft_judge_2_cal N) 76 1 shaft_judge_3_1_sp (shaft_judge_3_1_go N)
theorem shaft_judge_3_1_cal_ok {R : Type} (N : Nat) : CalOk E.P (shaft_judge_3_1_cal (R := R) N) :=
  callM_ok hE (shaft_judge_2_cal_ok N) (lp := shaft_judge_3_1_lp N) (jn := noJn) (keys := []) kNil (by kernel_rfl) (js := []) jNil (by kernel_rfl) shaft_judge_3_1_sp_ok shaft_judge_3_1_rs_ok (fun args T kf => Eq.trans (shaft_judge_3_1_def N (toI (lget args 0)) (toI (lget (entCs (entAt T 0)) 0)) (fun q0 => kf (lget [.bool q0] 0, [(0, .blk [.int .i64 (toI (lget (entCs (entAt T 0)) 0))])]))) (by kernel_rfl : shaft_judge_3_1_run N args T kf = fnM E (shaft_judge_2_cal N) (shaft_judge_3_1_lp N) (noJn) 76 (shaft_judge_3_1_sp.vs args) (shaft_judge_3_1_sp.tab T) 1 (resK shaft_judge_3_1_rs kf)))
def slices_IndexFunc___int_int__v2_L2 : LoopSp := ⟨⟨[0, 1, 7, 8], ⟨((rSl intC) :: (rFunc 76 0 [rPtr 0 0]) :: (dr 5 ((rInt .i64) :: (rInt .i64) :: (dr 10 [])))), [(0, eBlk [rInt .i64])]⟩, 1⟩, [(Option.none, ⟨[4], ⟨(dr 4 ((rInt .i64) :: (dr 14 []))), [(0, eBlk [rInt .i64])]⟩, 1⟩), (some 0, ⟨[], ⟨(dr 19 []), [(0, eBlk [rInt .i64])]⟩, 1⟩)]⟩
theorem slices_IndexFunc___int_int__v2_L2_ok : slices_IndexFunc___int_int__v2_L2.Ok := ⟨⟨(allCons (rSl_ok intC_ok) (allCons (rFunc_ok 76 0 (allCons (rPtr_ok 0 0) allNil)) (drCons 5 (allCons (rInt_ok .i64) (allCons (rInt_ok .i64) (drCons 10 allNil)))))), (eCons (eBlk_ok (allCons (rInt_ok .i64) allNil)) eNil)⟩, (xCons ⟨(drCons 4 (allCons (rInt_ok .i64) (drCons 14 allNil))), (eCons (eBlk_ok (allCons (rInt_ok .i64) allNil)) eNil)⟩ (xCons ⟨(drCons 19 allNil), (eCons (eBlk_ok (allCons (rInt_ok .i64) allNil)) eNil)⟩ xNil))⟩
def slices_IndexFunc___int_int__v2_h2 (v766 : Arr Int) (v767 : Int) (v768 : Int) (v769 : Int) : St := ⟨((slC intC v766) :: (.func 76 0 [.ptr 0 0]) :: (un 5 ((.int .i64 v767) :: (.int .i64 v768) :: (un 10 [])))), [(0, .blk [.int .i64 v769])], 1⟩
def slices_IndexFunc___int_int__v2_x2_r (v769 : Int) (q0 : Int) : St := ⟨(un 4 ((.int .i64 q0) :: (un 14 []))), [(0, .blk [.int .i64 v769])], 1⟩
def slices_IndexFunc___int_int__v2_x2_0 (v769 : Int) : St := ⟨(un 19 []), [(0, .blk [.int .i64 v769])], 1⟩
def slices_IndexFunc___int_int__v2_b2 {R : Type} (N : Nat) (rc : Arr Int → Int → Int → Int → Option R) (v766 : Arr Int) (v767 : Int) (v768 : Int) (v769 : Int) (kr : Int → Option R) (k0 : Unit → Option R) : Option R :=
  bif decide (v768 < v767) then
   bif decide ((0 : Int) ≤ v768) && decide (v768 < (↑(Arr.n v766) : Int)) then
    shaft_judge_3_1 N (Arr.f v766 (Int.toNat v768)) v769 (fun r772 =>
    bif r772 then
     kr v768
    else
     rc v766 v767 (w64 (v768 + (1 : Int))) v769)
   else
    Option.none
  else
   k0 ()
def slices_IndexFunc___int_int__v2_l2 {R : Type} (N : Nat) : Nat → Arr Int → Int → Int → Int → (Int → Option R) → (Unit → Option R) → Option R
  | 0, _, _, _, _, _, _ => Option.none
  | n + 1, v766, v767, v768, v769, kr, k0 => slices_IndexFunc___int_int__v2_b2 N (fun v766 v767 v768 v769 => slices_IndexFunc___int_int__v2_l2 N n v766 v767 v768 v769 kr k0) v766 v767 v768 v769 kr k0
def slices_IndexFunc___int_int__v2_m {R : Type} (N : Nat) (a764 : Arr Int) (a765 : Int) (k : Int → Option R) : Option R :=
  slices_IndexFunc___int_int__v2_l2 N N a764 ((↑(Arr.n a764) : Int)) (0 : Int) a765 (fun r773 =>
   k r773) (fun (_ : Unit) =>
   k (-1 : Int))
noncomputable def slices_IndexFunc___int_int__v2 {R : Type} : Nat → Arr Int → Int → (Int → Option R) → Option R := lock (@slices_IndexFunc___int_int__v2_m R)
theorem slices_IndexFunc___int_int__v2_def {R : Type} (N : Nat) (a764 : Arr Int) (a765 : Int) (k : Int → Option R) : slices_IndexFunc___int_int__v2 N a764 a765 k = slices_IndexFunc___int_int__v2_m N a764 a765 k := by unfold slices_IndexFunc___int_int__v2; rw [lock_eq]
def slices_IndexFunc___int_int__v2_sp : Sp := ⟨[rSl intC, rFunc 76 0 [rPtr 0 0]], [(0, eBlk [rInt .i64])]⟩
theorem slices_IndexFunc___int_int__v2_sp_ok : slices_IndexFunc___int_int__v2_sp.Ok := ⟨(allCons (rSl_ok intC_ok) (allCons (rFunc_ok 76 0 (allCons (rPtr_ok 0 0) allNil)) allNil)), (eCons (eBlk_ok (allCons (rInt_ok .i64) allNil)) eNil)⟩
def slices_IndexFunc___int_int__v2_rs : Sp := ⟨[rInt .i64], [(0, eBlk [rInt .i64])]⟩
theorem slices_IndexFunc___int_int__v2_rs_ok : slices_IndexFunc___int_int__v2_rs.Ok := ⟨(allCons (rInt_ok .i64) allNil), (eCons (eBlk_ok (allCons (rInt_ok .i64) allNil)) eNil)⟩
def slices_IndexFunc___int_int__v2_run {R : Type} (N : Nat) (args : List SV) (T : Tab) (kf : SV × Tab → Option R) : Option R :=
  slices_IndexFunc___int_int__v2_m N (lstC intC (lget args 0)) (toI (lget (entCs (entAt T 0)) 0)) (fun q0 => kf (lget [.int .i64 q0] 0, [(0, .blk [.int .i64 (toI (lget (entCs (entAt T 0)) 0))])]))
def slices_IndexFunc___int_int__v2_d2 {R : Type} (N : Nat) (S0 : St) (k : Exit → St → Option R) : Option R :=
  slices_IndexFunc___int_int__v2_l2 N N (lstC intC (lget S0.tmps 0)) (toI (lget S0.tmps 7)) (toI (lget S0.tmps 8)) (toI (lget (entCs (entAt S0.tab 0)) 0)) (fun q0 => k .ret (slices_IndexFunc___int_int__v2_x2_r (toI (lget (entCs (entAt S0.tab 0)) 0)) q0)) (fun (_ : Unit) => k (.exit 0) (slices_IndexFunc___int_int__v2_x2_0 (toI (lget (entCs (entAt S0.tab 0)) 0))))
def slices_IndexFunc___int_int__v2_lp {R : Type} (N : Nat) : Lp R := fun body S k => bif (Go.Sx.keyOf body).getD 0 == 2 then (slices_IndexFunc___int_int__v2_L2.head.raw 1 S (fun S0 => slices_IndexFunc___int_int__v2_d2 N S0 k)) else Option.none
theorem slices_IndexFunc___int_int__v2_l2_eq {R : Type} (N : Nat) (k : Exit → St → Option R) (n : Nat) : ∀ (v0 : Arr Int) (v1 : Int) (v2 : Int) (v3 : Int), loopM E.Θ (shaft_judge_3_1_cal N) (slices_IndexFunc___int_int__v2_lp N) (noJn) 1 slices_IndexFunc___int_int__v2_L2 (bodyAt E 78 2) n (slices_IndexFunc___int_int__v2_h2 v0 v1 v2 v3) k = slices_IndexFunc___int_int__v2_l2 N n v0 v1 v2 v3 (fun q0 => k .ret (slices_IndexFunc___int_int__v2_x2_r v3 q0)) (fun (_ : Unit) => k (.exit 0) (slices_IndexFunc___int_int__v2_x2_0 v3)) := by
  induction n with
  | zero => intro v0 v1 v2 v3; rfl
  | succ n ih =>
    intro v0 v1 v2 v3
    refine Eq.trans (b := slices_IndexFunc___int_int__v2_b2 N (fun v0 v1 v2 v3 => loopM E.Θ (shaft_judge_3_1_cal N) (slices_IndexFunc___int_int__v2_lp N) (noJn) 1 slices_IndexFunc___int_int__v2_L2 (bodyAt E 78 2) n (slices_IndexFunc___int_int__v2_h2 v0 v1 v2 v3) k) v0 v1 v2 v3 (fun q0 => k .ret (slices_IndexFunc___int_int__v2_x2_r v3 q0)) (fun (_ : Unit) => k (.exit 0) (slices_IndexFunc___int_int__v2_x2_0 v3))) (by kernel_rfl) ?_
    have h : (fun (v0 : Arr Int) (v1 : Int) (v2 : Int) (v3 : Int) => loopM E.Θ (shaft_judge_3_1_cal N) (slices_IndexFunc___int_int__v2_lp N) (noJn) 1 slices_IndexFunc___int_int__v2_L2 (bodyAt E 78 2) n (slices_IndexFunc___int_int__v2_h2 v0 v1 v2 v3) k) = (fun (v0 : Arr Int) (v1 : Int) (v2 : Int) (v3 : Int) => slices_IndexFunc___int_int__v2_l2 N n v0 v1 v2 v3 (fun q0 => k .ret (slices_IndexFunc___int_int__v2_x2_r v3 q0)) (fun (_ : Unit) => k (.exit 0) (slices_IndexFunc___int_int__v2_x2_0 v3))) := funext fun v0 => funext fun v1 => funext fun v2 => funext fun v3 => ih v0 v1 v2 v3
    rw [h]
    rfl
theorem slices_IndexFunc___int_int__v2_k2 {R : Type} (N : Nat) : LpKey (R := R) E 78 1 (slices_IndexFunc___int_int__v2_lp N) 2 :=
  lpKey_of hE (shaft_judge_3_1_cal_ok N) (lp := slices_IndexFunc___int_int__v2_lp N) (jn := noJn) slices_IndexFunc___int_int__v2_L2_ok [] kNil (by kernel_rfl) [] jNil (by kernel_rfl) N fun S k =>
    Eq.trans (b := slices_IndexFunc___int_int__v2_L2.head.raw 1 S (fun S0 => slices_IndexFunc___int_int__v2_d2 N S0 k)) (by kernel_rfl) (congrArg (slices_IndexFunc___int_int__v2_L2.head.raw 1 S) (funext fun S0 => Eq.trans (slices_IndexFunc___int_int__v2_l2_eq N k N (lstC intC (lget S0.tmps 0)) (toI (lget S0.tmps 7)) (toI (lget S0.tmps 8)) (toI (lget (entCs (entAt S0.tab 0)) 0))).symm (by kernel_rfl)))
noncomputable def slices_IndexFunc___int_int__v2_go {R : Type} (N : Nat) (args : List SV) (T : Tab) (kf : SV × Tab → Option R) : Option R :=
  slices_IndexFunc___int_int__v2 N (lstC intC (lget args 0)) (toI (lget (entCs (entAt T 0)) 0)) (fun q0 => kf (lget [.int .i64 q0] 0, [(0, .blk [.int .i64 (toI (lget (entCs (entAt T 0)) 0))])]))
noncomputable def slices_IndexFunc___int_int__v2_cal {R : Type} (N : Nat) : Cal R := callM (shaft_judge_3_1_cal N) 78 1 slices_IndexFunc___int_int__v2_sp (slices_IndexFunc___int_int__v2_go N)
theorem slices_IndexFunc___int_int__v2_cal_ok {R : Type} (N : Nat) : CalOk E.P (slices_IndexFunc___int_int__v2_cal (R := R) N) :=
  callM_ok hE (shaft_judge_3_1_cal_ok N) (lp := slices_IndexFunc___int_int__v2_lp N) (jn := noJn) (keys := [2]) (kCons (slices_IndexFunc___int_int__v2_k2 N) kNil) (by kernel_rfl) (js := []) jNil (by kernel_rfl) slices_IndexFunc___int_int__v2_sp_ok slices_IndexFunc___int_int__v2_rs_ok (fun args T kf => Eq.trans (slices_IndexFunc___int_int__v2_def N (lstC intC (lget args 0)) (toI (lget (entCs (entAt T 0)) 0)) (fun q0 => kf (lget [.int .i64 q0] 0, [(0, .blk [.int .i64 (toI (lget (entCs (entAt T 0)) 0))])]))) (by kernel_rfl : slices_IndexFunc___int_int__v2_run N args T kf = fnM E (shaft_judge_3_1_cal N) (slices_IndexFunc___int_int__v2_lp N) (noJn) 78 (slices_IndexFunc___int_int__v2_sp.vs args) (slices_IndexFunc___int_int__v2_sp.tab T) 1 (resK slices_IndexFunc___int_int__v2_rs kf)))
def slices_ContainsFunc___int_int__v2_m {R : Type} (N : Nat) (a762 : Arr Int) (a763 : Int) (k : Bool → Option R) : Option R :=
  slices_IndexFunc___int_int__v2 N a762 a763 (fun r774 =>
  k (decide (r774 ≥ (0 : Int))))
noncomputable def slices_ContainsFunc___int_int__v2 {R : Type} : Nat → Arr Int → Int → (Bool → Option R) → Option R := lock (@slices_ContainsFunc___int_int__v2_m R)
theorem slices_ContainsFunc___int_int__v2_def {R : Type} (N : Nat) (a762 : Arr Int) (a763 : Int) (k : Bool → Option R) : slices_ContainsFunc___int_int__v2 N a762 a763 k = slices_ContainsFunc___int_int__v2_m N a762 a763 k := by unfold slices_ContainsFunc___int_int__v2; rw [lock_eq]
def slices_ContainsFunc___int_int__v2_sp : Sp := ⟨[rSl intC, rFunc 76 0 [rPtr 0 0]], [(0, eBlk [rInt .i64])]⟩
theorem slices_ContainsFunc___int_int__v2_sp_ok : slices_ContainsFunc___int_int__v2_sp.Ok := ⟨(allCons (rSl_ok intC_ok) (allCons (rFunc_ok 76 0 (allCons (rPtr_ok 0 0) allNil)) allNil)), (eCons (eBlk_ok (allCons (rInt_ok .i64) allNil)) eNil)⟩
def slices_ContainsFunc___int_int__v2_rs : Sp := ⟨[rBool], [(0, eBlk [rInt .i64])]⟩
theorem slices_ContainsFunc___int_int__v2_rs_ok : slices_ContainsFunc___int_int__v2_rs.Ok := ⟨(allCons rBool_ok allNil), (eCons (eBlk_ok (allCons (rInt_ok .i64) allNil)) eNil)⟩
def slices_ContainsFunc___int_int__v2_run {R : Type} (N : Nat) (args : List SV) (T : Tab) (kf : SV × Tab → Option R) : Option R :=
  slices_ContainsFunc___int_int__v2_m N (lstC intC (lget args 0)) (toI (lget (entCs (entAt T 0)) 0)) (fun q0 => kf (lget [.bool q0] 0, [(0, .blk [.int .i64 (toI (lget (entCs (entAt T 0)) 0))])]))
def slices_ContainsFunc___int_int__v2_lp {R : Type} (N : Nat) : Lp R := fun body S k => Option.none
noncomputable def slices_ContainsFunc___int_int__v2_go {R : Type} (N : Nat) (args : List SV) (T : Tab) (kf : SV × Tab → Option R) : Option R :=
  slices_ContainsFunc___int_int__v2 N (lstC intC (lget args 0)) (toI (lget (entCs (entAt T 0)) 0)) (fun q0 => kf (lget [.bool q0] 0, [(0, .blk [.int .i64 (toI (lget (entCs (entAt T 0)) 0))])]))
noncomputable def slices_ContainsFunc___int_int__v2_cal {R : Type} (N : Nat) : Cal R := callM (slices_IndexFunc___int_int__v2_cal N) 57 1 slices_ContainsFunc___int_int__v2_sp (slices_ContainsFunc___int_int__v2_go N)
theorem slices_ContainsFunc___int_int__v2_cal_ok {R : Type} (N : Nat) : CalOk E.P (slices_ContainsFunc___int_int__v2_cal (R := R) N) :=
  callM_ok hE (slices_IndexFunc___int_int__v2_cal_ok N) (lp := slices_ContainsFunc___int_int__v2_lp N) (jn := noJn) (keys := []) kNil (by kernel_rfl) (js := []) jNil (by kernel_rfl) slices_ContainsFunc___int_int__v2_sp_ok slices_ContainsFunc___int_int__v2_rs_ok (fun args T kf => Eq.trans (slices_ContainsFunc___int_int__v2_def N (lstC intC (lget args 0)) (toI (lget (entCs (entAt T 0)) 0)) (fun q0 => kf (lget [.bool q0] 0, [(0, .blk [.int .i64 (toI (lget (entCs (entAt T 0)) 0))])]))) (by kernel_rfl : slices_ContainsFunc___int_int__v2_run N args T kf = fnM E (slices_IndexFunc___int_int__v2_cal N) (slices_ContainsFunc___int_int__v2_lp N) (noJn) 57 (slices_ContainsFunc___int_int__v2_sp.vs args) (slices_ContainsFunc___int_int__v2_sp.tab T) 1 (resK slices_ContainsFunc___int_int__v2_rs kf)))
def shaft_judge_3_m {R : Type} (N : Nat) (a754 : Int) (a755 : Int) (a756 : Bool) (a757 : Int) (a758 : Arr api_Job) (a759 : Arr Int) (a760 : Int) (a761 : Int) (k : Bool → Option R) : Option R :=
  slices_ContainsFunc___int_int__v2 N a759 a754 (fun r775 =>
  k r775)
noncomputable def shaft_judge_3 {R : Type} : Nat → Int → Int → Bool → Int → Arr api_Job → Arr Int → Int → Int → (Bool → Option R) → Option R := lock (@shaft_judge_3_m R)
theorem shaft_judge_3_def {R : Type} (N : Nat) (a754 : Int) (a755 : Int) (a756 : Bool) (a757 : Int) (a758 : Arr api_Job) (a759 : Arr Int) (a760 : Int) (a761 : Int) (k : Bool → Option R) : shaft_judge_3 N a754 a755 a756 a757 a758 a759 a760 a761 k = shaft_judge_3_m N a754 a755 a756 a757 a758 a759 a760 a761 k := by unfold shaft_judge_3; rw [lock_eq]
def shaft_judge_3_sp : Sp := ⟨[rInt .i64, rInt .i64, rBool, rPtr 0 0], [(0, eBlk [rInt .i64, rSl api_JobC, rSl intC, rInt .i64, rInt .i64])]⟩
theorem shaft_judge_3_sp_ok : shaft_judge_3_sp.Ok := ⟨(allCons (rInt_ok .i64) (allCons (rInt_ok .i64) (allCons rBool_ok (allCons (rPtr_ok 0 0) allNil)))), (eCons (eBlk_ok (allCons (rInt_ok .i64) (allCons (rSl_ok api_JobC_ok) (allCons (rSl_ok intC_ok) (allCons (rInt_ok .i64) (allCons (rInt_ok .i64) allNil)))))) eNil)⟩
def shaft_judge_3_rs : Sp := ⟨[rBool], [(0, eBlk [rInt .i64, rSl api_JobC, rSl intC, rInt .i64, rInt .i64])]⟩
theorem shaft_judge_3_rs_ok : shaft_judge_3_rs.Ok := ⟨(allCons rBool_ok allNil), (eCons (eBlk_ok (allCons (rInt_ok .i64) (allCons (rSl_ok api_JobC_ok) (allCons (rSl_ok intC_ok) (allCons (rInt_ok .i64) (allCons (rInt_ok .i64) allNil)))))) eNil)⟩
def shaft_judge_3_run {R : Type} (N : Nat) (args : List SV) (T : Tab) (kf : SV × Tab → Option R) : Option R :=
  shaft_judge_3_m N (toI (lget args 0)) (toI (lget args 1)) (toB (lget args 2)) (toI (lget (entCs (entAt T 0)) 0)) (lstC api_JobC (lget (entCs (entAt T 0)) 1)) (lstC intC (lget (entCs (entAt T 0)) 2)) (toI (lget (entCs (entAt T 0)) 3)) (toI (lget (entCs (entAt T 0)) 4)) (fun q0 => kf (lget [.bool q0] 0, [(0, .blk [.int .i64 (toI (lget (entCs (entAt T 0)) 0)), slC api_JobC (lstC api_JobC (lget (entCs (entAt T 0)) 1)), slC intC (lstC intC (lget (entCs (entAt T 0)) 2)), .int .i64 (toI (lget (entCs (entAt T 0)) 3)), .int .i64 (toI (lget (entCs (entAt T 0)) 4))])]))
def shaft_judge_3_lp {R : Type} (N : Nat) : Lp R := fun body S k => Option.none
noncomputable def shaft_judge_3_go {R : Type} (N : Nat) (args : List SV) (T : Tab) (kf : SV × Tab → Option R) : Option R :=
  shaft_judge_3 N (toI (lget args 0)) (toI (lget args 1)) (toB (lget args 2)) (toI (lget (entCs (entAt T 0)) 0)) (lstC api_JobC (lget (entCs (entAt T 0)) 1)) (lstC intC (lget (entCs (entAt T 0)) 2)) (toI (lget (entCs (entAt T 0)) 3)) (toI (lget (entCs (entAt T 0)) 4)) (fun q0 => kf (lget [.bool q0] 0, [(0, .blk [.int .i64 (toI (lget (entCs (entAt T 0)) 0)), slC api_JobC (lstC api_JobC (lget (entCs (entAt T 0)) 1)), slC intC (lstC intC (lget (entCs (entAt T 0)) 2)), .int .i64 (toI (lget (entCs (entAt T 0)) 3)), .int .i64 (toI (lget (entCs (entAt T 0)) 4))])]))
noncomputable def shaft_judge_3_cal {R : Type} (N : Nat) : Cal R := callM (slices_ContainsFunc___int_int__v2_cal N) 75 1 shaft_judge_3_sp (shaft_judge_3_go N)
theorem shaft_judge_3_cal_ok {R : Type} (N : Nat) : CalOk E.P (shaft_judge_3_cal (R := R) N) :=
  callM_ok hE (slices_ContainsFunc___int_int__v2_cal_ok N) (lp := shaft_judge_3_lp N) (jn := noJn) (keys := []) kNil (by kernel_rfl) (js := []) jNil (by kernel_rfl) shaft_judge_3_sp_ok shaft_judge_3_rs_ok (fun args T kf => Eq.trans (shaft_judge_3_def N (toI (lget args 0)) (toI (lget args 1)) (toB (lget args 2)) (toI (lget (entCs (entAt T 0)) 0)) (lstC api_JobC (lget (entCs (entAt T 0)) 1)) (lstC intC (lget (entCs (entAt T 0)) 2)) (toI (lget (entCs (entAt T 0)) 3)) (toI (lget (entCs (entAt T 0)) 4)) (fun q0 => kf (lget [.bool q0] 0, [(0, .blk [.int .i64 (toI (lget (entCs (entAt T 0)) 0)), slC api_JobC (lstC api_JobC (lget (entCs (entAt T 0)) 1)), slC intC (lstC intC (lget (entCs (entAt T 0)) 2)), .int .i64 (toI (lget (entCs (entAt T 0)) 3)), .int .i64 (toI (lget (entCs (entAt T 0)) 4))])]))) (by kernel_rfl : shaft_judge_3_run N args T kf = fnM E (slices_ContainsFunc___int_int__v2_cal N) (shaft_judge_3_lp N) (noJn) 75 (shaft_judge_3_sp.vs args) (shaft_judge_3_sp.tab T) 1 (resK shaft_judge_3_rs kf)))
def shaft_judge_L2 : LoopSp := ⟨⟨[1, 2, 17, 18, 19], ⟨(dr 1 ((rSl intC) :: (rPtr 0 0) :: (dr 14 ((rSl api_JobC) :: (rInt .i64) :: (rInt .i64) :: (dr 84 []))))), [(0, eBlkC api_WorksC)]⟩, 1⟩, [(Option.none, ⟨[4, 5], ⟨(dr 4 ((rInt .i64) :: (rInt .i64) :: (dr 98 []))), []⟩, 0⟩), (some 0, ⟨[1, 2], ⟨(dr 1 ((rSl intC) :: (rPtr 0 0) :: (dr 101 []))), [(0, eBlkC api_WorksC)]⟩, 1⟩)]⟩
theorem shaft_judge_L2_ok : shaft_judge_L2.Ok := ⟨⟨(drCons 1 (allCons (rSl_ok intC_ok) (allCons (rPtr_ok 0 0) (drCons 14 (allCons (rSl_ok api_JobC_ok) (allCons (rInt_ok .i64) (allCons (rInt_ok .i64) (drCons 84 allNil)))))))), (eCons (eBlkC_ok api_WorksC_ok api_WorksC_len) eNil)⟩, (xCons ⟨(drCons 4 (allCons (rInt_ok .i64) (allCons (rInt_ok .i64) (drCons 98 allNil)))), eNil⟩ (xCons ⟨(drCons 1 (allCons (rSl_ok intC_ok) (allCons (rPtr_ok 0 0) (drCons 101 allNil)))), (eCons (eBlkC_ok api_WorksC_ok api_WorksC_len) eNil)⟩ xNil))⟩
def shaft_judge_h2 (v670 : Arr Int) (v671 : Arr api_Job) (v672 : Int) (v673 : Int) (v674 : api_Works) : St := ⟨(un 1 ((slC intC v670) :: (.ptr 0 0) :: (un 14 ((slC api_JobC v671) :: (.int .i64 v672) :: (.int .i64 v673) :: (un 84 []))))), [(0, .blk (Cod.enc api_WorksC v674))], 1⟩
def shaft_judge_x2_r (q0 : Int) (q1 : Int) : St := ⟨(un 4 ((.int .i64 q0) :: (.int .i64 q1) :: (un 98 []))), [], 0⟩
def shaft_judge_x2_0 (v670 : Arr Int) (v674 : api_Works) : St := ⟨(un 1 ((slC intC v670) :: (.ptr 0 0) :: (un 101 []))), [(0, .blk (Cod.enc api_WorksC v674))], 1⟩
def shaft_judge_b2 {R : Type} (N : Nat) (rc : Arr Int → Arr api_Job → Int → Int → api_Works → Option R) (v670 : Arr Int) (v671 : Arr api_Job) (v672 : Int) (v673 : Int) (v674 : api_Works) (kr : Int → Int → Option R) (k0 : Unit → Option R) : Option R :=
  bif decide (v673 < v672) then
   bif decide ((0 : Int) ≤ v673) && decide (v673 < (↑(Arr.n v671) : Int)) then
    bif decide ((0 : Int) ≤ v673) && decide (v673 < (↑(Arr.n v670) : Int)) then
     bif decide (Arr.f v670 (Int.toNat v673) < (0 : Int)) then
      kr (1 : Int) v673
     else
      bif decide ((0 : Int) ≤ v673) && decide (v673 < (↑(Arr.n v670) : Int)) then
       bif decide (Arr.f v670 (Int.toNat v673) > w64 (api_Works.Until v674 - api_Job.Nights (Arr.f v671 (Int.toNat v673)))) then
        kr (1 : Int) v673
       else
        rc v670 v671 v672 (w64 (v673 + (1 : Int))) v674
      else
       Option.none
    else
     Option.none
   else
    Option.none
  else
   k0 ()
def shaft_judge_l2 {R : Type} (N : Nat) : Nat → Arr Int → Arr api_Job → Int → Int → api_Works → (Int → Int → Option R) → (Unit → Option R) → Option R
  | 0, _, _, _, _, _, _, _ => Option.none
  | n + 1, v670, v671, v672, v673, v674, kr, k0 => shaft_judge_b2 N (fun v670 v671 v672 v673 v674 => shaft_judge_l2 N n v670 v671 v672 v673 v674 kr k0) v670 v671 v672 v673 v674 kr k0
def shaft_judge_L11 : LoopSp := ⟨⟨[1, 2, 8, 44, 45, 46, 52, 53, 54], ⟨(dr 1 ((rSl intC) :: (rPtr 0 0) :: (dr 5 ((rInt .i64) :: (dr 35 ((rSl api_JobC) :: (rInt .i64) :: (rInt .i64) :: (dr 5 ((rSl intC) :: (rInt .i64) :: (rInt .i64) :: (dr 49 []))))))))), [(0, eBlkC api_WorksC)]⟩, 1⟩, [(Option.none, ⟨[4, 5], ⟨(dr 4 ((rInt .i64) :: (rInt .i64) :: (dr 98 []))), []⟩, 0⟩), (some 4, ⟨[1, 2, 44, 45, 46], ⟨(dr 1 ((rSl intC) :: (rPtr 0 0) :: (dr 41 ((rSl api_JobC) :: (rInt .i64) :: (rInt .i64) :: (dr 57 []))))), [(0, eBlkC api_WorksC)]⟩, 1⟩)]⟩
theorem shaft_judge_L11_ok : shaft_judge_L11.Ok := ⟨⟨(drCons 1 (allCons (rSl_ok intC_ok) (allCons (rPtr_ok 0 0) (drCons 5 (allCons (rInt_ok .i64) (drCons 35 (allCons (rSl_ok api_JobC_ok) (allCons (rInt_ok .i64) (allCons (rInt_ok .i64) (drCons 5 (allCons (rSl_ok intC_ok) (allCons (rInt_ok .i64) (allCons (rInt_ok .i64) (drCons 49 allNil)))))))))))))), (eCons (eBlkC_ok api_WorksC_ok api_WorksC_len) eNil)⟩, (xCons ⟨(drCons 4 (allCons (rInt_ok .i64) (allCons (rInt_ok .i64) (drCons 98 allNil)))), eNil⟩ (xCons ⟨(drCons 1 (allCons (rSl_ok intC_ok) (allCons (rPtr_ok 0 0) (drCons 41 (allCons (rSl_ok api_JobC_ok) (allCons (rInt_ok .i64) (allCons (rInt_ok .i64) (drCons 57 allNil)))))))), (eCons (eBlkC_ok api_WorksC_ok api_WorksC_len) eNil)⟩ xNil))⟩
def shaft_judge_h11 (v682 : Arr Int) (v683 : Int) (v684 : Arr api_Job) (v685 : Int) (v686 : Int) (v687 : Arr Int) (v688 : Int) (v689 : Int) (v690 : api_Works) : St := ⟨(un 1 ((slC intC v682) :: (.ptr 0 0) :: (un 5 ((.int .i64 v683) :: (un 35 ((slC api_JobC v684) :: (.int .i64 v685) :: (.int .i64 v686) :: (un 5 ((slC intC v687) :: (.int .i64 v688) :: (.int .i64 v689) :: (un 49 []))))))))), [(0, .blk (Cod.enc api_WorksC v690))], 1⟩
def shaft_judge_x11_r (v683 : Int) (q0 : Int) : St := ⟨(un 4 ((.int .i64 q0) :: (.int .i64 v683) :: (un 98 []))), [], 0⟩
def shaft_judge_x11_4 (v682 : Arr Int) (v684 : Arr api_Job) (v685 : Int) (v686 : Int) (v690 : api_Works) : St := ⟨(un 1 ((slC intC v682) :: (.ptr 0 0) :: (un 41 ((slC api_JobC v684) :: (.int .i64 v685) :: (.int .i64 v686) :: (un 57 []))))), [(0, .blk (Cod.enc api_WorksC v690))], 1⟩
def shaft_judge_b11 {R : Type} (N : Nat) (rc : Arr Int → Int → Arr api_Job → Int → Int → Arr Int → Int → Int → api_Works → Option R) (v682 : Arr Int) (v683 : Int) (v684 : Arr api_Job) (v685 : Int) (v686 : Int) (v687 : Arr Int) (v688 : Int) (v689 : Int) (v690 : api_Works) (kr : Int → Option R) (k4 : Unit → Option R) : Option R :=
  bif decide (v689 < v688) then
   bif decide ((0 : Int) ≤ v689) && decide (v689 < (↑(Arr.n v687) : Int)) then
    bif decide ((0 : Int) ≤ Arr.f v687 (Int.toNat v689)) && decide (Arr.f v687 (Int.toNat v689) < (↑(Arr.n v682) : Int)) then
     bif decide ((0 : Int) ≤ Arr.f v687 (Int.toNat v689)) && decide (Arr.f v687 (Int.toNat v689) < (↑(Arr.n (api_Works.Jobs v690)) : Int)) then
      bif decide ((0 : Int) ≤ v683) && decide (v683 < (↑(Arr.n v682) : Int)) then
       bif decide (w64 (Arr.f v682 (Int.toNat (Arr.f v687 (Int.toNat v689))) + api_Job.Nights (Arr.f (api_Works.Jobs v690) (Int.toNat (Arr.f v687 (Int.toNat v689))))) > Arr.f v682 (Int.toNat v683)) then
        kr (2 : Int)
       else
        rc v682 v683 v684 v685 v686 v687 v688 (w64 (v689 + (1 : Int))) v690
      else
       Option.none
     else
      Option.none
    else
     Option.none
   else
    Option.none
  else
   k4 ()
def shaft_judge_l11 {R : Type} (N : Nat) : Nat → Arr Int → Int → Arr api_Job → Int → Int → Arr Int → Int → Int → api_Works → (Int → Option R) → (Unit → Option R) → Option R
  | 0, _, _, _, _, _, _, _, _, _, _, _ => Option.none
  | n + 1, v682, v683, v684, v685, v686, v687, v688, v689, v690, kr, k4 => shaft_judge_b11 N (fun v682 v683 v684 v685 v686 v687 v688 v689 v690 => shaft_judge_l11 N n v682 v683 v684 v685 v686 v687 v688 v689 v690 kr k4) v682 v683 v684 v685 v686 v687 v688 v689 v690 kr k4
def shaft_judge_L8 : LoopSp := ⟨⟨[1, 2, 44, 45, 46], ⟨(dr 1 ((rSl intC) :: (rPtr 0 0) :: (dr 41 ((rSl api_JobC) :: (rInt .i64) :: (rInt .i64) :: (dr 57 []))))), [(0, eBlkC api_WorksC)]⟩, 1⟩, [(Option.none, ⟨[4, 5], ⟨(dr 4 ((rInt .i64) :: (rInt .i64) :: (dr 98 []))), []⟩, 0⟩), (some 2, ⟨[1, 2], ⟨(dr 1 ((rSl intC) :: (rPtr 0 0) :: (dr 101 []))), [(0, eBlkC api_WorksC)]⟩, 1⟩)]⟩
theorem shaft_judge_L8_ok : shaft_judge_L8.Ok := ⟨⟨(drCons 1 (allCons (rSl_ok intC_ok) (allCons (rPtr_ok 0 0) (drCons 41 (allCons (rSl_ok api_JobC_ok) (allCons (rInt_ok .i64) (allCons (rInt_ok .i64) (drCons 57 allNil)))))))), (eCons (eBlkC_ok api_WorksC_ok api_WorksC_len) eNil)⟩, (xCons ⟨(drCons 4 (allCons (rInt_ok .i64) (allCons (rInt_ok .i64) (drCons 98 allNil)))), eNil⟩ (xCons ⟨(drCons 1 (allCons (rSl_ok intC_ok) (allCons (rPtr_ok 0 0) (drCons 101 allNil)))), (eCons (eBlkC_ok api_WorksC_ok api_WorksC_len) eNil)⟩ xNil))⟩
def shaft_judge_h8 (v677 : Arr Int) (v678 : Arr api_Job) (v679 : Int) (v680 : Int) (v681 : api_Works) : St := ⟨(un 1 ((slC intC v677) :: (.ptr 0 0) :: (un 41 ((slC api_JobC v678) :: (.int .i64 v679) :: (.int .i64 v680) :: (un 57 []))))), [(0, .blk (Cod.enc api_WorksC v681))], 1⟩
def shaft_judge_x8_r (q0 : Int) (q1 : Int) : St := ⟨(un 4 ((.int .i64 q0) :: (.int .i64 q1) :: (un 98 []))), [], 0⟩
def shaft_judge_x8_2 (v677 : Arr Int) (v681 : api_Works) : St := ⟨(un 1 ((slC intC v677) :: (.ptr 0 0) :: (un 101 []))), [(0, .blk (Cod.enc api_WorksC v681))], 1⟩
def shaft_judge_b8 {R : Type} (N : Nat) (rc : Arr Int → Arr api_Job → Int → Int → api_Works → Option R) (v677 : Arr Int) (v678 : Arr api_Job) (v679 : Int) (v680 : Int) (v681 : api_Works) (kr : Int → Int → Option R) (k2 : Unit → Option R) : Option R :=
  bif decide (v680 < v679) then
   bif decide ((0 : Int) ≤ v680) && decide (v680 < (↑(Arr.n v678) : Int)) then
    shaft_judge_l11 N N v677 v680 v678 v679 v680 (api_Job.After (Arr.f v678 (Int.toNat v680))) ((↑(Arr.n (api_Job.After (Arr.f v678 (Int.toNat v680)))) : Int)) (0 : Int) v681 (fun r691 =>
     kr r691 v680) (fun (_ : Unit) =>
     rc v677 v678 v679 (w64 (v680 + (1 : Int))) v681)
   else
    Option.none
  else
   k2 ()
def shaft_judge_l8 {R : Type} (N : Nat) : Nat → Arr Int → Arr api_Job → Int → Int → api_Works → (Int → Int → Option R) → (Unit → Option R) → Option R
  | 0, _, _, _, _, _, _, _ => Option.none
  | n + 1, v677, v678, v679, v680, v681, kr, k2 => shaft_judge_b8 N (fun v677 v678 v679 v680 v681 => shaft_judge_l8 N n v677 v678 v679 v680 v681 kr k2) v677 v678 v679 v680 v681 kr k2
def shaft_judge_L22 : LoopSp := ⟨⟨[1, 2, 13, 14, 80, 81, 86, 87], ⟨(dr 1 ((rSl intC) :: (rPtr 0 0) :: (dr 10 ((rInt .i64) :: (rFunc 73 0 []) :: (dr 65 ((rAggs [rFunc 73 0 [], rFunc 74 0 [rPtr 0 0], rFunc 75 0 [rPtr 0 0]]) :: (rInt .i64) :: (dr 4 ((rInt .i64) :: (rInt .i64) :: (dr 16 []))))))))), [(0, eBlkC api_WorksC)]⟩, 1⟩, [(Option.none, ⟨[4, 5], ⟨(dr 4 ((rInt .i64) :: (rInt .i64) :: (dr 98 []))), []⟩, 0⟩), (some 8, ⟨[1, 2, 80, 81], ⟨(dr 1 ((rSl intC) :: (rPtr 0 0) :: (dr 77 ((rAggs [rFunc 73 0 [], rFunc 74 0 [rPtr 0 0], rFunc 75 0 [rPtr 0 0]]) :: (rInt .i64) :: (dr 22 []))))), [(0, eBlkC api_WorksC)]⟩, 1⟩)]⟩
theorem shaft_judge_L22_ok : shaft_judge_L22.Ok := ⟨⟨(drCons 1 (allCons (rSl_ok intC_ok) (allCons (rPtr_ok 0 0) (drCons 10 (allCons (rInt_ok .i64) (allCons (rFunc_ok 73 0 allNil) (drCons 65 (allCons (rAggs_ok (allCons (rFunc_ok 73 0 allNil) (allCons (rFunc_ok 74 0 (allCons (rPtr_ok 0 0) allNil)) (allCons (rFunc_ok 75 0 (allCons (rPtr_ok 0 0) allNil)) allNil)))) (allCons (rInt_ok .i64) (drCons 4 (allCons (rInt_ok .i64) (allCons (rInt_ok .i64) (drCons 16 allNil))))))))))))), (eCons (eBlkC_ok api_WorksC_ok api_WorksC_len) eNil)⟩, (xCons ⟨(drCons 4 (allCons (rInt_ok .i64) (allCons (rInt_ok .i64) (drCons 98 allNil)))), eNil⟩ (xCons ⟨(drCons 1 (allCons (rSl_ok intC_ok) (allCons (rPtr_ok 0 0) (drCons 77 (allCons (rAggs_ok (allCons (rFunc_ok 73 0 allNil) (allCons (rFunc_ok 74 0 (allCons (rPtr_ok 0 0) allNil)) (allCons (rFunc_ok 75 0 (allCons (rPtr_ok 0 0) allNil)) allNil)))) (allCons (rInt_ok .i64) (drCons 22 allNil))))))), (eCons (eBlkC_ok api_WorksC_ok api_WorksC_len) eNil)⟩ xNil))⟩
def shaft_judge_h22 (v697 : Arr Int) (v698 : Int) (v699 : Int) (v700 : Int) (v701 : Int) (v702 : api_Works) : St := ⟨(un 1 ((slC intC v697) :: (.ptr 0 0) :: (un 10 ((.int .i64 v698) :: (.func 73 0 []) :: (un 65 ((.agg [.func 73 0 [], .func 74 0 [.ptr 0 0], .func 75 0 [.ptr 0 0]]) :: (.int .i64 v699) :: (un 4 ((.int .i64 v700) :: (.int .i64 v701) :: (un 16 []))))))))), [(0, .blk (Cod.enc api_WorksC v702))], 1⟩
def shaft_judge_x22_r (q0 : Int) (q1 : Int) : St := ⟨(un 4 ((.int .i64 q0) :: (.int .i64 q1) :: (un 98 []))), [], 0⟩
def shaft_judge_x22_8 (v697 : Arr Int) (v699 : Int) (v702 : api_Works) : St := ⟨(un 1 ((slC intC v697) :: (.ptr 0 0) :: (un 77 ((.agg [.func 73 0 [], .func 74 0 [.ptr 0 0], .func 75 0 [.ptr 0 0]]) :: (.int .i64 v699) :: (un 22 []))))), [(0, .blk (Cod.enc api_WorksC v702))], 1⟩
def shaft_judge_b22 {R : Type} (N : Nat) (rc : Arr Int → Int → Int → Int → Int → api_Works → Option R) (v697 : Arr Int) (v698 : Int) (v699 : Int) (v700 : Int) (v701 : Int) (v702 : api_Works) (kr : Int → Int → Option R) (k8 : Unit → Option R) : Option R :=
  bif decide (v701 < v700) then
   shaft_night N v702 v697 v701 (fun r717 r718 r719 =>
   shaft_judge_1 N r717 r718 r719 (fun (_ : Unit) =>
   bif r719 then
    kr (w64 ((3 : Int) + v698)) v701
   else
    rc v697 v698 v699 v700 (w64 (v701 + (1 : Int))) v702))
  else
   k8 ()
def shaft_judge_l22 {R : Type} (N : Nat) : Nat → Arr Int → Int → Int → Int → Int → api_Works → (Int → Int → Option R) → (Unit → Option R) → Option R
  | 0, _, _, _, _, _, _, _, _ => Option.none
  | n + 1, v697, v698, v699, v700, v701, v702, kr, k8 => shaft_judge_b22 N (fun v697 v698 v699 v700 v701 v702 => shaft_judge_l22 N n v697 v698 v699 v700 v701 v702 kr k8) v697 v698 v699 v700 v701 v702 kr k8
def shaft_judge_L22v1 : LoopSp := ⟨⟨[1, 2, 13, 14, 80, 81, 86, 87], ⟨(dr 1 ((rSl intC) :: (rPtr 0 0) :: (dr 10 ((rInt .i64) :: (rFunc 74 0 [rPtr 0 0]) :: (dr 65 ((rAggs [rFunc 73 0 [], rFunc 74 0 [rPtr 0 0], rFunc 75 0 [rPtr 0 0]]) :: (rInt .i64) :: (dr 4 ((rInt .i64) :: (rInt .i64) :: (dr 16 []))))))))), [(0, eBlkC api_WorksC)]⟩, 1⟩, [(Option.none, ⟨[4, 5], ⟨(dr 4 ((rInt .i64) :: (rInt .i64) :: (dr 98 []))), []⟩, 0⟩), (some 8, ⟨[1, 2, 80, 81], ⟨(dr 1 ((rSl intC) :: (rPtr 0 0) :: (dr 77 ((rAggs [rFunc 73 0 [], rFunc 74 0 [rPtr 0 0], rFunc 75 0 [rPtr 0 0]]) :: (rInt .i64) :: (dr 22 []))))), [(0, eBlkC api_WorksC)]⟩, 1⟩)]⟩
theorem shaft_judge_L22v1_ok : shaft_judge_L22v1.Ok := ⟨⟨(drCons 1 (allCons (rSl_ok intC_ok) (allCons (rPtr_ok 0 0) (drCons 10 (allCons (rInt_ok .i64) (allCons (rFunc_ok 74 0 (allCons (rPtr_ok 0 0) allNil)) (drCons 65 (allCons (rAggs_ok (allCons (rFunc_ok 73 0 allNil) (allCons (rFunc_ok 74 0 (allCons (rPtr_ok 0 0) allNil)) (allCons (rFunc_ok 75 0 (allCons (rPtr_ok 0 0) allNil)) allNil)))) (allCons (rInt_ok .i64) (drCons 4 (allCons (rInt_ok .i64) (allCons (rInt_ok .i64) (drCons 16 allNil))))))))))))), (eCons (eBlkC_ok api_WorksC_ok api_WorksC_len) eNil)⟩, (xCons ⟨(drCons 4 (allCons (rInt_ok .i64) (allCons (rInt_ok .i64) (drCons 98 allNil)))), eNil⟩ (xCons ⟨(drCons 1 (allCons (rSl_ok intC_ok) (allCons (rPtr_ok 0 0) (drCons 77 (allCons (rAggs_ok (allCons (rFunc_ok 73 0 allNil) (allCons (rFunc_ok 74 0 (allCons (rPtr_ok 0 0) allNil)) (allCons (rFunc_ok 75 0 (allCons (rPtr_ok 0 0) allNil)) allNil)))) (allCons (rInt_ok .i64) (drCons 22 allNil))))))), (eCons (eBlkC_ok api_WorksC_ok api_WorksC_len) eNil)⟩ xNil))⟩
def shaft_judge_h22v1 (v725 : Arr Int) (v726 : Int) (v727 : Int) (v728 : Int) (v729 : Int) (v730 : api_Works) : St := ⟨(un 1 ((slC intC v725) :: (.ptr 0 0) :: (un 10 ((.int .i64 v726) :: (.func 74 0 [.ptr 0 0]) :: (un 65 ((.agg [.func 73 0 [], .func 74 0 [.ptr 0 0], .func 75 0 [.ptr 0 0]]) :: (.int .i64 v727) :: (un 4 ((.int .i64 v728) :: (.int .i64 v729) :: (un 16 []))))))))), [(0, .blk (Cod.enc api_WorksC v730))], 1⟩
def shaft_judge_x22v1_r (q0 : Int) (q1 : Int) : St := ⟨(un 4 ((.int .i64 q0) :: (.int .i64 q1) :: (un 98 []))), [], 0⟩
def shaft_judge_x22v1_8 (v725 : Arr Int) (v727 : Int) (v730 : api_Works) : St := ⟨(un 1 ((slC intC v725) :: (.ptr 0 0) :: (un 77 ((.agg [.func 73 0 [], .func 74 0 [.ptr 0 0], .func 75 0 [.ptr 0 0]]) :: (.int .i64 v727) :: (un 22 []))))), [(0, .blk (Cod.enc api_WorksC v730))], 1⟩
def shaft_judge_b22v1 {R : Type} (N : Nat) (rc : Arr Int → Int → Int → Int → Int → api_Works → Option R) (v725 : Arr Int) (v726 : Int) (v727 : Int) (v728 : Int) (v729 : Int) (v730 : api_Works) (kr : Int → Int → Option R) (k8 : Unit → Option R) : Option R :=
  bif decide (v729 < v728) then
   shaft_night N v730 v725 v729 (fun r731 r732 r733 =>
   shaft_judge_2 N r731 r732 r733 (api_Works.Machines v730) (api_Works.Jobs v730) (api_Works.Never v730) (api_Works.Crews v730) (api_Works.Until v730) (fun r742 =>
   bif r742 then
    kr (w64 ((3 : Int) + v726)) v729
   else
    rc v725 v726 v727 v728 (w64 (v729 + (1 : Int))) v730))
  else
   k8 ()
def shaft_judge_l22v1 {R : Type} (N : Nat) : Nat → Arr Int → Int → Int → Int → Int → api_Works → (Int → Int → Option R) → (Unit → Option R) → Option R
  | 0, _, _, _, _, _, _, _, _ => Option.none
  | n + 1, v725, v726, v727, v728, v729, v730, kr, k8 => shaft_judge_b22v1 N (fun v725 v726 v727 v728 v729 v730 => shaft_judge_l22v1 N n v725 v726 v727 v728 v729 v730 kr k8) v725 v726 v727 v728 v729 v730 kr k8
def shaft_judge_L22v2 : LoopSp := ⟨⟨[1, 2, 13, 14, 80, 81, 86, 87], ⟨(dr 1 ((rSl intC) :: (rPtr 0 0) :: (dr 10 ((rInt .i64) :: (rFunc 75 0 [rPtr 0 0]) :: (dr 65 ((rAggs [rFunc 73 0 [], rFunc 74 0 [rPtr 0 0], rFunc 75 0 [rPtr 0 0]]) :: (rInt .i64) :: (dr 4 ((rInt .i64) :: (rInt .i64) :: (dr 16 []))))))))), [(0, eBlkC api_WorksC)]⟩, 1⟩, [(Option.none, ⟨[4, 5], ⟨(dr 4 ((rInt .i64) :: (rInt .i64) :: (dr 98 []))), []⟩, 0⟩), (some 8, ⟨[1, 2, 80, 81], ⟨(dr 1 ((rSl intC) :: (rPtr 0 0) :: (dr 77 ((rAggs [rFunc 73 0 [], rFunc 74 0 [rPtr 0 0], rFunc 75 0 [rPtr 0 0]]) :: (rInt .i64) :: (dr 22 []))))), [(0, eBlkC api_WorksC)]⟩, 1⟩)]⟩
theorem shaft_judge_L22v2_ok : shaft_judge_L22v2.Ok := ⟨⟨(drCons 1 (allCons (rSl_ok intC_ok) (allCons (rPtr_ok 0 0) (drCons 10 (allCons (rInt_ok .i64) (allCons (rFunc_ok 75 0 (allCons (rPtr_ok 0 0) allNil)) (drCons 65 (allCons (rAggs_ok (allCons (rFunc_ok 73 0 allNil) (allCons (rFunc_ok 74 0 (allCons (rPtr_ok 0 0) allNil)) (allCons (rFunc_ok 75 0 (allCons (rPtr_ok 0 0) allNil)) allNil)))) (allCons (rInt_ok .i64) (drCons 4 (allCons (rInt_ok .i64) (allCons (rInt_ok .i64) (drCons 16 allNil))))))))))))), (eCons (eBlkC_ok api_WorksC_ok api_WorksC_len) eNil)⟩, (xCons ⟨(drCons 4 (allCons (rInt_ok .i64) (allCons (rInt_ok .i64) (drCons 98 allNil)))), eNil⟩ (xCons ⟨(drCons 1 (allCons (rSl_ok intC_ok) (allCons (rPtr_ok 0 0) (drCons 77 (allCons (rAggs_ok (allCons (rFunc_ok 73 0 allNil) (allCons (rFunc_ok 74 0 (allCons (rPtr_ok 0 0) allNil)) (allCons (rFunc_ok 75 0 (allCons (rPtr_ok 0 0) allNil)) allNil)))) (allCons (rInt_ok .i64) (drCons 22 allNil))))))), (eCons (eBlkC_ok api_WorksC_ok api_WorksC_len) eNil)⟩ xNil))⟩
def shaft_judge_h22v2 (v745 : Arr Int) (v746 : Int) (v747 : Int) (v748 : Int) (v749 : Int) (v750 : api_Works) : St := ⟨(un 1 ((slC intC v745) :: (.ptr 0 0) :: (un 10 ((.int .i64 v746) :: (.func 75 0 [.ptr 0 0]) :: (un 65 ((.agg [.func 73 0 [], .func 74 0 [.ptr 0 0], .func 75 0 [.ptr 0 0]]) :: (.int .i64 v747) :: (un 4 ((.int .i64 v748) :: (.int .i64 v749) :: (un 16 []))))))))), [(0, .blk (Cod.enc api_WorksC v750))], 1⟩
def shaft_judge_x22v2_r (q0 : Int) (q1 : Int) : St := ⟨(un 4 ((.int .i64 q0) :: (.int .i64 q1) :: (un 98 []))), [], 0⟩
def shaft_judge_x22v2_8 (v745 : Arr Int) (v747 : Int) (v750 : api_Works) : St := ⟨(un 1 ((slC intC v745) :: (.ptr 0 0) :: (un 77 ((.agg [.func 73 0 [], .func 74 0 [.ptr 0 0], .func 75 0 [.ptr 0 0]]) :: (.int .i64 v747) :: (un 22 []))))), [(0, .blk (Cod.enc api_WorksC v750))], 1⟩
def shaft_judge_b22v2 {R : Type} (N : Nat) (rc : Arr Int → Int → Int → Int → Int → api_Works → Option R) (v745 : Arr Int) (v746 : Int) (v747 : Int) (v748 : Int) (v749 : Int) (v750 : api_Works) (kr : Int → Int → Option R) (k8 : Unit → Option R) : Option R :=
  bif decide (v749 < v748) then
   shaft_night N v750 v745 v749 (fun r751 r752 r753 =>
   shaft_judge_3 N r751 r752 r753 (api_Works.Machines v750) (api_Works.Jobs v750) (api_Works.Never v750) (api_Works.Crews v750) (api_Works.Until v750) (fun r776 =>
   bif r776 then
    kr (w64 ((3 : Int) + v746)) v749
   else
    rc v745 v746 v747 v748 (w64 (v749 + (1 : Int))) v750))
  else
   k8 ()
def shaft_judge_l22v2 {R : Type} (N : Nat) : Nat → Arr Int → Int → Int → Int → Int → api_Works → (Int → Int → Option R) → (Unit → Option R) → Option R
  | 0, _, _, _, _, _, _, _, _ => Option.none
  | n + 1, v745, v746, v747, v748, v749, v750, kr, k8 => shaft_judge_b22v2 N (fun v745 v746 v747 v748 v749 v750 => shaft_judge_l22v2 N n v745 v746 v747 v748 v749 v750 kr k8) v745 v746 v747 v748 v749 v750 kr k8
def shaft_judge_L19 : LoopSp := ⟨⟨[1, 2, 80, 81], ⟨(dr 1 ((rSl intC) :: (rPtr 0 0) :: (dr 77 ((rAggs [rFunc 73 0 [], rFunc 74 0 [rPtr 0 0], rFunc 75 0 [rPtr 0 0]]) :: (rInt .i64) :: (dr 22 []))))), [(0, eBlkC api_WorksC)]⟩, 1⟩, [(Option.none, ⟨[4, 5], ⟨(dr 4 ((rInt .i64) :: (rInt .i64) :: (dr 98 []))), []⟩, 0⟩), (some 6, ⟨[], ⟨(dr 104 []), []⟩, 0⟩)]⟩
theorem shaft_judge_L19_ok : shaft_judge_L19.Ok := ⟨⟨(drCons 1 (allCons (rSl_ok intC_ok) (allCons (rPtr_ok 0 0) (drCons 77 (allCons (rAggs_ok (allCons (rFunc_ok 73 0 allNil) (allCons (rFunc_ok 74 0 (allCons (rPtr_ok 0 0) allNil)) (allCons (rFunc_ok 75 0 (allCons (rPtr_ok 0 0) allNil)) allNil)))) (allCons (rInt_ok .i64) (drCons 22 allNil))))))), (eCons (eBlkC_ok api_WorksC_ok api_WorksC_len) eNil)⟩, (xCons ⟨(drCons 4 (allCons (rInt_ok .i64) (allCons (rInt_ok .i64) (drCons 98 allNil)))), eNil⟩ (xCons ⟨(drCons 104 allNil), eNil⟩ xNil))⟩
def shaft_judge_h19 (v694 : Arr Int) (v695 : Int) (v696 : api_Works) : St := ⟨(un 1 ((slC intC v694) :: (.ptr 0 0) :: (un 77 ((.agg [.func 73 0 [], .func 74 0 [.ptr 0 0], .func 75 0 [.ptr 0 0]]) :: (.int .i64 v695) :: (un 22 []))))), [(0, .blk (Cod.enc api_WorksC v696))], 1⟩
def shaft_judge_x19_r (q0 : Int) (q1 : Int) : St := ⟨(un 4 ((.int .i64 q0) :: (.int .i64 q1) :: (un 98 []))), [], 0⟩
def shaft_judge_x19_6  : St := ⟨(un 104 []), [], 0⟩
def shaft_judge_b19 {R : Type} (N : Nat) (rc : Arr Int → Int → api_Works → Option R) (v694 : Arr Int) (v695 : Int) (v696 : api_Works) (kr : Int → Int → Option R) (k6 : Unit → Option R) : Option R :=
  bif decide (v695 < (3 : Int)) then
   bif v695 == (↑(0 : Nat) : Int) then
    shaft_judge_l22 N N v694 v695 v695 (api_Works.Until v696) (0 : Int) v696 (fun r723 r724 =>
     kr r723 r724) (fun (_ : Unit) =>
     rc v694 (w64 (v695 + (1 : Int))) v696)
   else
    bif v695 == (↑((0 : Nat) + (1 : Nat)) : Int) then
     shaft_judge_l22v1 N N v694 v695 v695 (api_Works.Until v696) (0 : Int) v696 (fun r743 r744 =>
      kr r743 r744) (fun (_ : Unit) =>
      rc v694 (w64 (v695 + (1 : Int))) v696)
    else
     bif v695 == (↑((0 : Nat) + (1 : Nat) + (1 : Nat)) : Int) then
      shaft_judge_l22v2 N N v694 v695 v695 (api_Works.Until v696) (0 : Int) v696 (fun r777 r778 =>
       kr r777 r778) (fun (_ : Unit) =>
       rc v694 (w64 (v695 + (1 : Int))) v696)
     else
      Option.none
  else
   k6 ()
def shaft_judge_l19 {R : Type} (N : Nat) : Nat → Arr Int → Int → api_Works → (Int → Int → Option R) → (Unit → Option R) → Option R
  | 0, _, _, _, _, _ => Option.none
  | n + 1, v694, v695, v696, kr, k6 => shaft_judge_b19 N (fun v694 v695 v696 => shaft_judge_l19 N n v694 v695 v696 kr k6) v694 v695 v696 kr k6
def shaft_judge_m {R : Type} (N : Nat) (a668 : api_Works) (a669 : Arr Int) (k : Int → Int → Option R) : Option R :=
  shaft_judge_l2 N N a669 (api_Works.Jobs a668) ((↑(Arr.n (api_Works.Jobs a668)) : Int)) (0 : Int) a668 (fun r675 r676 =>
   k r675 r676) (fun (_ : Unit) =>
   shaft_judge_l8 N N a669 (api_Works.Jobs a668) ((↑(Arr.n (api_Works.Jobs a668)) : Int)) (0 : Int) a668 (fun r692 r693 =>
    k r692 r693) (fun (_ : Unit) =>
    shaft_judge_l19 N N a669 (0 : Int) a668 (fun r779 r780 =>
     k r779 r780) (fun (_ : Unit) =>
     k (0 : Int) (0 : Int))))
noncomputable def shaft_judge {R : Type} : Nat → api_Works → Arr Int → (Int → Int → Option R) → Option R := lock (@shaft_judge_m R)
theorem shaft_judge_def {R : Type} (N : Nat) (a668 : api_Works) (a669 : Arr Int) (k : Int → Int → Option R) : shaft_judge N a668 a669 k = shaft_judge_m N a668 a669 k := by unfold shaft_judge; rw [lock_eq]
def shaft_judge_sp : Sp := ⟨[rAgg api_WorksC, rSl intC], []⟩
theorem shaft_judge_sp_ok : shaft_judge_sp.Ok := ⟨(allCons (rAgg_ok api_WorksC_ok api_WorksC_len) (allCons (rSl_ok intC_ok) allNil)), eNil⟩
def shaft_judge_rs : Sp := ⟨[rTup [rInt .i64, rInt .i64]], []⟩
theorem shaft_judge_rs_ok : shaft_judge_rs.Ok := ⟨(allCons (rTup_ok (allCons (rInt_ok .i64) (allCons (rInt_ok .i64) allNil))) allNil), eNil⟩
def shaft_judge_run {R : Type} (N : Nat) (args : List SV) (T : Tab) (kf : SV × Tab → Option R) : Option R :=
  shaft_judge_m N (Cod.dec api_WorksC (lget (toCs (lget args 0)))) (lstC intC (lget args 1)) (fun q0 q1 => kf (lget [.tup [.int .i64 q0, .int .i64 q1]] 0, []))
def shaft_judge_d22v2 {R : Type} (N : Nat) (S0 : St) (k : Exit → St → Option R) : Option R :=
  shaft_judge_l22v2 N N (lstC intC (lget S0.tmps 1)) (toI (lget S0.tmps 13)) (toI (lget S0.tmps 81)) (toI (lget S0.tmps 86)) (toI (lget S0.tmps 87)) (Cod.dec api_WorksC (lget (entCs (entAt S0.tab 0)))) (fun q0 q1 => k .ret (shaft_judge_x22v2_r q0 q1)) (fun (_ : Unit) => k (.exit 8) (shaft_judge_x22v2_8 (lstC intC (lget S0.tmps 1)) (toI (lget S0.tmps 81)) (Cod.dec api_WorksC (lget (entCs (entAt S0.tab 0))))))
def shaft_judge_d22v1 {R : Type} (N : Nat) (S0 : St) (k : Exit → St → Option R) : Option R :=
  shaft_judge_l22v1 N N (lstC intC (lget S0.tmps 1)) (toI (lget S0.tmps 13)) (toI (lget S0.tmps 81)) (toI (lget S0.tmps 86)) (toI (lget S0.tmps 87)) (Cod.dec api_WorksC (lget (entCs (entAt S0.tab 0)))) (fun q0 q1 => k .ret (shaft_judge_x22v1_r q0 q1)) (fun (_ : Unit) => k (.exit 8) (shaft_judge_x22v1_8 (lstC intC (lget S0.tmps 1)) (toI (lget S0.tmps 81)) (Cod.dec api_WorksC (lget (entCs (entAt S0.tab 0))))))
def shaft_judge_d22 {R : Type} (N : Nat) (S0 : St) (k : Exit → St → Option R) : Option R :=
  shaft_judge_l22 N N (lstC intC (lget S0.tmps 1)) (toI (lget S0.tmps 13)) (toI (lget S0.tmps 81)) (toI (lget S0.tmps 86)) (toI (lget S0.tmps 87)) (Cod.dec api_WorksC (lget (entCs (entAt S0.tab 0)))) (fun q0 q1 => k .ret (shaft_judge_x22_r q0 q1)) (fun (_ : Unit) => k (.exit 8) (shaft_judge_x22_8 (lstC intC (lget S0.tmps 1)) (toI (lget S0.tmps 81)) (Cod.dec api_WorksC (lget (entCs (entAt S0.tab 0))))))
def shaft_judge_d19 {R : Type} (N : Nat) (S0 : St) (k : Exit → St → Option R) : Option R :=
  shaft_judge_l19 N N (lstC intC (lget S0.tmps 1)) (toI (lget S0.tmps 81)) (Cod.dec api_WorksC (lget (entCs (entAt S0.tab 0)))) (fun q0 q1 => k .ret (shaft_judge_x19_r q0 q1)) (fun (_ : Unit) => k (.exit 6) (shaft_judge_x19_6 ))
def shaft_judge_d11 {R : Type} (N : Nat) (S0 : St) (k : Exit → St → Option R) : Option R :=
  shaft_judge_l11 N N (lstC intC (lget S0.tmps 1)) (toI (lget S0.tmps 8)) (lstC api_JobC (lget S0.tmps 44)) (toI (lget S0.tmps 45)) (toI (lget S0.tmps 46)) (lstC intC (lget S0.tmps 52)) (toI (lget S0.tmps 53)) (toI (lget S0.tmps 54)) (Cod.dec api_WorksC (lget (entCs (entAt S0.tab 0)))) (fun q0 => k .ret (shaft_judge_x11_r (toI (lget S0.tmps 8)) q0)) (fun (_ : Unit) => k (.exit 4) (shaft_judge_x11_4 (lstC intC (lget S0.tmps 1)) (lstC api_JobC (lget S0.tmps 44)) (toI (lget S0.tmps 45)) (toI (lget S0.tmps 46)) (Cod.dec api_WorksC (lget (entCs (entAt S0.tab 0))))))
def shaft_judge_d8 {R : Type} (N : Nat) (S0 : St) (k : Exit → St → Option R) : Option R :=
  shaft_judge_l8 N N (lstC intC (lget S0.tmps 1)) (lstC api_JobC (lget S0.tmps 44)) (toI (lget S0.tmps 45)) (toI (lget S0.tmps 46)) (Cod.dec api_WorksC (lget (entCs (entAt S0.tab 0)))) (fun q0 q1 => k .ret (shaft_judge_x8_r q0 q1)) (fun (_ : Unit) => k (.exit 2) (shaft_judge_x8_2 (lstC intC (lget S0.tmps 1)) (Cod.dec api_WorksC (lget (entCs (entAt S0.tab 0))))))
def shaft_judge_d2 {R : Type} (N : Nat) (S0 : St) (k : Exit → St → Option R) : Option R :=
  shaft_judge_l2 N N (lstC intC (lget S0.tmps 1)) (lstC api_JobC (lget S0.tmps 17)) (toI (lget S0.tmps 18)) (toI (lget S0.tmps 19)) (Cod.dec api_WorksC (lget (entCs (entAt S0.tab 0)))) (fun q0 q1 => k .ret (shaft_judge_x2_r q0 q1)) (fun (_ : Unit) => k (.exit 0) (shaft_judge_x2_0 (lstC intC (lget S0.tmps 1)) (Cod.dec api_WorksC (lget (entCs (entAt S0.tab 0))))))
def shaft_judge_lp {R : Type} (N : Nat) : Lp R := fun body S k => bif (Go.Sx.keyOf body).getD 0 == 2 then (shaft_judge_L2.head.raw 0 S (fun S0 => shaft_judge_d2 N S0 k)) else bif (Go.Sx.keyOf body).getD 0 == 8 then (shaft_judge_L8.head.raw 0 S (fun S0 => shaft_judge_d8 N S0 k)) else bif (Go.Sx.keyOf body).getD 0 == 11 then (shaft_judge_L11.head.raw 0 S (fun S0 => shaft_judge_d11 N S0 k)) else bif (Go.Sx.keyOf body).getD 0 == 19 then (shaft_judge_L19.head.raw 0 S (fun S0 => shaft_judge_d19 N S0 k)) else bif (Go.Sx.keyOf body).getD 0 == 22 then (bif shaft_judge_L22.head.fits 0 S then shaft_judge_L22.head.raw 0 S (fun S0 => shaft_judge_d22 N S0 k) else (bif shaft_judge_L22v1.head.fits 0 S then shaft_judge_L22v1.head.raw 0 S (fun S0 => shaft_judge_d22v1 N S0 k) else (shaft_judge_L22v2.head.raw 0 S (fun S0 => shaft_judge_d22v2 N S0 k)))) else Option.none
theorem shaft_judge_l2_eq {R : Type} (N : Nat) (k : Exit → St → Option R) (n : Nat) : ∀ (v0 : Arr Int) (v1 : Arr api_Job) (v2 : Int) (v3 : Int) (v4 : api_Works), loopM E.Θ (shaft_judge_3_cal N) (shaft_judge_lp N) (noJn) 0 shaft_judge_L2 (bodyAt E 52 2) n (shaft_judge_h2 v0 v1 v2 v3 v4) k = shaft_judge_l2 N n v0 v1 v2 v3 v4 (fun q0 q1 => k .ret (shaft_judge_x2_r q0 q1)) (fun (_ : Unit) => k (.exit 0) (shaft_judge_x2_0 v0 v4)) := by
  induction n with
  | zero => intro v0 v1 v2 v3 v4; rfl
  | succ n ih =>
    intro v0 v1 v2 v3 v4
    refine Eq.trans (b := shaft_judge_b2 N (fun v0 v1 v2 v3 v4 => loopM E.Θ (shaft_judge_3_cal N) (shaft_judge_lp N) (noJn) 0 shaft_judge_L2 (bodyAt E 52 2) n (shaft_judge_h2 v0 v1 v2 v3 v4) k) v0 v1 v2 v3 v4 (fun q0 q1 => k .ret (shaft_judge_x2_r q0 q1)) (fun (_ : Unit) => k (.exit 0) (shaft_judge_x2_0 v0 v4))) (by kernel_rfl) ?_
    have h : (fun (v0 : Arr Int) (v1 : Arr api_Job) (v2 : Int) (v3 : Int) (v4 : api_Works) => loopM E.Θ (shaft_judge_3_cal N) (shaft_judge_lp N) (noJn) 0 shaft_judge_L2 (bodyAt E 52 2) n (shaft_judge_h2 v0 v1 v2 v3 v4) k) = (fun (v0 : Arr Int) (v1 : Arr api_Job) (v2 : Int) (v3 : Int) (v4 : api_Works) => shaft_judge_l2 N n v0 v1 v2 v3 v4 (fun q0 q1 => k .ret (shaft_judge_x2_r q0 q1)) (fun (_ : Unit) => k (.exit 0) (shaft_judge_x2_0 v0 v4))) := funext fun v0 => funext fun v1 => funext fun v2 => funext fun v3 => funext fun v4 => ih v0 v1 v2 v3 v4
    rw [h]
    rfl
theorem shaft_judge_l8_eq {R : Type} (N : Nat) (k : Exit → St → Option R) (n : Nat) : ∀ (v0 : Arr Int) (v1 : Arr api_Job) (v2 : Int) (v3 : Int) (v4 : api_Works), loopM E.Θ (shaft_judge_3_cal N) (shaft_judge_lp N) (noJn) 0 shaft_judge_L8 (bodyAt E 52 8) n (shaft_judge_h8 v0 v1 v2 v3 v4) k = shaft_judge_l8 N n v0 v1 v2 v3 v4 (fun q0 q1 => k .ret (shaft_judge_x8_r q0 q1)) (fun (_ : Unit) => k (.exit 2) (shaft_judge_x8_2 v0 v4)) := by
  induction n with
  | zero => intro v0 v1 v2 v3 v4; rfl
  | succ n ih =>
    intro v0 v1 v2 v3 v4
    refine Eq.trans (b := shaft_judge_b8 N (fun v0 v1 v2 v3 v4 => loopM E.Θ (shaft_judge_3_cal N) (shaft_judge_lp N) (noJn) 0 shaft_judge_L8 (bodyAt E 52 8) n (shaft_judge_h8 v0 v1 v2 v3 v4) k) v0 v1 v2 v3 v4 (fun q0 q1 => k .ret (shaft_judge_x8_r q0 q1)) (fun (_ : Unit) => k (.exit 2) (shaft_judge_x8_2 v0 v4))) (by kernel_rfl) ?_
    have h : (fun (v0 : Arr Int) (v1 : Arr api_Job) (v2 : Int) (v3 : Int) (v4 : api_Works) => loopM E.Θ (shaft_judge_3_cal N) (shaft_judge_lp N) (noJn) 0 shaft_judge_L8 (bodyAt E 52 8) n (shaft_judge_h8 v0 v1 v2 v3 v4) k) = (fun (v0 : Arr Int) (v1 : Arr api_Job) (v2 : Int) (v3 : Int) (v4 : api_Works) => shaft_judge_l8 N n v0 v1 v2 v3 v4 (fun q0 q1 => k .ret (shaft_judge_x8_r q0 q1)) (fun (_ : Unit) => k (.exit 2) (shaft_judge_x8_2 v0 v4))) := funext fun v0 => funext fun v1 => funext fun v2 => funext fun v3 => funext fun v4 => ih v0 v1 v2 v3 v4
    rw [h]
    rfl
theorem shaft_judge_l11_eq {R : Type} (N : Nat) (k : Exit → St → Option R) (n : Nat) : ∀ (v0 : Arr Int) (v1 : Int) (v2 : Arr api_Job) (v3 : Int) (v4 : Int) (v5 : Arr Int) (v6 : Int) (v7 : Int) (v8 : api_Works), loopM E.Θ (shaft_judge_3_cal N) (shaft_judge_lp N) (noJn) 0 shaft_judge_L11 (bodyAt E 52 11) n (shaft_judge_h11 v0 v1 v2 v3 v4 v5 v6 v7 v8) k = shaft_judge_l11 N n v0 v1 v2 v3 v4 v5 v6 v7 v8 (fun q0 => k .ret (shaft_judge_x11_r v1 q0)) (fun (_ : Unit) => k (.exit 4) (shaft_judge_x11_4 v0 v2 v3 v4 v8)) := by
  induction n with
  | zero => intro v0 v1 v2 v3 v4 v5 v6 v7 v8; rfl
  | succ n ih =>
    intro v0 v1 v2 v3 v4 v5 v6 v7 v8
    refine Eq.trans (b := shaft_judge_b11 N (fun v0 v1 v2 v3 v4 v5 v6 v7 v8 => loopM E.Θ (shaft_judge_3_cal N) (shaft_judge_lp N) (noJn) 0 shaft_judge_L11 (bodyAt E 52 11) n (shaft_judge_h11 v0 v1 v2 v3 v4 v5 v6 v7 v8) k) v0 v1 v2 v3 v4 v5 v6 v7 v8 (fun q0 => k .ret (shaft_judge_x11_r v1 q0)) (fun (_ : Unit) => k (.exit 4) (shaft_judge_x11_4 v0 v2 v3 v4 v8))) (by kernel_rfl) ?_
    have h : (fun (v0 : Arr Int) (v1 : Int) (v2 : Arr api_Job) (v3 : Int) (v4 : Int) (v5 : Arr Int) (v6 : Int) (v7 : Int) (v8 : api_Works) => loopM E.Θ (shaft_judge_3_cal N) (shaft_judge_lp N) (noJn) 0 shaft_judge_L11 (bodyAt E 52 11) n (shaft_judge_h11 v0 v1 v2 v3 v4 v5 v6 v7 v8) k) = (fun (v0 : Arr Int) (v1 : Int) (v2 : Arr api_Job) (v3 : Int) (v4 : Int) (v5 : Arr Int) (v6 : Int) (v7 : Int) (v8 : api_Works) => shaft_judge_l11 N n v0 v1 v2 v3 v4 v5 v6 v7 v8 (fun q0 => k .ret (shaft_judge_x11_r v1 q0)) (fun (_ : Unit) => k (.exit 4) (shaft_judge_x11_4 v0 v2 v3 v4 v8))) := funext fun v0 => funext fun v1 => funext fun v2 => funext fun v3 => funext fun v4 => funext fun v5 => funext fun v6 => funext fun v7 => funext fun v8 => ih v0 v1 v2 v3 v4 v5 v6 v7 v8
    rw [h]
    rfl
theorem shaft_judge_l19_eq {R : Type} (N : Nat) (k : Exit → St → Option R) (n : Nat) : ∀ (v0 : Arr Int) (v1 : Int) (v2 : api_Works), loopM E.Θ (shaft_judge_3_cal N) (shaft_judge_lp N) (noJn) 0 shaft_judge_L19 (bodyAt E 52 19) n (shaft_judge_h19 v0 v1 v2) k = shaft_judge_l19 N n v0 v1 v2 (fun q0 q1 => k .ret (shaft_judge_x19_r q0 q1)) (fun (_ : Unit) => k (.exit 6) (shaft_judge_x19_6 )) := by
  induction n with
  | zero => intro v0 v1 v2; rfl
  | succ n ih =>
    intro v0 v1 v2
    refine Eq.trans (b := shaft_judge_b19 N (fun v0 v1 v2 => loopM E.Θ (shaft_judge_3_cal N) (shaft_judge_lp N) (noJn) 0 shaft_judge_L19 (bodyAt E 52 19) n (shaft_judge_h19 v0 v1 v2) k) v0 v1 v2 (fun q0 q1 => k .ret (shaft_judge_x19_r q0 q1)) (fun (_ : Unit) => k (.exit 6) (shaft_judge_x19_6 ))) (by kernel_rfl) ?_
    have h : (fun (v0 : Arr Int) (v1 : Int) (v2 : api_Works) => loopM E.Θ (shaft_judge_3_cal N) (shaft_judge_lp N) (noJn) 0 shaft_judge_L19 (bodyAt E 52 19) n (shaft_judge_h19 v0 v1 v2) k) = (fun (v0 : Arr Int) (v1 : Int) (v2 : api_Works) => shaft_judge_l19 N n v0 v1 v2 (fun q0 q1 => k .ret (shaft_judge_x19_r q0 q1)) (fun (_ : Unit) => k (.exit 6) (shaft_judge_x19_6 ))) := funext fun v0 => funext fun v1 => funext fun v2 => ih v0 v1 v2
    rw [h]
    rfl
theorem shaft_judge_l22_eq {R : Type} (N : Nat) (k : Exit → St → Option R) (n : Nat) : ∀ (v0 : Arr Int) (v1 : Int) (v2 : Int) (v3 : Int) (v4 : Int) (v5 : api_Works), loopM E.Θ (shaft_judge_3_cal N) (shaft_judge_lp N) (noJn) 0 shaft_judge_L22 (bodyAt E 52 22) n (shaft_judge_h22 v0 v1 v2 v3 v4 v5) k = shaft_judge_l22 N n v0 v1 v2 v3 v4 v5 (fun q0 q1 => k .ret (shaft_judge_x22_r q0 q1)) (fun (_ : Unit) => k (.exit 8) (shaft_judge_x22_8 v0 v2 v5)) := by
  induction n with
  | zero => intro v0 v1 v2 v3 v4 v5; rfl
  | succ n ih =>
    intro v0 v1 v2 v3 v4 v5
    refine Eq.trans (b := shaft_judge_b22 N (fun v0 v1 v2 v3 v4 v5 => loopM E.Θ (shaft_judge_3_cal N) (shaft_judge_lp N) (noJn) 0 shaft_judge_L22 (bodyAt E 52 22) n (shaft_judge_h22 v0 v1 v2 v3 v4 v5) k) v0 v1 v2 v3 v4 v5 (fun q0 q1 => k .ret (shaft_judge_x22_r q0 q1)) (fun (_ : Unit) => k (.exit 8) (shaft_judge_x22_8 v0 v2 v5))) (by kernel_rfl) ?_
    have h : (fun (v0 : Arr Int) (v1 : Int) (v2 : Int) (v3 : Int) (v4 : Int) (v5 : api_Works) => loopM E.Θ (shaft_judge_3_cal N) (shaft_judge_lp N) (noJn) 0 shaft_judge_L22 (bodyAt E 52 22) n (shaft_judge_h22 v0 v1 v2 v3 v4 v5) k) = (fun (v0 : Arr Int) (v1 : Int) (v2 : Int) (v3 : Int) (v4 : Int) (v5 : api_Works) => shaft_judge_l22 N n v0 v1 v2 v3 v4 v5 (fun q0 q1 => k .ret (shaft_judge_x22_r q0 q1)) (fun (_ : Unit) => k (.exit 8) (shaft_judge_x22_8 v0 v2 v5))) := funext fun v0 => funext fun v1 => funext fun v2 => funext fun v3 => funext fun v4 => funext fun v5 => ih v0 v1 v2 v3 v4 v5
    rw [h]
    rfl
theorem shaft_judge_l22v1_eq {R : Type} (N : Nat) (k : Exit → St → Option R) (n : Nat) : ∀ (v0 : Arr Int) (v1 : Int) (v2 : Int) (v3 : Int) (v4 : Int) (v5 : api_Works), loopM E.Θ (shaft_judge_3_cal N) (shaft_judge_lp N) (noJn) 0 shaft_judge_L22v1 (bodyAt E 52 22) n (shaft_judge_h22v1 v0 v1 v2 v3 v4 v5) k = shaft_judge_l22v1 N n v0 v1 v2 v3 v4 v5 (fun q0 q1 => k .ret (shaft_judge_x22v1_r q0 q1)) (fun (_ : Unit) => k (.exit 8) (shaft_judge_x22v1_8 v0 v2 v5)) := by
  induction n with
  | zero => intro v0 v1 v2 v3 v4 v5; rfl
  | succ n ih =>
    intro v0 v1 v2 v3 v4 v5
    refine Eq.trans (b := shaft_judge_b22v1 N (fun v0 v1 v2 v3 v4 v5 => loopM E.Θ (shaft_judge_3_cal N) (shaft_judge_lp N) (noJn) 0 shaft_judge_L22v1 (bodyAt E 52 22) n (shaft_judge_h22v1 v0 v1 v2 v3 v4 v5) k) v0 v1 v2 v3 v4 v5 (fun q0 q1 => k .ret (shaft_judge_x22v1_r q0 q1)) (fun (_ : Unit) => k (.exit 8) (shaft_judge_x22v1_8 v0 v2 v5))) (by kernel_rfl) ?_
    have h : (fun (v0 : Arr Int) (v1 : Int) (v2 : Int) (v3 : Int) (v4 : Int) (v5 : api_Works) => loopM E.Θ (shaft_judge_3_cal N) (shaft_judge_lp N) (noJn) 0 shaft_judge_L22v1 (bodyAt E 52 22) n (shaft_judge_h22v1 v0 v1 v2 v3 v4 v5) k) = (fun (v0 : Arr Int) (v1 : Int) (v2 : Int) (v3 : Int) (v4 : Int) (v5 : api_Works) => shaft_judge_l22v1 N n v0 v1 v2 v3 v4 v5 (fun q0 q1 => k .ret (shaft_judge_x22v1_r q0 q1)) (fun (_ : Unit) => k (.exit 8) (shaft_judge_x22v1_8 v0 v2 v5))) := funext fun v0 => funext fun v1 => funext fun v2 => funext fun v3 => funext fun v4 => funext fun v5 => ih v0 v1 v2 v3 v4 v5
    rw [h]
    rfl
theorem shaft_judge_l22v2_eq {R : Type} (N : Nat) (k : Exit → St → Option R) (n : Nat) : ∀ (v0 : Arr Int) (v1 : Int) (v2 : Int) (v3 : Int) (v4 : Int) (v5 : api_Works), loopM E.Θ (shaft_judge_3_cal N) (shaft_judge_lp N) (noJn) 0 shaft_judge_L22v2 (bodyAt E 52 22) n (shaft_judge_h22v2 v0 v1 v2 v3 v4 v5) k = shaft_judge_l22v2 N n v0 v1 v2 v3 v4 v5 (fun q0 q1 => k .ret (shaft_judge_x22v2_r q0 q1)) (fun (_ : Unit) => k (.exit 8) (shaft_judge_x22v2_8 v0 v2 v5)) := by
  induction n with
  | zero => intro v0 v1 v2 v3 v4 v5; rfl
  | succ n ih =>
    intro v0 v1 v2 v3 v4 v5
    refine Eq.trans (b := shaft_judge_b22v2 N (fun v0 v1 v2 v3 v4 v5 => loopM E.Θ (shaft_judge_3_cal N) (shaft_judge_lp N) (noJn) 0 shaft_judge_L22v2 (bodyAt E 52 22) n (shaft_judge_h22v2 v0 v1 v2 v3 v4 v5) k) v0 v1 v2 v3 v4 v5 (fun q0 q1 => k .ret (shaft_judge_x22v2_r q0 q1)) (fun (_ : Unit) => k (.exit 8) (shaft_judge_x22v2_8 v0 v2 v5))) (by kernel_rfl) ?_
    have h : (fun (v0 : Arr Int) (v1 : Int) (v2 : Int) (v3 : Int) (v4 : Int) (v5 : api_Works) => loopM E.Θ (shaft_judge_3_cal N) (shaft_judge_lp N) (noJn) 0 shaft_judge_L22v2 (bodyAt E 52 22) n (shaft_judge_h22v2 v0 v1 v2 v3 v4 v5) k) = (fun (v0 : Arr Int) (v1 : Int) (v2 : Int) (v3 : Int) (v4 : Int) (v5 : api_Works) => shaft_judge_l22v2 N n v0 v1 v2 v3 v4 v5 (fun q0 q1 => k .ret (shaft_judge_x22v2_r q0 q1)) (fun (_ : Unit) => k (.exit 8) (shaft_judge_x22v2_8 v0 v2 v5))) := funext fun v0 => funext fun v1 => funext fun v2 => funext fun v3 => funext fun v4 => funext fun v5 => ih v0 v1 v2 v3 v4 v5
    rw [h]
    rfl
theorem shaft_judge_kv22 {R : Type} (N : Nat) : LpKey (R := R) E 52 0 (fun (_ : Code) S k => shaft_judge_L22.head.raw 0 S (fun S0 => shaft_judge_d22 N S0 k)) 22 :=
  lpKey_of hE (shaft_judge_3_cal_ok N) (lp := shaft_judge_lp N) (jn := noJn) shaft_judge_L22_ok [] kNil (by kernel_rfl) [] jNil (by kernel_rfl) N fun S k =>
    Eq.trans (b := shaft_judge_L22.head.raw 0 S (fun S0 => shaft_judge_d22 N S0 k)) (by kernel_rfl) (congrArg (shaft_judge_L22.head.raw 0 S) (funext fun S0 => Eq.trans (shaft_judge_l22_eq N k N (lstC intC (lget S0.tmps 1)) (toI (lget S0.tmps 13)) (toI (lget S0.tmps 81)) (toI (lget S0.tmps 86)) (toI (lget S0.tmps 87)) (Cod.dec api_WorksC (lget (entCs (entAt S0.tab 0))))).symm (by kernel_rfl)))
theorem shaft_judge_kv22v1 {R : Type} (N : Nat) : LpKey (R := R) E 52 0 (fun (_ : Code) S k => shaft_judge_L22v1.head.raw 0 S (fun S0 => shaft_judge_d22v1 N S0 k)) 22 :=
  lpKey_of hE (shaft_judge_3_cal_ok N) (lp := shaft_judge_lp N) (jn := noJn) shaft_judge_L22v1_ok [] kNil (by kernel_rfl) [] jNil (by kernel_rfl) N fun S k =>
    Eq.trans (b := shaft_judge_L22v1.head.raw 0 S (fun S0 => shaft_judge_d22v1 N S0 k)) (by kernel_rfl) (congrArg (shaft_judge_L22v1.head.raw 0 S) (funext fun S0 => Eq.trans (shaft_judge_l22v1_eq N k N (lstC intC (lget S0.tmps 1)) (toI (lget S0.tmps 13)) (toI (lget S0.tmps 81)) (toI (lget S0.tmps 86)) (toI (lget S0.tmps 87)) (Cod.dec api_WorksC (lget (entCs (entAt S0.tab 0))))).symm (by kernel_rfl)))
theorem shaft_judge_kv22v2 {R : Type} (N : Nat) : LpKey (R := R) E 52 0 (fun (_ : Code) S k => shaft_judge_L22v2.head.raw 0 S (fun S0 => shaft_judge_d22v2 N S0 k)) 22 :=
  lpKey_of hE (shaft_judge_3_cal_ok N) (lp := shaft_judge_lp N) (jn := noJn) shaft_judge_L22v2_ok [] kNil (by kernel_rfl) [] jNil (by kernel_rfl) N fun S k =>
    Eq.trans (b := shaft_judge_L22v2.head.raw 0 S (fun S0 => shaft_judge_d22v2 N S0 k)) (by kernel_rfl) (congrArg (shaft_judge_L22v2.head.raw 0 S) (funext fun S0 => Eq.trans (shaft_judge_l22v2_eq N k N (lstC intC (lget S0.tmps 1)) (toI (lget S0.tmps 13)) (toI (lget S0.tmps 81)) (toI (lget S0.tmps 86)) (toI (lget S0.tmps 87)) (Cod.dec api_WorksC (lget (entCs (entAt S0.tab 0))))).symm (by kernel_rfl)))
theorem shaft_judge_k22 {R : Type} (N : Nat) : LpKey (R := R) E 52 0 (shaft_judge_lp N) 22 :=
  lpKey_alt (lp1 := fun (_ : Code) S k => shaft_judge_L22.head.raw 0 S (fun S0 => shaft_judge_d22 N S0 k)) (lp2 := fun (_ : Code) S k => bif shaft_judge_L22v1.head.fits 0 S then shaft_judge_L22v1.head.raw 0 S (fun S0 => shaft_judge_d22v1 N S0 k) else (shaft_judge_L22v2.head.raw 0 S (fun S0 => shaft_judge_d22v2 N S0 k))) (fun S => shaft_judge_L22.head.fits 0 S) (shaft_judge_kv22 N) (lpKey_alt (lp := fun (_ : Code) S k => bif shaft_judge_L22v1.head.fits 0 S then shaft_judge_L22v1.head.raw 0 S (fun S0 => shaft_judge_d22v1 N S0 k) else (shaft_judge_L22v2.head.raw 0 S (fun S0 => shaft_judge_d22v2 N S0 k))) (fun S => shaft_judge_L22v1.head.fits 0 S) (shaft_judge_kv22v1 N) (shaft_judge_kv22v2 N) (fun S k => rfl)) (fun S k => by kernel_rfl)
theorem shaft_judge_k2 {R : Type} (N : Nat) : LpKey (R := R) E 52 0 (shaft_judge_lp N) 2 :=
  lpKey_of hE (shaft_judge_3_cal_ok N) (lp := shaft_judge_lp N) (jn := noJn) shaft_judge_L2_ok [] kNil (by kernel_rfl) [] jNil (by kernel_rfl) N fun S k =>
    Eq.trans (b := shaft_judge_L2.head.raw 0 S (fun S0 => shaft_judge_d2 N S0 k)) (by kernel_rfl) (congrArg (shaft_judge_L2.head.raw 0 S) (funext fun S0 => Eq.trans (shaft_judge_l2_eq N k N (lstC intC (lget S0.tmps 1)) (lstC api_JobC (lget S0.tmps 17)) (toI (lget S0.tmps 18)) (toI (lget S0.tmps 19)) (Cod.dec api_WorksC (lget (entCs (entAt S0.tab 0))))).symm (by kernel_rfl)))
theorem shaft_judge_k11 {R : Type} (N : Nat) : LpKey (R := R) E 52 0 (shaft_judge_lp N) 11 :=
  lpKey_of hE (shaft_judge_3_cal_ok N) (lp := shaft_judge_lp N) (jn := noJn) shaft_judge_L11_ok [] kNil (by kernel_rfl) [] jNil (by kernel_rfl) N fun S k =>
    Eq.trans (b := shaft_judge_L11.head.raw 0 S (fun S0 => shaft_judge_d11 N S0 k)) (by kernel_rfl) (congrArg (shaft_judge_L11.head.raw 0 S) (funext fun S0 => Eq.trans (shaft_judge_l11_eq N k N (lstC intC (lget S0.tmps 1)) (toI (lget S0.tmps 8)) (lstC api_JobC (lget S0.tmps 44)) (toI (lget S0.tmps 45)) (toI (lget S0.tmps 46)) (lstC intC (lget S0.tmps 52)) (toI (lget S0.tmps 53)) (toI (lget S0.tmps 54)) (Cod.dec api_WorksC (lget (entCs (entAt S0.tab 0))))).symm (by kernel_rfl)))
theorem shaft_judge_k8 {R : Type} (N : Nat) : LpKey (R := R) E 52 0 (shaft_judge_lp N) 8 :=
  lpKey_of hE (shaft_judge_3_cal_ok N) (lp := shaft_judge_lp N) (jn := noJn) shaft_judge_L8_ok [11] (kCons (shaft_judge_k11 N) kNil) (by kernel_rfl) [] jNil (by kernel_rfl) N fun S k =>
    Eq.trans (b := shaft_judge_L8.head.raw 0 S (fun S0 => shaft_judge_d8 N S0 k)) (by kernel_rfl) (congrArg (shaft_judge_L8.head.raw 0 S) (funext fun S0 => Eq.trans (shaft_judge_l8_eq N k N (lstC intC (lget S0.tmps 1)) (lstC api_JobC (lget S0.tmps 44)) (toI (lget S0.tmps 45)) (toI (lget S0.tmps 46)) (Cod.dec api_WorksC (lget (entCs (entAt S0.tab 0))))).symm (by kernel_rfl)))
theorem shaft_judge_k19 {R : Type} (N : Nat) : LpKey (R := R) E 52 0 (shaft_judge_lp N) 19 :=
  lpKey_of hE (shaft_judge_3_cal_ok N) (lp := shaft_judge_lp N) (jn := noJn) shaft_judge_L19_ok [22] (kCons (shaft_judge_k22 N) kNil) (by kernel_rfl) [] jNil (by kernel_rfl) N fun S k =>
    Eq.trans (b := shaft_judge_L19.head.raw 0 S (fun S0 => shaft_judge_d19 N S0 k)) (by kernel_rfl) (congrArg (shaft_judge_L19.head.raw 0 S) (funext fun S0 => Eq.trans (shaft_judge_l19_eq N k N (lstC intC (lget S0.tmps 1)) (toI (lget S0.tmps 81)) (Cod.dec api_WorksC (lget (entCs (entAt S0.tab 0))))).symm (by kernel_rfl)))
noncomputable def shaft_judge_go {R : Type} (N : Nat) (args : List SV) (T : Tab) (kf : SV × Tab → Option R) : Option R :=
  shaft_judge N (Cod.dec api_WorksC (lget (toCs (lget args 0)))) (lstC intC (lget args 1)) (fun q0 q1 => kf (lget [.tup [.int .i64 q0, .int .i64 q1]] 0, []))
noncomputable def shaft_judge_cal {R : Type} (N : Nat) : Cal R := callM (shaft_judge_3_cal N) 52 0 shaft_judge_sp (shaft_judge_go N)
theorem shaft_judge_cal_ok {R : Type} (N : Nat) : CalOk E.P (shaft_judge_cal (R := R) N) :=
  callM_ok hE (shaft_judge_3_cal_ok N) (lp := shaft_judge_lp N) (jn := noJn) (keys := [2, 8, 11, 19, 22]) (kCons (shaft_judge_k2 N) (kCons (shaft_judge_k8 N) (kCons (shaft_judge_k11 N) (kCons (shaft_judge_k19 N) (kCons (shaft_judge_k22 N) kNil))))) (by kernel_rfl) (js := []) jNil (by kernel_rfl) shaft_judge_sp_ok shaft_judge_rs_ok (fun args T kf => Eq.trans (shaft_judge_def N (Cod.dec api_WorksC (lget (toCs (lget args 0)))) (lstC intC (lget args 1)) (fun q0 q1 => kf (lget [.tup [.int .i64 q0, .int .i64 q1]] 0, []))) (by kernel_rfl : shaft_judge_run N args T kf = fnM E (shaft_judge_3_cal N) (shaft_judge_lp N) (noJn) 52 (shaft_judge_sp.vs args) (shaft_judge_sp.tab T) 0 (resK shaft_judge_rs kf)))
def shaft_CheckPlan_m {R : Type} (N : Nat) (a662 : api_Works) (a663 : Arr Int) (k : Int → Int → Int → Option R) : Option R :=
  shaft_checkPlan N a662 a663 (fun r667 =>
  bif r667 != (0 : Int) then
   k (0 : Int) (0 : Int) r667
  else
   shaft_judge N a662 a663 (fun r781 r782 =>
   bif r781 != (0 : Int) then
    k r781 r782 (93 : Int)
   else
    k (0 : Int) (0 : Int) (0 : Int)))
noncomputable def shaft_CheckPlan {R : Type} : Nat → api_Works → Arr Int → (Int → Int → Int → Option R) → Option R := lock (@shaft_CheckPlan_m R)
theorem shaft_CheckPlan_def {R : Type} (N : Nat) (a662 : api_Works) (a663 : Arr Int) (k : Int → Int → Int → Option R) : shaft_CheckPlan N a662 a663 k = shaft_CheckPlan_m N a662 a663 k := by unfold shaft_CheckPlan; rw [lock_eq]
def shaft_CheckPlan_sp : Sp := ⟨[rAgg api_WorksC, rSl intC], []⟩
theorem shaft_CheckPlan_sp_ok : shaft_CheckPlan_sp.Ok := ⟨(allCons (rAgg_ok api_WorksC_ok api_WorksC_len) (allCons (rSl_ok intC_ok) allNil)), eNil⟩
def shaft_CheckPlan_rs : Sp := ⟨[rTup [rInt .i64, rInt .i64, rInt .i64]], []⟩
theorem shaft_CheckPlan_rs_ok : shaft_CheckPlan_rs.Ok := ⟨(allCons (rTup_ok (allCons (rInt_ok .i64) (allCons (rInt_ok .i64) (allCons (rInt_ok .i64) allNil)))) allNil), eNil⟩
def shaft_CheckPlan_run {R : Type} (N : Nat) (args : List SV) (T : Tab) (kf : SV × Tab → Option R) : Option R :=
  shaft_CheckPlan_m N (Cod.dec api_WorksC (lget (toCs (lget args 0)))) (lstC intC (lget args 1)) (fun q0 q1 q2 => kf (lget [.tup [.int .i64 q0, .int .i64 q1, .int .i64 q2]] 0, []))
def shaft_CheckPlan_lp {R : Type} (N : Nat) : Lp R := fun body S k => Option.none
noncomputable def shaft_CheckPlan_go {R : Type} (N : Nat) (args : List SV) (T : Tab) (kf : SV × Tab → Option R) : Option R :=
  shaft_CheckPlan N (Cod.dec api_WorksC (lget (toCs (lget args 0)))) (lstC intC (lget args 1)) (fun q0 q1 q2 => kf (lget [.tup [.int .i64 q0, .int .i64 q1, .int .i64 q2]] 0, []))
noncomputable def shaft_CheckPlan_cal {R : Type} (N : Nat) : Cal R := callM (shaft_judge_cal N) 38 0 shaft_CheckPlan_sp (shaft_CheckPlan_go N)
theorem shaft_CheckPlan_cal_ok {R : Type} (N : Nat) : CalOk E.P (shaft_CheckPlan_cal (R := R) N) :=
  callM_ok hE (shaft_judge_cal_ok N) (lp := shaft_CheckPlan_lp N) (jn := noJn) (keys := []) kNil (by kernel_rfl) (js := []) jNil (by kernel_rfl) shaft_CheckPlan_sp_ok shaft_CheckPlan_rs_ok (fun args T kf => Eq.trans (shaft_CheckPlan_def N (Cod.dec api_WorksC (lget (toCs (lget args 0)))) (lstC intC (lget args 1)) (fun q0 q1 q2 => kf (lget [.tup [.int .i64 q0, .int .i64 q1, .int .i64 q2]] 0, []))) (by kernel_rfl : shaft_CheckPlan_run N args T kf = fnM E (shaft_judge_cal N) (shaft_CheckPlan_lp N) (noJn) 38 (shaft_CheckPlan_sp.vs args) (shaft_CheckPlan_sp.tab T) 0 (resK shaft_CheckPlan_rs kf)))
def shaft_Out_1_m {R : Type} (N : Nat) (a807 : Int) (k : Bool → Option R) : Option R :=
  bif decide (a807 < (0 : Int)) then
   k true
  else
   k (decide (a807 > (24 : Int)))
noncomputable def shaft_Out_1 {R : Type} : Nat → Int → (Bool → Option R) → Option R := lock (@shaft_Out_1_m R)
theorem shaft_Out_1_def {R : Type} (N : Nat) (a807 : Int) (k : Bool → Option R) : shaft_Out_1 N a807 k = shaft_Out_1_m N a807 k := by unfold shaft_Out_1; rw [lock_eq]
def shaft_Out_1_sp : Sp := ⟨[rInt .i64], []⟩
theorem shaft_Out_1_sp_ok : shaft_Out_1_sp.Ok := ⟨(allCons (rInt_ok .i64) allNil), eNil⟩
def shaft_Out_1_rs : Sp := ⟨[rBool], []⟩
theorem shaft_Out_1_rs_ok : shaft_Out_1_rs.Ok := ⟨(allCons rBool_ok allNil), eNil⟩
def shaft_Out_1_run {R : Type} (N : Nat) (args : List SV) (T : Tab) (kf : SV × Tab → Option R) : Option R :=
  shaft_Out_1_m N (toI (lget args 0)) (fun q0 => kf (lget [.bool q0] 0, []))
def shaft_Out_1_lp {R : Type} (N : Nat) : Lp R := fun body S k => Option.none
noncomputable def shaft_Out_1_go {R : Type} (N : Nat) (args : List SV) (T : Tab) (kf : SV × Tab → Option R) : Option R :=
  shaft_Out_1 N (toI (lget args 0)) (fun q0 => kf (lget [.bool q0] 0, []))
noncomputable def shaft_Out_1_cal {R : Type} (N : Nat) : Cal R := callM (shaft_CheckPlan_cal N) 58 0 shaft_Out_1_sp (shaft_Out_1_go N)
theorem shaft_Out_1_cal_ok {R : Type} (N : Nat) : CalOk E.P (shaft_Out_1_cal (R := R) N) :=
  callM_ok hE (shaft_CheckPlan_cal_ok N) (lp := shaft_Out_1_lp N) (jn := noJn) (keys := []) kNil (by kernel_rfl) (js := []) jNil (by kernel_rfl) shaft_Out_1_sp_ok shaft_Out_1_rs_ok (fun args T kf => Eq.trans (shaft_Out_1_def N (toI (lget args 0)) (fun q0 => kf (lget [.bool q0] 0, []))) (by kernel_rfl : shaft_Out_1_run N args T kf = fnM E (shaft_CheckPlan_cal N) (shaft_Out_1_lp N) (noJn) 58 (shaft_Out_1_sp.vs args) (shaft_Out_1_sp.tab T) 0 (resK shaft_Out_1_rs kf)))
def slices_IndexFunc___int_int__v3_L2 : LoopSp := ⟨⟨[0, 1, 7, 8], ⟨((rSl intC) :: (rFunc 58 0 []) :: (dr 5 ((rInt .i64) :: (rInt .i64) :: (dr 10 [])))), []⟩, 0⟩, [(Option.none, ⟨[4], ⟨(dr 4 ((rInt .i64) :: (dr 14 []))), []⟩, 0⟩), (some 0, ⟨[], ⟨(dr 19 []), []⟩, 0⟩)]⟩
theorem slices_IndexFunc___int_int__v3_L2_ok : slices_IndexFunc___int_int__v3_L2.Ok := ⟨⟨(allCons (rSl_ok intC_ok) (allCons (rFunc_ok 58 0 allNil) (drCons 5 (allCons (rInt_ok .i64) (allCons (rInt_ok .i64) (drCons 10 allNil)))))), eNil⟩, (xCons ⟨(drCons 4 (allCons (rInt_ok .i64) (drCons 14 allNil))), eNil⟩ (xCons ⟨(drCons 19 allNil), eNil⟩ xNil))⟩
def slices_IndexFunc___int_int__v3_h2 (v804 : Arr Int) (v805 : Int) (v806 : Int) : St := ⟨((slC intC v804) :: (.func 58 0 []) :: (un 5 ((.int .i64 v805) :: (.int .i64 v806) :: (un 10 [])))), [], 0⟩
def slices_IndexFunc___int_int__v3_x2_r (q0 : Int) : St := ⟨(un 4 ((.int .i64 q0) :: (un 14 []))), [], 0⟩
def slices_IndexFunc___int_int__v3_x2_0  : St := ⟨(un 19 []), [], 0⟩
def slices_IndexFunc___int_int__v3_b2 {R : Type} (N : Nat) (rc : Arr Int → Int → Int → Option R) (v804 : Arr Int) (v805 : Int) (v806 : Int) (kr : Int → Option R) (k0 : Unit → Option R) : Option R :=
  bif decide (v806 < v805) then
   bif decide ((0 : Int) ≤ v806) && decide (v806 < (↑(Arr.n v804) : Int)) then
    shaft_Out_1 N (Arr.f v804 (Int.toNat v806)) (fun r808 =>
    bif r808 then
     kr v806
    else
     rc v804 v805 (w64 (v806 + (1 : Int))))
   else
    Option.none
  else
   k0 ()
def slices_IndexFunc___int_int__v3_l2 {R : Type} (N : Nat) : Nat → Arr Int → Int → Int → (Int → Option R) → (Unit → Option R) → Option R
  | 0, _, _, _, _, _ => Option.none
  | n + 1, v804, v805, v806, kr, k0 => slices_IndexFunc___int_int__v3_b2 N (fun v804 v805 v806 => slices_IndexFunc___int_int__v3_l2 N n v804 v805 v806 kr k0) v804 v805 v806 kr k0
def slices_IndexFunc___int_int__v3_m {R : Type} (N : Nat) (a803 : Arr Int) (k : Int → Option R) : Option R :=
  slices_IndexFunc___int_int__v3_l2 N N a803 ((↑(Arr.n a803) : Int)) (0 : Int) (fun r809 =>
   k r809) (fun (_ : Unit) =>
   k (-1 : Int))
noncomputable def slices_IndexFunc___int_int__v3 {R : Type} : Nat → Arr Int → (Int → Option R) → Option R := lock (@slices_IndexFunc___int_int__v3_m R)
theorem slices_IndexFunc___int_int__v3_def {R : Type} (N : Nat) (a803 : Arr Int) (k : Int → Option R) : slices_IndexFunc___int_int__v3 N a803 k = slices_IndexFunc___int_int__v3_m N a803 k := by unfold slices_IndexFunc___int_int__v3; rw [lock_eq]
def slices_IndexFunc___int_int__v3_sp : Sp := ⟨[rSl intC, rFunc 58 0 []], []⟩
theorem slices_IndexFunc___int_int__v3_sp_ok : slices_IndexFunc___int_int__v3_sp.Ok := ⟨(allCons (rSl_ok intC_ok) (allCons (rFunc_ok 58 0 allNil) allNil)), eNil⟩
def slices_IndexFunc___int_int__v3_rs : Sp := ⟨[rInt .i64], []⟩
theorem slices_IndexFunc___int_int__v3_rs_ok : slices_IndexFunc___int_int__v3_rs.Ok := ⟨(allCons (rInt_ok .i64) allNil), eNil⟩
def slices_IndexFunc___int_int__v3_run {R : Type} (N : Nat) (args : List SV) (T : Tab) (kf : SV × Tab → Option R) : Option R :=
  slices_IndexFunc___int_int__v3_m N (lstC intC (lget args 0)) (fun q0 => kf (lget [.int .i64 q0] 0, []))
def slices_IndexFunc___int_int__v3_d2 {R : Type} (N : Nat) (S0 : St) (k : Exit → St → Option R) : Option R :=
  slices_IndexFunc___int_int__v3_l2 N N (lstC intC (lget S0.tmps 0)) (toI (lget S0.tmps 7)) (toI (lget S0.tmps 8)) (fun q0 => k .ret (slices_IndexFunc___int_int__v3_x2_r q0)) (fun (_ : Unit) => k (.exit 0) (slices_IndexFunc___int_int__v3_x2_0 ))
def slices_IndexFunc___int_int__v3_lp {R : Type} (N : Nat) : Lp R := fun body S k => bif (Go.Sx.keyOf body).getD 0 == 2 then (slices_IndexFunc___int_int__v3_L2.head.raw 0 S (fun S0 => slices_IndexFunc___int_int__v3_d2 N S0 k)) else Option.none
theorem slices_IndexFunc___int_int__v3_l2_eq {R : Type} (N : Nat) (k : Exit → St → Option R) (n : Nat) : ∀ (v0 : Arr Int) (v1 : Int) (v2 : Int), loopM E.Θ (shaft_Out_1_cal N) (slices_IndexFunc___int_int__v3_lp N) (noJn) 0 slices_IndexFunc___int_int__v3_L2 (bodyAt E 78 2) n (slices_IndexFunc___int_int__v3_h2 v0 v1 v2) k = slices_IndexFunc___int_int__v3_l2 N n v0 v1 v2 (fun q0 => k .ret (slices_IndexFunc___int_int__v3_x2_r q0)) (fun (_ : Unit) => k (.exit 0) (slices_IndexFunc___int_int__v3_x2_0 )) := by
  induction n with
  | zero => intro v0 v1 v2; rfl
  | succ n ih =>
    intro v0 v1 v2
    refine Eq.trans (b := slices_IndexFunc___int_int__v3_b2 N (fun v0 v1 v2 => loopM E.Θ (shaft_Out_1_cal N) (slices_IndexFunc___int_int__v3_lp N) (noJn) 0 slices_IndexFunc___int_int__v3_L2 (bodyAt E 78 2) n (slices_IndexFunc___int_int__v3_h2 v0 v1 v2) k) v0 v1 v2 (fun q0 => k .ret (slices_IndexFunc___int_int__v3_x2_r q0)) (fun (_ : Unit) => k (.exit 0) (slices_IndexFunc___int_int__v3_x2_0 ))) (by kernel_rfl) ?_
    have h : (fun (v0 : Arr Int) (v1 : Int) (v2 : Int) => loopM E.Θ (shaft_Out_1_cal N) (slices_IndexFunc___int_int__v3_lp N) (noJn) 0 slices_IndexFunc___int_int__v3_L2 (bodyAt E 78 2) n (slices_IndexFunc___int_int__v3_h2 v0 v1 v2) k) = (fun (v0 : Arr Int) (v1 : Int) (v2 : Int) => slices_IndexFunc___int_int__v3_l2 N n v0 v1 v2 (fun q0 => k .ret (slices_IndexFunc___int_int__v3_x2_r q0)) (fun (_ : Unit) => k (.exit 0) (slices_IndexFunc___int_int__v3_x2_0 ))) := funext fun v0 => funext fun v1 => funext fun v2 => ih v0 v1 v2
    rw [h]
    rfl
theorem slices_IndexFunc___int_int__v3_k2 {R : Type} (N : Nat) : LpKey (R := R) E 78 0 (slices_IndexFunc___int_int__v3_lp N) 2 :=
  lpKey_of hE (shaft_Out_1_cal_ok N) (lp := slices_IndexFunc___int_int__v3_lp N) (jn := noJn) slices_IndexFunc___int_int__v3_L2_ok [] kNil (by kernel_rfl) [] jNil (by kernel_rfl) N fun S k =>
    Eq.trans (b := slices_IndexFunc___int_int__v3_L2.head.raw 0 S (fun S0 => slices_IndexFunc___int_int__v3_d2 N S0 k)) (by kernel_rfl) (congrArg (slices_IndexFunc___int_int__v3_L2.head.raw 0 S) (funext fun S0 => Eq.trans (slices_IndexFunc___int_int__v3_l2_eq N k N (lstC intC (lget S0.tmps 0)) (toI (lget S0.tmps 7)) (toI (lget S0.tmps 8))).symm (by kernel_rfl)))
noncomputable def slices_IndexFunc___int_int__v3_go {R : Type} (N : Nat) (args : List SV) (T : Tab) (kf : SV × Tab → Option R) : Option R :=
  slices_IndexFunc___int_int__v3 N (lstC intC (lget args 0)) (fun q0 => kf (lget [.int .i64 q0] 0, []))
noncomputable def slices_IndexFunc___int_int__v3_cal {R : Type} (N : Nat) : Cal R := callM (shaft_Out_1_cal N) 78 0 slices_IndexFunc___int_int__v3_sp (slices_IndexFunc___int_int__v3_go N)
theorem slices_IndexFunc___int_int__v3_cal_ok {R : Type} (N : Nat) : CalOk E.P (slices_IndexFunc___int_int__v3_cal (R := R) N) :=
  callM_ok hE (shaft_Out_1_cal_ok N) (lp := slices_IndexFunc___int_int__v3_lp N) (jn := noJn) (keys := [2]) (kCons (slices_IndexFunc___int_int__v3_k2 N) kNil) (by kernel_rfl) (js := []) jNil (by kernel_rfl) slices_IndexFunc___int_int__v3_sp_ok slices_IndexFunc___int_int__v3_rs_ok (fun args T kf => Eq.trans (slices_IndexFunc___int_int__v3_def N (lstC intC (lget args 0)) (fun q0 => kf (lget [.int .i64 q0] 0, []))) (by kernel_rfl : slices_IndexFunc___int_int__v3_run N args T kf = fnM E (shaft_Out_1_cal N) (slices_IndexFunc___int_int__v3_lp N) (noJn) 78 (slices_IndexFunc___int_int__v3_sp.vs args) (slices_IndexFunc___int_int__v3_sp.tab T) 0 (resK slices_IndexFunc___int_int__v3_rs kf)))
def slices_ContainsFunc___int_int__v3_m {R : Type} (N : Nat) (a802 : Arr Int) (k : Bool → Option R) : Option R :=
  slices_IndexFunc___int_int__v3 N a802 (fun r810 =>
  k (decide (r810 ≥ (0 : Int))))
noncomputable def slices_ContainsFunc___int_int__v3 {R : Type} : Nat → Arr Int → (Bool → Option R) → Option R := lock (@slices_ContainsFunc___int_int__v3_m R)
theorem slices_ContainsFunc___int_int__v3_def {R : Type} (N : Nat) (a802 : Arr Int) (k : Bool → Option R) : slices_ContainsFunc___int_int__v3 N a802 k = slices_ContainsFunc___int_int__v3_m N a802 k := by unfold slices_ContainsFunc___int_int__v3; rw [lock_eq]
def slices_ContainsFunc___int_int__v3_sp : Sp := ⟨[rSl intC, rFunc 58 0 []], []⟩
theorem slices_ContainsFunc___int_int__v3_sp_ok : slices_ContainsFunc___int_int__v3_sp.Ok := ⟨(allCons (rSl_ok intC_ok) (allCons (rFunc_ok 58 0 allNil) allNil)), eNil⟩
def slices_ContainsFunc___int_int__v3_rs : Sp := ⟨[rBool], []⟩
theorem slices_ContainsFunc___int_int__v3_rs_ok : slices_ContainsFunc___int_int__v3_rs.Ok := ⟨(allCons rBool_ok allNil), eNil⟩
def slices_ContainsFunc___int_int__v3_run {R : Type} (N : Nat) (args : List SV) (T : Tab) (kf : SV × Tab → Option R) : Option R :=
  slices_ContainsFunc___int_int__v3_m N (lstC intC (lget args 0)) (fun q0 => kf (lget [.bool q0] 0, []))
def slices_ContainsFunc___int_int__v3_lp {R : Type} (N : Nat) : Lp R := fun body S k => Option.none
noncomputable def slices_ContainsFunc___int_int__v3_go {R : Type} (N : Nat) (args : List SV) (T : Tab) (kf : SV × Tab → Option R) : Option R :=
  slices_ContainsFunc___int_int__v3 N (lstC intC (lget args 0)) (fun q0 => kf (lget [.bool q0] 0, []))
noncomputable def slices_ContainsFunc___int_int__v3_cal {R : Type} (N : Nat) : Cal R := callM (slices_IndexFunc___int_int__v3_cal N) 57 0 slices_ContainsFunc___int_int__v3_sp (slices_ContainsFunc___int_int__v3_go N)
theorem slices_ContainsFunc___int_int__v3_cal_ok {R : Type} (N : Nat) : CalOk E.P (slices_ContainsFunc___int_int__v3_cal (R := R) N) :=
  callM_ok hE (slices_IndexFunc___int_int__v3_cal_ok N) (lp := slices_ContainsFunc___int_int__v3_lp N) (jn := noJn) (keys := []) kNil (by kernel_rfl) (js := []) jNil (by kernel_rfl) slices_ContainsFunc___int_int__v3_sp_ok slices_ContainsFunc___int_int__v3_rs_ok (fun args T kf => Eq.trans (slices_ContainsFunc___int_int__v3_def N (lstC intC (lget args 0)) (fun q0 => kf (lget [.bool q0] 0, []))) (by kernel_rfl : slices_ContainsFunc___int_int__v3_run N args T kf = fnM E (slices_IndexFunc___int_int__v3_cal N) (slices_ContainsFunc___int_int__v3_lp N) (noJn) 57 (slices_ContainsFunc___int_int__v3_sp.vs args) (slices_ContainsFunc___int_int__v3_sp.tab T) 0 (resK slices_ContainsFunc___int_int__v3_rs kf)))
def shaft_Out_m {R : Type} (N : Nat) (a798 : api_Works) (a799 : Arr Int) (a800 : Int) (k : Int → Int → Option R) : Option R :=
  shaft_checkPlan N a798 a799 (fun r801 =>
  bif r801 != (0 : Int) then
   k (0 : Int) r801
  else
   bif decide (a800 < (0 : Int)) then
    k (0 : Int) (1 : Int)
   else
    bif decide (a800 ≥ api_Works.Until a798) then
     k (0 : Int) (1 : Int)
    else
     slices_ContainsFunc___int_int__v3 N a799 (fun r811 =>
     bif r811 then
      k (0 : Int) (1 : Int)
     else
      shaft_night N a798 a799 a800 (fun r812 r813 r814 =>
      k r812 (0 : Int))))
noncomputable def shaft_Out {R : Type} : Nat → api_Works → Arr Int → Int → (Int → Int → Option R) → Option R := lock (@shaft_Out_m R)
theorem shaft_Out_def {R : Type} (N : Nat) (a798 : api_Works) (a799 : Arr Int) (a800 : Int) (k : Int → Int → Option R) : shaft_Out N a798 a799 a800 k = shaft_Out_m N a798 a799 a800 k := by unfold shaft_Out; rw [lock_eq]
def shaft_Out_sp : Sp := ⟨[rAgg api_WorksC, rSl intC, rInt .i64], []⟩
theorem shaft_Out_sp_ok : shaft_Out_sp.Ok := ⟨(allCons (rAgg_ok api_WorksC_ok api_WorksC_len) (allCons (rSl_ok intC_ok) (allCons (rInt_ok .i64) allNil))), eNil⟩
def shaft_Out_rs : Sp := ⟨[rTup [rInt .i64, rInt .i64]], []⟩
theorem shaft_Out_rs_ok : shaft_Out_rs.Ok := ⟨(allCons (rTup_ok (allCons (rInt_ok .i64) (allCons (rInt_ok .i64) allNil))) allNil), eNil⟩
def shaft_Out_run {R : Type} (N : Nat) (args : List SV) (T : Tab) (kf : SV × Tab → Option R) : Option R :=
  shaft_Out_m N (Cod.dec api_WorksC (lget (toCs (lget args 0)))) (lstC intC (lget args 1)) (toI (lget args 2)) (fun q0 q1 => kf (lget [.tup [.int .i64 q0, .int .i64 q1]] 0, []))
def shaft_Out_lp {R : Type} (N : Nat) : Lp R := fun body S k => Option.none
noncomputable def shaft_Out_go {R : Type} (N : Nat) (args : List SV) (T : Tab) (kf : SV × Tab → Option R) : Option R :=
  shaft_Out N (Cod.dec api_WorksC (lget (toCs (lget args 0)))) (lstC intC (lget args 1)) (toI (lget args 2)) (fun q0 q1 => kf (lget [.tup [.int .i64 q0, .int .i64 q1]] 0, []))
noncomputable def shaft_Out_cal {R : Type} (N : Nat) : Cal R := callM (slices_ContainsFunc___int_int__v3_cal N) 30 0 shaft_Out_sp (shaft_Out_go N)
theorem shaft_Out_cal_ok {R : Type} (N : Nat) : CalOk E.P (shaft_Out_cal (R := R) N) :=
  callM_ok hE (slices_ContainsFunc___int_int__v3_cal_ok N) (lp := shaft_Out_lp N) (jn := noJn) (keys := []) kNil (by kernel_rfl) (js := []) jNil (by kernel_rfl) shaft_Out_sp_ok shaft_Out_rs_ok (fun args T kf => Eq.trans (shaft_Out_def N (Cod.dec api_WorksC (lget (toCs (lget args 0)))) (lstC intC (lget args 1)) (toI (lget args 2)) (fun q0 q1 => kf (lget [.tup [.int .i64 q0, .int .i64 q1]] 0, []))) (by kernel_rfl : shaft_Out_run N args T kf = fnM E (slices_ContainsFunc___int_int__v3_cal N) (shaft_Out_lp N) (noJn) 30 (shaft_Out_sp.vs args) (shaft_Out_sp.tab T) 0 (resK shaft_Out_rs kf)))
def newelref09_Plan_L5 : LoopSp := ⟨⟨[1, 2, 3, 5, 6], ⟨(dr 1 ((rPtr 0 0) :: (rRow 1) :: (rInt .i64) :: (dr 1 ((rInt .i64) :: (rInt .i64) :: (dr 77 []))))), [(0, eBlkC api_WorksC), (1, eRow intC)]⟩, 2⟩, [(Option.none, ⟨[2, 3, 4], ⟨(dr 2 ((rRow 0) :: (rInt .i64) :: (rInt .i64) :: (dr 79 []))), [(0, eRow intC)]⟩, 1⟩), (some 0, ⟨[1, 2, 3, 5], ⟨(dr 1 ((rPtr 0 0) :: (rRow 1) :: (rInt .i64) :: (dr 1 ((rInt .i64) :: (dr 78 []))))), [(0, eBlkC api_WorksC), (1, eRow intC)]⟩, 2⟩)]⟩
theorem newelref09_Plan_L5_ok : newelref09_Plan_L5.Ok := ⟨⟨(drCons 1 (allCons (rPtr_ok 0 0) (allCons (rRow_ok 1) (allCons (rInt_ok .i64) (drCons 1 (allCons (rInt_ok .i64) (allCons (rInt_ok .i64) (drCons 77 allNil)))))))), (eCons (eBlkC_ok api_WorksC_ok api_WorksC_len) (eCons (eRow_ok intC_ok) eNil))⟩, (xCons ⟨(drCons 2 (allCons (rRow_ok 0) (allCons (rInt_ok .i64) (allCons (rInt_ok .i64) (drCons 79 allNil))))), (eCons (eRow_ok intC_ok) eNil)⟩ (xCons ⟨(drCons 1 (allCons (rPtr_ok 0 0) (allCons (rRow_ok 1) (allCons (rInt_ok .i64) (drCons 1 (allCons (rInt_ok .i64) (drCons 78 allNil))))))), (eCons (eBlkC_ok api_WorksC_ok api_WorksC_len) (eCons (eRow_ok intC_ok) eNil))⟩ xNil))⟩
def newelref09_Plan_h5 (v817 : Int) (v818 : Int) (v819 : Int) (v820 : api_Works) (v821 : Bool) (v822 : Arr Int) : St := ⟨(un 1 ((.ptr 0 0) :: (.row 1) :: (.int .i64 v817) :: (un 1 ((.int .i64 v818) :: (.int .i64 v819) :: (un 77 []))))), [(0, .blk (Cod.enc api_WorksC v820)), (1, rowE intC v821 v822)], 2⟩
def newelref09_Plan_x5_r (q0 : Int) (q1 : Int) (q2 : Bool) (q3 : Arr Int) : St := ⟨(un 2 ((.row 0) :: (.int .i64 q0) :: (.int .i64 q1) :: (un 79 []))), [(0, rowE intC q2 q3)], 1⟩
def newelref09_Plan_x5_0 (v817 : Int) (v820 : api_Works) (v821 : Bool) (v822 : Arr Int) (q1 : Int) : St := ⟨(un 1 ((.ptr 0 0) :: (.row 1) :: (.int .i64 v817) :: (un 1 ((.int .i64 q1) :: (un 78 []))))), [(0, .blk (Cod.enc api_WorksC v820)), (1, rowE intC v821 v822)], 2⟩
def newelref09_Plan_b5 {R : Type} (N : Nat) (rc : Int → Int → Int → api_Works → Bool → Arr Int → Option R) (v817 : Int) (v818 : Int) (v819 : Int) (v820 : api_Works) (v821 : Bool) (v822 : Arr Int) (kr : Int → Int → Bool → Arr Int → Option R) (k0 : Int → Option R) : Option R :=
  bif decide (v819 < (↑(Arr.n (api_Works.Jobs v820)) : Int)) then
   bif decide (w64 (v818 * api_Works.Until v820) > (200000 : Int)) then
    kr (0 : Int) (2 : Int) true (lst intC (0 : Nat) (zeroC [SV.int IntKind.i64 (0 : Int)]))
   else
    rc v817 (w64 (v818 * api_Works.Until v820)) (w64 (v819 + (1 : Int))) v820 v821 v822
  else
   k0 v818
def newelref09_Plan_l5 {R : Type} (N : Nat) : Nat → Int → Int → Int → api_Works → Bool → Arr Int → (Int → Int → Bool → Arr Int → Option R) → (Int → Option R) → Option R
  | 0, _, _, _, _, _, _, _, _ => Option.none
  | n + 1, v817, v818, v819, v820, v821, v822, kr, k0 => newelref09_Plan_b5 N (fun v817 v818 v819 v820 v821 v822 => newelref09_Plan_l5 N n v817 v818 v819 v820 v821 v822 kr k0) v817 v818 v819 v820 v821 v822 kr k0
def newelref09_Plan_L16 : LoopSp := ⟨⟨[1, 2, 3, 5, 7, 8, 9, 10], ⟨(dr 1 ((rPtr 0 0) :: (rRow 1) :: (rInt .i64) :: (dr 1 ((rInt .i64) :: (dr 1 ((rRow 2) :: (rInt .i64) :: (rInt .i64) :: (rInt .i64) :: (dr 73 []))))))), [(0, eBlkC api_WorksC), (1, eRow intC), (2, eRow intC)]⟩, 3⟩, [(some 4, ⟨[1, 2, 3, 5, 7, 8], ⟨(dr 1 ((rPtr 0 0) :: (rRow 1) :: (rInt .i64) :: (dr 1 ((rInt .i64) :: (dr 1 ((rRow 2) :: (rInt .i64) :: (dr 75 []))))))), [(0, eBlkC api_WorksC), (1, eRow intC), (2, eRow intC)]⟩, 3⟩)]⟩
theorem newelref09_Plan_L16_ok : newelref09_Plan_L16.Ok := ⟨⟨(drCons 1 (allCons (rPtr_ok 0 0) (allCons (rRow_ok 1) (allCons (rInt_ok .i64) (drCons 1 (allCons (rInt_ok .i64) (drCons 1 (allCons (rRow_ok 2) (allCons (rInt_ok .i64) (allCons (rInt_ok .i64) (allCons (rInt_ok .i64) (drCons 73 allNil)))))))))))), (eCons (eBlkC_ok api_WorksC_ok api_WorksC_len) (eCons (eRow_ok intC_ok) (eCons (eRow_ok intC_ok) eNil)))⟩, (xCons ⟨(drCons 1 (allCons (rPtr_ok 0 0) (allCons (rRow_ok 1) (allCons (rInt_ok .i64) (drCons 1 (allCons (rInt_ok .i64) (drCons 1 (allCons (rRow_ok 2) (allCons (rInt_ok .i64) (drCons 75 allNil)))))))))), (eCons (eBlkC_ok api_WorksC_ok api_WorksC_len) (eCons (eRow_ok intC_ok) (eCons (eRow_ok intC_ok) eNil)))⟩ xNil)⟩
def newelref09_Plan_h16 (v836 : Int) (v837 : Int) (v838 : Int) (v839 : Int) (v840 : Int) (v841 : api_Works) (v842 : Bool) (v843 : Arr Int) (v844 : Bool) (v845 : Arr Int) : St := ⟨(un 1 ((.ptr 0 0) :: (.row 1) :: (.int .i64 v836) :: (un 1 ((.int .i64 v837) :: (un 1 ((.row 2) :: (.int .i64 v838) :: (.int .i64 v839) :: (.int .i64 v840) :: (un 73 []))))))), [(0, .blk (Cod.enc api_WorksC v841)), (1, rowE intC v842 v843), (2, rowE intC v844 v845)], 3⟩
def newelref09_Plan_x16_4 (v836 : Int) (v837 : Int) (v838 : Int) (v841 : api_Works) (v842 : Bool) (v843 : Arr Int) (v844 : Bool) (q7 : Arr Int) : St := ⟨(un 1 ((.ptr 0 0) :: (.row 1) :: (.int .i64 v836) :: (un 1 ((.int .i64 v837) :: (un 1 ((.row 2) :: (.int .i64 v838) :: (un 75 []))))))), [(0, .blk (Cod.enc api_WorksC v841)), (1, rowE intC v842 v843), (2, rowE intC v844 q7)], 3⟩
def newelref09_Plan_b16 {R : Type} (N : Nat) (rc : Int → Int → Int → Int → Int → api_Works → Bool → Arr Int → Bool → Arr Int → Option R) (v836 : Int) (v837 : Int) (v838 : Int) (v839 : Int) (v840 : Int) (v841 : api_Works) (v842 : Bool) (v843 : Arr Int) (v844 : Bool) (v845 : Arr Int) (k4 : Arr Int → Option R) : Option R :=
  bif decide (v840 ≥ (0 : Int)) then
   bif api_Works.Until v841 == (0 : Int) then
    Option.none
   else
    bif decide ((0 : Int) ≤ v840) && decide (v840 < (↑(Arr.n v845) : Int)) then
     bif api_Works.Until v841 == (0 : Int) then
      Option.none
     else
      rc v836 v837 v838 (w64 (Int.tdiv v839 (api_Works.Until v841))) (w64 (v840 - (1 : Int))) v841 v842 v843 v844 (lst intC (Arr.n v845) (setCs (Int.toNat v840) (0 : Nat) (Cod.cell intC (Arr.f v845)) [SV.int IntKind.i64 (Int.tmod v839 (api_Works.Until v841))]))
    else
     Option.none
  else
   k4 v845
def newelref09_Plan_l16 {R : Type} (N : Nat) : Nat → Int → Int → Int → Int → Int → api_Works → Bool → Arr Int → Bool → Arr Int → (Arr Int → Option R) → Option R
  | 0, _, _, _, _, _, _, _, _, _, _, _ => Option.none
  | n + 1, v836, v837, v838, v839, v840, v841, v842, v843, v844, v845, k4 => newelref09_Plan_b16 N (fun v836 v837 v838 v839 v840 v841 v842 v843 v844 v845 => newelref09_Plan_l16 N n v836 v837 v838 v839 v840 v841 v842 v843 v844 v845 k4) v836 v837 v838 v839 v840 v841 v842 v843 v844 v845 k4
def newelref09_Plan_L12 : LoopSp := ⟨⟨[1, 2, 3, 5, 7, 8], ⟨(dr 1 ((rPtr 0 0) :: (rRow 1) :: (rInt .i64) :: (dr 1 ((rInt .i64) :: (dr 1 ((rRow 2) :: (rInt .i64) :: (dr 75 []))))))), [(0, eBlkC api_WorksC), (1, eRow intC), (2, eRow intC)]⟩, 3⟩, [(some 2, ⟨[2, 3], ⟨(dr 2 ((rRow 0) :: (rInt .i64) :: (dr 80 []))), [(0, eRow intC)]⟩, 1⟩)]⟩
theorem newelref09_Plan_L12_ok : newelref09_Plan_L12.Ok := ⟨⟨(drCons 1 (allCons (rPtr_ok 0 0) (allCons (rRow_ok 1) (allCons (rInt_ok .i64) (drCons 1 (allCons (rInt_ok .i64) (drCons 1 (allCons (rRow_ok 2) (allCons (rInt_ok .i64) (drCons 75 allNil)))))))))), (eCons (eBlkC_ok api_WorksC_ok api_WorksC_len) (eCons (eRow_ok intC_ok) (eCons (eRow_ok intC_ok) eNil)))⟩, (xCons ⟨(drCons 2 (allCons (rRow_ok 0) (allCons (rInt_ok .i64) (drCons 80 allNil)))), (eCons (eRow_ok intC_ok) eNil)⟩ xNil)⟩
def newelref09_Plan_h12 (v828 : Int) (v829 : Int) (v830 : Int) (v831 : api_Works) (v832 : Bool) (v833 : Arr Int) (v834 : Bool) (v835 : Arr Int) : St := ⟨(un 1 ((.ptr 0 0) :: (.row 1) :: (.int .i64 v828) :: (un 1 ((.int .i64 v829) :: (un 1 ((.row 2) :: (.int .i64 v830) :: (un 75 []))))))), [(0, .blk (Cod.enc api_WorksC v831)), (1, rowE intC v832 v833), (2, rowE intC v834 v835)], 3⟩
def newelref09_Plan_x12_2 (q0 : Int) (q1 : Bool) (q2 : Arr Int) : St := ⟨(un 2 ((.row 0) :: (.int .i64 q0) :: (un 80 []))), [(0, rowE intC q1 q2)], 1⟩
def newelref09_Plan_b12 {R : Type} (N : Nat) (rc : Int → Int → Int → api_Works → Bool → Arr Int → Bool → Arr Int → Option R) (v828 : Int) (v829 : Int) (v830 : Int) (v831 : api_Works) (v832 : Bool) (v833 : Arr Int) (v834 : Bool) (v835 : Arr Int) (k2 : Int → Bool → Arr Int → Option R) : Option R :=
  bif decide (v830 < v829) then
   newelref09_Plan_l16 N N v828 v829 v830 v830 (w64 ((↑(Arr.n v835) : Int) - (1 : Int))) v831 v832 v833 v834 v835 (fun r846 =>
    bif !v832 then
     newelref09_End N v831 r846 (fun r847 =>
     bif decide (r847 ≥ v828) then
      rc v828 v829 (w64 (v830 + (1 : Int))) v831 v832 v833 v834 r846
     else
      newelref09_reason N v831 r846 (fun r848 r849 =>
      bif r848 == (0 : Int) then
       bif room ((0 : Nat) + Arr.n r846) then
        newelref09_End N v831 r846 (fun r850 =>
        rc r850 v829 (w64 (v830 + (1 : Int))) v831 (bif Arr.n r846 == (0 : Nat) then false else false) (lst intC ((0 : Nat) + Arr.n r846) (catC (0 : Nat) (litC [SV.int IntKind.i64 (0 : Int)] []) (Cod.cell intC (Arr.f r846)))) v834 r846)
       else
        Option.none
      else
       rc v828 v829 (w64 (v830 + (1 : Int))) v831 v832 v833 v834 r846))
    else
     newelref09_reason N v831 r846 (fun r851 r852 =>
     bif r851 == (0 : Int) then
      bif room ((0 : Nat) + Arr.n r846) then
       newelref09_End N v831 r846 (fun r853 =>
       rc r853 v829 (w64 (v830 + (1 : Int))) v831 (bif Arr.n r846 == (0 : Nat) then false else false) (lst intC ((0 : Nat) + Arr.n r846) (catC (0 : Nat) (litC [SV.int IntKind.i64 (0 : Int)] []) (Cod.cell intC (Arr.f r846)))) v834 r846)
      else
       Option.none
     else
      rc v828 v829 (w64 (v830 + (1 : Int))) v831 v832 v833 v834 r846))
  else
   k2 v828 v832 v833
def newelref09_Plan_l12 {R : Type} (N : Nat) : Nat → Int → Int → Int → api_Works → Bool → Arr Int → Bool → Arr Int → (Int → Bool → Arr Int → Option R) → Option R
  | 0, _, _, _, _, _, _, _, _, _ => Option.none
  | n + 1, v828, v829, v830, v831, v832, v833, v834, v835, k2 => newelref09_Plan_b12 N (fun v828 v829 v830 v831 v832 v833 v834 v835 => newelref09_Plan_l12 N n v828 v829 v830 v831 v832 v833 v834 v835 k2) v828 v829 v830 v831 v832 v833 v834 v835 k2
def newelref09_Plan_m {R : Type} (N : Nat) (a815 : api_Works) (k : Int → Int → Bool → Arr Int → Option R) : Option R :=
  newelref09_CheckWorks N a815 (fun r816 =>
  bif r816 != (0 : Int) then
   k (0 : Int) (92 : Int) true (lst intC (0 : Nat) (zeroC [SV.int IntKind.i64 (0 : Int)]))
  else
   newelref09_Plan_l5 N N (0 : Int) (1 : Int) (0 : Int) a815 true (lst intC (0 : Nat) (zeroC [SV.int IntKind.i64 (0 : Int)])) (fun r823 r824 r825 r826 =>
    k r823 r824 r825 r826) (fun r827 =>
    bif decide ((↑(Arr.n (api_Works.Jobs a815)) : Int) ≤ (↑(Arr.n (api_Works.Jobs a815)) : Int)) && decide ((↑(Arr.n (api_Works.Jobs a815)) : Int) ≤ (1073741824 : Int)) then
     newelref09_Plan_l12 N N (0 : Int) r827 (0 : Int) a815 true (lst intC (0 : Nat) (zeroC [SV.int IntKind.i64 (0 : Int)])) false (lst intC (Int.toNat (↑(Arr.n (api_Works.Jobs a815)) : Int)) (zeroC [SV.int IntKind.i64 (0 : Int)])) (fun r854 r855 r856 =>
      bif r855 then
       k (0 : Int) (3 : Int) true (lst intC (0 : Nat) (zeroC [SV.int IntKind.i64 (0 : Int)]))
      else
       k r854 (0 : Int) r855 r856)
    else
     Option.none))
noncomputable def newelref09_Plan {R : Type} : Nat → api_Works → (Int → Int → Bool → Arr Int → Option R) → Option R := lock (@newelref09_Plan_m R)
theorem newelref09_Plan_def {R : Type} (N : Nat) (a815 : api_Works) (k : Int → Int → Bool → Arr Int → Option R) : newelref09_Plan N a815 k = newelref09_Plan_m N a815 k := by unfold newelref09_Plan; rw [lock_eq]
def newelref09_Plan_sp : Sp := ⟨[rAgg api_WorksC], []⟩
theorem newelref09_Plan_sp_ok : newelref09_Plan_sp.Ok := ⟨(allCons (rAgg_ok api_WorksC_ok api_WorksC_len) allNil), eNil⟩
def newelref09_Plan_rs : Sp := ⟨[rTup [rRow 0, rInt .i64, rInt .i64]], [(0, eRow intC)]⟩
theorem newelref09_Plan_rs_ok : newelref09_Plan_rs.Ok := ⟨(allCons (rTup_ok (allCons (rRow_ok 0) (allCons (rInt_ok .i64) (allCons (rInt_ok .i64) allNil)))) allNil), (eCons (eRow_ok intC_ok) eNil)⟩
def newelref09_Plan_run {R : Type} (N : Nat) (args : List SV) (T : Tab) (kf : SV × Tab → Option R) : Option R :=
  newelref09_Plan_m N (Cod.dec api_WorksC (lget (toCs (lget args 0)))) (fun q0 q1 q2 q3 => kf (lget [.tup [.row 0, .int .i64 q0, .int .i64 q1]] 0, [(0, rowE intC q2 q3)]))
def newelref09_Plan_d16 {R : Type} (N : Nat) (S0 : St) (k : Exit → St → Option R) : Option R :=
  newelref09_Plan_l16 N N (toI (lget S0.tmps 3)) (toI (lget S0.tmps 5)) (toI (lget S0.tmps 8)) (toI (lget S0.tmps 9)) (toI (lget S0.tmps 10)) (Cod.dec api_WorksC (lget (entCs (entAt S0.tab 0)))) (entNl (entAt S0.tab 1)) (lst intC (entN (entAt S0.tab 1)) (entC (entAt S0.tab 1))) (entNl (entAt S0.tab 2)) (lst intC (entN (entAt S0.tab 2)) (entC (entAt S0.tab 2))) (fun q7 => k (.exit 4) (newelref09_Plan_x16_4 (toI (lget S0.tmps 3)) (toI (lget S0.tmps 5)) (toI (lget S0.tmps 8)) (Cod.dec api_WorksC (lget (entCs (entAt S0.tab 0)))) (entNl (entAt S0.tab 1)) (lst intC (entN (entAt S0.tab 1)) (entC (entAt S0.tab 1))) (entNl (entAt S0.tab 2)) q7))
def newelref09_Plan_d12 {R : Type} (N : Nat) (S0 : St) (k : Exit → St → Option R) : Option R :=
  newelref09_Plan_l12 N N (toI (lget S0.tmps 3)) (toI (lget S0.tmps 5)) (toI (lget S0.tmps 8)) (Cod.dec api_WorksC (lget (entCs (entAt S0.tab 0)))) (entNl (entAt S0.tab 1)) (lst intC (entN (entAt S0.tab 1)) (entC (entAt S0.tab 1))) (entNl (entAt S0.tab 2)) (lst intC (entN (entAt S0.tab 2)) (entC (entAt S0.tab 2))) (fun q0 q1 q2 => k (.exit 2) (newelref09_Plan_x12_2 q0 q1 q2))
def newelref09_Plan_d5 {R : Type} (N : Nat) (S0 : St) (k : Exit → St → Option R) : Option R :=
  newelref09_Plan_l5 N N (toI (lget S0.tmps 3)) (toI (lget S0.tmps 5)) (toI (lget S0.tmps 6)) (Cod.dec api_WorksC (lget (entCs (entAt S0.tab 0)))) (entNl (entAt S0.tab 1)) (lst intC (entN (entAt S0.tab 1)) (entC (entAt S0.tab 1))) (fun q0 q1 q2 q3 => k .ret (newelref09_Plan_x5_r q0 q1 q2 q3)) (fun q1 => k (.exit 0) (newelref09_Plan_x5_0 (toI (lget S0.tmps 3)) (Cod.dec api_WorksC (lget (entCs (entAt S0.tab 0)))) (entNl (entAt S0.tab 1)) (lst intC (entN (entAt S0.tab 1)) (entC (entAt S0.tab 1))) q1))
def newelref09_Plan_lp {R : Type} (N : Nat) : Lp R := fun body S k => bif (Go.Sx.keyOf body).getD 0 == 5 then (newelref09_Plan_L5.head.raw 0 S (fun S0 => newelref09_Plan_d5 N S0 k)) else bif (Go.Sx.keyOf body).getD 0 == 12 then (newelref09_Plan_L12.head.raw 0 S (fun S0 => newelref09_Plan_d12 N S0 k)) else bif (Go.Sx.keyOf body).getD 0 == 16 then (newelref09_Plan_L16.head.raw 0 S (fun S0 => newelref09_Plan_d16 N S0 k)) else Option.none
theorem newelref09_Plan_l5_eq {R : Type} (N : Nat) (k : Exit → St → Option R) (n : Nat) : ∀ (v0 : Int) (v1 : Int) (v2 : Int) (v3 : api_Works) (v4 : Bool) (v5 : Arr Int), loopM E.Θ (shaft_Out_cal N) (newelref09_Plan_lp N) (noJn) 0 newelref09_Plan_L5 (bodyAt E 27 5) n (newelref09_Plan_h5 v0 v1 v2 v3 v4 v5) k = newelref09_Plan_l5 N n v0 v1 v2 v3 v4 v5 (fun q0 q1 q2 q3 => k .ret (newelref09_Plan_x5_r q0 q1 q2 q3)) (fun q1 => k (.exit 0) (newelref09_Plan_x5_0 v0 v3 v4 v5 q1)) := by
  induction n with
  | zero => intro v0 v1 v2 v3 v4 v5; rfl
  | succ n ih =>
    intro v0 v1 v2 v3 v4 v5
    refine Eq.trans (b := newelref09_Plan_b5 N (fun v0 v1 v2 v3 v4 v5 => loopM E.Θ (shaft_Out_cal N) (newelref09_Plan_lp N) (noJn) 0 newelref09_Plan_L5 (bodyAt E 27 5) n (newelref09_Plan_h5 v0 v1 v2 v3 v4 v5) k) v0 v1 v2 v3 v4 v5 (fun q0 q1 q2 q3 => k .ret (newelref09_Plan_x5_r q0 q1 q2 q3)) (fun q1 => k (.exit 0) (newelref09_Plan_x5_0 v0 v3 v4 v5 q1))) (by kernel_rfl) ?_
    have h : (fun (v0 : Int) (v1 : Int) (v2 : Int) (v3 : api_Works) (v4 : Bool) (v5 : Arr Int) => loopM E.Θ (shaft_Out_cal N) (newelref09_Plan_lp N) (noJn) 0 newelref09_Plan_L5 (bodyAt E 27 5) n (newelref09_Plan_h5 v0 v1 v2 v3 v4 v5) k) = (fun (v0 : Int) (v1 : Int) (v2 : Int) (v3 : api_Works) (v4 : Bool) (v5 : Arr Int) => newelref09_Plan_l5 N n v0 v1 v2 v3 v4 v5 (fun q0 q1 q2 q3 => k .ret (newelref09_Plan_x5_r q0 q1 q2 q3)) (fun q1 => k (.exit 0) (newelref09_Plan_x5_0 v0 v3 v4 v5 q1))) := funext fun v0 => funext fun v1 => funext fun v2 => funext fun v3 => funext fun v4 => funext fun v5 => ih v0 v1 v2 v3 v4 v5
    rw [h]
    rfl
theorem newelref09_Plan_l12_eq {R : Type} (N : Nat) (k : Exit → St → Option R) (n : Nat) : ∀ (v0 : Int) (v1 : Int) (v2 : Int) (v3 : api_Works) (v4 : Bool) (v5 : Arr Int) (v6 : Bool) (v7 : Arr Int), loopM E.Θ (shaft_Out_cal N) (newelref09_Plan_lp N) (noJn) 0 newelref09_Plan_L12 (bodyAt E 27 12) n (newelref09_Plan_h12 v0 v1 v2 v3 v4 v5 v6 v7) k = newelref09_Plan_l12 N n v0 v1 v2 v3 v4 v5 v6 v7 (fun q0 q1 q2 => k (.exit 2) (newelref09_Plan_x12_2 q0 q1 q2)) := by
  induction n with
  | zero => intro v0 v1 v2 v3 v4 v5 v6 v7; rfl
  | succ n ih =>
    intro v0 v1 v2 v3 v4 v5 v6 v7
    refine Eq.trans (b := newelref09_Plan_b12 N (fun v0 v1 v2 v3 v4 v5 v6 v7 => loopM E.Θ (shaft_Out_cal N) (newelref09_Plan_lp N) (noJn) 0 newelref09_Plan_L12 (bodyAt E 27 12) n (newelref09_Plan_h12 v0 v1 v2 v3 v4 v5 v6 v7) k) v0 v1 v2 v3 v4 v5 v6 v7 (fun q0 q1 q2 => k (.exit 2) (newelref09_Plan_x12_2 q0 q1 q2))) (by kernel_rfl) ?_
    have h : (fun (v0 : Int) (v1 : Int) (v2 : Int) (v3 : api_Works) (v4 : Bool) (v5 : Arr Int) (v6 : Bool) (v7 : Arr Int) => loopM E.Θ (shaft_Out_cal N) (newelref09_Plan_lp N) (noJn) 0 newelref09_Plan_L12 (bodyAt E 27 12) n (newelref09_Plan_h12 v0 v1 v2 v3 v4 v5 v6 v7) k) = (fun (v0 : Int) (v1 : Int) (v2 : Int) (v3 : api_Works) (v4 : Bool) (v5 : Arr Int) (v6 : Bool) (v7 : Arr Int) => newelref09_Plan_l12 N n v0 v1 v2 v3 v4 v5 v6 v7 (fun q0 q1 q2 => k (.exit 2) (newelref09_Plan_x12_2 q0 q1 q2))) := funext fun v0 => funext fun v1 => funext fun v2 => funext fun v3 => funext fun v4 => funext fun v5 => funext fun v6 => funext fun v7 => ih v0 v1 v2 v3 v4 v5 v6 v7
    rw [h]
    rfl
theorem newelref09_Plan_l16_eq {R : Type} (N : Nat) (k : Exit → St → Option R) (n : Nat) : ∀ (v0 : Int) (v1 : Int) (v2 : Int) (v3 : Int) (v4 : Int) (v5 : api_Works) (v6 : Bool) (v7 : Arr Int) (v8 : Bool) (v9 : Arr Int), loopM E.Θ (shaft_Out_cal N) (newelref09_Plan_lp N) (noJn) 0 newelref09_Plan_L16 (bodyAt E 27 16) n (newelref09_Plan_h16 v0 v1 v2 v3 v4 v5 v6 v7 v8 v9) k = newelref09_Plan_l16 N n v0 v1 v2 v3 v4 v5 v6 v7 v8 v9 (fun q7 => k (.exit 4) (newelref09_Plan_x16_4 v0 v1 v2 v5 v6 v7 v8 q7)) := by
  induction n with
  | zero => intro v0 v1 v2 v3 v4 v5 v6 v7 v8 v9; rfl
  | succ n ih =>
    intro v0 v1 v2 v3 v4 v5 v6 v7 v8 v9
    refine Eq.trans (b := newelref09_Plan_b16 N (fun v0 v1 v2 v3 v4 v5 v6 v7 v8 v9 => loopM E.Θ (shaft_Out_cal N) (newelref09_Plan_lp N) (noJn) 0 newelref09_Plan_L16 (bodyAt E 27 16) n (newelref09_Plan_h16 v0 v1 v2 v3 v4 v5 v6 v7 v8 v9) k) v0 v1 v2 v3 v4 v5 v6 v7 v8 v9 (fun q7 => k (.exit 4) (newelref09_Plan_x16_4 v0 v1 v2 v5 v6 v7 v8 q7))) (by kernel_rfl) ?_
    have h : (fun (v0 : Int) (v1 : Int) (v2 : Int) (v3 : Int) (v4 : Int) (v5 : api_Works) (v6 : Bool) (v7 : Arr Int) (v8 : Bool) (v9 : Arr Int) => loopM E.Θ (shaft_Out_cal N) (newelref09_Plan_lp N) (noJn) 0 newelref09_Plan_L16 (bodyAt E 27 16) n (newelref09_Plan_h16 v0 v1 v2 v3 v4 v5 v6 v7 v8 v9) k) = (fun (v0 : Int) (v1 : Int) (v2 : Int) (v3 : Int) (v4 : Int) (v5 : api_Works) (v6 : Bool) (v7 : Arr Int) (v8 : Bool) (v9 : Arr Int) => newelref09_Plan_l16 N n v0 v1 v2 v3 v4 v5 v6 v7 v8 v9 (fun q7 => k (.exit 4) (newelref09_Plan_x16_4 v0 v1 v2 v5 v6 v7 v8 q7))) := funext fun v0 => funext fun v1 => funext fun v2 => funext fun v3 => funext fun v4 => funext fun v5 => funext fun v6 => funext fun v7 => funext fun v8 => funext fun v9 => ih v0 v1 v2 v3 v4 v5 v6 v7 v8 v9
    rw [h]
    rfl
theorem newelref09_Plan_k16 {R : Type} (N : Nat) : LpKey (R := R) E 27 0 (newelref09_Plan_lp N) 16 :=
  lpKey_of hE (shaft_Out_cal_ok N) (lp := newelref09_Plan_lp N) (jn := noJn) newelref09_Plan_L16_ok [] kNil (by kernel_rfl) [] jNil (by kernel_rfl) N fun S k =>
    Eq.trans (b := newelref09_Plan_L16.head.raw 0 S (fun S0 => newelref09_Plan_d16 N S0 k)) (by kernel_rfl) (congrArg (newelref09_Plan_L16.head.raw 0 S) (funext fun S0 => Eq.trans (newelref09_Plan_l16_eq N k N (toI (lget S0.tmps 3)) (toI (lget S0.tmps 5)) (toI (lget S0.tmps 8)) (toI (lget S0.tmps 9)) (toI (lget S0.tmps 10)) (Cod.dec api_WorksC (lget (entCs (entAt S0.tab 0)))) (entNl (entAt S0.tab 1)) (lst intC (entN (entAt S0.tab 1)) (entC (entAt S0.tab 1))) (entNl (entAt S0.tab 2)) (lst intC (entN (entAt S0.tab 2)) (entC (entAt S0.tab 2)))).symm (by kernel_rfl)))
theorem newelref09_Plan_k5 {R : Type} (N : Nat) : LpKey (R := R) E 27 0 (newelref09_Plan_lp N) 5 :=
  lpKey_of hE (shaft_Out_cal_ok N) (lp := newelref09_Plan_lp N) (jn := noJn) newelref09_Plan_L5_ok [] kNil (by kernel_rfl) [] jNil (by kernel_rfl) N fun S k =>
    Eq.trans (b := newelref09_Plan_L5.head.raw 0 S (fun S0 => newelref09_Plan_d5 N S0 k)) (by kernel_rfl) (congrArg (newelref09_Plan_L5.head.raw 0 S) (funext fun S0 => Eq.trans (newelref09_Plan_l5_eq N k N (toI (lget S0.tmps 3)) (toI (lget S0.tmps 5)) (toI (lget S0.tmps 6)) (Cod.dec api_WorksC (lget (entCs (entAt S0.tab 0)))) (entNl (entAt S0.tab 1)) (lst intC (entN (entAt S0.tab 1)) (entC (entAt S0.tab 1)))).symm (by kernel_rfl)))
theorem newelref09_Plan_k12 {R : Type} (N : Nat) : LpKey (R := R) E 27 0 (newelref09_Plan_lp N) 12 :=
  lpKey_of hE (shaft_Out_cal_ok N) (lp := newelref09_Plan_lp N) (jn := noJn) newelref09_Plan_L12_ok [16] (kCons (newelref09_Plan_k16 N) kNil) (by kernel_rfl) [] jNil (by kernel_rfl) N fun S k =>
    Eq.trans (b := newelref09_Plan_L12.head.raw 0 S (fun S0 => newelref09_Plan_d12 N S0 k)) (by kernel_rfl) (congrArg (newelref09_Plan_L12.head.raw 0 S) (funext fun S0 => Eq.trans (newelref09_Plan_l12_eq N k N (toI (lget S0.tmps 3)) (toI (lget S0.tmps 5)) (toI (lget S0.tmps 8)) (Cod.dec api_WorksC (lget (entCs (entAt S0.tab 0)))) (entNl (entAt S0.tab 1)) (lst intC (entN (entAt S0.tab 1)) (entC (entAt S0.tab 1))) (entNl (entAt S0.tab 2)) (lst intC (entN (entAt S0.tab 2)) (entC (entAt S0.tab 2)))).symm (by kernel_rfl)))
noncomputable def newelref09_Plan_go {R : Type} (N : Nat) (args : List SV) (T : Tab) (kf : SV × Tab → Option R) : Option R :=
  newelref09_Plan N (Cod.dec api_WorksC (lget (toCs (lget args 0)))) (fun q0 q1 q2 q3 => kf (lget [.tup [.row 0, .int .i64 q0, .int .i64 q1]] 0, [(0, rowE intC q2 q3)]))
noncomputable def newelref09_Plan_cal {R : Type} (N : Nat) : Cal R := callM (shaft_Out_cal N) 27 0 newelref09_Plan_sp (newelref09_Plan_go N)
theorem newelref09_Plan_cal_ok {R : Type} (N : Nat) : CalOk E.P (newelref09_Plan_cal (R := R) N) :=
  callM_ok hE (shaft_Out_cal_ok N) (lp := newelref09_Plan_lp N) (jn := noJn) (keys := [5, 12, 16]) (kCons (newelref09_Plan_k5 N) (kCons (newelref09_Plan_k12 N) (kCons (newelref09_Plan_k16 N) kNil))) (by kernel_rfl) (js := []) jNil (by kernel_rfl) newelref09_Plan_sp_ok newelref09_Plan_rs_ok (fun args T kf => Eq.trans (newelref09_Plan_def N (Cod.dec api_WorksC (lget (toCs (lget args 0)))) (fun q0 q1 q2 q3 => kf (lget [.tup [.row 0, .int .i64 q0, .int .i64 q1]] 0, [(0, rowE intC q2 q3)]))) (by kernel_rfl : newelref09_Plan_run N args T kf = fnM E (shaft_Out_cal N) (newelref09_Plan_lp N) (noJn) 27 (newelref09_Plan_sp.vs args) (newelref09_Plan_sp.tab T) 0 (resK newelref09_Plan_rs kf)))
def shaft_ends_L2 : LoopSp := ⟨⟨[1, 4, 8, 9, 10], ⟨(dr 1 ((rSl intC) :: (dr 2 ((rInt .i64) :: (dr 3 ((rSl api_JobC) :: (rInt .i64) :: (rInt .i64) :: (dr 15 []))))))), []⟩, 0⟩, [(some 0, ⟨[4], ⟨(dr 4 ((rInt .i64) :: (dr 21 []))), []⟩, 0⟩)]⟩
theorem shaft_ends_L2_ok : shaft_ends_L2.Ok := ⟨⟨(drCons 1 (allCons (rSl_ok intC_ok) (drCons 2 (allCons (rInt_ok .i64) (drCons 3 (allCons (rSl_ok api_JobC_ok) (allCons (rInt_ok .i64) (allCons (rInt_ok .i64) (drCons 15 allNil))))))))), eNil⟩, (xCons ⟨(drCons 4 (allCons (rInt_ok .i64) (drCons 21 allNil))), eNil⟩ xNil)⟩
def shaft_ends_h2 (v875 : Arr Int) (v876 : Int) (v877 : Arr api_Job) (v878 : Int) (v879 : Int) : St := ⟨(un 1 ((slC intC v875) :: (un 2 ((.int .i64 v876) :: (un 3 ((slC api_JobC v877) :: (.int .i64 v878) :: (.int .i64 v879) :: (un 15 []))))))), [], 0⟩
def shaft_ends_x2_0 (q0 : Int) : St := ⟨(un 4 ((.int .i64 q0) :: (un 21 []))), [], 0⟩
def shaft_ends_b2 {R : Type} (N : Nat) (rc : Arr Int → Int → Arr api_Job → Int → Int → Option R) (v875 : Arr Int) (v876 : Int) (v877 : Arr api_Job) (v878 : Int) (v879 : Int) (k0 : Int → Option R) : Option R :=
  bif decide (v879 < v878) then
   bif decide ((0 : Int) ≤ v879) && decide (v879 < (↑(Arr.n v877) : Int)) then
    bif decide ((0 : Int) ≤ v879) && decide (v879 < (↑(Arr.n v875) : Int)) then
     rc v875 (mxI v876 (w64 (Arr.f v875 (Int.toNat v879) + api_Job.Nights (Arr.f v877 (Int.toNat v879))))) v877 v878 (w64 (v879 + (1 : Int)))
    else
     Option.none
   else
    Option.none
  else
   k0 v876
def shaft_ends_l2 {R : Type} (N : Nat) : Nat → Arr Int → Int → Arr api_Job → Int → Int → (Int → Option R) → Option R
  | 0, _, _, _, _, _, _ => Option.none
  | n + 1, v875, v876, v877, v878, v879, k0 => shaft_ends_b2 N (fun v875 v876 v877 v878 v879 => shaft_ends_l2 N n v875 v876 v877 v878 v879 k0) v875 v876 v877 v878 v879 k0
def shaft_ends_m {R : Type} (N : Nat) (a873 : api_Works) (a874 : Arr Int) (k : Int → Option R) : Option R :=
  shaft_ends_l2 N N a874 (0 : Int) (api_Works.Jobs a873) ((↑(Arr.n (api_Works.Jobs a873)) : Int)) (0 : Int) (fun r880 =>
   k r880)
noncomputable def shaft_ends {R : Type} : Nat → api_Works → Arr Int → (Int → Option R) → Option R := lock (@shaft_ends_m R)
theorem shaft_ends_def {R : Type} (N : Nat) (a873 : api_Works) (a874 : Arr Int) (k : Int → Option R) : shaft_ends N a873 a874 k = shaft_ends_m N a873 a874 k := by unfold shaft_ends; rw [lock_eq]
def shaft_ends_sp : Sp := ⟨[rAgg api_WorksC, rSl intC], []⟩
theorem shaft_ends_sp_ok : shaft_ends_sp.Ok := ⟨(allCons (rAgg_ok api_WorksC_ok api_WorksC_len) (allCons (rSl_ok intC_ok) allNil)), eNil⟩
def shaft_ends_rs : Sp := ⟨[rInt .i64], []⟩
theorem shaft_ends_rs_ok : shaft_ends_rs.Ok := ⟨(allCons (rInt_ok .i64) allNil), eNil⟩
def shaft_ends_run {R : Type} (N : Nat) (args : List SV) (T : Tab) (kf : SV × Tab → Option R) : Option R :=
  shaft_ends_m N (Cod.dec api_WorksC (lget (toCs (lget args 0)))) (lstC intC (lget args 1)) (fun q0 => kf (lget [.int .i64 q0] 0, []))
def shaft_ends_d2 {R : Type} (N : Nat) (S0 : St) (k : Exit → St → Option R) : Option R :=
  shaft_ends_l2 N N (lstC intC (lget S0.tmps 1)) (toI (lget S0.tmps 4)) (lstC api_JobC (lget S0.tmps 8)) (toI (lget S0.tmps 9)) (toI (lget S0.tmps 10)) (fun q0 => k (.exit 0) (shaft_ends_x2_0 q0))
def shaft_ends_lp {R : Type} (N : Nat) : Lp R := fun body S k => bif (Go.Sx.keyOf body).getD 0 == 2 then (shaft_ends_L2.head.raw 0 S (fun S0 => shaft_ends_d2 N S0 k)) else Option.none
theorem shaft_ends_l2_eq {R : Type} (N : Nat) (k : Exit → St → Option R) (n : Nat) : ∀ (v0 : Arr Int) (v1 : Int) (v2 : Arr api_Job) (v3 : Int) (v4 : Int), loopM E.Θ (newelref09_Plan_cal N) (shaft_ends_lp N) (noJn) 0 shaft_ends_L2 (bodyAt E 51 2) n (shaft_ends_h2 v0 v1 v2 v3 v4) k = shaft_ends_l2 N n v0 v1 v2 v3 v4 (fun q0 => k (.exit 0) (shaft_ends_x2_0 q0)) := by
  induction n with
  | zero => intro v0 v1 v2 v3 v4; rfl
  | succ n ih =>
    intro v0 v1 v2 v3 v4
    refine Eq.trans (b := shaft_ends_b2 N (fun v0 v1 v2 v3 v4 => loopM E.Θ (newelref09_Plan_cal N) (shaft_ends_lp N) (noJn) 0 shaft_ends_L2 (bodyAt E 51 2) n (shaft_ends_h2 v0 v1 v2 v3 v4) k) v0 v1 v2 v3 v4 (fun q0 => k (.exit 0) (shaft_ends_x2_0 q0))) (by kernel_rfl) ?_
    have h : (fun (v0 : Arr Int) (v1 : Int) (v2 : Arr api_Job) (v3 : Int) (v4 : Int) => loopM E.Θ (newelref09_Plan_cal N) (shaft_ends_lp N) (noJn) 0 shaft_ends_L2 (bodyAt E 51 2) n (shaft_ends_h2 v0 v1 v2 v3 v4) k) = (fun (v0 : Arr Int) (v1 : Int) (v2 : Arr api_Job) (v3 : Int) (v4 : Int) => shaft_ends_l2 N n v0 v1 v2 v3 v4 (fun q0 => k (.exit 0) (shaft_ends_x2_0 q0))) := funext fun v0 => funext fun v1 => funext fun v2 => funext fun v3 => funext fun v4 => ih v0 v1 v2 v3 v4
    rw [h]
    rfl
theorem shaft_ends_k2 {R : Type} (N : Nat) : LpKey (R := R) E 51 0 (shaft_ends_lp N) 2 :=
  lpKey_of hE (newelref09_Plan_cal_ok N) (lp := shaft_ends_lp N) (jn := noJn) shaft_ends_L2_ok [] kNil (by kernel_rfl) [] jNil (by kernel_rfl) N fun S k =>
    Eq.trans (b := shaft_ends_L2.head.raw 0 S (fun S0 => shaft_ends_d2 N S0 k)) (by kernel_rfl) (congrArg (shaft_ends_L2.head.raw 0 S) (funext fun S0 => Eq.trans (shaft_ends_l2_eq N k N (lstC intC (lget S0.tmps 1)) (toI (lget S0.tmps 4)) (lstC api_JobC (lget S0.tmps 8)) (toI (lget S0.tmps 9)) (toI (lget S0.tmps 10))).symm (by kernel_rfl)))
noncomputable def shaft_ends_go {R : Type} (N : Nat) (args : List SV) (T : Tab) (kf : SV × Tab → Option R) : Option R :=
  shaft_ends N (Cod.dec api_WorksC (lget (toCs (lget args 0)))) (lstC intC (lget args 1)) (fun q0 => kf (lget [.int .i64 q0] 0, []))
noncomputable def shaft_ends_cal {R : Type} (N : Nat) : Cal R := callM (newelref09_Plan_cal N) 51 0 shaft_ends_sp (shaft_ends_go N)
theorem shaft_ends_cal_ok {R : Type} (N : Nat) : CalOk E.P (shaft_ends_cal (R := R) N) :=
  callM_ok hE (newelref09_Plan_cal_ok N) (lp := shaft_ends_lp N) (jn := noJn) (keys := [2]) (kCons (shaft_ends_k2 N) kNil) (by kernel_rfl) (js := []) jNil (by kernel_rfl) shaft_ends_sp_ok shaft_ends_rs_ok (fun args T kf => Eq.trans (shaft_ends_def N (Cod.dec api_WorksC (lget (toCs (lget args 0)))) (lstC intC (lget args 1)) (fun q0 => kf (lget [.int .i64 q0] 0, []))) (by kernel_rfl : shaft_ends_run N args T kf = fnM E (newelref09_Plan_cal N) (shaft_ends_lp N) (noJn) 51 (shaft_ends_sp.vs args) (shaft_ends_sp.tab T) 0 (resK shaft_ends_rs kf)))
def slices_Clone___int_int__m {R : Type} (N : Nat) (a884 : Bool) (a885 : Arr Int) (k : Bool → Arr Int → Option R) : Option R :=
  bif a884 then
   k true (lst intC (0 : Nat) (zeroC [SV.int IntKind.i64 (0 : Int)]))
  else
   bif room ((0 : Nat) + Arr.n a885) then
    k (bif Arr.n a885 == (0 : Nat) then false else false) (lst intC ((0 : Nat) + Arr.n a885) (catC (0 : Nat) (litC [SV.int IntKind.i64 (0 : Int)] []) (Cod.cell intC (Arr.f a885))))
   else
    Option.none
noncomputable def slices_Clone___int_int_ {R : Type} : Nat → Bool → Arr Int → (Bool → Arr Int → Option R) → Option R := lock (@slices_Clone___int_int__m R)
theorem slices_Clone___int_int__def {R : Type} (N : Nat) (a884 : Bool) (a885 : Arr Int) (k : Bool → Arr Int → Option R) : slices_Clone___int_int_ N a884 a885 k = slices_Clone___int_int__m N a884 a885 k := by unfold slices_Clone___int_int_; rw [lock_eq]
def slices_Clone___int_int__sp : Sp := ⟨[rRow 0], [(0, eRow intC)]⟩
theorem slices_Clone___int_int__sp_ok : slices_Clone___int_int__sp.Ok := ⟨(allCons (rRow_ok 0) allNil), (eCons (eRow_ok intC_ok) eNil)⟩
def slices_Clone___int_int__rs : Sp := ⟨[rRow 1], [(0, eRow intC), (1, eRow intC)]⟩
theorem slices_Clone___int_int__rs_ok : slices_Clone___int_int__rs.Ok := ⟨(allCons (rRow_ok 1) allNil), (eCons (eRow_ok intC_ok) (eCons (eRow_ok intC_ok) eNil))⟩
def slices_Clone___int_int__run {R : Type} (N : Nat) (args : List SV) (T : Tab) (kf : SV × Tab → Option R) : Option R :=
  slices_Clone___int_int__m N (entNl (entAt T 0)) (lst intC (entN (entAt T 0)) (entC (entAt T 0))) (fun q2 q3 => kf (lget [.row 1] 0, [(0, rowE intC (entNl (entAt T 0)) (lst intC (entN (entAt T 0)) (entC (entAt T 0)))), (1, rowE intC q2 q3)]))
def slices_Clone___int_int__lp {R : Type} (N : Nat) : Lp R := fun body S k => Option.none
noncomputable def slices_Clone___int_int__go {R : Type} (N : Nat) (args : List SV) (T : Tab) (kf : SV × Tab → Option R) : Option R :=
  slices_Clone___int_int_ N (entNl (entAt T 0)) (lst intC (entN (entAt T 0)) (entC (entAt T 0))) (fun q2 q3 => kf (lget [.row 1] 0, [(0, rowE intC (entNl (entAt T 0)) (lst intC (entN (entAt T 0)) (entC (entAt T 0)))), (1, rowE intC q2 q3)]))
noncomputable def slices_Clone___int_int__cal {R : Type} (N : Nat) : Cal R := callM (shaft_ends_cal N) 53 1 slices_Clone___int_int__sp (slices_Clone___int_int__go N)
theorem slices_Clone___int_int__cal_ok {R : Type} (N : Nat) : CalOk E.P (slices_Clone___int_int__cal (R := R) N) :=
  callM_ok hE (shaft_ends_cal_ok N) (lp := slices_Clone___int_int__lp N) (jn := noJn) (keys := []) kNil (by kernel_rfl) (js := []) jNil (by kernel_rfl) slices_Clone___int_int__sp_ok slices_Clone___int_int__rs_ok (fun args T kf => Eq.trans (slices_Clone___int_int__def N (entNl (entAt T 0)) (lst intC (entN (entAt T 0)) (entC (entAt T 0))) (fun q2 q3 => kf (lget [.row 1] 0, [(0, rowE intC (entNl (entAt T 0)) (lst intC (entN (entAt T 0)) (entC (entAt T 0)))), (1, rowE intC q2 q3)]))) (by kernel_rfl : slices_Clone___int_int__run N args T kf = fnM E (shaft_ends_cal N) (slices_Clone___int_int__lp N) (noJn) 53 (slices_Clone___int_int__sp.vs args) (slices_Clone___int_int__sp.tab T) 1 (resK slices_Clone___int_int__rs kf)))
def shaft_Plan_L6 : LoopSp := ⟨⟨[1, 2, 3, 5, 18, 19], ⟨(dr 1 ((rPtr 0 0) :: (rRow 1) :: (rInt .i64) :: (dr 1 ((rInt .i64) :: (dr 12 ((rInt .i64) :: (rInt .i64) :: (dr 65 []))))))), [(0, eBlkC api_WorksC), (1, eRow intC)]⟩, 2⟩, [(some 0, ⟨[1, 2, 3, 5], ⟨(dr 1 ((rPtr 0 0) :: (rRow 1) :: (rInt .i64) :: (dr 1 ((rInt .i64) :: (dr 79 []))))), [(0, eBlkC api_WorksC), (1, eRow intC)]⟩, 2⟩)]⟩
theorem shaft_Plan_L6_ok : shaft_Plan_L6.Ok := ⟨⟨(drCons 1 (allCons (rPtr_ok 0 0) (allCons (rRow_ok 1) (allCons (rInt_ok .i64) (drCons 1 (allCons (rInt_ok .i64) (drCons 12 (allCons (rInt_ok .i64) (allCons (rInt_ok .i64) (drCons 65 allNil)))))))))), (eCons (eBlkC_ok api_WorksC_ok api_WorksC_len) (eCons (eRow_ok intC_ok) eNil))⟩, (xCons ⟨(drCons 1 (allCons (rPtr_ok 0 0) (allCons (rRow_ok 1) (allCons (rInt_ok .i64) (drCons 1 (allCons (rInt_ok .i64) (drCons 79 allNil))))))), (eCons (eBlkC_ok api_WorksC_ok api_WorksC_len) (eCons (eRow_ok intC_ok) eNil))⟩ xNil)⟩
def shaft_Plan_h6 (v859 : Int) (v860 : Int) (v861 : Int) (v862 : Int) (v863 : api_Works) (v864 : Bool) (v865 : Arr Int) : St := ⟨(un 1 ((.ptr 0 0) :: (.row 1) :: (.int .i64 v859) :: (un 1 ((.int .i64 v860) :: (un 12 ((.int .i64 v861) :: (.int .i64 v862) :: (un 65 []))))))), [(0, .blk (Cod.enc api_WorksC v863)), (1, rowE intC v864 v865)], 2⟩
def shaft_Plan_x6_0 (v859 : Int) (v863 : api_Works) (v864 : Bool) (v865 : Arr Int) (q1 : Int) : St := ⟨(un 1 ((.ptr 0 0) :: (.row 1) :: (.int .i64 v859) :: (un 1 ((.int .i64 q1) :: (un 79 []))))), [(0, .blk (Cod.enc api_WorksC v863)), (1, rowE intC v864 v865)], 2⟩
def shaft_Plan_b6 {R : Type} (N : Nat) (rc : Int → Int → Int → Int → api_Works → Bool → Arr Int → Option R) (v859 : Int) (v860 : Int) (v861 : Int) (v862 : Int) (v863 : api_Works) (v864 : Bool) (v865 : Arr Int) (k0 : Int → Option R) : Option R :=
  bif decide (v862 < v861) then
   rc v859 (w64 (v860 * api_Works.Until v863)) v861 (w64 (v862 + (1 : Int))) v863 v864 v865
  else
   k0 v860
def shaft_Plan_l6 {R : Type} (N : Nat) : Nat → Int → Int → Int → Int → api_Works → Bool → Arr Int → (Int → Option R) → Option R
  | 0, _, _, _, _, _, _, _, _ => Option.none
  | n + 1, v859, v860, v861, v862, v863, v864, v865, k0 => shaft_Plan_b6 N (fun v859 v860 v861 v862 v863 v864 v865 => shaft_Plan_l6 N n v859 v860 v861 v862 v863 v864 v865 k0) v859 v860 v861 v862 v863 v864 v865 k0
def shaft_Plan_L18 : LoopSp := ⟨⟨[1, 2, 3, 6, 10], ⟨(dr 1 ((rPtr 0 0) :: (rRow 1) :: (rInt .i64) :: (dr 2 ((rRow 2) :: (dr 3 ((rInt .i64) :: (dr 74 []))))))), [(0, eBlkC api_WorksC), (1, eRow intC), (2, eRow intC)]⟩, 3⟩, [(some 4, ⟨[1, 2, 3, 6, 10], ⟨(dr 1 ((rPtr 0 0) :: (rRow 1) :: (rInt .i64) :: (dr 2 ((rRow 2) :: (dr 3 ((rInt .i64) :: (dr 74 []))))))), [(0, eBlkC api_WorksC), (1, eRow intC), (2, eRow intC)]⟩, 3⟩)]⟩
theorem shaft_Plan_L18_ok : shaft_Plan_L18.Ok := ⟨⟨(drCons 1 (allCons (rPtr_ok 0 0) (allCons (rRow_ok 1) (allCons (rInt_ok .i64) (drCons 2 (allCons (rRow_ok 2) (drCons 3 (allCons (rInt_ok .i64) (drCons 74 allNil))))))))), (eCons (eBlkC_ok api_WorksC_ok api_WorksC_len) (eCons (eRow_ok intC_ok) (eCons (eRow_ok intC_ok) eNil)))⟩, (xCons ⟨(drCons 1 (allCons (rPtr_ok 0 0) (allCons (rRow_ok 1) (allCons (rInt_ok .i64) (drCons 2 (allCons (rRow_ok 2) (drCons 3 (allCons (rInt_ok .i64) (drCons 74 allNil))))))))), (eCons (eBlkC_ok api_WorksC_ok api_WorksC_len) (eCons (eRow_ok intC_ok) (eCons (eRow_ok intC_ok) eNil)))⟩ xNil)⟩
def shaft_Plan_h18 (v888 : Int) (v889 : Int) (v890 : api_Works) (v891 : Bool) (v892 : Arr Int) (v893 : Bool) (v894 : Arr Int) : St := ⟨(un 1 ((.ptr 0 0) :: (.row 1) :: (.int .i64 v888) :: (un 2 ((.row 2) :: (un 3 ((.int .i64 v889) :: (un 74 []))))))), [(0, .blk (Cod.enc api_WorksC v890)), (1, rowE intC v891 v892), (2, rowE intC v893 v894)], 3⟩
def shaft_Plan_x18_4 (v888 : Int) (v890 : api_Works) (v891 : Bool) (v892 : Arr Int) (v893 : Bool) (q1 : Int) (q6 : Arr Int) : St := ⟨(un 1 ((.ptr 0 0) :: (.row 1) :: (.int .i64 v888) :: (un 2 ((.row 2) :: (un 3 ((.int .i64 q1) :: (un 74 []))))))), [(0, .blk (Cod.enc api_WorksC v890)), (1, rowE intC v891 v892), (2, rowE intC v893 q6)], 3⟩
def shaft_Plan_b18 {R : Type} (N : Nat) (rc : Int → Int → api_Works → Bool → Arr Int → Bool → Arr Int → Option R) (v888 : Int) (v889 : Int) (v890 : api_Works) (v891 : Bool) (v892 : Arr Int) (v893 : Bool) (v894 : Arr Int) (k4 : Int → Arr Int → Option R) : Option R :=
  bif decide (v889 ≥ (0 : Int)) then
   bif decide ((0 : Int) ≤ v889) && decide (v889 < (↑(Arr.n v894) : Int)) then
    bif Arr.f v894 (Int.toNat v889) == w64 (api_Works.Until v890 - (1 : Int)) then
     bif decide ((0 : Int) ≤ v889) && decide (v889 < (↑(Arr.n v894) : Int)) then
      rc v888 (w64 (v889 - (1 : Int))) v890 v891 v892 v893 (lst intC (Arr.n v894) (setCs (Int.toNat v889) (0 : Nat) (Cod.cell intC (Arr.f v894)) [SV.int IntKind.i64 (0 : Int)]))
     else
      Option.none
    else
     k4 v889 v894
   else
    Option.none
  else
   k4 v889 v894
def shaft_Plan_l18 {R : Type} (N : Nat) : Nat → Int → Int → api_Works → Bool → Arr Int → Bool → Arr Int → (Int → Arr Int → Option R) → Option R
  | 0, _, _, _, _, _, _, _, _ => Option.none
  | n + 1, v888, v889, v890, v891, v892, v893, v894, k4 => shaft_Plan_b18 N (fun v888 v889 v890 v891 v892 v893 v894 => shaft_Plan_l18 N n v888 v889 v890 v891 v892 v893 v894 k4) v888 v889 v890 v891 v892 v893 v894 k4
def shaft_Plan_L12 : LoopSp := ⟨⟨[1, 2, 3, 6], ⟨(dr 1 ((rPtr 0 0) :: (rRow 1) :: (rInt .i64) :: (dr 2 ((rRow 2) :: (dr 78 []))))), [(0, eBlkC api_WorksC), (1, eRow intC), (2, eRow intC)]⟩, 3⟩, [(some 2, ⟨[2, 3], ⟨(dr 2 ((rRow 0) :: (rInt .i64) :: (dr 81 []))), [(0, eRow intC)]⟩, 1⟩)]⟩
theorem shaft_Plan_L12_ok : shaft_Plan_L12.Ok := ⟨⟨(drCons 1 (allCons (rPtr_ok 0 0) (allCons (rRow_ok 1) (allCons (rInt_ok .i64) (drCons 2 (allCons (rRow_ok 2) (drCons 78 allNil))))))), (eCons (eBlkC_ok api_WorksC_ok api_WorksC_len) (eCons (eRow_ok intC_ok) (eCons (eRow_ok intC_ok) eNil)))⟩, (xCons ⟨(drCons 2 (allCons (rRow_ok 0) (allCons (rInt_ok .i64) (drCons 81 allNil)))), (eCons (eRow_ok intC_ok) eNil)⟩ xNil)⟩
def shaft_Plan_h12 (v867 : Int) (v868 : api_Works) (v869 : Bool) (v870 : Arr Int) (v871 : Bool) (v872 : Arr Int) : St := ⟨(un 1 ((.ptr 0 0) :: (.row 1) :: (.int .i64 v867) :: (un 2 ((.row 2) :: (un 78 []))))), [(0, .blk (Cod.enc api_WorksC v868)), (1, rowE intC v869 v870), (2, rowE intC v871 v872)], 3⟩
def shaft_Plan_x12_2 (q0 : Int) (q1 : Bool) (q2 : Arr Int) : St := ⟨(un 2 ((.row 0) :: (.int .i64 q0) :: (un 81 []))), [(0, rowE intC q1 q2)], 1⟩
def shaft_Plan_b12 {R : Type} (N : Nat) (rc : Int → api_Works → Bool → Arr Int → Bool → Arr Int → Option R) (v867 : Int) (v868 : api_Works) (v869 : Bool) (v870 : Arr Int) (v871 : Bool) (v872 : Arr Int) (k2 : Int → Bool → Arr Int → Option R) : Option R :=
  shaft_ends N v868 v872 (fun r881 =>
  bif v869 then
   shaft_judge N v868 v872 (fun r882 r883 =>
   bif r882 == (0 : Int) then
    slices_Clone___int_int_ N v871 v872 (fun r886 r887 =>
    shaft_Plan_l18 N N r881 (w64 ((↑(Arr.n v872) : Int) - (1 : Int))) v868 r886 r887 v871 v872 (fun r895 r896 =>
     bif decide (r895 < (0 : Int)) then
      k2 r881 r886 r887
     else
      bif decide ((0 : Int) ≤ r895) && decide (r895 < (↑(Arr.n r896) : Int)) then
       bif decide ((0 : Int) ≤ r895) && decide (r895 < (↑(Arr.n r896) : Int)) then
        rc r881 v868 r886 r887 v871 (lst intC (Arr.n r896) (setCs (Int.toNat r895) (0 : Nat) (Cod.cell intC (Arr.f r896)) [SV.int IntKind.i64 (w64 (Arr.f r896 (Int.toNat r895) + (1 : Int)))]))
       else
        Option.none
      else
       Option.none))
   else
    shaft_Plan_l18 N N v867 (w64 ((↑(Arr.n v872) : Int) - (1 : Int))) v868 v869 v870 v871 v872 (fun r897 r898 =>
     bif decide (r897 < (0 : Int)) then
      k2 v867 v869 v870
     else
      bif decide ((0 : Int) ≤ r897) && decide (r897 < (↑(Arr.n r898) : Int)) then
       bif decide ((0 : Int) ≤ r897) && decide (r897 < (↑(Arr.n r898) : Int)) then
        rc v867 v868 v869 v870 v871 (lst intC (Arr.n r898) (setCs (Int.toNat r897) (0 : Nat) (Cod.cell intC (Arr.f r898)) [SV.int IntKind.i64 (w64 (Arr.f r898 (Int.toNat r897) + (1 : Int)))]))
       else
        Option.none
      else
       Option.none))
  else
   bif decide (r881 < v867) then
    shaft_judge N v868 v872 (fun r899 r900 =>
    bif r899 == (0 : Int) then
     slices_Clone___int_int_ N v871 v872 (fun r901 r902 =>
     shaft_Plan_l18 N N r881 (w64 ((↑(Arr.n v872) : Int) - (1 : Int))) v868 r901 r902 v871 v872 (fun r903 r904 =>
      bif decide (r903 < (0 : Int)) then
       k2 r881 r901 r902
      else
       bif decide ((0 : Int) ≤ r903) && decide (r903 < (↑(Arr.n r904) : Int)) then
        bif decide ((0 : Int) ≤ r903) && decide (r903 < (↑(Arr.n r904) : Int)) then
         rc r881 v868 r901 r902 v871 (lst intC (Arr.n r904) (setCs (Int.toNat r903) (0 : Nat) (Cod.cell intC (Arr.f r904)) [SV.int IntKind.i64 (w64 (Arr.f r904 (Int.toNat r903) + (1 : Int)))]))
        else
         Option.none
       else
        Option.none))
    else
     shaft_Plan_l18 N N v867 (w64 ((↑(Arr.n v872) : Int) - (1 : Int))) v868 v869 v870 v871 v872 (fun r905 r906 =>
      bif decide (r905 < (0 : Int)) then
       k2 v867 v869 v870
      else
       bif decide ((0 : Int) ≤ r905) && decide (r905 < (↑(Arr.n r906) : Int)) then
        bif decide ((0 : Int) ≤ r905) && decide (r905 < (↑(Arr.n r906) : Int)) then
         rc v867 v868 v869 v870 v871 (lst intC (Arr.n r906) (setCs (Int.toNat r905) (0 : Nat) (Cod.cell intC (Arr.f r906)) [SV.int IntKind.i64 (w64 (Arr.f r906 (Int.toNat r905) + (1 : Int)))]))
        else
         Option.none
       else
        Option.none))
   else
    shaft_Plan_l18 N N v867 (w64 ((↑(Arr.n v872) : Int) - (1 : Int))) v868 v869 v870 v871 v872 (fun r907 r908 =>
     bif decide (r907 < (0 : Int)) then
      k2 v867 v869 v870
     else
      bif decide ((0 : Int) ≤ r907) && decide (r907 < (↑(Arr.n r908) : Int)) then
       bif decide ((0 : Int) ≤ r907) && decide (r907 < (↑(Arr.n r908) : Int)) then
        rc v867 v868 v869 v870 v871 (lst intC (Arr.n r908) (setCs (Int.toNat r907) (0 : Nat) (Cod.cell intC (Arr.f r908)) [SV.int IntKind.i64 (w64 (Arr.f r908 (Int.toNat r907) + (1 : Int)))]))
       else
        Option.none
      else
       Option.none))
def shaft_Plan_l12 {R : Type} (N : Nat) : Nat → Int → api_Works → Bool → Arr Int → Bool → Arr Int → (Int → Bool → Arr Int → Option R) → Option R
  | 0, _, _, _, _, _, _, _ => Option.none
  | n + 1, v867, v868, v869, v870, v871, v872, k2 => shaft_Plan_b12 N (fun v867 v868 v869 v870 v871 v872 => shaft_Plan_l12 N n v867 v868 v869 v870 v871 v872 k2) v867 v868 v869 v870 v871 v872 k2
def shaft_Plan_m {R : Type} (N : Nat) (a857 : api_Works) (k : Int → Int → Bool → Arr Int → Option R) : Option R :=
  shaft_CheckWorks N a857 (fun r858 =>
  bif r858 != (0 : Int) then
   k (0 : Int) r858 true (lst intC (0 : Nat) (zeroC [SV.int IntKind.i64 (0 : Int)]))
  else
   shaft_Plan_l6 N N (0 : Int) (1 : Int) ((↑(Arr.n (api_Works.Jobs a857)) : Int)) (0 : Int) a857 true (lst intC (0 : Nat) (zeroC [SV.int IntKind.i64 (0 : Int)])) (fun r866 =>
    bif decide (r866 > (200000 : Int)) then
     k (0 : Int) (2 : Int) true (lst intC (0 : Nat) (zeroC [SV.int IntKind.i64 (0 : Int)]))
    else
     bif decide ((↑(Arr.n (api_Works.Jobs a857)) : Int) ≤ (↑(Arr.n (api_Works.Jobs a857)) : Int)) && decide ((↑(Arr.n (api_Works.Jobs a857)) : Int) ≤ (1073741824 : Int)) then
      shaft_Plan_l12 N N (0 : Int) a857 true (lst intC (0 : Nat) (zeroC [SV.int IntKind.i64 (0 : Int)])) false (lst intC (Int.toNat (↑(Arr.n (api_Works.Jobs a857)) : Int)) (zeroC [SV.int IntKind.i64 (0 : Int)])) (fun r909 r910 r911 =>
       bif r910 then
        k (0 : Int) (3 : Int) true (lst intC (0 : Nat) (zeroC [SV.int IntKind.i64 (0 : Int)]))
       else
        k r909 (0 : Int) r910 r911)
     else
      Option.none))
noncomputable def shaft_Plan {R : Type} : Nat → api_Works → (Int → Int → Bool → Arr Int → Option R) → Option R := lock (@shaft_Plan_m R)
theorem shaft_Plan_def {R : Type} (N : Nat) (a857 : api_Works) (k : Int → Int → Bool → Arr Int → Option R) : shaft_Plan N a857 k = shaft_Plan_m N a857 k := by unfold shaft_Plan; rw [lock_eq]
def shaft_Plan_sp : Sp := ⟨[rAgg api_WorksC], []⟩
theorem shaft_Plan_sp_ok : shaft_Plan_sp.Ok := ⟨(allCons (rAgg_ok api_WorksC_ok api_WorksC_len) allNil), eNil⟩
def shaft_Plan_rs : Sp := ⟨[rTup [rRow 0, rInt .i64, rInt .i64]], [(0, eRow intC)]⟩
theorem shaft_Plan_rs_ok : shaft_Plan_rs.Ok := ⟨(allCons (rTup_ok (allCons (rRow_ok 0) (allCons (rInt_ok .i64) (allCons (rInt_ok .i64) allNil)))) allNil), (eCons (eRow_ok intC_ok) eNil)⟩
def shaft_Plan_run {R : Type} (N : Nat) (args : List SV) (T : Tab) (kf : SV × Tab → Option R) : Option R :=
  shaft_Plan_m N (Cod.dec api_WorksC (lget (toCs (lget args 0)))) (fun q0 q1 q2 q3 => kf (lget [.tup [.row 0, .int .i64 q0, .int .i64 q1]] 0, [(0, rowE intC q2 q3)]))
def shaft_Plan_d18 {R : Type} (N : Nat) (S0 : St) (k : Exit → St → Option R) : Option R :=
  shaft_Plan_l18 N N (toI (lget S0.tmps 3)) (toI (lget S0.tmps 10)) (Cod.dec api_WorksC (lget (entCs (entAt S0.tab 0)))) (entNl (entAt S0.tab 1)) (lst intC (entN (entAt S0.tab 1)) (entC (entAt S0.tab 1))) (entNl (entAt S0.tab 2)) (lst intC (entN (entAt S0.tab 2)) (entC (entAt S0.tab 2))) (fun q1 q6 => k (.exit 4) (shaft_Plan_x18_4 (toI (lget S0.tmps 3)) (Cod.dec api_WorksC (lget (entCs (entAt S0.tab 0)))) (entNl (entAt S0.tab 1)) (lst intC (entN (entAt S0.tab 1)) (entC (entAt S0.tab 1))) (entNl (entAt S0.tab 2)) q1 q6))
def shaft_Plan_d12 {R : Type} (N : Nat) (S0 : St) (k : Exit → St → Option R) : Option R :=
  shaft_Plan_l12 N N (toI (lget S0.tmps 3)) (Cod.dec api_WorksC (lget (entCs (entAt S0.tab 0)))) (entNl (entAt S0.tab 1)) (lst intC (entN (entAt S0.tab 1)) (entC (entAt S0.tab 1))) (entNl (entAt S0.tab 2)) (lst intC (entN (entAt S0.tab 2)) (entC (entAt S0.tab 2))) (fun q0 q1 q2 => k (.exit 2) (shaft_Plan_x12_2 q0 q1 q2))
def shaft_Plan_d6 {R : Type} (N : Nat) (S0 : St) (k : Exit → St → Option R) : Option R :=
  shaft_Plan_l6 N N (toI (lget S0.tmps 3)) (toI (lget S0.tmps 5)) (toI (lget S0.tmps 18)) (toI (lget S0.tmps 19)) (Cod.dec api_WorksC (lget (entCs (entAt S0.tab 0)))) (entNl (entAt S0.tab 1)) (lst intC (entN (entAt S0.tab 1)) (entC (entAt S0.tab 1))) (fun q1 => k (.exit 0) (shaft_Plan_x6_0 (toI (lget S0.tmps 3)) (Cod.dec api_WorksC (lget (entCs (entAt S0.tab 0)))) (entNl (entAt S0.tab 1)) (lst intC (entN (entAt S0.tab 1)) (entC (entAt S0.tab 1))) q1))
def shaft_Plan_lp {R : Type} (N : Nat) : Lp R := fun body S k => bif (Go.Sx.keyOf body).getD 0 == 6 then (shaft_Plan_L6.head.raw 0 S (fun S0 => shaft_Plan_d6 N S0 k)) else bif (Go.Sx.keyOf body).getD 0 == 12 then (shaft_Plan_L12.head.raw 0 S (fun S0 => shaft_Plan_d12 N S0 k)) else bif (Go.Sx.keyOf body).getD 0 == 18 then (shaft_Plan_L18.head.raw 0 S (fun S0 => shaft_Plan_d18 N S0 k)) else Option.none
theorem shaft_Plan_l6_eq {R : Type} (N : Nat) (k : Exit → St → Option R) (n : Nat) : ∀ (v0 : Int) (v1 : Int) (v2 : Int) (v3 : Int) (v4 : api_Works) (v5 : Bool) (v6 : Arr Int), loopM E.Θ (slices_Clone___int_int__cal N) (shaft_Plan_lp N) (noJn) 0 shaft_Plan_L6 (bodyAt E 23 6) n (shaft_Plan_h6 v0 v1 v2 v3 v4 v5 v6) k = shaft_Plan_l6 N n v0 v1 v2 v3 v4 v5 v6 (fun q1 => k (.exit 0) (shaft_Plan_x6_0 v0 v4 v5 v6 q1)) := by
  induction n with
  | zero => intro v0 v1 v2 v3 v4 v5 v6; rfl
  | succ n ih =>
    intro v0 v1 v2 v3 v4 v5 v6
    refine Eq.trans (b := shaft_Plan_b6 N (fun v0 v1 v2 v3 v4 v5 v6 => loopM E.Θ (slices_Clone___int_int__cal N) (shaft_Plan_lp N) (noJn) 0 shaft_Plan_L6 (bodyAt E 23 6) n (shaft_Plan_h6 v0 v1 v2 v3 v4 v5 v6) k) v0 v1 v2 v3 v4 v5 v6 (fun q1 => k (.exit 0) (shaft_Plan_x6_0 v0 v4 v5 v6 q1))) (by kernel_rfl) ?_
    have h : (fun (v0 : Int) (v1 : Int) (v2 : Int) (v3 : Int) (v4 : api_Works) (v5 : Bool) (v6 : Arr Int) => loopM E.Θ (slices_Clone___int_int__cal N) (shaft_Plan_lp N) (noJn) 0 shaft_Plan_L6 (bodyAt E 23 6) n (shaft_Plan_h6 v0 v1 v2 v3 v4 v5 v6) k) = (fun (v0 : Int) (v1 : Int) (v2 : Int) (v3 : Int) (v4 : api_Works) (v5 : Bool) (v6 : Arr Int) => shaft_Plan_l6 N n v0 v1 v2 v3 v4 v5 v6 (fun q1 => k (.exit 0) (shaft_Plan_x6_0 v0 v4 v5 v6 q1))) := funext fun v0 => funext fun v1 => funext fun v2 => funext fun v3 => funext fun v4 => funext fun v5 => funext fun v6 => ih v0 v1 v2 v3 v4 v5 v6
    rw [h]
    rfl
theorem shaft_Plan_l12_eq {R : Type} (N : Nat) (k : Exit → St → Option R) (n : Nat) : ∀ (v0 : Int) (v1 : api_Works) (v2 : Bool) (v3 : Arr Int) (v4 : Bool) (v5 : Arr Int), loopM E.Θ (slices_Clone___int_int__cal N) (shaft_Plan_lp N) (noJn) 0 shaft_Plan_L12 (bodyAt E 23 12) n (shaft_Plan_h12 v0 v1 v2 v3 v4 v5) k = shaft_Plan_l12 N n v0 v1 v2 v3 v4 v5 (fun q0 q1 q2 => k (.exit 2) (shaft_Plan_x12_2 q0 q1 q2)) := by
  induction n with
  | zero => intro v0 v1 v2 v3 v4 v5; rfl
  | succ n ih =>
    intro v0 v1 v2 v3 v4 v5
    refine Eq.trans (b := shaft_Plan_b12 N (fun v0 v1 v2 v3 v4 v5 => loopM E.Θ (slices_Clone___int_int__cal N) (shaft_Plan_lp N) (noJn) 0 shaft_Plan_L12 (bodyAt E 23 12) n (shaft_Plan_h12 v0 v1 v2 v3 v4 v5) k) v0 v1 v2 v3 v4 v5 (fun q0 q1 q2 => k (.exit 2) (shaft_Plan_x12_2 q0 q1 q2))) (by kernel_rfl) ?_
    have h : (fun (v0 : Int) (v1 : api_Works) (v2 : Bool) (v3 : Arr Int) (v4 : Bool) (v5 : Arr Int) => loopM E.Θ (slices_Clone___int_int__cal N) (shaft_Plan_lp N) (noJn) 0 shaft_Plan_L12 (bodyAt E 23 12) n (shaft_Plan_h12 v0 v1 v2 v3 v4 v5) k) = (fun (v0 : Int) (v1 : api_Works) (v2 : Bool) (v3 : Arr Int) (v4 : Bool) (v5 : Arr Int) => shaft_Plan_l12 N n v0 v1 v2 v3 v4 v5 (fun q0 q1 q2 => k (.exit 2) (shaft_Plan_x12_2 q0 q1 q2))) := funext fun v0 => funext fun v1 => funext fun v2 => funext fun v3 => funext fun v4 => funext fun v5 => ih v0 v1 v2 v3 v4 v5
    rw [h]
    rfl
theorem shaft_Plan_l18_eq {R : Type} (N : Nat) (k : Exit → St → Option R) (n : Nat) : ∀ (v0 : Int) (v1 : Int) (v2 : api_Works) (v3 : Bool) (v4 : Arr Int) (v5 : Bool) (v6 : Arr Int), loopM E.Θ (slices_Clone___int_int__cal N) (shaft_Plan_lp N) (noJn) 0 shaft_Plan_L18 (bodyAt E 23 18) n (shaft_Plan_h18 v0 v1 v2 v3 v4 v5 v6) k = shaft_Plan_l18 N n v0 v1 v2 v3 v4 v5 v6 (fun q1 q6 => k (.exit 4) (shaft_Plan_x18_4 v0 v2 v3 v4 v5 q1 q6)) := by
  induction n with
  | zero => intro v0 v1 v2 v3 v4 v5 v6; rfl
  | succ n ih =>
    intro v0 v1 v2 v3 v4 v5 v6
    refine Eq.trans (b := shaft_Plan_b18 N (fun v0 v1 v2 v3 v4 v5 v6 => loopM E.Θ (slices_Clone___int_int__cal N) (shaft_Plan_lp N) (noJn) 0 shaft_Plan_L18 (bodyAt E 23 18) n (shaft_Plan_h18 v0 v1 v2 v3 v4 v5 v6) k) v0 v1 v2 v3 v4 v5 v6 (fun q1 q6 => k (.exit 4) (shaft_Plan_x18_4 v0 v2 v3 v4 v5 q1 q6))) (by kernel_rfl) ?_
    have h : (fun (v0 : Int) (v1 : Int) (v2 : api_Works) (v3 : Bool) (v4 : Arr Int) (v5 : Bool) (v6 : Arr Int) => loopM E.Θ (slices_Clone___int_int__cal N) (shaft_Plan_lp N) (noJn) 0 shaft_Plan_L18 (bodyAt E 23 18) n (shaft_Plan_h18 v0 v1 v2 v3 v4 v5 v6) k) = (fun (v0 : Int) (v1 : Int) (v2 : api_Works) (v3 : Bool) (v4 : Arr Int) (v5 : Bool) (v6 : Arr Int) => shaft_Plan_l18 N n v0 v1 v2 v3 v4 v5 v6 (fun q1 q6 => k (.exit 4) (shaft_Plan_x18_4 v0 v2 v3 v4 v5 q1 q6))) := funext fun v0 => funext fun v1 => funext fun v2 => funext fun v3 => funext fun v4 => funext fun v5 => funext fun v6 => ih v0 v1 v2 v3 v4 v5 v6
    rw [h]
    rfl
theorem shaft_Plan_k18 {R : Type} (N : Nat) : LpKey (R := R) E 23 0 (shaft_Plan_lp N) 18 :=
  lpKey_of hE (slices_Clone___int_int__cal_ok N) (lp := shaft_Plan_lp N) (jn := noJn) shaft_Plan_L18_ok [] kNil (by kernel_rfl) [] jNil (by kernel_rfl) N fun S k =>
    Eq.trans (b := shaft_Plan_L18.head.raw 0 S (fun S0 => shaft_Plan_d18 N S0 k)) (by kernel_rfl) (congrArg (shaft_Plan_L18.head.raw 0 S) (funext fun S0 => Eq.trans (shaft_Plan_l18_eq N k N (toI (lget S0.tmps 3)) (toI (lget S0.tmps 10)) (Cod.dec api_WorksC (lget (entCs (entAt S0.tab 0)))) (entNl (entAt S0.tab 1)) (lst intC (entN (entAt S0.tab 1)) (entC (entAt S0.tab 1))) (entNl (entAt S0.tab 2)) (lst intC (entN (entAt S0.tab 2)) (entC (entAt S0.tab 2)))).symm (by kernel_rfl)))
theorem shaft_Plan_k6 {R : Type} (N : Nat) : LpKey (R := R) E 23 0 (shaft_Plan_lp N) 6 :=
  lpKey_of hE (slices_Clone___int_int__cal_ok N) (lp := shaft_Plan_lp N) (jn := noJn) shaft_Plan_L6_ok [] kNil (by kernel_rfl) [] jNil (by kernel_rfl) N fun S k =>
    Eq.trans (b := shaft_Plan_L6.head.raw 0 S (fun S0 => shaft_Plan_d6 N S0 k)) (by kernel_rfl) (congrArg (shaft_Plan_L6.head.raw 0 S) (funext fun S0 => Eq.trans (shaft_Plan_l6_eq N k N (toI (lget S0.tmps 3)) (toI (lget S0.tmps 5)) (toI (lget S0.tmps 18)) (toI (lget S0.tmps 19)) (Cod.dec api_WorksC (lget (entCs (entAt S0.tab 0)))) (entNl (entAt S0.tab 1)) (lst intC (entN (entAt S0.tab 1)) (entC (entAt S0.tab 1)))).symm (by kernel_rfl)))
theorem shaft_Plan_k12 {R : Type} (N : Nat) : LpKey (R := R) E 23 0 (shaft_Plan_lp N) 12 :=
  lpKey_of hE (slices_Clone___int_int__cal_ok N) (lp := shaft_Plan_lp N) (jn := noJn) shaft_Plan_L12_ok [18] (kCons (shaft_Plan_k18 N) kNil) (by kernel_rfl) [] jNil (by kernel_rfl) N fun S k =>
    Eq.trans (b := shaft_Plan_L12.head.raw 0 S (fun S0 => shaft_Plan_d12 N S0 k)) (by kernel_rfl) (congrArg (shaft_Plan_L12.head.raw 0 S) (funext fun S0 => Eq.trans (shaft_Plan_l12_eq N k N (toI (lget S0.tmps 3)) (Cod.dec api_WorksC (lget (entCs (entAt S0.tab 0)))) (entNl (entAt S0.tab 1)) (lst intC (entN (entAt S0.tab 1)) (entC (entAt S0.tab 1))) (entNl (entAt S0.tab 2)) (lst intC (entN (entAt S0.tab 2)) (entC (entAt S0.tab 2)))).symm (by kernel_rfl)))
noncomputable def shaft_Plan_go {R : Type} (N : Nat) (args : List SV) (T : Tab) (kf : SV × Tab → Option R) : Option R :=
  shaft_Plan N (Cod.dec api_WorksC (lget (toCs (lget args 0)))) (fun q0 q1 q2 q3 => kf (lget [.tup [.row 0, .int .i64 q0, .int .i64 q1]] 0, [(0, rowE intC q2 q3)]))
noncomputable def shaft_Plan_cal {R : Type} (N : Nat) : Cal R := callM (slices_Clone___int_int__cal N) 23 0 shaft_Plan_sp (shaft_Plan_go N)
theorem shaft_Plan_cal_ok {R : Type} (N : Nat) : CalOk E.P (shaft_Plan_cal (R := R) N) :=
  callM_ok hE (slices_Clone___int_int__cal_ok N) (lp := shaft_Plan_lp N) (jn := noJn) (keys := [6, 12, 18]) (kCons (shaft_Plan_k6 N) (kCons (shaft_Plan_k12 N) (kCons (shaft_Plan_k18 N) kNil))) (by kernel_rfl) (js := []) jNil (by kernel_rfl) shaft_Plan_sp_ok shaft_Plan_rs_ok (fun args T kf => Eq.trans (shaft_Plan_def N (Cod.dec api_WorksC (lget (toCs (lget args 0)))) (fun q0 q1 q2 q3 => kf (lget [.tup [.row 0, .int .i64 q0, .int .i64 q1]] 0, [(0, rowE intC q2 q3)]))) (by kernel_rfl : shaft_Plan_run N args T kf = fnM E (slices_Clone___int_int__cal N) (shaft_Plan_lp N) (noJn) 23 (shaft_Plan_sp.vs args) (shaft_Plan_sp.tab T) 0 (resK shaft_Plan_rs kf)))
def newellaw09_works_m {R : Type} (N : Nat)  (k : Bool → Option R) : Option R :=
  newellaw09_Example N  (fun r912 r913 r914 r915 r916 r917 r918 r919 r920 r921 r922 r923 =>
  shaft_Carry N (api_Shaft.mk (Arr3_int.mk r912 r913 r914) r919) (Arr3_int.mk (2 : Int) (1 : Int) (1 : Int)) (api_Pose.mk (Arr3_int.mk (0 : Int) (0 : Int) (0 : Int)) (0 : Int)) (api_Pose.mk (Arr3_int.mk (0 : Int) (0 : Int) (3 : Int)) (0 : Int)) (fun r924 r925 r926 =>
  shaft_Plan N (api_Works.mk r915 r921 r923 r916 r917) (fun r927 r928 r929 r930 =>
  bif r924 == (0 : Int) then
   bif r928 == (0 : Int) then
    newellaw09_sameInts N r926 (lst intC (5 : Nat) (litC [SV.int IntKind.i64 (0 : Int)] [[SV.int IntKind.i64 (7 : Int)], [SV.int IntKind.i64 (4 : Int)], [SV.int IntKind.i64 (4 : Int)], [SV.int IntKind.i64 (4 : Int)], [SV.int IntKind.i64 (7 : Int)]])) (fun r931 =>
    bif r931 then
     newellaw09_sameInts N r930 (lst intC (4 : Nat) (litC [SV.int IntKind.i64 (0 : Int)] [[SV.int IntKind.i64 (0 : Int)], [SV.int IntKind.i64 (2 : Int)], [SV.int IntKind.i64 (3 : Int)], [SV.int IntKind.i64 (0 : Int)]])) (fun r932 =>
     bif r932 then
      k (r927 == (4 : Int))
     else
      k false)
    else
     k false)
   else
    k false
  else
   k false)))
noncomputable def newellaw09_works {R : Type} : Nat → (Bool → Option R) → Option R := lock (@newellaw09_works_m R)
theorem newellaw09_works_def {R : Type} (N : Nat)  (k : Bool → Option R) : newellaw09_works N  k = newellaw09_works_m N  k := by unfold newellaw09_works; rw [lock_eq]
def newellaw09_works_sp : Sp := ⟨[], []⟩
theorem newellaw09_works_sp_ok : newellaw09_works_sp.Ok := ⟨allNil, eNil⟩
def newellaw09_works_rs : Sp := ⟨[rBool], []⟩
theorem newellaw09_works_rs_ok : newellaw09_works_rs.Ok := ⟨(allCons rBool_ok allNil), eNil⟩
def newellaw09_works_run {R : Type} (N : Nat) (args : List SV) (T : Tab) (kf : SV × Tab → Option R) : Option R :=
  newellaw09_works_m N  (fun q0 => kf (lget [.bool q0] 0, []))
def newellaw09_works_lp {R : Type} (N : Nat) : Lp R := fun body S k => Option.none
noncomputable def newellaw09_works_go {R : Type} (N : Nat) (args : List SV) (T : Tab) (kf : SV × Tab → Option R) : Option R :=
  newellaw09_works N  (fun q0 => kf (lget [.bool q0] 0, []))
noncomputable def newellaw09_works_cal {R : Type} (N : Nat) : Cal R := callM (shaft_Plan_cal N) 16 0 newellaw09_works_sp (newellaw09_works_go N)
theorem newellaw09_works_cal_ok {R : Type} (N : Nat) : CalOk E.P (newellaw09_works_cal (R := R) N) :=
  callM_ok hE (shaft_Plan_cal_ok N) (lp := newellaw09_works_lp N) (jn := noJn) (keys := []) kNil (by kernel_rfl) (js := []) jNil (by kernel_rfl) newellaw09_works_sp_ok newellaw09_works_rs_ok (fun args T kf => Eq.trans (newellaw09_works_def N  (fun q0 => kf (lget [.bool q0] 0, []))) (by kernel_rfl : newellaw09_works_run N args T kf = fnM E (shaft_Plan_cal N) (newellaw09_works_lp N) (noJn) 16 (newellaw09_works_sp.vs args) (newellaw09_works_sp.tab T) 0 (resK newellaw09_works_rs kf)))
end
end Go.Proofs.YtckkodiefpdmhaaDoor
