import Derived.Test.YtckkodiefpdmhaaDoorG1
set_option maxRecDepth 100000
set_option maxHeartbeats 0
set_option linter.unusedVariables false
namespace Go.Proofs.YtckkodiefpdmhaaDoor
open Go.Sx
noncomputable section
def slices_Reverse___int_int__L1 : LoopSp := ⟨⟨[0, 2, 3], ⟨((rRow 0) :: (dr 1 ((rInt .i64) :: (rInt .i64) :: (dr 24 [])))), [(0, eRow intC)]⟩, 1⟩, [(some 0, ⟨[], ⟨(dr 28 []), [(0, eRow intC)]⟩, 1⟩)]⟩
theorem slices_Reverse___int_int__L1_ok : slices_Reverse___int_int__L1.Ok := ⟨⟨(allCons (rRow_ok 0) (drCons 1 (allCons (rInt_ok .i64) (allCons (rInt_ok .i64) (drCons 24 allNil))))), (eCons (eRow_ok intC_ok) eNil)⟩, (xCons ⟨(drCons 28 allNil), (eCons (eRow_ok intC_ok) eNil)⟩ xNil)⟩
def slices_Reverse___int_int__h1 (v441 : Int) (v442 : Int) (v443 : Bool) (v444 : Arr Int) : St := ⟨((.row 0) :: (un 1 ((.int .i64 v441) :: (.int .i64 v442) :: (un 24 [])))), [(0, rowE intC v443 v444)], 1⟩
def slices_Reverse___int_int__x1_0 (v443 : Bool) (q1 : Arr Int) : St := ⟨(un 28 []), [(0, rowE intC v443 q1)], 1⟩
def slices_Reverse___int_int__b1 {R : Type} (N : Nat) (rc : Int → Int → Bool → Arr Int → Option R) (v441 : Int) (v442 : Int) (v443 : Bool) (v444 : Arr Int) (k0 : Arr Int → Option R) : Option R :=
  bif decide (v441 < v442) then
   bif decide ((0 : Int) ≤ v442) && decide (v442 < (↑(Arr.n v444) : Int)) then
    bif decide ((0 : Int) ≤ v441) && decide (v441 < (↑(Arr.n v444) : Int)) then
     bif decide ((0 : Int) ≤ v441) && decide (v441 < (↑(Arr.n v444) : Int)) then
      bif decide ((0 : Int) ≤ v442) && decide (v442 < (↑(Arr.n v444) : Int)) then
       rc (w64 (v441 + (1 : Int))) (w64 (v442 - (1 : Int))) v443 (lst intC (Arr.n v444) (setCs (Int.toNat v442) (0 : Nat) (setCs (Int.toNat v441) (0 : Nat) (Cod.cell intC (Arr.f v444)) [SV.int IntKind.i64 (Arr.f v444 (Int.toNat v442))]) [SV.int IntKind.i64 (Arr.f v444 (Int.toNat v441))]))
      else
       Option.none
     else
      Option.none
    else
     Option.none
   else
    Option.none
  else
   k0 v444
def slices_Reverse___int_int__l1 {R : Type} (N : Nat) : Nat → Int → Int → Bool → Arr Int → (Arr Int → Option R) → Option R
  | 0, _, _, _, _, _ => Option.none
  | n + 1, v441, v442, v443, v444, k0 => slices_Reverse___int_int__b1 N (fun v441 v442 v443 v444 => slices_Reverse___int_int__l1 N n v441 v442 v443 v444 k0) v441 v442 v443 v444 k0
def slices_Reverse___int_int__m {R : Type} (N : Nat) (a439 : Bool) (a440 : Arr Int) (k : Arr Int → Option R) : Option R :=
  slices_Reverse___int_int__l1 N N (0 : Int) (w64 ((↑(Arr.n a440) : Int) - (1 : Int))) a439 a440 (fun r445 =>
   k r445)
noncomputable def slices_Reverse___int_int_ {R : Type} : Nat → Bool → Arr Int → (Arr Int → Option R) → Option R := lock (@slices_Reverse___int_int__m R)
theorem slices_Reverse___int_int__def {R : Type} (N : Nat) (a439 : Bool) (a440 : Arr Int) (k : Arr Int → Option R) : slices_Reverse___int_int_ N a439 a440 k = slices_Reverse___int_int__m N a439 a440 k := by unfold slices_Reverse___int_int_; rw [lock_eq]
def slices_Reverse___int_int__sp : Sp := ⟨[rRow 0], [(0, eRow intC)]⟩
theorem slices_Reverse___int_int__sp_ok : slices_Reverse___int_int__sp.Ok := ⟨(allCons (rRow_ok 0) allNil), (eCons (eRow_ok intC_ok) eNil)⟩
def slices_Reverse___int_int__rs : Sp := ⟨[rTup []], [(0, eRow intC)]⟩
theorem slices_Reverse___int_int__rs_ok : slices_Reverse___int_int__rs.Ok := ⟨(allCons (rTup_ok allNil) allNil), (eCons (eRow_ok intC_ok) eNil)⟩
def slices_Reverse___int_int__run {R : Type} (N : Nat) (args : List SV) (T : Tab) (kf : SV × Tab → Option R) : Option R :=
  slices_Reverse___int_int__m N (entNl (entAt T 0)) (lst intC (entN (entAt T 0)) (entC (entAt T 0))) (fun q1 => kf (lget [.tup []] 0, [(0, rowE intC (entNl (entAt T 0)) q1)]))
def slices_Reverse___int_int__d1 {R : Type} (N : Nat) (S0 : St) (k : Exit → St → Option R) : Option R :=
  slices_Reverse___int_int__l1 N N (toI (lget S0.tmps 2)) (toI (lget S0.tmps 3)) (entNl (entAt S0.tab 0)) (lst intC (entN (entAt S0.tab 0)) (entC (entAt S0.tab 0))) (fun q1 => k (.exit 0) (slices_Reverse___int_int__x1_0 (entNl (entAt S0.tab 0)) q1))
def slices_Reverse___int_int__lp {R : Type} (N : Nat) : Lp R := fun body S k => bif (Go.Sx.keyOf body).getD 0 == 1 then (slices_Reverse___int_int__L1.head.raw 1 S (fun S0 => slices_Reverse___int_int__d1 N S0 k)) else Option.none
theorem slices_Reverse___int_int__l1_eq {R : Type} (N : Nat) (k : Exit → St → Option R) (n : Nat) : ∀ (v0 : Int) (v1 : Int) (v2 : Bool) (v3 : Arr Int), loopM E.Θ (shaft_crate_move_cal N) (slices_Reverse___int_int__lp N) (noJn) 1 slices_Reverse___int_int__L1 (bodyAt E 68 1) n (slices_Reverse___int_int__h1 v0 v1 v2 v3) k = slices_Reverse___int_int__l1 N n v0 v1 v2 v3 (fun q1 => k (.exit 0) (slices_Reverse___int_int__x1_0 v2 q1)) := by
  induction n with
  | zero => intro v0 v1 v2 v3; rfl
  | succ n ih =>
    intro v0 v1 v2 v3
    refine Eq.trans (b := slices_Reverse___int_int__b1 N (fun v0 v1 v2 v3 => loopM E.Θ (shaft_crate_move_cal N) (slices_Reverse___int_int__lp N) (noJn) 1 slices_Reverse___int_int__L1 (bodyAt E 68 1) n (slices_Reverse___int_int__h1 v0 v1 v2 v3) k) v0 v1 v2 v3 (fun q1 => k (.exit 0) (slices_Reverse___int_int__x1_0 v2 q1))) (by kernel_rfl) ?_
    have h : (fun (v0 : Int) (v1 : Int) (v2 : Bool) (v3 : Arr Int) => loopM E.Θ (shaft_crate_move_cal N) (slices_Reverse___int_int__lp N) (noJn) 1 slices_Reverse___int_int__L1 (bodyAt E 68 1) n (slices_Reverse___int_int__h1 v0 v1 v2 v3) k) = (fun (v0 : Int) (v1 : Int) (v2 : Bool) (v3 : Arr Int) => slices_Reverse___int_int__l1 N n v0 v1 v2 v3 (fun q1 => k (.exit 0) (slices_Reverse___int_int__x1_0 v2 q1))) := funext fun v0 => funext fun v1 => funext fun v2 => funext fun v3 => ih v0 v1 v2 v3
    rw [h]
    rfl
theorem slices_Reverse___int_int__k1 {R : Type} (N : Nat) : LpKey (R := R) E 68 1 (slices_Reverse___int_int__lp N) 1 :=
  lpKey_of hE (shaft_crate_move_cal_ok N) (lp := slices_Reverse___int_int__lp N) (jn := noJn) slices_Reverse___int_int__L1_ok [] kNil (by kernel_rfl) [] jNil (by kernel_rfl) N fun S k =>
    Eq.trans (b := slices_Reverse___int_int__L1.head.raw 1 S (fun S0 => slices_Reverse___int_int__d1 N S0 k)) (by kernel_rfl) (congrArg (slices_Reverse___int_int__L1.head.raw 1 S) (funext fun S0 => Eq.trans (slices_Reverse___int_int__l1_eq N k N (toI (lget S0.tmps 2)) (toI (lget S0.tmps 3)) (entNl (entAt S0.tab 0)) (lst intC (entN (entAt S0.tab 0)) (entC (entAt S0.tab 0)))).symm (by kernel_rfl)))
noncomputable def slices_Reverse___int_int__go {R : Type} (N : Nat) (args : List SV) (T : Tab) (kf : SV × Tab → Option R) : Option R :=
  slices_Reverse___int_int_ N (entNl (entAt T 0)) (lst intC (entN (entAt T 0)) (entC (entAt T 0))) (fun q1 => kf (lget [.tup []] 0, [(0, rowE intC (entNl (entAt T 0)) q1)]))
noncomputable def slices_Reverse___int_int__cal {R : Type} (N : Nat) : Cal R := callM (shaft_crate_move_cal N) 68 1 slices_Reverse___int_int__sp (slices_Reverse___int_int__go N)
theorem slices_Reverse___int_int__cal_ok {R : Type} (N : Nat) : CalOk E.P (slices_Reverse___int_int__cal (R := R) N) :=
  callM_ok hE (shaft_crate_move_cal_ok N) (lp := slices_Reverse___int_int__lp N) (jn := noJn) (keys := [1]) (kCons (slices_Reverse___int_int__k1 N) kNil) (by kernel_rfl) (js := []) jNil (by kernel_rfl) slices_Reverse___int_int__sp_ok slices_Reverse___int_int__rs_ok (fun args T kf => Eq.trans (slices_Reverse___int_int__def N (entNl (entAt T 0)) (lst intC (entN (entAt T 0)) (entC (entAt T 0))) (fun q1 => kf (lget [.tup []] 0, [(0, rowE intC (entNl (entAt T 0)) q1)]))) (by kernel_rfl : slices_Reverse___int_int__run N args T kf = fnM E (shaft_crate_move_cal N) (slices_Reverse___int_int__lp N) (noJn) 68 (slices_Reverse___int_int__sp.vs args) (slices_Reverse___int_int__sp.tab T) 1 (resK slices_Reverse___int_int__rs kf)))
def shaft_crate_carry_L7 : LoopSp := ⟨⟨[0, 4, 5, 8, 9, 10, 41], ⟨((rPtr 0 0) :: (dr 3 ((rPtr 2 0) :: (rPtr 3 0) :: (dr 2 ((rRow 4) :: (rRow 5) :: (rInt .i64) :: (dr 30 ((rInt .i64) :: (dr 63 [])))))))), [(0, eBlk [rInt .i64, rInt .i64, rInt .i64, rInt .i64, rInt .i64, rInt .i64, rRow 1]), (1, eMp true true Arr3_intC unitC), (2, eBlkC api_PoseC), (3, eBlkC api_PoseC), (4, eMp true true api_PoseC shaft_stepC), (5, eRow api_PoseC)]⟩, 6⟩, [(some 2, ⟨[0, 4, 5, 8, 9, 10], ⟨((rPtr 0 0) :: (dr 3 ((rPtr 2 0) :: (rPtr 3 0) :: (dr 2 ((rRow 4) :: (rRow 5) :: (rInt .i64) :: (dr 94 [])))))), [(0, eBlk [rInt .i64, rInt .i64, rInt .i64, rInt .i64, rInt .i64, rInt .i64, rRow 1]), (1, eMp true true Arr3_intC unitC), (2, eBlkC api_PoseC), (3, eBlkC api_PoseC), (4, eMp true true api_PoseC shaft_stepC), (5, eRow api_PoseC)]⟩, 6⟩)]⟩
theorem shaft_crate_carry_L7_ok : shaft_crate_carry_L7.Ok := ⟨⟨(allCons (rPtr_ok 0 0) (drCons 3 (allCons (rPtr_ok 2 0) (allCons (rPtr_ok 3 0) (drCons 2 (allCons (rRow_ok 4) (allCons (rRow_ok 5) (allCons (rInt_ok .i64) (drCons 30 (allCons (rInt_ok .i64) (drCons 63 allNil))))))))))), (eCons (eBlk_ok (allCons (rInt_ok .i64) (allCons (rInt_ok .i64) (allCons (rInt_ok .i64) (allCons (rInt_ok .i64) (allCons (rInt_ok .i64) (allCons (rInt_ok .i64) (allCons (rRow_ok 1) allNil)))))))) (eCons (eMp_ok Arr3_intC_flat unitC_flat) (eCons (eBlkC_ok api_PoseC_ok api_PoseC_len) (eCons (eBlkC_ok api_PoseC_ok api_PoseC_len) (eCons (eMp_ok api_PoseC_flat shaft_stepC_flat) (eCons (eRow_ok api_PoseC_ok) eNil))))))⟩, (xCons ⟨(allCons (rPtr_ok 0 0) (drCons 3 (allCons (rPtr_ok 2 0) (allCons (rPtr_ok 3 0) (drCons 2 (allCons (rRow_ok 4) (allCons (rRow_ok 5) (allCons (rInt_ok .i64) (drCons 94 allNil))))))))), (eCons (eBlk_ok (allCons (rInt_ok .i64) (allCons (rInt_ok .i64) (allCons (rInt_ok .i64) (allCons (rInt_ok .i64) (allCons (rInt_ok .i64) (allCons (rInt_ok .i64) (allCons (rRow_ok 1) allNil)))))))) (eCons (eMp_ok Arr3_intC_flat unitC_flat) (eCons (eBlkC_ok api_PoseC_ok api_PoseC_len) (eCons (eBlkC_ok api_PoseC_ok api_PoseC_len) (eCons (eMp_ok api_PoseC_flat shaft_stepC_flat) (eCons (eRow_ok api_PoseC_ok) eNil))))))⟩ xNil)⟩
def shaft_crate_carry_h7 (v405 : Int) (v406 : Int) (v407 : Int) (v408 : Int) (v409 : Int) (v410 : Int) (v411 : Int) (v412 : Int) (v413 : Mp Arr3_int Unit) (v414 : api_Pose) (v415 : api_Pose) (v416 : Mp api_Pose shaft_step) (v417 : Bool) (v418 : Arr api_Pose) : St := ⟨((.ptr 0 0) :: (un 3 ((.ptr 2 0) :: (.ptr 3 0) :: (un 2 ((.row 4) :: (.row 5) :: (.int .i64 v405) :: (un 30 ((.int .i64 v406) :: (un 63 [])))))))), [(0, .blk [.int .i64 v407, .int .i64 v408, .int .i64 v409, .int .i64 v410, .int .i64 v411, .int .i64 v412, .row 1]), (1, mpE true true Arr3_intC unitC v413), (2, .blk (Cod.enc api_PoseC v414)), (3, .blk (Cod.enc api_PoseC v415)), (4, mpE true true api_PoseC shaft_stepC v416), (5, rowE api_PoseC v417 v418)], 6⟩
def shaft_crate_carry_x7_2 (v405 : Int) (v407 : Int) (v408 : Int) (v409 : Int) (v410 : Int) (v411 : Int) (v412 : Int) (v413 : Mp Arr3_int Unit) (v414 : api_Pose) (v415 : api_Pose) (q10 : Mp api_Pose shaft_step) (q11 : Bool) (q12 : Arr api_Pose) : St := ⟨((.ptr 0 0) :: (un 3 ((.ptr 2 0) :: (.ptr 3 0) :: (un 2 ((.row 4) :: (.row 5) :: (.int .i64 v405) :: (un 94 [])))))), [(0, .blk [.int .i64 v407, .int .i64 v408, .int .i64 v409, .int .i64 v410, .int .i64 v411, .int .i64 v412, .row 1]), (1, mpE true true Arr3_intC unitC v413), (2, .blk (Cod.enc api_PoseC v414)), (3, .blk (Cod.enc api_PoseC v415)), (4, mpE true true api_PoseC shaft_stepC q10), (5, rowE api_PoseC q11 q12)], 6⟩
def shaft_crate_carry_b7 {R : Type} (N : Nat) (rc : Int → Int → Int → Int → Int → Int → Int → Int → Mp Arr3_int Unit → api_Pose → api_Pose → Mp api_Pose shaft_step → Bool → Arr api_Pose → Option R) (v405 : Int) (v406 : Int) (v407 : Int) (v408 : Int) (v409 : Int) (v410 : Int) (v411 : Int) (v412 : Int) (v413 : Mp Arr3_int Unit) (v414 : api_Pose) (v415 : api_Pose) (v416 : Mp api_Pose shaft_step) (v417 : Bool) (v418 : Arr api_Pose) (k2 : Mp api_Pose shaft_step → Bool → Arr api_Pose → Option R) : Option R :=
  bif decide (v406 < (9 : Int)) then
   bif decide ((0 : Int) ≤ v405) && decide (v405 < (↑(Arr.n v418) : Int)) then
    shaft_crate_move N (Arr.f v418 (Int.toNat v405)) v406 v407 v408 v409 v410 v411 v412 v413 (fun r419 r420 =>
    bif r420 then
     bif !Mp.has v416 (api_Pose.mk (Arr3_int.mk (Arr3_int.a0 (api_Pose.At r419)) (Arr3_int.a1 (api_Pose.At r419)) (Arr3_int.a2 (api_Pose.At r419))) (api_Pose.Turn r419)) then
      bif decide ((0 : Int) ≤ v405) && decide (v405 < (↑(Arr.n v418) : Int)) then
       bif room (Arr.n v418 + (1 : Nat)) then
        rc v405 (w64 (v406 + (1 : Int))) v407 v408 v409 v410 v411 v412 v413 v414 v415 (mpD api_PoseC shaft_stepC (putH [SV.int IntKind.i64 (Arr3_int.a0 (api_Pose.At r419)), SV.int IntKind.i64 (Arr3_int.a1 (api_Pose.At r419)), SV.int IntKind.i64 (Arr3_int.a2 (api_Pose.At r419)), SV.int IntKind.i64 (api_Pose.Turn r419)] (mpH api_PoseC v416)) (putG [SV.int IntKind.i64 (Arr3_int.a0 (api_Pose.At r419)), SV.int IntKind.i64 (Arr3_int.a1 (api_Pose.At r419)), SV.int IntKind.i64 (Arr3_int.a2 (api_Pose.At r419)), SV.int IntKind.i64 (api_Pose.Turn r419)] [SV.int IntKind.i64 (Arr3_int.a0 (api_Pose.At (Arr.f v418 (Int.toNat v405)))), SV.int IntKind.i64 (Arr3_int.a1 (api_Pose.At (Arr.f v418 (Int.toNat v405)))), SV.int IntKind.i64 (Arr3_int.a2 (api_Pose.At (Arr.f v418 (Int.toNat v405)))), SV.int IntKind.i64 (api_Pose.Turn (Arr.f v418 (Int.toNat v405))), SV.int IntKind.i64 v406] (mpG api_PoseC shaft_stepC v416))) false (lst api_PoseC (Arr.n v418 + (1 : Nat)) (catC (Arr.n v418) (Cod.cell api_PoseC (Arr.f v418)) (litC [SV.int IntKind.i64 (0 : Int), SV.int IntKind.i64 (0 : Int), SV.int IntKind.i64 (0 : Int), SV.int IntKind.i64 (0 : Int)] [[SV.int IntKind.i64 (Arr3_int.a0 (api_Pose.At r419)), SV.int IntKind.i64 (Arr3_int.a1 (api_Pose.At r419)), SV.int IntKind.i64 (Arr3_int.a2 (api_Pose.At r419)), SV.int IntKind.i64 (api_Pose.Turn r419)]])))
       else
        Option.none
      else
       Option.none
     else
      rc v405 (w64 (v406 + (1 : Int))) v407 v408 v409 v410 v411 v412 v413 v414 v415 v416 v417 v418
    else
     rc v405 (w64 (v406 + (1 : Int))) v407 v408 v409 v410 v411 v412 v413 v414 v415 v416 v417 v418)
   else
    Option.none
  else
   k2 v416 v417 v418
def shaft_crate_carry_l7 {R : Type} (N : Nat) : Nat → Int → Int → Int → Int → Int → Int → Int → Int → Mp Arr3_int Unit → api_Pose → api_Pose → Mp api_Pose shaft_step → Bool → Arr api_Pose → (Mp api_Pose shaft_step → Bool → Arr api_Pose → Option R) → Option R
  | 0, _, _, _, _, _, _, _, _, _, _, _, _, _, _, _ => Option.none
  | n + 1, v405, v406, v407, v408, v409, v410, v411, v412, v413, v414, v415, v416, v417, v418, k2 => shaft_crate_carry_b7 N (fun v405 v406 v407 v408 v409 v410 v411 v412 v413 v414 v415 v416 v417 v418 => shaft_crate_carry_l7 N n v405 v406 v407 v408 v409 v410 v411 v412 v413 v414 v415 v416 v417 v418 k2) v405 v406 v407 v408 v409 v410 v411 v412 v413 v414 v415 v416 v417 v418 k2
def shaft_crate_carry_L4 : LoopSp := ⟨⟨[0, 4, 5, 8, 9, 10], ⟨((rPtr 0 0) :: (dr 3 ((rPtr 2 0) :: (rPtr 3 0) :: (dr 2 ((rRow 4) :: (rRow 5) :: (rInt .i64) :: (dr 94 [])))))), [(0, eBlk [rInt .i64, rInt .i64, rInt .i64, rInt .i64, rInt .i64, rInt .i64, rRow 1]), (1, eMp true true Arr3_intC unitC), (2, eBlkC api_PoseC), (3, eBlkC api_PoseC), (4, eMp true true api_PoseC shaft_stepC), (5, eRow api_PoseC)]⟩, 6⟩, [(some 0, ⟨[4, 5, 8], ⟨(dr 4 ((rPtr 2 0) :: (rPtr 3 0) :: (dr 2 ((rRow 4) :: (dr 96 []))))), [(0, eBlk [rInt .i64, rInt .i64, rInt .i64, rInt .i64, rInt .i64, rInt .i64, rRow 1]), (1, eMp true true Arr3_intC unitC), (2, eBlkC api_PoseC), (3, eBlkC api_PoseC), (4, eMp true true api_PoseC shaft_stepC)]⟩, 5⟩)]⟩
theorem shaft_crate_carry_L4_ok : shaft_crate_carry_L4.Ok := ⟨⟨(allCons (rPtr_ok 0 0) (drCons 3 (allCons (rPtr_ok 2 0) (allCons (rPtr_ok 3 0) (drCons 2 (allCons (rRow_ok 4) (allCons (rRow_ok 5) (allCons (rInt_ok .i64) (drCons 94 allNil))))))))), (eCons (eBlk_ok (allCons (rInt_ok .i64) (allCons (rInt_ok .i64) (allCons (rInt_ok .i64) (allCons (rInt_ok .i64) (allCons (rInt_ok .i64) (allCons (rInt_ok .i64) (allCons (rRow_ok 1) allNil)))))))) (eCons (eMp_ok Arr3_intC_flat unitC_flat) (eCons (eBlkC_ok api_PoseC_ok api_PoseC_len) (eCons (eBlkC_ok api_PoseC_ok api_PoseC_len) (eCons (eMp_ok api_PoseC_flat shaft_stepC_flat) (eCons (eRow_ok api_PoseC_ok) eNil))))))⟩, (xCons ⟨(drCons 4 (allCons (rPtr_ok 2 0) (allCons (rPtr_ok 3 0) (drCons 2 (allCons (rRow_ok 4) (drCons 96 allNil)))))), (eCons (eBlk_ok (allCons (rInt_ok .i64) (allCons (rInt_ok .i64) (allCons (rInt_ok .i64) (allCons (rInt_ok .i64) (allCons (rInt_ok .i64) (allCons (rInt_ok .i64) (allCons (rRow_ok 1) allNil)))))))) (eCons (eMp_ok Arr3_intC_flat unitC_flat) (eCons (eBlkC_ok api_PoseC_ok api_PoseC_len) (eCons (eBlkC_ok api_PoseC_ok api_PoseC_len) (eCons (eMp_ok api_PoseC_flat shaft_stepC_flat) eNil)))))⟩ xNil)⟩
def shaft_crate_carry_h4 (v392 : Int) (v393 : Int) (v394 : Int) (v395 : Int) (v396 : Int) (v397 : Int) (v398 : Int) (v399 : Mp Arr3_int Unit) (v400 : api_Pose) (v401 : api_Pose) (v402 : Mp api_Pose shaft_step) (v403 : Bool) (v404 : Arr api_Pose) : St := ⟨((.ptr 0 0) :: (un 3 ((.ptr 2 0) :: (.ptr 3 0) :: (un 2 ((.row 4) :: (.row 5) :: (.int .i64 v392) :: (un 94 [])))))), [(0, .blk [.int .i64 v393, .int .i64 v394, .int .i64 v395, .int .i64 v396, .int .i64 v397, .int .i64 v398, .row 1]), (1, mpE true true Arr3_intC unitC v399), (2, .blk (Cod.enc api_PoseC v400)), (3, .blk (Cod.enc api_PoseC v401)), (4, mpE true true api_PoseC shaft_stepC v402), (5, rowE api_PoseC v403 v404)], 6⟩
def shaft_crate_carry_x4_0 (v393 : Int) (v394 : Int) (v395 : Int) (v396 : Int) (v397 : Int) (v398 : Int) (v399 : Mp Arr3_int Unit) (v400 : api_Pose) (v401 : api_Pose) (q9 : Mp api_Pose shaft_step) : St := ⟨(un 4 ((.ptr 2 0) :: (.ptr 3 0) :: (un 2 ((.row 4) :: (un 96 []))))), [(0, .blk [.int .i64 v393, .int .i64 v394, .int .i64 v395, .int .i64 v396, .int .i64 v397, .int .i64 v398, .row 1]), (1, mpE true true Arr3_intC unitC v399), (2, .blk (Cod.enc api_PoseC v400)), (3, .blk (Cod.enc api_PoseC v401)), (4, mpE true true api_PoseC shaft_stepC q9)], 5⟩
def shaft_crate_carry_b4 {R : Type} (N : Nat) (rc : Int → Int → Int → Int → Int → Int → Int → Mp Arr3_int Unit → api_Pose → api_Pose → Mp api_Pose shaft_step → Bool → Arr api_Pose → Option R) (v392 : Int) (v393 : Int) (v394 : Int) (v395 : Int) (v396 : Int) (v397 : Int) (v398 : Int) (v399 : Mp Arr3_int Unit) (v400 : api_Pose) (v401 : api_Pose) (v402 : Mp api_Pose shaft_step) (v403 : Bool) (v404 : Arr api_Pose) (k0 : Mp api_Pose shaft_step → Option R) : Option R :=
  bif decide (v392 < (↑(Arr.n v404) : Int)) then
   bif decide ((0 : Int) ≤ v392) && decide (v392 < (↑(Arr.n v404) : Int)) then
    bif !(Arr3_int.a0 (api_Pose.At (Arr.f v404 (Int.toNat v392))) == Arr3_int.a0 (api_Pose.At v401) && (Arr3_int.a1 (api_Pose.At (Arr.f v404 (Int.toNat v392))) == Arr3_int.a1 (api_Pose.At v401) && (Arr3_int.a2 (api_Pose.At (Arr.f v404 (Int.toNat v392))) == Arr3_int.a2 (api_Pose.At v401) && (api_Pose.Turn (Arr.f v404 (Int.toNat v392)) == api_Pose.Turn v401 && true)))) then
     shaft_crate_carry_l7 N N v392 (0 : Int) v393 v394 v395 v396 v397 v398 v399 v400 v401 v402 v403 v404 (fun r421 r422 r423 =>
      rc (w64 (v392 + (1 : Int))) v393 v394 v395 v396 v397 v398 v399 v400 v401 r421 r422 r423)
    else
     k0 v402
   else
    Option.none
  else
   k0 v402
def shaft_crate_carry_l4 {R : Type} (N : Nat) : Nat → Int → Int → Int → Int → Int → Int → Int → Mp Arr3_int Unit → api_Pose → api_Pose → Mp api_Pose shaft_step → Bool → Arr api_Pose → (Mp api_Pose shaft_step → Option R) → Option R
  | 0, _, _, _, _, _, _, _, _, _, _, _, _, _, _ => Option.none
  | n + 1, v392, v393, v394, v395, v396, v397, v398, v399, v400, v401, v402, v403, v404, k0 => shaft_crate_carry_b4 N (fun v392 v393 v394 v395 v396 v397 v398 v399 v400 v401 v402 v403 v404 => shaft_crate_carry_l4 N n v392 v393 v394 v395 v396 v397 v398 v399 v400 v401 v402 v403 v404 k0) v392 v393 v394 v395 v396 v397 v398 v399 v400 v401 v402 v403 v404 k0
def shaft_crate_carry_L20 : LoopSp := ⟨⟨[4, 8, 18, 19], ⟨(dr 4 ((rPtr 2 0) :: (dr 3 ((rRow 3) :: (dr 9 ((rRow 4) :: (rPtr 5 0) :: (dr 85 []))))))), [(0, eBlk [rInt .i64, rInt .i64, rInt .i64, rInt .i64, rInt .i64, rInt .i64, rRow 1]), (1, eMp true true Arr3_intC unitC), (2, eBlkC api_PoseC), (3, eMp true true api_PoseC shaft_stepC), (4, eRow intC), (5, eBlkC api_PoseC)]⟩, 6⟩, [(some 4, ⟨[18], ⟨(dr 18 ((rRow 2) :: (dr 86 []))), [(0, eBlk [rInt .i64, rInt .i64, rInt .i64, rInt .i64, rInt .i64, rInt .i64, rRow 1]), (1, eMp true true Arr3_intC unitC), (2, eRow intC)]⟩, 3⟩)]⟩
theorem shaft_crate_carry_L20_ok : shaft_crate_carry_L20.Ok := ⟨⟨(drCons 4 (allCons (rPtr_ok 2 0) (drCons 3 (allCons (rRow_ok 3) (drCons 9 (allCons (rRow_ok 4) (allCons (rPtr_ok 5 0) (drCons 85 allNil)))))))), (eCons (eBlk_ok (allCons (rInt_ok .i64) (allCons (rInt_ok .i64) (allCons (rInt_ok .i64) (allCons (rInt_ok .i64) (allCons (rInt_ok .i64) (allCons (rInt_ok .i64) (allCons (rRow_ok 1) allNil)))))))) (eCons (eMp_ok Arr3_intC_flat unitC_flat) (eCons (eBlkC_ok api_PoseC_ok api_PoseC_len) (eCons (eMp_ok api_PoseC_flat shaft_stepC_flat) (eCons (eRow_ok intC_ok) (eCons (eBlkC_ok api_PoseC_ok api_PoseC_len) eNil))))))⟩, (xCons ⟨(drCons 18 (allCons (rRow_ok 2) (drCons 86 allNil))), (eCons (eBlk_ok (allCons (rInt_ok .i64) (allCons (rInt_ok .i64) (allCons (rInt_ok .i64) (allCons (rInt_ok .i64) (allCons (rInt_ok .i64) (allCons (rInt_ok .i64) (allCons (rRow_ok 1) allNil)))))))) (eCons (eMp_ok Arr3_intC_flat unitC_flat) (eCons (eRow_ok intC_ok) eNil)))⟩ xNil)⟩
def shaft_crate_carry_h20 (v425 : Int) (v426 : Int) (v427 : Int) (v428 : Int) (v429 : Int) (v430 : Int) (v431 : Mp Arr3_int Unit) (v432 : api_Pose) (v433 : Mp api_Pose shaft_step) (v434 : Bool) (v435 : Arr Int) (v436 : api_Pose) : St := ⟨(un 4 ((.ptr 2 0) :: (un 3 ((.row 3) :: (un 9 ((.row 4) :: (.ptr 5 0) :: (un 85 []))))))), [(0, .blk [.int .i64 v425, .int .i64 v426, .int .i64 v427, .int .i64 v428, .int .i64 v429, .int .i64 v430, .row 1]), (1, mpE true true Arr3_intC unitC v431), (2, .blk (Cod.enc api_PoseC v432)), (3, mpE true true api_PoseC shaft_stepC v433), (4, rowE intC v434 v435), (5, .blk (Cod.enc api_PoseC v436))], 6⟩
def shaft_crate_carry_x20_4 (v425 : Int) (v426 : Int) (v427 : Int) (v428 : Int) (v429 : Int) (v430 : Int) (v431 : Mp Arr3_int Unit) (q7 : Bool) (q8 : Arr Int) : St := ⟨(un 18 ((.row 2) :: (un 86 []))), [(0, .blk [.int .i64 v425, .int .i64 v426, .int .i64 v427, .int .i64 v428, .int .i64 v429, .int .i64 v430, .row 1]), (1, mpE true true Arr3_intC unitC v431), (2, rowE intC q7 q8)], 3⟩
def shaft_crate_carry_b20 {R : Type} (N : Nat) (rc : Int → Int → Int → Int → Int → Int → Mp Arr3_int Unit → api_Pose → Mp api_Pose shaft_step → Bool → Arr Int → api_Pose → Option R) (v425 : Int) (v426 : Int) (v427 : Int) (v428 : Int) (v429 : Int) (v430 : Int) (v431 : Mp Arr3_int Unit) (v432 : api_Pose) (v433 : Mp api_Pose shaft_step) (v434 : Bool) (v435 : Arr Int) (v436 : api_Pose) (k4 : Bool → Arr Int → Option R) : Option R :=
  bif !(Arr3_int.a0 (api_Pose.At v436) == Arr3_int.a0 (api_Pose.At v432) && (Arr3_int.a1 (api_Pose.At v436) == Arr3_int.a1 (api_Pose.At v432) && (Arr3_int.a2 (api_Pose.At v436) == Arr3_int.a2 (api_Pose.At v432) && (api_Pose.Turn v436 == api_Pose.Turn v432 && true)))) then
   bif room (Arr.n v435 + (1 : Nat)) then
    rc v425 v426 v427 v428 v429 v430 v431 v432 v433 false (lst intC (Arr.n v435 + (1 : Nat)) (catC (Arr.n v435) (Cod.cell intC (Arr.f v435)) (litC [SV.int IntKind.i64 (0 : Int)] [[SV.int IntKind.i64 (shaft_step.f_move (Mp.get v433 (api_Pose.mk (Arr3_int.mk (Arr3_int.a0 (api_Pose.At v436)) (Arr3_int.a1 (api_Pose.At v436)) (Arr3_int.a2 (api_Pose.At v436))) (api_Pose.Turn v436))))]]))) (shaft_step.f_from (Mp.get v433 (api_Pose.mk (Arr3_int.mk (Arr3_int.a0 (api_Pose.At v436)) (Arr3_int.a1 (api_Pose.At v436)) (Arr3_int.a2 (api_Pose.At v436))) (api_Pose.Turn v436))))
   else
    Option.none
  else
   k4 v434 v435
def shaft_crate_carry_l20 {R : Type} (N : Nat) : Nat → Int → Int → Int → Int → Int → Int → Mp Arr3_int Unit → api_Pose → Mp api_Pose shaft_step → Bool → Arr Int → api_Pose → (Bool → Arr Int → Option R) → Option R
  | 0, _, _, _, _, _, _, _, _, _, _, _, _, _ => Option.none
  | n + 1, v425, v426, v427, v428, v429, v430, v431, v432, v433, v434, v435, v436, k4 => shaft_crate_carry_b20 N (fun v425 v426 v427 v428 v429 v430 v431 v432 v433 v434 v435 v436 => shaft_crate_carry_l20 N n v425 v426 v427 v428 v429 v430 v431 v432 v433 v434 v435 v436 k4) v425 v426 v427 v428 v429 v430 v431 v432 v433 v434 v435 v436 k4
def shaft_crate_carry_m {R : Type} (N : Nat) (a383 : api_Pose) (a384 : api_Pose) (a385 : Int) (a386 : Int) (a387 : Int) (a388 : Int) (a389 : Int) (a390 : Int) (a391 : Mp Arr3_int Unit) (k : Bool → Bool → Arr Int → Option R) : Option R :=
  shaft_crate_carry_l4 N N (0 : Int) a385 a386 a387 a388 a389 a390 a391 a383 a384 (mpD api_PoseC shaft_stepC (putH [SV.int IntKind.i64 (Arr3_int.a0 (api_Pose.At a383)), SV.int IntKind.i64 (Arr3_int.a1 (api_Pose.At a383)), SV.int IntKind.i64 (Arr3_int.a2 (api_Pose.At a383)), SV.int IntKind.i64 (api_Pose.Turn a383)] noH) (putG [SV.int IntKind.i64 (Arr3_int.a0 (api_Pose.At a383)), SV.int IntKind.i64 (Arr3_int.a1 (api_Pose.At a383)), SV.int IntKind.i64 (Arr3_int.a2 (api_Pose.At a383)), SV.int IntKind.i64 (api_Pose.Turn a383)] [SV.int IntKind.i64 (Arr3_int.a0 (api_Pose.At a383)), SV.int IntKind.i64 (Arr3_int.a1 (api_Pose.At a383)), SV.int IntKind.i64 (Arr3_int.a2 (api_Pose.At a383)), SV.int IntKind.i64 (api_Pose.Turn a383), SV.int IntKind.i64 (-1 : Int)] (noG (CK.cons (CK.int IntKind.i64) (CK.cons (CK.int IntKind.i64) (CK.cons (CK.int IntKind.i64) (CK.cons (CK.int IntKind.i64) (CK.cons (CK.int IntKind.i64) CK.nil)))))))) false (lst api_PoseC (1 : Nat) (litC [SV.int IntKind.i64 (0 : Int), SV.int IntKind.i64 (0 : Int), SV.int IntKind.i64 (0 : Int), SV.int IntKind.i64 (0 : Int)] [[SV.int IntKind.i64 (Arr3_int.a0 (api_Pose.At a383)), SV.int IntKind.i64 (Arr3_int.a1 (api_Pose.At a383)), SV.int IntKind.i64 (Arr3_int.a2 (api_Pose.At a383)), SV.int IntKind.i64 (api_Pose.Turn a383)]])) (fun r424 =>
   bif !Mp.has r424 (api_Pose.mk (Arr3_int.mk (Arr3_int.a0 (api_Pose.At a384)) (Arr3_int.a1 (api_Pose.At a384)) (Arr3_int.a2 (api_Pose.At a384))) (api_Pose.Turn a384)) then
    k false true (lst intC (0 : Nat) (zeroC [SV.int IntKind.i64 (0 : Int)]))
   else
    shaft_crate_carry_l20 N N a385 a386 a387 a388 a389 a390 a391 a383 r424 true (lst intC (0 : Nat) (zeroC [SV.int IntKind.i64 (0 : Int)])) a384 (fun r437 r438 =>
     slices_Reverse___int_int_ N r437 r438 (fun r446 =>
     k true r437 r446)))
noncomputable def shaft_crate_carry {R : Type} : Nat → api_Pose → api_Pose → Int → Int → Int → Int → Int → Int → Mp Arr3_int Unit → (Bool → Bool → Arr Int → Option R) → Option R := lock (@shaft_crate_carry_m R)
theorem shaft_crate_carry_def {R : Type} (N : Nat) (a383 : api_Pose) (a384 : api_Pose) (a385 : Int) (a386 : Int) (a387 : Int) (a388 : Int) (a389 : Int) (a390 : Int) (a391 : Mp Arr3_int Unit) (k : Bool → Bool → Arr Int → Option R) : shaft_crate_carry N a383 a384 a385 a386 a387 a388 a389 a390 a391 k = shaft_crate_carry_m N a383 a384 a385 a386 a387 a388 a389 a390 a391 k := by unfold shaft_crate_carry; rw [lock_eq]
def shaft_crate_carry_sp : Sp := ⟨[rPtr 0 0, rAgg api_PoseC, rAgg api_PoseC], [(0, eBlk [rInt .i64, rInt .i64, rInt .i64, rInt .i64, rInt .i64, rInt .i64, rRow 1]), (1, eMp true true Arr3_intC unitC)]⟩
theorem shaft_crate_carry_sp_ok : shaft_crate_carry_sp.Ok := ⟨(allCons (rPtr_ok 0 0) (allCons (rAgg_ok api_PoseC_ok api_PoseC_len) (allCons (rAgg_ok api_PoseC_ok api_PoseC_len) allNil))), (eCons (eBlk_ok (allCons (rInt_ok .i64) (allCons (rInt_ok .i64) (allCons (rInt_ok .i64) (allCons (rInt_ok .i64) (allCons (rInt_ok .i64) (allCons (rInt_ok .i64) (allCons (rRow_ok 1) allNil)))))))) (eCons (eMp_ok Arr3_intC_flat unitC_flat) eNil))⟩
def shaft_crate_carry_rs : Sp := ⟨[rTup [rRow 2, rBool]], [(0, eBlk [rInt .i64, rInt .i64, rInt .i64, rInt .i64, rInt .i64, rInt .i64, rRow 1]), (1, eMp true true Arr3_intC unitC), (2, eRow intC)]⟩
theorem shaft_crate_carry_rs_ok : shaft_crate_carry_rs.Ok := ⟨(allCons (rTup_ok (allCons (rRow_ok 2) (allCons rBool_ok allNil))) allNil), (eCons (eBlk_ok (allCons (rInt_ok .i64) (allCons (rInt_ok .i64) (allCons (rInt_ok .i64) (allCons (rInt_ok .i64) (allCons (rInt_ok .i64) (allCons (rInt_ok .i64) (allCons (rRow_ok 1) allNil)))))))) (eCons (eMp_ok Arr3_intC_flat unitC_flat) (eCons (eRow_ok intC_ok) eNil)))⟩
def shaft_crate_carry_run {R : Type} (N : Nat) (args : List SV) (T : Tab) (kf : SV × Tab → Option R) : Option R :=
  shaft_crate_carry_m N (Cod.dec api_PoseC (lget (toCs (lget args 1)))) (Cod.dec api_PoseC (lget (toCs (lget args 2)))) (toI (lget (entCs (entAt T 0)) 0)) (toI (lget (entCs (entAt T 0)) 1)) (toI (lget (entCs (entAt T 0)) 2)) (toI (lget (entCs (entAt T 0)) 3)) (toI (lget (entCs (entAt T 0)) 4)) (toI (lget (entCs (entAt T 0)) 5)) (mpD Arr3_intC unitC (entHs (entAt T 1)) (entGt (entAt T 1))) (fun q0 q8 q9 => kf (lget [.tup [.row 2, .bool q0]] 0, [(0, .blk [.int .i64 (toI (lget (entCs (entAt T 0)) 0)), .int .i64 (toI (lget (entCs (entAt T 0)) 1)), .int .i64 (toI (lget (entCs (entAt T 0)) 2)), .int .i64 (toI (lget (entCs (entAt T 0)) 3)), .int .i64 (toI (lget (entCs (entAt T 0)) 4)), .int .i64 (toI (lget (entCs (entAt T 0)) 5)), .row 1]), (1, mpE true true Arr3_intC unitC (mpD Arr3_intC unitC (entHs (entAt T 1)) (entGt (entAt T 1)))), (2, rowE intC q8 q9)]))
def shaft_crate_carry_d20 {R : Type} (N : Nat) (S0 : St) (k : Exit → St → Option R) : Option R :=
  shaft_crate_carry_l20 N N (toI (lget (entCs (entAt S0.tab 0)) 0)) (toI (lget (entCs (entAt S0.tab 0)) 1)) (toI (lget (entCs (entAt S0.tab 0)) 2)) (toI (lget (entCs (entAt S0.tab 0)) 3)) (toI (lget (entCs (entAt S0.tab 0)) 4)) (toI (lget (entCs (entAt S0.tab 0)) 5)) (mpD Arr3_intC unitC (entHs (entAt S0.tab 1)) (entGt (entAt S0.tab 1))) (Cod.dec api_PoseC (lget (entCs (entAt S0.tab 2)))) (mpD api_PoseC shaft_stepC (entHs (entAt S0.tab 3)) (entGt (entAt S0.tab 3))) (entNl (entAt S0.tab 4)) (lst intC (entN (entAt S0.tab 4)) (entC (entAt S0.tab 4))) (Cod.dec api_PoseC (lget (entCs (entAt S0.tab 5)))) (fun q7 q8 => k (.exit 4) (shaft_crate_carry_x20_4 (toI (lget (entCs (entAt S0.tab 0)) 0)) (toI (lget (entCs (entAt S0.tab 0)) 1)) (toI (lget (entCs (entAt S0.tab 0)) 2)) (toI (lget (entCs (entAt S0.tab 0)) 3)) (toI (lget (entCs (entAt S0.tab 0)) 4)) (toI (lget (entCs (entAt S0.tab 0)) 5)) (mpD Arr3_intC unitC (entHs (entAt S0.tab 1)) (entGt (entAt S0.tab 1))) q7 q8))
def shaft_crate_carry_d7 {R : Type} (N : Nat) (S0 : St) (k : Exit → St → Option R) : Option R :=
  shaft_crate_carry_l7 N N (toI (lget S0.tmps 10)) (toI (lget S0.tmps 41)) (toI (lget (entCs (entAt S0.tab 0)) 0)) (toI (lget (entCs (entAt S0.tab 0)) 1)) (toI (lget (entCs (entAt S0.tab 0)) 2)) (toI (lget (entCs (entAt S0.tab 0)) 3)) (toI (lget (entCs (entAt S0.tab 0)) 4)) (toI (lget (entCs (entAt S0.tab 0)) 5)) (mpD Arr3_intC unitC (entHs (entAt S0.tab 1)) (entGt (entAt S0.tab 1))) (Cod.dec api_PoseC (lget (entCs (entAt S0.tab 2)))) (Cod.dec api_PoseC (lget (entCs (entAt S0.tab 3)))) (mpD api_PoseC shaft_stepC (entHs (entAt S0.tab 4)) (entGt (entAt S0.tab 4))) (entNl (entAt S0.tab 5)) (lst api_PoseC (entN (entAt S0.tab 5)) (entC (entAt S0.tab 5))) (fun q10 q11 q12 => k (.exit 2) (shaft_crate_carry_x7_2 (toI (lget S0.tmps 10)) (toI (lget (entCs (entAt S0.tab 0)) 0)) (toI (lget (entCs (entAt S0.tab 0)) 1)) (toI (lget (entCs (entAt S0.tab 0)) 2)) (toI (lget (entCs (entAt S0.tab 0)) 3)) (toI (lget (entCs (entAt S0.tab 0)) 4)) (toI (lget (entCs (entAt S0.tab 0)) 5)) (mpD Arr3_intC unitC (entHs (entAt S0.tab 1)) (entGt (entAt S0.tab 1))) (Cod.dec api_PoseC (lget (entCs (entAt S0.tab 2)))) (Cod.dec api_PoseC (lget (entCs (entAt S0.tab 3)))) q10 q11 q12))
def shaft_crate_carry_d4 {R : Type} (N : Nat) (S0 : St) (k : Exit → St → Option R) : Option R :=
  shaft_crate_carry_l4 N N (toI (lget S0.tmps 10)) (toI (lget (entCs (entAt S0.tab 0)) 0)) (toI (lget (entCs (entAt S0.tab 0)) 1)) (toI (lget (entCs (entAt S0.tab 0)) 2)) (toI (lget (entCs (entAt S0.tab 0)) 3)) (toI (lget (entCs (entAt S0.tab 0)) 4)) (toI (lget (entCs (entAt S0.tab 0)) 5)) (mpD Arr3_intC unitC (entHs (entAt S0.tab 1)) (entGt (entAt S0.tab 1))) (Cod.dec api_PoseC (lget (entCs (entAt S0.tab 2)))) (Cod.dec api_PoseC (lget (entCs (entAt S0.tab 3)))) (mpD api_PoseC shaft_stepC (entHs (entAt S0.tab 4)) (entGt (entAt S0.tab 4))) (entNl (entAt S0.tab 5)) (lst api_PoseC (entN (entAt S0.tab 5)) (entC (entAt S0.tab 5))) (fun q9 => k (.exit 0) (shaft_crate_carry_x4_0 (toI (lget (entCs (entAt S0.tab 0)) 0)) (toI (lget (entCs (entAt S0.tab 0)) 1)) (toI (lget (entCs (entAt S0.tab 0)) 2)) (toI (lget (entCs (entAt S0.tab 0)) 3)) (toI (lget (entCs (entAt S0.tab 0)) 4)) (toI (lget (entCs (entAt S0.tab 0)) 5)) (mpD Arr3_intC unitC (entHs (entAt S0.tab 1)) (entGt (entAt S0.tab 1))) (Cod.dec api_PoseC (lget (entCs (entAt S0.tab 2)))) (Cod.dec api_PoseC (lget (entCs (entAt S0.tab 3)))) q9))
def shaft_crate_carry_lp {R : Type} (N : Nat) : Lp R := fun body S k => bif (Go.Sx.keyOf body).getD 0 == 4 then (shaft_crate_carry_L4.head.raw 2 S (fun S0 => shaft_crate_carry_d4 N S0 k)) else bif (Go.Sx.keyOf body).getD 0 == 7 then (shaft_crate_carry_L7.head.raw 2 S (fun S0 => shaft_crate_carry_d7 N S0 k)) else bif (Go.Sx.keyOf body).getD 0 == 20 then (shaft_crate_carry_L20.head.raw 2 S (fun S0 => shaft_crate_carry_d20 N S0 k)) else Option.none
theorem shaft_crate_carry_l4_eq {R : Type} (N : Nat) (k : Exit → St → Option R) (n : Nat) : ∀ (v0 : Int) (v1 : Int) (v2 : Int) (v3 : Int) (v4 : Int) (v5 : Int) (v6 : Int) (v7 : Mp Arr3_int Unit) (v8 : api_Pose) (v9 : api_Pose) (v10 : Mp api_Pose shaft_step) (v11 : Bool) (v12 : Arr api_Pose), loopM E.Θ (slices_Reverse___int_int__cal N) (shaft_crate_carry_lp N) (noJn) 2 shaft_crate_carry_L4 (bodyAt E 47 4) n (shaft_crate_carry_h4 v0 v1 v2 v3 v4 v5 v6 v7 v8 v9 v10 v11 v12) k = shaft_crate_carry_l4 N n v0 v1 v2 v3 v4 v5 v6 v7 v8 v9 v10 v11 v12 (fun q9 => k (.exit 0) (shaft_crate_carry_x4_0 v1 v2 v3 v4 v5 v6 v7 v8 v9 q9)) := by
  induction n with
  | zero => intro v0 v1 v2 v3 v4 v5 v6 v7 v8 v9 v10 v11 v12; rfl
  | succ n ih =>
    intro v0 v1 v2 v3 v4 v5 v6 v7 v8 v9 v10 v11 v12
    refine Eq.trans (b := shaft_crate_carry_b4 N (fun v0 v1 v2 v3 v4 v5 v6 v7 v8 v9 v10 v11 v12 => loopM E.Θ (slices_Reverse___int_int__cal N) (shaft_crate_carry_lp N) (noJn) 2 shaft_crate_carry_L4 (bodyAt E 47 4) n (shaft_crate_carry_h4 v0 v1 v2 v3 v4 v5 v6 v7 v8 v9 v10 v11 v12) k) v0 v1 v2 v3 v4 v5 v6 v7 v8 v9 v10 v11 v12 (fun q9 => k (.exit 0) (shaft_crate_carry_x4_0 v1 v2 v3 v4 v5 v6 v7 v8 v9 q9))) (by kernel_rfl) ?_
    have h : (fun (v0 : Int) (v1 : Int) (v2 : Int) (v3 : Int) (v4 : Int) (v5 : Int) (v6 : Int) (v7 : Mp Arr3_int Unit) (v8 : api_Pose) (v9 : api_Pose) (v10 : Mp api_Pose shaft_step) (v11 : Bool) (v12 : Arr api_Pose) => loopM E.Θ (slices_Reverse___int_int__cal N) (shaft_crate_carry_lp N) (noJn) 2 shaft_crate_carry_L4 (bodyAt E 47 4) n (shaft_crate_carry_h4 v0 v1 v2 v3 v4 v5 v6 v7 v8 v9 v10 v11 v12) k) = (fun (v0 : Int) (v1 : Int) (v2 : Int) (v3 : Int) (v4 : Int) (v5 : Int) (v6 : Int) (v7 : Mp Arr3_int Unit) (v8 : api_Pose) (v9 : api_Pose) (v10 : Mp api_Pose shaft_step) (v11 : Bool) (v12 : Arr api_Pose) => shaft_crate_carry_l4 N n v0 v1 v2 v3 v4 v5 v6 v7 v8 v9 v10 v11 v12 (fun q9 => k (.exit 0) (shaft_crate_carry_x4_0 v1 v2 v3 v4 v5 v6 v7 v8 v9 q9))) := funext fun v0 => funext fun v1 => funext fun v2 => funext fun v3 => funext fun v4 => funext fun v5 => funext fun v6 => funext fun v7 => funext fun v8 => funext fun v9 => funext fun v10 => funext fun v11 => funext fun v12 => ih v0 v1 v2 v3 v4 v5 v6 v7 v8 v9 v10 v11 v12
    rw [h]
    rfl
theorem shaft_crate_carry_l7_eq {R : Type} (N : Nat) (k : Exit → St → Option R) (n : Nat) : ∀ (v0 : Int) (v1 : Int) (v2 : Int) (v3 : Int) (v4 : Int) (v5 : Int) (v6 : Int) (v7 : Int) (v8 : Mp Arr3_int Unit) (v9 : api_Pose) (v10 : api_Pose) (v11 : Mp api_Pose shaft_step) (v12 : Bool) (v13 : Arr api_Pose), loopM E.Θ (slices_Reverse___int_int__cal N) (shaft_crate_carry_lp N) (noJn) 2 shaft_crate_carry_L7 (bodyAt E 47 7) n (shaft_crate_carry_h7 v0 v1 v2 v3 v4 v5 v6 v7 v8 v9 v10 v11 v12 v13) k = shaft_crate_carry_l7 N n v0 v1 v2 v3 v4 v5 v6 v7 v8 v9 v10 v11 v12 v13 (fun q10 q11 q12 => k (.exit 2) (shaft_crate_carry_x7_2 v0 v2 v3 v4 v5 v6 v7 v8 v9 v10 q10 q11 q12)) := by
  induction n with
  | zero => intro v0 v1 v2 v3 v4 v5 v6 v7 v8 v9 v10 v11 v12 v13; rfl
  | succ n ih =>
    intro v0 v1 v2 v3 v4 v5 v6 v7 v8 v9 v10 v11 v12 v13
    refine Eq.trans (b := shaft_crate_carry_b7 N (fun v0 v1 v2 v3 v4 v5 v6 v7 v8 v9 v10 v11 v12 v13 => loopM E.Θ (slices_Reverse___int_int__cal N) (shaft_crate_carry_lp N) (noJn) 2 shaft_crate_carry_L7 (bodyAt E 47 7) n (shaft_crate_carry_h7 v0 v1 v2 v3 v4 v5 v6 v7 v8 v9 v10 v11 v12 v13) k) v0 v1 v2 v3 v4 v5 v6 v7 v8 v9 v10 v11 v12 v13 (fun q10 q11 q12 => k (.exit 2) (shaft_crate_carry_x7_2 v0 v2 v3 v4 v5 v6 v7 v8 v9 v10 q10 q11 q12))) (by kernel_rfl) ?_
    have h : (fun (v0 : Int) (v1 : Int) (v2 : Int) (v3 : Int) (v4 : Int) (v5 : Int) (v6 : Int) (v7 : Int) (v8 : Mp Arr3_int Unit) (v9 : api_Pose) (v10 : api_Pose) (v11 : Mp api_Pose shaft_step) (v12 : Bool) (v13 : Arr api_Pose) => loopM E.Θ (slices_Reverse___int_int__cal N) (shaft_crate_carry_lp N) (noJn) 2 shaft_crate_carry_L7 (bodyAt E 47 7) n (shaft_crate_carry_h7 v0 v1 v2 v3 v4 v5 v6 v7 v8 v9 v10 v11 v12 v13) k) = (fun (v0 : Int) (v1 : Int) (v2 : Int) (v3 : Int) (v4 : Int) (v5 : Int) (v6 : Int) (v7 : Int) (v8 : Mp Arr3_int Unit) (v9 : api_Pose) (v10 : api_Pose) (v11 : Mp api_Pose shaft_step) (v12 : Bool) (v13 : Arr api_Pose) => shaft_crate_carry_l7 N n v0 v1 v2 v3 v4 v5 v6 v7 v8 v9 v10 v11 v12 v13 (fun q10 q11 q12 => k (.exit 2) (shaft_crate_carry_x7_2 v0 v2 v3 v4 v5 v6 v7 v8 v9 v10 q10 q11 q12))) := funext fun v0 => funext fun v1 => funext fun v2 => funext fun v3 => funext fun v4 => funext fun v5 => funext fun v6 => funext fun v7 => funext fun v8 => funext fun v9 => funext fun v10 => funext fun v11 => funext fun v12 => funext fun v13 => ih v0 v1 v2 v3 v4 v5 v6 v7 v8 v9 v10 v11 v12 v13
    rw [h]
    rfl
theorem shaft_crate_carry_l20_eq {R : Type} (N : Nat) (k : Exit → St → Option R) (n : Nat) : ∀ (v0 : Int) (v1 : Int) (v2 : Int) (v3 : Int) (v4 : Int) (v5 : Int) (v6 : Mp Arr3_int Unit) (v7 : api_Pose) (v8 : Mp api_Pose shaft_step) (v9 : Bool) (v10 : Arr Int) (v11 : api_Pose), loopM E.Θ (slices_Reverse___int_int__cal N) (shaft_crate_carry_lp N) (noJn) 2 shaft_crate_carry_L20 (bodyAt E 47 20) n (shaft_crate_carry_h20 v0 v1 v2 v3 v4 v5 v6 v7 v8 v9 v10 v11) k = shaft_crate_carry_l20 N n v0 v1 v2 v3 v4 v5 v6 v7 v8 v9 v10 v11 (fun q7 q8 => k (.exit 4) (shaft_crate_carry_x20_4 v0 v1 v2 v3 v4 v5 v6 q7 q8)) := by
  induction n with
  | zero => intro v0 v1 v2 v3 v4 v5 v6 v7 v8 v9 v10 v11; rfl
  | succ n ih =>
    intro v0 v1 v2 v3 v4 v5 v6 v7 v8 v9 v10 v11
    refine Eq.trans (b := shaft_crate_carry_b20 N (fun v0 v1 v2 v3 v4 v5 v6 v7 v8 v9 v10 v11 => loopM E.Θ (slices_Reverse___int_int__cal N) (shaft_crate_carry_lp N) (noJn) 2 shaft_crate_carry_L20 (bodyAt E 47 20) n (shaft_crate_carry_h20 v0 v1 v2 v3 v4 v5 v6 v7 v8 v9 v10 v11) k) v0 v1 v2 v3 v4 v5 v6 v7 v8 v9 v10 v11 (fun q7 q8 => k (.exit 4) (shaft_crate_carry_x20_4 v0 v1 v2 v3 v4 v5 v6 q7 q8))) (by kernel_rfl) ?_
    have h : (fun (v0 : Int) (v1 : Int) (v2 : Int) (v3 : Int) (v4 : Int) (v5 : Int) (v6 : Mp Arr3_int Unit) (v7 : api_Pose) (v8 : Mp api_Pose shaft_step) (v9 : Bool) (v10 : Arr Int) (v11 : api_Pose) => loopM E.Θ (slices_Reverse___int_int__cal N) (shaft_crate_carry_lp N) (noJn) 2 shaft_crate_carry_L20 (bodyAt E 47 20) n (shaft_crate_carry_h20 v0 v1 v2 v3 v4 v5 v6 v7 v8 v9 v10 v11) k) = (fun (v0 : Int) (v1 : Int) (v2 : Int) (v3 : Int) (v4 : Int) (v5 : Int) (v6 : Mp Arr3_int Unit) (v7 : api_Pose) (v8 : Mp api_Pose shaft_step) (v9 : Bool) (v10 : Arr Int) (v11 : api_Pose) => shaft_crate_carry_l20 N n v0 v1 v2 v3 v4 v5 v6 v7 v8 v9 v10 v11 (fun q7 q8 => k (.exit 4) (shaft_crate_carry_x20_4 v0 v1 v2 v3 v4 v5 v6 q7 q8))) := funext fun v0 => funext fun v1 => funext fun v2 => funext fun v3 => funext fun v4 => funext fun v5 => funext fun v6 => funext fun v7 => funext fun v8 => funext fun v9 => funext fun v10 => funext fun v11 => ih v0 v1 v2 v3 v4 v5 v6 v7 v8 v9 v10 v11
    rw [h]
    rfl
theorem shaft_crate_carry_k20 {R : Type} (N : Nat) : LpKey (R := R) E 47 2 (shaft_crate_carry_lp N) 20 :=
  lpKey_of hE (slices_Reverse___int_int__cal_ok N) (lp := shaft_crate_carry_lp N) (jn := noJn) shaft_crate_carry_L20_ok [] kNil (by kernel_rfl) [] jNil (by kernel_rfl) N fun S k =>
    Eq.trans (b := shaft_crate_carry_L20.head.raw 2 S (fun S0 => shaft_crate_carry_d20 N S0 k)) (by kernel_rfl) (congrArg (shaft_crate_carry_L20.head.raw 2 S) (funext fun S0 => Eq.trans (shaft_crate_carry_l20_eq N k N (toI (lget (entCs (entAt S0.tab 0)) 0)) (toI (lget (entCs (entAt S0.tab 0)) 1)) (toI (lget (entCs (entAt S0.tab 0)) 2)) (toI (lget (entCs (entAt S0.tab 0)) 3)) (toI (lget (entCs (entAt S0.tab 0)) 4)) (toI (lget (entCs (entAt S0.tab 0)) 5)) (mpD Arr3_intC unitC (entHs (entAt S0.tab 1)) (entGt (entAt S0.tab 1))) (Cod.dec api_PoseC (lget (entCs (entAt S0.tab 2)))) (mpD api_PoseC shaft_stepC (entHs (entAt S0.tab 3)) (entGt (entAt S0.tab 3))) (entNl (entAt S0.tab 4)) (lst intC (entN (entAt S0.tab 4)) (entC (entAt S0.tab 4))) (Cod.dec api_PoseC (lget (entCs (entAt S0.tab 5))))).symm (by kernel_rfl)))
theorem shaft_crate_carry_k7 {R : Type} (N : Nat) : LpKey (R := R) E 47 2 (shaft_crate_carry_lp N) 7 :=
  lpKey_of hE (slices_Reverse___int_int__cal_ok N) (lp := shaft_crate_carry_lp N) (jn := noJn) shaft_crate_carry_L7_ok [] kNil (by kernel_rfl) [] jNil (by kernel_rfl) N fun S k =>
    Eq.trans (b := shaft_crate_carry_L7.head.raw 2 S (fun S0 => shaft_crate_carry_d7 N S0 k)) (by kernel_rfl) (congrArg (shaft_crate_carry_L7.head.raw 2 S) (funext fun S0 => Eq.trans (shaft_crate_carry_l7_eq N k N (toI (lget S0.tmps 10)) (toI (lget S0.tmps 41)) (toI (lget (entCs (entAt S0.tab 0)) 0)) (toI (lget (entCs (entAt S0.tab 0)) 1)) (toI (lget (entCs (entAt S0.tab 0)) 2)) (toI (lget (entCs (entAt S0.tab 0)) 3)) (toI (lget (entCs (entAt S0.tab 0)) 4)) (toI (lget (entCs (entAt S0.tab 0)) 5)) (mpD Arr3_intC unitC (entHs (entAt S0.tab 1)) (entGt (entAt S0.tab 1))) (Cod.dec api_PoseC (lget (entCs (entAt S0.tab 2)))) (Cod.dec api_PoseC (lget (entCs (entAt S0.tab 3)))) (mpD api_PoseC shaft_stepC (entHs (entAt S0.tab 4)) (entGt (entAt S0.tab 4))) (entNl (entAt S0.tab 5)) (lst api_PoseC (entN (entAt S0.tab 5)) (entC (entAt S0.tab 5)))).symm (by kernel_rfl)))
theorem shaft_crate_carry_k4 {R : Type} (N : Nat) : LpKey (R := R) E 47 2 (shaft_crate_carry_lp N) 4 :=
  lpKey_of hE (slices_Reverse___int_int__cal_ok N) (lp := shaft_crate_carry_lp N) (jn := noJn) shaft_crate_carry_L4_ok [7] (kCons (shaft_crate_carry_k7 N) kNil) (by kernel_rfl) [] jNil (by kernel_rfl) N fun S k =>
    Eq.trans (b := shaft_crate_carry_L4.head.raw 2 S (fun S0 => shaft_crate_carry_d4 N S0 k)) (by kernel_rfl) (congrArg (shaft_crate_carry_L4.head.raw 2 S) (funext fun S0 => Eq.trans (shaft_crate_carry_l4_eq N k N (toI (lget S0.tmps 10)) (toI (lget (entCs (entAt S0.tab 0)) 0)) (toI (lget (entCs (entAt S0.tab 0)) 1)) (toI (lget (entCs (entAt S0.tab 0)) 2)) (toI (lget (entCs (entAt S0.tab 0)) 3)) (toI (lget (entCs (entAt S0.tab 0)) 4)) (toI (lget (entCs (entAt S0.tab 0)) 5)) (mpD Arr3_intC unitC (entHs (entAt S0.tab 1)) (entGt (entAt S0.tab 1))) (Cod.dec api_PoseC (lget (entCs (entAt S0.tab 2)))) (Cod.dec api_PoseC (lget (entCs (entAt S0.tab 3)))) (mpD api_PoseC shaft_stepC (entHs (entAt S0.tab 4)) (entGt (entAt S0.tab 4))) (entNl (entAt S0.tab 5)) (lst api_PoseC (entN (entAt S0.tab 5)) (entC (entAt S0.tab 5)))).symm (by kernel_rfl)))
noncomputable def shaft_crate_carry_go {R : Type} (N : Nat) (args : List SV) (T : Tab) (kf : SV × Tab → Option R) : Option R :=
  shaft_crate_carry N (Cod.dec api_PoseC (lget (toCs (lget args 1)))) (Cod.dec api_PoseC (lget (toCs (lget args 2)))) (toI (lget (entCs (entAt T 0)) 0)) (toI (lget (entCs (entAt T 0)) 1)) (toI (lget (entCs (entAt T 0)) 2)) (toI (lget (entCs (entAt T 0)) 3)) (toI (lget (entCs (entAt T 0)) 4)) (toI (lget (entCs (entAt T 0)) 5)) (mpD Arr3_intC unitC (entHs (entAt T 1)) (entGt (entAt T 1))) (fun q0 q8 q9 => kf (lget [.tup [.row 2, .bool q0]] 0, [(0, .blk [.int .i64 (toI (lget (entCs (entAt T 0)) 0)), .int .i64 (toI (lget (entCs (entAt T 0)) 1)), .int .i64 (toI (lget (entCs (entAt T 0)) 2)), .int .i64 (toI (lget (entCs (entAt T 0)) 3)), .int .i64 (toI (lget (entCs (entAt T 0)) 4)), .int .i64 (toI (lget (entCs (entAt T 0)) 5)), .row 1]), (1, mpE true true Arr3_intC unitC (mpD Arr3_intC unitC (entHs (entAt T 1)) (entGt (entAt T 1)))), (2, rowE intC q8 q9)]))
noncomputable def shaft_crate_carry_cal {R : Type} (N : Nat) : Cal R := callM (slices_Reverse___int_int__cal N) 47 2 shaft_crate_carry_sp (shaft_crate_carry_go N)
theorem shaft_crate_carry_cal_ok {R : Type} (N : Nat) : CalOk E.P (shaft_crate_carry_cal (R := R) N) :=
  callM_ok hE (slices_Reverse___int_int__cal_ok N) (lp := shaft_crate_carry_lp N) (jn := noJn) (keys := [4, 7, 20]) (kCons (shaft_crate_carry_k4 N) (kCons (shaft_crate_carry_k7 N) (kCons (shaft_crate_carry_k20 N) kNil))) (by kernel_rfl) (js := []) jNil (by kernel_rfl) shaft_crate_carry_sp_ok shaft_crate_carry_rs_ok (fun args T kf => Eq.trans (shaft_crate_carry_def N (Cod.dec api_PoseC (lget (toCs (lget args 1)))) (Cod.dec api_PoseC (lget (toCs (lget args 2)))) (toI (lget (entCs (entAt T 0)) 0)) (toI (lget (entCs (entAt T 0)) 1)) (toI (lget (entCs (entAt T 0)) 2)) (toI (lget (entCs (entAt T 0)) 3)) (toI (lget (entCs (entAt T 0)) 4)) (toI (lget (entCs (entAt T 0)) 5)) (mpD Arr3_intC unitC (entHs (entAt T 1)) (entGt (entAt T 1))) (fun q0 q8 q9 => kf (lget [.tup [.row 2, .bool q0]] 0, [(0, .blk [.int .i64 (toI (lget (entCs (entAt T 0)) 0)), .int .i64 (toI (lget (entCs (entAt T 0)) 1)), .int .i64 (toI (lget (entCs (entAt T 0)) 2)), .int .i64 (toI (lget (entCs (entAt T 0)) 3)), .int .i64 (toI (lget (entCs (entAt T 0)) 4)), .int .i64 (toI (lget (entCs (entAt T 0)) 5)), .row 1]), (1, mpE true true Arr3_intC unitC (mpD Arr3_intC unitC (entHs (entAt T 1)) (entGt (entAt T 1)))), (2, rowE intC q8 q9)]))) (by kernel_rfl : shaft_crate_carry_run N args T kf = fnM E (slices_Reverse___int_int__cal N) (shaft_crate_carry_lp N) (noJn) 47 (shaft_crate_carry_sp.vs args) (shaft_crate_carry_sp.tab T) 2 (resK shaft_crate_carry_rs kf)))
def shaft_Carry_m {R : Type} (N : Nat) (a369 : api_Shaft) (a370 : Arr3_int) (a371 : api_Pose) (a372 : api_Pose) (k : Int → Bool → Arr Int → Option R) : Option R :=
  shaft_check N a369 a370 (fun r373 =>
  bif r373 != (0 : Int) then
   k r373 true (lst intC (0 : Nat) (zeroC [SV.int IntKind.i64 (0 : Int)]))
  else
   shaft_begin N a369 a370 (fun r374 r375 r376 r377 r378 r379 r380 =>
   shaft_crate_fits N a371 r374 r375 r376 r377 r378 r379 r380 (fun r381 =>
   bif !r381 then
    k (1 : Int) true (lst intC (0 : Nat) (zeroC [SV.int IntKind.i64 (0 : Int)]))
   else
    shaft_crate_fits N a372 r374 r375 r376 r377 r378 r379 r380 (fun r382 =>
    bif !r382 then
     k (1 : Int) true (lst intC (0 : Nat) (zeroC [SV.int IntKind.i64 (0 : Int)]))
    else
     shaft_crate_carry N a371 a372 r374 r375 r376 r377 r378 r379 r380 (fun r447 r448 r449 =>
     bif !r447 then
      k (3 : Int) true (lst intC (0 : Nat) (zeroC [SV.int IntKind.i64 (0 : Int)]))
     else
      k (0 : Int) r448 r449)))))
noncomputable def shaft_Carry {R : Type} : Nat → api_Shaft → Arr3_int → api_Pose → api_Pose → (Int → Bool → Arr Int → Option R) → Option R := lock (@shaft_Carry_m R)
theorem shaft_Carry_def {R : Type} (N : Nat) (a369 : api_Shaft) (a370 : Arr3_int) (a371 : api_Pose) (a372 : api_Pose) (k : Int → Bool → Arr Int → Option R) : shaft_Carry N a369 a370 a371 a372 k = shaft_Carry_m N a369 a370 a371 a372 k := by unfold shaft_Carry; rw [lock_eq]
def shaft_Carry_sp : Sp := ⟨[rAgg api_ShaftC, rAgg Arr3_intC, rAgg api_PoseC, rAgg api_PoseC], []⟩
theorem shaft_Carry_sp_ok : shaft_Carry_sp.Ok := ⟨(allCons (rAgg_ok api_ShaftC_ok api_ShaftC_len) (allCons (rAgg_ok Arr3_intC_ok Arr3_intC_len) (allCons (rAgg_ok api_PoseC_ok api_PoseC_len) (allCons (rAgg_ok api_PoseC_ok api_PoseC_len) allNil)))), eNil⟩
def shaft_Carry_rs : Sp := ⟨[rTup [rRow 0, rInt .i64]], [(0, eRow intC)]⟩
theorem shaft_Carry_rs_ok : shaft_Carry_rs.Ok := ⟨(allCons (rTup_ok (allCons (rRow_ok 0) (allCons (rInt_ok .i64) allNil))) allNil), (eCons (eRow_ok intC_ok) eNil)⟩
def shaft_Carry_run {R : Type} (N : Nat) (args : List SV) (T : Tab) (kf : SV × Tab → Option R) : Option R :=
  shaft_Carry_m N (Cod.dec api_ShaftC (lget (toCs (lget args 0)))) (Cod.dec Arr3_intC (lget (toCs (lget args 1)))) (Cod.dec api_PoseC (lget (toCs (lget args 2)))) (Cod.dec api_PoseC (lget (toCs (lget args 3)))) (fun q0 q1 q2 => kf (lget [.tup [.row 0, .int .i64 q0]] 0, [(0, rowE intC q1 q2)]))
def shaft_Carry_lp {R : Type} (N : Nat) : Lp R := fun body S k => Option.none
noncomputable def shaft_Carry_go {R : Type} (N : Nat) (args : List SV) (T : Tab) (kf : SV × Tab → Option R) : Option R :=
  shaft_Carry N (Cod.dec api_ShaftC (lget (toCs (lget args 0)))) (Cod.dec Arr3_intC (lget (toCs (lget args 1)))) (Cod.dec api_PoseC (lget (toCs (lget args 2)))) (Cod.dec api_PoseC (lget (toCs (lget args 3)))) (fun q0 q1 q2 => kf (lget [.tup [.row 0, .int .i64 q0]] 0, [(0, rowE intC q1 q2)]))
noncomputable def shaft_Carry_cal {R : Type} (N : Nat) : Cal R := callM (shaft_crate_carry_cal N) 17 0 shaft_Carry_sp (shaft_Carry_go N)
theorem shaft_Carry_cal_ok {R : Type} (N : Nat) : CalOk E.P (shaft_Carry_cal (R := R) N) :=
  callM_ok hE (shaft_crate_carry_cal_ok N) (lp := shaft_Carry_lp N) (jn := noJn) (keys := []) kNil (by kernel_rfl) (js := []) jNil (by kernel_rfl) shaft_Carry_sp_ok shaft_Carry_rs_ok (fun args T kf => Eq.trans (shaft_Carry_def N (Cod.dec api_ShaftC (lget (toCs (lget args 0)))) (Cod.dec Arr3_intC (lget (toCs (lget args 1)))) (Cod.dec api_PoseC (lget (toCs (lget args 2)))) (Cod.dec api_PoseC (lget (toCs (lget args 3)))) (fun q0 q1 q2 => kf (lget [.tup [.row 0, .int .i64 q0]] 0, [(0, rowE intC q1 q2)]))) (by kernel_rfl : shaft_Carry_run N args T kf = fnM E (shaft_crate_carry_cal N) (shaft_Carry_lp N) (noJn) 17 (shaft_Carry_sp.vs args) (shaft_Carry_sp.tab T) 0 (resK shaft_Carry_rs kf)))
def newellaw09_sameInts_L4 : LoopSp := ⟨⟨[0, 1, 5], ⟨((rSl intC) :: (rSl intC) :: (dr 3 ((rInt .i64) :: (dr 20 [])))), []⟩, 0⟩, [(Option.none, ⟨[4], ⟨(dr 4 ((rBool) :: (dr 21 []))), []⟩, 0⟩), (some 0, ⟨[], ⟨(dr 26 []), []⟩, 0⟩)]⟩
theorem newellaw09_sameInts_L4_ok : newellaw09_sameInts_L4.Ok := ⟨⟨(allCons (rSl_ok intC_ok) (allCons (rSl_ok intC_ok) (drCons 3 (allCons (rInt_ok .i64) (drCons 20 allNil))))), eNil⟩, (xCons ⟨(drCons 4 (allCons rBool_ok (drCons 21 allNil))), eNil⟩ (xCons ⟨(drCons 26 allNil), eNil⟩ xNil))⟩
def newellaw09_sameInts_h4 (v503 : Arr Int) (v504 : Arr Int) (v505 : Int) : St := ⟨((slC intC v503) :: (slC intC v504) :: (un 3 ((.int .i64 v505) :: (un 20 [])))), [], 0⟩
def newellaw09_sameInts_x4_r (q0 : Bool) : St := ⟨(un 4 ((.bool q0) :: (un 21 []))), [], 0⟩
def newellaw09_sameInts_x4_0  : St := ⟨(un 26 []), [], 0⟩
def newellaw09_sameInts_b4 {R : Type} (N : Nat) (rc : Arr Int → Arr Int → Int → Option R) (v503 : Arr Int) (v504 : Arr Int) (v505 : Int) (kr : Bool → Option R) (k0 : Unit → Option R) : Option R :=
  bif decide (v505 < (↑(Arr.n v503) : Int)) then
   bif decide ((0 : Int) ≤ v505) && decide (v505 < (↑(Arr.n v503) : Int)) then
    bif decide ((0 : Int) ≤ v505) && decide (v505 < (↑(Arr.n v504) : Int)) then
     bif Arr.f v503 (Int.toNat v505) != Arr.f v504 (Int.toNat v505) then
      kr false
     else
      rc v503 v504 (w64 (v505 + (1 : Int)))
    else
     Option.none
   else
    Option.none
  else
   k0 ()
def newellaw09_sameInts_l4 {R : Type} (N : Nat) : Nat → Arr Int → Arr Int → Int → (Bool → Option R) → (Unit → Option R) → Option R
  | 0, _, _, _, _, _ => Option.none
  | n + 1, v503, v504, v505, kr, k0 => newellaw09_sameInts_b4 N (fun v503 v504 v505 => newellaw09_sameInts_l4 N n v503 v504 v505 kr k0) v503 v504 v505 kr k0
def newellaw09_sameInts_m {R : Type} (N : Nat) (a501 : Arr Int) (a502 : Arr Int) (k : Bool → Option R) : Option R :=
  bif (↑(Arr.n a501) : Int) != (↑(Arr.n a502) : Int) then
   k false
  else
   newellaw09_sameInts_l4 N N a501 a502 (0 : Int) (fun r506 =>
    k r506) (fun (_ : Unit) =>
    k true)
noncomputable def newellaw09_sameInts {R : Type} : Nat → Arr Int → Arr Int → (Bool → Option R) → Option R := lock (@newellaw09_sameInts_m R)
theorem newellaw09_sameInts_def {R : Type} (N : Nat) (a501 : Arr Int) (a502 : Arr Int) (k : Bool → Option R) : newellaw09_sameInts N a501 a502 k = newellaw09_sameInts_m N a501 a502 k := by unfold newellaw09_sameInts; rw [lock_eq]
def newellaw09_sameInts_sp : Sp := ⟨[rSl intC, rSl intC], []⟩
theorem newellaw09_sameInts_sp_ok : newellaw09_sameInts_sp.Ok := ⟨(allCons (rSl_ok intC_ok) (allCons (rSl_ok intC_ok) allNil)), eNil⟩
def newellaw09_sameInts_rs : Sp := ⟨[rBool], []⟩
theorem newellaw09_sameInts_rs_ok : newellaw09_sameInts_rs.Ok := ⟨(allCons rBool_ok allNil), eNil⟩
def newellaw09_sameInts_run {R : Type} (N : Nat) (args : List SV) (T : Tab) (kf : SV × Tab → Option R) : Option R :=
  newellaw09_sameInts_m N (lstC intC (lget args 0)) (lstC intC (lget args 1)) (fun q0 => kf (lget [.bool q0] 0, []))
def newellaw09_sameInts_d4 {R : Type} (N : Nat) (S0 : St) (k : Exit → St → Option R) : Option R :=
  newellaw09_sameInts_l4 N N (lstC intC (lget S0.tmps 0)) (lstC intC (lget S0.tmps 1)) (toI (lget S0.tmps 5)) (fun q0 => k .ret (newellaw09_sameInts_x4_r q0)) (fun (_ : Unit) => k (.exit 0) (newellaw09_sameInts_x4_0 ))
def newellaw09_sameInts_lp {R : Type} (N : Nat) : Lp R := fun body S k => bif (Go.Sx.keyOf body).getD 0 == 4 then (newellaw09_sameInts_L4.head.raw 0 S (fun S0 => newellaw09_sameInts_d4 N S0 k)) else Option.none
theorem newellaw09_sameInts_l4_eq {R : Type} (N : Nat) (k : Exit → St → Option R) (n : Nat) : ∀ (v0 : Arr Int) (v1 : Arr Int) (v2 : Int), loopM E.Θ (shaft_Carry_cal N) (newellaw09_sameInts_lp N) (noJn) 0 newellaw09_sameInts_L4 (bodyAt E 19 4) n (newellaw09_sameInts_h4 v0 v1 v2) k = newellaw09_sameInts_l4 N n v0 v1 v2 (fun q0 => k .ret (newellaw09_sameInts_x4_r q0)) (fun (_ : Unit) => k (.exit 0) (newellaw09_sameInts_x4_0 )) := by
  induction n with
  | zero => intro v0 v1 v2; rfl
  | succ n ih =>
    intro v0 v1 v2
    refine Eq.trans (b := newellaw09_sameInts_b4 N (fun v0 v1 v2 => loopM E.Θ (shaft_Carry_cal N) (newellaw09_sameInts_lp N) (noJn) 0 newellaw09_sameInts_L4 (bodyAt E 19 4) n (newellaw09_sameInts_h4 v0 v1 v2) k) v0 v1 v2 (fun q0 => k .ret (newellaw09_sameInts_x4_r q0)) (fun (_ : Unit) => k (.exit 0) (newellaw09_sameInts_x4_0 ))) (by kernel_rfl) ?_
    have h : (fun (v0 : Arr Int) (v1 : Arr Int) (v2 : Int) => loopM E.Θ (shaft_Carry_cal N) (newellaw09_sameInts_lp N) (noJn) 0 newellaw09_sameInts_L4 (bodyAt E 19 4) n (newellaw09_sameInts_h4 v0 v1 v2) k) = (fun (v0 : Arr Int) (v1 : Arr Int) (v2 : Int) => newellaw09_sameInts_l4 N n v0 v1 v2 (fun q0 => k .ret (newellaw09_sameInts_x4_r q0)) (fun (_ : Unit) => k (.exit 0) (newellaw09_sameInts_x4_0 ))) := funext fun v0 => funext fun v1 => funext fun v2 => ih v0 v1 v2
    rw [h]
    rfl
theorem newellaw09_sameInts_k4 {R : Type} (N : Nat) : LpKey (R := R) E 19 0 (newellaw09_sameInts_lp N) 4 :=
  lpKey_of hE (shaft_Carry_cal_ok N) (lp := newellaw09_sameInts_lp N) (jn := noJn) newellaw09_sameInts_L4_ok [] kNil (by kernel_rfl) [] jNil (by kernel_rfl) N fun S k =>
    Eq.trans (b := newellaw09_sameInts_L4.head.raw 0 S (fun S0 => newellaw09_sameInts_d4 N S0 k)) (by kernel_rfl) (congrArg (newellaw09_sameInts_L4.head.raw 0 S) (funext fun S0 => Eq.trans (newellaw09_sameInts_l4_eq N k N (lstC intC (lget S0.tmps 0)) (lstC intC (lget S0.tmps 1)) (toI (lget S0.tmps 5))).symm (by kernel_rfl)))
noncomputable def newellaw09_sameInts_go {R : Type} (N : Nat) (args : List SV) (T : Tab) (kf : SV × Tab → Option R) : Option R :=
  newellaw09_sameInts N (lstC intC (lget args 0)) (lstC intC (lget args 1)) (fun q0 => kf (lget [.bool q0] 0, []))
noncomputable def newellaw09_sameInts_cal {R : Type} (N : Nat) : Cal R := callM (shaft_Carry_cal N) 19 0 newellaw09_sameInts_sp (newellaw09_sameInts_go N)
theorem newellaw09_sameInts_cal_ok {R : Type} (N : Nat) : CalOk E.P (newellaw09_sameInts_cal (R := R) N) :=
  callM_ok hE (shaft_Carry_cal_ok N) (lp := newellaw09_sameInts_lp N) (jn := noJn) (keys := [4]) (kCons (newellaw09_sameInts_k4 N) kNil) (by kernel_rfl) (js := []) jNil (by kernel_rfl) newellaw09_sameInts_sp_ok newellaw09_sameInts_rs_ok (fun args T kf => Eq.trans (newellaw09_sameInts_def N (lstC intC (lget args 0)) (lstC intC (lget args 1)) (fun q0 => kf (lget [.bool q0] 0, []))) (by kernel_rfl : newellaw09_sameInts_run N args T kf = fnM E (shaft_Carry_cal N) (newellaw09_sameInts_lp N) (noJn) 19 (newellaw09_sameInts_sp.vs args) (newellaw09_sameInts_sp.tab T) 0 (resK newellaw09_sameInts_rs kf)))
def newellaw09_FarWorks_L5 : LoopSp := ⟨⟨[1, 3, 4], ⟨(dr 1 ((rPtr 0 0) :: (dr 1 ((rInt .i64) :: (rInt .i64) :: (dr 47 []))))), [(0, eBlkC api_WorksC)]⟩, 1⟩, [(Option.none, ⟨[2], ⟨(dr 2 ((rBool) :: (dr 49 []))), []⟩, 0⟩), (some 0, ⟨[3], ⟨(dr 3 ((rInt .i64) :: (dr 48 []))), []⟩, 0⟩)]⟩
theorem newellaw09_FarWorks_L5_ok : newellaw09_FarWorks_L5.Ok := ⟨⟨(drCons 1 (allCons (rPtr_ok 0 0) (drCons 1 (allCons (rInt_ok .i64) (allCons (rInt_ok .i64) (drCons 47 allNil)))))), (eCons (eBlkC_ok api_WorksC_ok api_WorksC_len) eNil)⟩, (xCons ⟨(drCons 2 (allCons rBool_ok (drCons 49 allNil))), eNil⟩ (xCons ⟨(drCons 3 (allCons (rInt_ok .i64) (drCons 48 allNil))), eNil⟩ xNil))⟩
def newellaw09_FarWorks_h5 (v509 : Int) (v510 : Int) (v511 : api_Works) : St := ⟨(un 1 ((.ptr 0 0) :: (un 1 ((.int .i64 v509) :: (.int .i64 v510) :: (un 47 []))))), [(0, .blk (Cod.enc api_WorksC v511))], 1⟩
def newellaw09_FarWorks_x5_r (q0 : Bool) : St := ⟨(un 2 ((.bool q0) :: (un 49 []))), [], 0⟩
def newellaw09_FarWorks_x5_0 (q0 : Int) : St := ⟨(un 3 ((.int .i64 q0) :: (un 48 []))), [], 0⟩
def newellaw09_FarWorks_b5 {R : Type} (N : Nat) (rc : Int → Int → api_Works → Option R) (v509 : Int) (v510 : Int) (v511 : api_Works) (kr : Bool → Option R) (k0 : Int → Option R) : Option R :=
  bif decide (v510 < (↑(Arr.n (api_Works.Jobs v511)) : Int)) then
   bif decide ((0 : Int) ≤ v510) && decide (v510 < (↑(Arr.n (api_Works.Jobs v511)) : Int)) then
    bif decide ((↑(Arr.n (api_Job.After (Arr.f (api_Works.Jobs v511) (Int.toNat v510)))) : Int) > (10 : Int)) then
     kr true
    else
     bif decide (api_Works.Until v511 > (0 : Int)) then
      bif decide (api_Works.Until v511 ≤ (24 : Int)) then
       bif decide (v509 ≤ (20000 : Int)) then
        rc (w64 (v509 * api_Works.Until v511)) (w64 (v510 + (1 : Int))) v511
       else
        rc v509 (w64 (v510 + (1 : Int))) v511
      else
       rc v509 (w64 (v510 + (1 : Int))) v511
     else
      rc v509 (w64 (v510 + (1 : Int))) v511
   else
    Option.none
  else
   k0 v509
def newellaw09_FarWorks_l5 {R : Type} (N : Nat) : Nat → Int → Int → api_Works → (Bool → Option R) → (Int → Option R) → Option R
  | 0, _, _, _, _, _ => Option.none
  | n + 1, v509, v510, v511, kr, k0 => newellaw09_FarWorks_b5 N (fun v509 v510 v511 => newellaw09_FarWorks_l5 N n v509 v510 v511 kr k0) v509 v510 v511 kr k0
def newellaw09_FarWorks_m {R : Type} (N : Nat) (a508 : api_Works) (k : Bool → Option R) : Option R :=
  bif decide ((↑(Arr.n (api_Works.Jobs a508)) : Int) > (10 : Int)) then
   k true
  else
   bif decide ((↑(Arr.n (api_Works.Never a508)) : Int) > (30 : Int)) then
    k true
   else
    newellaw09_FarWorks_l5 N N (1 : Int) (0 : Int) a508 (fun r512 =>
     k r512) (fun r513 =>
     bif decide (r513 > (20000 : Int)) then
      k (decide (r513 ≤ (200000 : Int)))
     else
      k false)
noncomputable def newellaw09_FarWorks {R : Type} : Nat → api_Works → (Bool → Option R) → Option R := lock (@newellaw09_FarWorks_m R)
theorem newellaw09_FarWorks_def {R : Type} (N : Nat) (a508 : api_Works) (k : Bool → Option R) : newellaw09_FarWorks N a508 k = newellaw09_FarWorks_m N a508 k := by unfold newellaw09_FarWorks; rw [lock_eq]
def newellaw09_FarWorks_sp : Sp := ⟨[rAgg api_WorksC], []⟩
theorem newellaw09_FarWorks_sp_ok : newellaw09_FarWorks_sp.Ok := ⟨(allCons (rAgg_ok api_WorksC_ok api_WorksC_len) allNil), eNil⟩
def newellaw09_FarWorks_rs : Sp := ⟨[rBool], []⟩
theorem newellaw09_FarWorks_rs_ok : newellaw09_FarWorks_rs.Ok := ⟨(allCons rBool_ok allNil), eNil⟩
def newellaw09_FarWorks_run {R : Type} (N : Nat) (args : List SV) (T : Tab) (kf : SV × Tab → Option R) : Option R :=
  newellaw09_FarWorks_m N (Cod.dec api_WorksC (lget (toCs (lget args 0)))) (fun q0 => kf (lget [.bool q0] 0, []))
def newellaw09_FarWorks_d5 {R : Type} (N : Nat) (S0 : St) (k : Exit → St → Option R) : Option R :=
  newellaw09_FarWorks_l5 N N (toI (lget S0.tmps 3)) (toI (lget S0.tmps 4)) (Cod.dec api_WorksC (lget (entCs (entAt S0.tab 0)))) (fun q0 => k .ret (newellaw09_FarWorks_x5_r q0)) (fun q0 => k (.exit 0) (newellaw09_FarWorks_x5_0 q0))
def newellaw09_FarWorks_lp {R : Type} (N : Nat) : Lp R := fun body S k => bif (Go.Sx.keyOf body).getD 0 == 5 then (newellaw09_FarWorks_L5.head.raw 0 S (fun S0 => newellaw09_FarWorks_d5 N S0 k)) else Option.none
theorem newellaw09_FarWorks_l5_eq {R : Type} (N : Nat) (k : Exit → St → Option R) (n : Nat) : ∀ (v0 : Int) (v1 : Int) (v2 : api_Works), loopM E.Θ (newellaw09_sameInts_cal N) (newellaw09_FarWorks_lp N) (noJn) 0 newellaw09_FarWorks_L5 (bodyAt E 21 5) n (newellaw09_FarWorks_h5 v0 v1 v2) k = newellaw09_FarWorks_l5 N n v0 v1 v2 (fun q0 => k .ret (newellaw09_FarWorks_x5_r q0)) (fun q0 => k (.exit 0) (newellaw09_FarWorks_x5_0 q0)) := by
  induction n with
  | zero => intro v0 v1 v2; rfl
  | succ n ih =>
    intro v0 v1 v2
    refine Eq.trans (b := newellaw09_FarWorks_b5 N (fun v0 v1 v2 => loopM E.Θ (newellaw09_sameInts_cal N) (newellaw09_FarWorks_lp N) (noJn) 0 newellaw09_FarWorks_L5 (bodyAt E 21 5) n (newellaw09_FarWorks_h5 v0 v1 v2) k) v0 v1 v2 (fun q0 => k .ret (newellaw09_FarWorks_x5_r q0)) (fun q0 => k (.exit 0) (newellaw09_FarWorks_x5_0 q0))) (by kernel_rfl) ?_
    have h : (fun (v0 : Int) (v1 : Int) (v2 : api_Works) => loopM E.Θ (newellaw09_sameInts_cal N) (newellaw09_FarWorks_lp N) (noJn) 0 newellaw09_FarWorks_L5 (bodyAt E 21 5) n (newellaw09_FarWorks_h5 v0 v1 v2) k) = (fun (v0 : Int) (v1 : Int) (v2 : api_Works) => newellaw09_FarWorks_l5 N n v0 v1 v2 (fun q0 => k .ret (newellaw09_FarWorks_x5_r q0)) (fun q0 => k (.exit 0) (newellaw09_FarWorks_x5_0 q0))) := funext fun v0 => funext fun v1 => funext fun v2 => ih v0 v1 v2
    rw [h]
    rfl
theorem newellaw09_FarWorks_k5 {R : Type} (N : Nat) : LpKey (R := R) E 21 0 (newellaw09_FarWorks_lp N) 5 :=
  lpKey_of hE (newellaw09_sameInts_cal_ok N) (lp := newellaw09_FarWorks_lp N) (jn := noJn) newellaw09_FarWorks_L5_ok [] kNil (by kernel_rfl) [] jNil (by kernel_rfl) N fun S k =>
    Eq.trans (b := newellaw09_FarWorks_L5.head.raw 0 S (fun S0 => newellaw09_FarWorks_d5 N S0 k)) (by kernel_rfl) (congrArg (newellaw09_FarWorks_L5.head.raw 0 S) (funext fun S0 => Eq.trans (newellaw09_FarWorks_l5_eq N k N (toI (lget S0.tmps 3)) (toI (lget S0.tmps 4)) (Cod.dec api_WorksC (lget (entCs (entAt S0.tab 0))))).symm (by kernel_rfl)))
noncomputable def newellaw09_FarWorks_go {R : Type} (N : Nat) (args : List SV) (T : Tab) (kf : SV × Tab → Option R) : Option R :=
  newellaw09_FarWorks N (Cod.dec api_WorksC (lget (toCs (lget args 0)))) (fun q0 => kf (lget [.bool q0] 0, []))
noncomputable def newellaw09_FarWorks_cal {R : Type} (N : Nat) : Cal R := callM (newellaw09_sameInts_cal N) 21 0 newellaw09_FarWorks_sp (newellaw09_FarWorks_go N)
theorem newellaw09_FarWorks_cal_ok {R : Type} (N : Nat) : CalOk E.P (newellaw09_FarWorks_cal (R := R) N) :=
  callM_ok hE (newellaw09_sameInts_cal_ok N) (lp := newellaw09_FarWorks_lp N) (jn := noJn) (keys := [5]) (kCons (newellaw09_FarWorks_k5 N) kNil) (by kernel_rfl) (js := []) jNil (by kernel_rfl) newellaw09_FarWorks_sp_ok newellaw09_FarWorks_rs_ok (fun args T kf => Eq.trans (newellaw09_FarWorks_def N (Cod.dec api_WorksC (lget (toCs (lget args 0)))) (fun q0 => kf (lget [.bool q0] 0, []))) (by kernel_rfl : newellaw09_FarWorks_run N args T kf = fnM E (newellaw09_sameInts_cal N) (newellaw09_FarWorks_lp N) (noJn) 21 (newellaw09_FarWorks_sp.vs args) (newellaw09_FarWorks_sp.tab T) 0 (resK newellaw09_FarWorks_rs kf)))
def newellaw09_Example_m {R : Type} (N : Nat)  (k : Int → Int → Int → Int → Int → Int → Bool → Arr Arr3_int → Bool → Arr api_Job → Bool → Arr Int → Option R) : Option R :=
  k (3 : Int) (1 : Int) (5 : Int) (3 : Int) (2 : Int) (6 : Int) false (lst Arr3_intC (2 : Nat) (litC [SV.int IntKind.i64 (0 : Int), SV.int IntKind.i64 (0 : Int), SV.int IntKind.i64 (0 : Int)] [[SV.int IntKind.i64 (1 : Int), SV.int IntKind.i64 (0 : Int), SV.int IntKind.i64 (2 : Int)], [SV.int IntKind.i64 (2 : Int), SV.int IntKind.i64 (0 : Int), SV.int IntKind.i64 (2 : Int)]])) false (lst api_JobC (4 : Nat) (litC [SV.int IntKind.i64 (0 : Int), SV.int IntKind.i64 (0 : Int), SV.sl SK.nil (CK.cons (CK.int IntKind.i64) CK.nil) (1 : Nat) (0 : Nat) (zeroC [SV.int IntKind.i64 (0 : Int)])] [[SV.int IntKind.i64 (0 : Int), SV.int IntKind.i64 (2 : Int), SV.sl SK.nil (CK.cons (CK.int IntKind.i64) CK.nil) (1 : Nat) (0 : Nat) (zeroC [SV.int IntKind.i64 (0 : Int)])], [SV.int IntKind.i64 (1 : Int), SV.int IntKind.i64 (1 : Int), SV.sl SK.nil (CK.cons (CK.int IntKind.i64) CK.nil) (1 : Nat) (0 : Nat) (zeroC [SV.int IntKind.i64 (0 : Int)])], [SV.int IntKind.i64 (0 : Int), SV.int IntKind.i64 (1 : Int), SV.sl SK.any (CK.cons (CK.int IntKind.i64) CK.nil) (1 : Nat) (1 : Nat) (litC [SV.int IntKind.i64 (0 : Int)] [[SV.int IntKind.i64 (1 : Int)]])], [SV.int IntKind.i64 (2 : Int), SV.int IntKind.i64 (3 : Int), SV.sl SK.nil (CK.cons (CK.int IntKind.i64) CK.nil) (1 : Nat) (0 : Nat) (zeroC [SV.int IntKind.i64 (0 : Int)])]])) false (lst intC (1 : Nat) (litC [SV.int IntKind.i64 (0 : Int)] [[SV.int IntKind.i64 (3 : Int)]]))
noncomputable def newellaw09_Example {R : Type} : Nat → (Int → Int → Int → Int → Int → Int → Bool → Arr Arr3_int → Bool → Arr api_Job → Bool → Arr Int → Option R) → Option R := lock (@newellaw09_Example_m R)
theorem newellaw09_Example_def {R : Type} (N : Nat)  (k : Int → Int → Int → Int → Int → Int → Bool → Arr Arr3_int → Bool → Arr api_Job → Bool → Arr Int → Option R) : newellaw09_Example N  k = newellaw09_Example_m N  k := by unfold newellaw09_Example; rw [lock_eq]
def newellaw09_Example_sp : Sp := ⟨[], []⟩
theorem newellaw09_Example_sp_ok : newellaw09_Example_sp.Ok := ⟨allNil, eNil⟩
def newellaw09_Example_rs : Sp := ⟨[rTup [rAggs [rInt .i64, rInt .i64, rInt .i64, rRow 0], rAggs [rInt .i64, rRow 1, rRow 2, rInt .i64, rInt .i64]]], [(0, eRow Arr3_intC), (1, eRow api_JobC), (2, eRow intC)]⟩
theorem newellaw09_Example_rs_ok : newellaw09_Example_rs.Ok := ⟨(allCons (rTup_ok (allCons (rAggs_ok (allCons (rInt_ok .i64) (allCons (rInt_ok .i64) (allCons (rInt_ok .i64) (allCons (rRow_ok 0) allNil))))) (allCons (rAggs_ok (allCons (rInt_ok .i64) (allCons (rRow_ok 1) (allCons (rRow_ok 2) (allCons (rInt_ok .i64) (allCons (rInt_ok .i64) allNil)))))) allNil))) allNil), (eCons (eRow_ok Arr3_intC_ok) (eCons (eRow_ok api_JobC_ok) (eCons (eRow_ok intC_ok) eNil)))⟩
def newellaw09_Example_run {R : Type} (N : Nat) (args : List SV) (T : Tab) (kf : SV × Tab → Option R) : Option R :=
  newellaw09_Example_m N  (fun q0 q1 q2 q3 q4 q5 q6 q7 q8 q9 q10 q11 => kf (lget [.tup [.agg [.int .i64 q0, .int .i64 q1, .int .i64 q2, .row 0], .agg [.int .i64 q3, .row 1, .row 2, .int .i64 q4, .int .i64 q5]]] 0, [(0, rowE Arr3_intC q6 q7), (1, rowE api_JobC q8 q9), (2, rowE intC q10 q11)]))
def newellaw09_Example_lp {R : Type} (N : Nat) : Lp R := fun body S k => Option.none
noncomputable def newellaw09_Example_go {R : Type} (N : Nat) (args : List SV) (T : Tab) (kf : SV × Tab → Option R) : Option R :=
  newellaw09_Example N  (fun q0 q1 q2 q3 q4 q5 q6 q7 q8 q9 q10 q11 => kf (lget [.tup [.agg [.int .i64 q0, .int .i64 q1, .int .i64 q2, .row 0], .agg [.int .i64 q3, .row 1, .row 2, .int .i64 q4, .int .i64 q5]]] 0, [(0, rowE Arr3_intC q6 q7), (1, rowE api_JobC q8 q9), (2, rowE intC q10 q11)]))
noncomputable def newellaw09_Example_cal {R : Type} (N : Nat) : Cal R := callM (newellaw09_FarWorks_cal N) 43 0 newellaw09_Example_sp (newellaw09_Example_go N)
theorem newellaw09_Example_cal_ok {R : Type} (N : Nat) : CalOk E.P (newellaw09_Example_cal (R := R) N) :=
  callM_ok hE (newellaw09_FarWorks_cal_ok N) (lp := newellaw09_Example_lp N) (jn := noJn) (keys := []) kNil (by kernel_rfl) (js := []) jNil (by kernel_rfl) newellaw09_Example_sp_ok newellaw09_Example_rs_ok (fun args T kf => Eq.trans (newellaw09_Example_def N  (fun q0 q1 q2 q3 q4 q5 q6 q7 q8 q9 q10 q11 => kf (lget [.tup [.agg [.int .i64 q0, .int .i64 q1, .int .i64 q2, .row 0], .agg [.int .i64 q3, .row 1, .row 2, .int .i64 q4, .int .i64 q5]]] 0, [(0, rowE Arr3_intC q6 q7), (1, rowE api_JobC q8 q9), (2, rowE intC q10 q11)]))) (by kernel_rfl : newellaw09_Example_run N args T kf = fnM E (newellaw09_FarWorks_cal N) (newellaw09_Example_lp N) (noJn) 43 (newellaw09_Example_sp.vs args) (newellaw09_Example_sp.tab T) 0 (resK newellaw09_Example_rs kf)))
def newelref09_CheckWorks_L11 : LoopSp := ⟨⟨[1, 3, 4, 5, 6], ⟨(dr 1 ((rPtr 0 0) :: (dr 1 ((rInt .i64) :: (rPtr 1 0) :: (rInt .i64) :: (rInt .i64) :: (dr 97 []))))), [(0, eBlkC api_WorksC), (1, eBlkC api_JobC)]⟩, 2⟩, [(Option.none, ⟨[2], ⟨(dr 2 ((rInt .i64) :: (dr 101 []))), []⟩, 0⟩), (some 2, ⟨[1, 3], ⟨(dr 1 ((rPtr 0 0) :: (dr 1 ((rInt .i64) :: (dr 100 []))))), [(0, eBlkC api_WorksC)]⟩, 1⟩)]⟩
theorem newelref09_CheckWorks_L11_ok : newelref09_CheckWorks_L11.Ok := ⟨⟨(drCons 1 (allCons (rPtr_ok 0 0) (drCons 1 (allCons (rInt_ok .i64) (allCons (rPtr_ok 1 0) (allCons (rInt_ok .i64) (allCons (rInt_ok .i64) (drCons 97 allNil)))))))), (eCons (eBlkC_ok api_WorksC_ok api_WorksC_len) (eCons (eBlkC_ok api_JobC_ok api_JobC_len) eNil))⟩, (xCons ⟨(drCons 2 (allCons (rInt_ok .i64) (drCons 101 allNil))), eNil⟩ (xCons ⟨(drCons 1 (allCons (rPtr_ok 0 0) (drCons 1 (allCons (rInt_ok .i64) (drCons 100 allNil))))), (eCons (eBlkC_ok api_WorksC_ok api_WorksC_len) eNil)⟩ xNil))⟩
def newelref09_CheckWorks_h11 (v523 : Int) (v524 : Int) (v525 : Int) (v526 : api_Works) (v527 : api_Job) : St := ⟨(un 1 ((.ptr 0 0) :: (un 1 ((.int .i64 v523) :: (.ptr 1 0) :: (.int .i64 v524) :: (.int .i64 v525) :: (un 97 []))))), [(0, .blk (Cod.enc api_WorksC v526)), (1, .blk (Cod.enc api_JobC v527))], 2⟩
def newelref09_CheckWorks_x11_r (q0 : Int) : St := ⟨(un 2 ((.int .i64 q0) :: (un 101 []))), [], 0⟩
def newelref09_CheckWorks_x11_2 (v523 : Int) (v526 : api_Works) : St := ⟨(un 1 ((.ptr 0 0) :: (un 1 ((.int .i64 v523) :: (un 100 []))))), [(0, .blk (Cod.enc api_WorksC v526))], 1⟩
def newelref09_CheckWorks_b11 {R : Type} (N : Nat) (rc : Int → Int → Int → api_Works → api_Job → Option R) (v523 : Int) (v524 : Int) (v525 : Int) (v526 : api_Works) (v527 : api_Job) (kr : Int → Option R) (k2 : Unit → Option R) : Option R :=
  bif decide (v525 < (↑(Arr.n (api_Job.After v527)) : Int)) then
   bif decide ((0 : Int) ≤ v525) && decide (v525 < (↑(Arr.n (api_Job.After v527)) : Int)) then
    newelref09_within N (Arr.f (api_Job.After v527) (Int.toNat v525)) (w64 (v524 + (1 : Int))) (w64 (v523 - (1 : Int))) (fun r528 =>
    bif !r528 then
     kr (92 : Int)
    else
     bif decide ((0 : Int) ≤ v525) && decide (v525 < (↑(Arr.n (api_Job.After v527)) : Int)) then
      rc v523 (Arr.f (api_Job.After v527) (Int.toNat v525)) (w64 (v525 + (1 : Int))) v526 v527
     else
      Option.none)
   else
    Option.none
  else
   k2 ()
def newelref09_CheckWorks_l11 {R : Type} (N : Nat) : Nat → Int → Int → Int → api_Works → api_Job → (Int → Option R) → (Unit → Option R) → Option R
  | 0, _, _, _, _, _, _, _ => Option.none
  | n + 1, v523, v524, v525, v526, v527, kr, k2 => newelref09_CheckWorks_b11 N (fun v523 v524 v525 v526 v527 => newelref09_CheckWorks_l11 N n v523 v524 v525 v526 v527 kr k2) v523 v524 v525 v526 v527 kr k2
def newelref09_CheckWorks_L4 : LoopSp := ⟨⟨[1, 3], ⟨(dr 1 ((rPtr 0 0) :: (dr 1 ((rInt .i64) :: (dr 100 []))))), [(0, eBlkC api_WorksC)]⟩, 1⟩, [(Option.none, ⟨[2], ⟨(dr 2 ((rInt .i64) :: (dr 101 []))), []⟩, 0⟩), (some 0, ⟨[1], ⟨(dr 1 ((rPtr 0 0) :: (dr 102 []))), [(0, eBlkC api_WorksC)]⟩, 1⟩)]⟩
theorem newelref09_CheckWorks_L4_ok : newelref09_CheckWorks_L4.Ok := ⟨⟨(drCons 1 (allCons (rPtr_ok 0 0) (drCons 1 (allCons (rInt_ok .i64) (drCons 100 allNil))))), (eCons (eBlkC_ok api_WorksC_ok api_WorksC_len) eNil)⟩, (xCons ⟨(drCons 2 (allCons (rInt_ok .i64) (drCons 101 allNil))), eNil⟩ (xCons ⟨(drCons 1 (allCons (rPtr_ok 0 0) (drCons 102 allNil))), (eCons (eBlkC_ok api_WorksC_ok api_WorksC_len) eNil)⟩ xNil))⟩
def newelref09_CheckWorks_h4 (v519 : Int) (v520 : api_Works) : St := ⟨(un 1 ((.ptr 0 0) :: (un 1 ((.int .i64 v519) :: (un 100 []))))), [(0, .blk (Cod.enc api_WorksC v520))], 1⟩
def newelref09_CheckWorks_x4_r (q0 : Int) : St := ⟨(un 2 ((.int .i64 q0) :: (un 101 []))), [], 0⟩
def newelref09_CheckWorks_x4_0 (v520 : api_Works) : St := ⟨(un 1 ((.ptr 0 0) :: (un 102 []))), [(0, .blk (Cod.enc api_WorksC v520))], 1⟩
def newelref09_CheckWorks_b4 {R : Type} (N : Nat) (rc : Int → api_Works → Option R) (v519 : Int) (v520 : api_Works) (kr : Int → Option R) (k0 : Unit → Option R) : Option R :=
  bif decide (v519 < (↑(Arr.n (api_Works.Jobs v520)) : Int)) then
   bif decide ((0 : Int) ≤ v519) && decide (v519 < (↑(Arr.n (api_Works.Jobs v520)) : Int)) then
    newelref09_within N (api_Job.Machine (Arr.f (api_Works.Jobs v520) (Int.toNat v519))) (0 : Int) (w64 (api_Works.Machines v520 - (1 : Int))) (fun r521 =>
    bif !r521 then
     kr (92 : Int)
    else
     newelref09_within N (api_Job.Nights (Arr.f (api_Works.Jobs v520) (Int.toNat v519))) (1 : Int) (24 : Int) (fun r522 =>
     bif !r522 then
      kr (92 : Int)
     else
      newelref09_CheckWorks_l11 N N v519 (-1 : Int) (0 : Int) v520 (Arr.f (api_Works.Jobs v520) (Int.toNat v519)) (fun r529 =>
       kr r529) (fun (_ : Unit) =>
       rc (w64 (v519 + (1 : Int))) v520)))
   else
    Option.none
  else
   k0 ()
def newelref09_CheckWorks_l4 {R : Type} (N : Nat) : Nat → Int → api_Works → (Int → Option R) → (Unit → Option R) → Option R
  | 0, _, _, _, _ => Option.none
  | n + 1, v519, v520, kr, k0 => newelref09_CheckWorks_b4 N (fun v519 v520 => newelref09_CheckWorks_l4 N n v519 v520 kr k0) v519 v520 kr k0
def newelref09_CheckWorks_L17 : LoopSp := ⟨⟨[1, 7], ⟨(dr 1 ((rPtr 0 0) :: (dr 5 ((rInt .i64) :: (dr 96 []))))), [(0, eBlkC api_WorksC)]⟩, 1⟩, [(Option.none, ⟨[2], ⟨(dr 2 ((rInt .i64) :: (dr 101 []))), []⟩, 0⟩), (some 4, ⟨[], ⟨(dr 104 []), []⟩, 0⟩)]⟩
theorem newelref09_CheckWorks_L17_ok : newelref09_CheckWorks_L17.Ok := ⟨⟨(drCons 1 (allCons (rPtr_ok 0 0) (drCons 5 (allCons (rInt_ok .i64) (drCons 96 allNil))))), (eCons (eBlkC_ok api_WorksC_ok api_WorksC_len) eNil)⟩, (xCons ⟨(drCons 2 (allCons (rInt_ok .i64) (drCons 101 allNil))), eNil⟩ (xCons ⟨(drCons 104 allNil), eNil⟩ xNil))⟩
def newelref09_CheckWorks_h17 (v531 : Int) (v532 : api_Works) : St := ⟨(un 1 ((.ptr 0 0) :: (un 5 ((.int .i64 v531) :: (un 96 []))))), [(0, .blk (Cod.enc api_WorksC v532))], 1⟩
def newelref09_CheckWorks_x17_r (q0 : Int) : St := ⟨(un 2 ((.int .i64 q0) :: (un 101 []))), [], 0⟩
def newelref09_CheckWorks_x17_4  : St := ⟨(un 104 []), [], 0⟩
def newelref09_CheckWorks_b17 {R : Type} (N : Nat) (rc : Int → api_Works → Option R) (v531 : Int) (v532 : api_Works) (kr : Int → Option R) (k4 : Unit → Option R) : Option R :=
  bif decide (v531 < (↑(Arr.n (api_Works.Never v532)) : Int)) then
   bif decide ((0 : Int) ≤ v531) && decide (v531 < (↑(Arr.n (api_Works.Never v532)) : Int)) then
    bif decide (IntKind.wrap IntKind.u64 (api_Works.Machines v532) < (0 : Int)) then
     Option.none
    else
     newelref09_within N (Arr.f (api_Works.Never v532) (Int.toNat v531)) (1 : Int) (w64 (w64 ((1 : Int) * (2 : Int) ^ min (Int.toNat (IntKind.wrap IntKind.u64 (api_Works.Machines v532))) (IntKind.bits IntKind.i64)) - (1 : Int))) (fun r533 =>
     bif !r533 then
      kr (92 : Int)
     else
      rc (w64 (v531 + (1 : Int))) v532)
   else
    Option.none
  else
   k4 ()
def newelref09_CheckWorks_l17 {R : Type} (N : Nat) : Nat → Int → api_Works → (Int → Option R) → (Unit → Option R) → Option R
  | 0, _, _, _, _ => Option.none
  | n + 1, v531, v532, kr, k4 => newelref09_CheckWorks_b17 N (fun v531 v532 => newelref09_CheckWorks_l17 N n v531 v532 kr k4) v531 v532 kr k4
def newelref09_CheckWorks_m {R : Type} (N : Nat) (a514 : api_Works) (k : Int → Option R) : Option R :=
  newelref09_within N (api_Works.Machines a514) (1 : Int) (12 : Int) (fun r515 =>
  bif !r515 then
   k (92 : Int)
  else
   newelref09_within N ((↑(Arr.n (api_Works.Jobs a514)) : Int)) (1 : Int) (6 : Int) (fun r516 =>
   bif !r516 then
    k (92 : Int)
   else
    bif decide ((↑(Arr.n (api_Works.Never a514)) : Int) > (20 : Int)) then
     k (92 : Int)
    else
     newelref09_within N (api_Works.Crews a514) (1 : Int) (6 : Int) (fun r517 =>
     bif !r517 then
      k (92 : Int)
     else
      newelref09_within N (api_Works.Until a514) (1 : Int) (24 : Int) (fun r518 =>
      bif !r518 then
       k (92 : Int)
      else
       newelref09_CheckWorks_l4 N N (0 : Int) a514 (fun r530 =>
        k r530) (fun (_ : Unit) =>
        newelref09_CheckWorks_l17 N N (0 : Int) a514 (fun r534 =>
         k r534) (fun (_ : Unit) =>
         k (0 : Int)))))))
noncomputable def newelref09_CheckWorks {R : Type} : Nat → api_Works → (Int → Option R) → Option R := lock (@newelref09_CheckWorks_m R)
theorem newelref09_CheckWorks_def {R : Type} (N : Nat) (a514 : api_Works) (k : Int → Option R) : newelref09_CheckWorks N a514 k = newelref09_CheckWorks_m N a514 k := by unfold newelref09_CheckWorks; rw [lock_eq]
def newelref09_CheckWorks_sp : Sp := ⟨[rAgg api_WorksC], []⟩
theorem newelref09_CheckWorks_sp_ok : newelref09_CheckWorks_sp.Ok := ⟨(allCons (rAgg_ok api_WorksC_ok api_WorksC_len) allNil), eNil⟩
def newelref09_CheckWorks_rs : Sp := ⟨[rInt .i64], []⟩
theorem newelref09_CheckWorks_rs_ok : newelref09_CheckWorks_rs.Ok := ⟨(allCons (rInt_ok .i64) allNil), eNil⟩
def newelref09_CheckWorks_run {R : Type} (N : Nat) (args : List SV) (T : Tab) (kf : SV × Tab → Option R) : Option R :=
  newelref09_CheckWorks_m N (Cod.dec api_WorksC (lget (toCs (lget args 0)))) (fun q0 => kf (lget [.int .i64 q0] 0, []))
def newelref09_CheckWorks_d17 {R : Type} (N : Nat) (S0 : St) (k : Exit → St → Option R) : Option R :=
  newelref09_CheckWorks_l17 N N (toI (lget S0.tmps 7)) (Cod.dec api_WorksC (lget (entCs (entAt S0.tab 0)))) (fun q0 => k .ret (newelref09_CheckWorks_x17_r q0)) (fun (_ : Unit) => k (.exit 4) (newelref09_CheckWorks_x17_4 ))
def newelref09_CheckWorks_d11 {R : Type} (N : Nat) (S0 : St) (k : Exit → St → Option R) : Option R :=
  newelref09_CheckWorks_l11 N N (toI (lget S0.tmps 3)) (toI (lget S0.tmps 5)) (toI (lget S0.tmps 6)) (Cod.dec api_WorksC (lget (entCs (entAt S0.tab 0)))) (Cod.dec api_JobC (lget (entCs (entAt S0.tab 1)))) (fun q0 => k .ret (newelref09_CheckWorks_x11_r q0)) (fun (_ : Unit) => k (.exit 2) (newelref09_CheckWorks_x11_2 (toI (lget S0.tmps 3)) (Cod.dec api_WorksC (lget (entCs (entAt S0.tab 0))))))
def newelref09_CheckWorks_d4 {R : Type} (N : Nat) (S0 : St) (k : Exit → St → Option R) : Option R :=
  newelref09_CheckWorks_l4 N N (toI (lget S0.tmps 3)) (Cod.dec api_WorksC (lget (entCs (entAt S0.tab 0)))) (fun q0 => k .ret (newelref09_CheckWorks_x4_r q0)) (fun (_ : Unit) => k (.exit 0) (newelref09_CheckWorks_x4_0 (Cod.dec api_WorksC (lget (entCs (entAt S0.tab 0))))))
def newelref09_CheckWorks_lp {R : Type} (N : Nat) : Lp R := fun body S k => bif (Go.Sx.keyOf body).getD 0 == 4 then (newelref09_CheckWorks_L4.head.raw 0 S (fun S0 => newelref09_CheckWorks_d4 N S0 k)) else bif (Go.Sx.keyOf body).getD 0 == 11 then (newelref09_CheckWorks_L11.head.raw 0 S (fun S0 => newelref09_CheckWorks_d11 N S0 k)) else bif (Go.Sx.keyOf body).getD 0 == 17 then (newelref09_CheckWorks_L17.head.raw 0 S (fun S0 => newelref09_CheckWorks_d17 N S0 k)) else Option.none
theorem newelref09_CheckWorks_l4_eq {R : Type} (N : Nat) (k : Exit → St → Option R) (n : Nat) : ∀ (v0 : Int) (v1 : api_Works), loopM E.Θ (newellaw09_Example_cal N) (newelref09_CheckWorks_lp N) (noJn) 0 newelref09_CheckWorks_L4 (bodyAt E 22 4) n (newelref09_CheckWorks_h4 v0 v1) k = newelref09_CheckWorks_l4 N n v0 v1 (fun q0 => k .ret (newelref09_CheckWorks_x4_r q0)) (fun (_ : Unit) => k (.exit 0) (newelref09_CheckWorks_x4_0 v1)) := by
  induction n with
  | zero => intro v0 v1; rfl
  | succ n ih =>
    intro v0 v1
    refine Eq.trans (b := newelref09_CheckWorks_b4 N (fun v0 v1 => loopM E.Θ (newellaw09_Example_cal N) (newelref09_CheckWorks_lp N) (noJn) 0 newelref09_CheckWorks_L4 (bodyAt E 22 4) n (newelref09_CheckWorks_h4 v0 v1) k) v0 v1 (fun q0 => k .ret (newelref09_CheckWorks_x4_r q0)) (fun (_ : Unit) => k (.exit 0) (newelref09_CheckWorks_x4_0 v1))) (by kernel_rfl) ?_
    have h : (fun (v0 : Int) (v1 : api_Works) => loopM E.Θ (newellaw09_Example_cal N) (newelref09_CheckWorks_lp N) (noJn) 0 newelref09_CheckWorks_L4 (bodyAt E 22 4) n (newelref09_CheckWorks_h4 v0 v1) k) = (fun (v0 : Int) (v1 : api_Works) => newelref09_CheckWorks_l4 N n v0 v1 (fun q0 => k .ret (newelref09_CheckWorks_x4_r q0)) (fun (_ : Unit) => k (.exit 0) (newelref09_CheckWorks_x4_0 v1))) := funext fun v0 => funext fun v1 => ih v0 v1
    rw [h]
    rfl
theorem newelref09_CheckWorks_l11_eq {R : Type} (N : Nat) (k : Exit → St → Option R) (n : Nat) : ∀ (v0 : Int) (v1 : Int) (v2 : Int) (v3 : api_Works) (v4 : api_Job), loopM E.Θ (newellaw09_Example_cal N) (newelref09_CheckWorks_lp N) (noJn) 0 newelref09_CheckWorks_L11 (bodyAt E 22 11) n (newelref09_CheckWorks_h11 v0 v1 v2 v3 v4) k = newelref09_CheckWorks_l11 N n v0 v1 v2 v3 v4 (fun q0 => k .ret (newelref09_CheckWorks_x11_r q0)) (fun (_ : Unit) => k (.exit 2) (newelref09_CheckWorks_x11_2 v0 v3)) := by
  induction n with
  | zero => intro v0 v1 v2 v3 v4; rfl
  | succ n ih =>
    intro v0 v1 v2 v3 v4
    refine Eq.trans (b := newelref09_CheckWorks_b11 N (fun v0 v1 v2 v3 v4 => loopM E.Θ (newellaw09_Example_cal N) (newelref09_CheckWorks_lp N) (noJn) 0 newelref09_CheckWorks_L11 (bodyAt E 22 11) n (newelref09_CheckWorks_h11 v0 v1 v2 v3 v4) k) v0 v1 v2 v3 v4 (fun q0 => k .ret (newelref09_CheckWorks_x11_r q0)) (fun (_ : Unit) => k (.exit 2) (newelref09_CheckWorks_x11_2 v0 v3))) (by kernel_rfl) ?_
    have h : (fun (v0 : Int) (v1 : Int) (v2 : Int) (v3 : api_Works) (v4 : api_Job) => loopM E.Θ (newellaw09_Example_cal N) (newelref09_CheckWorks_lp N) (noJn) 0 newelref09_CheckWorks_L11 (bodyAt E 22 11) n (newelref09_CheckWorks_h11 v0 v1 v2 v3 v4) k) = (fun (v0 : Int) (v1 : Int) (v2 : Int) (v3 : api_Works) (v4 : api_Job) => newelref09_CheckWorks_l11 N n v0 v1 v2 v3 v4 (fun q0 => k .ret (newelref09_CheckWorks_x11_r q0)) (fun (_ : Unit) => k (.exit 2) (newelref09_CheckWorks_x11_2 v0 v3))) := funext fun v0 => funext fun v1 => funext fun v2 => funext fun v3 => funext fun v4 => ih v0 v1 v2 v3 v4
    rw [h]
    rfl
theorem newelref09_CheckWorks_l17_eq {R : Type} (N : Nat) (k : Exit → St → Option R) (n : Nat) : ∀ (v0 : Int) (v1 : api_Works), loopM E.Θ (newellaw09_Example_cal N) (newelref09_CheckWorks_lp N) (noJn) 0 newelref09_CheckWorks_L17 (bodyAt E 22 17) n (newelref09_CheckWorks_h17 v0 v1) k = newelref09_CheckWorks_l17 N n v0 v1 (fun q0 => k .ret (newelref09_CheckWorks_x17_r q0)) (fun (_ : Unit) => k (.exit 4) (newelref09_CheckWorks_x17_4 )) := by
  induction n with
  | zero => intro v0 v1; rfl
  | succ n ih =>
    intro v0 v1
    refine Eq.trans (b := newelref09_CheckWorks_b17 N (fun v0 v1 => loopM E.Θ (newellaw09_Example_cal N) (newelref09_CheckWorks_lp N) (noJn) 0 newelref09_CheckWorks_L17 (bodyAt E 22 17) n (newelref09_CheckWorks_h17 v0 v1) k) v0 v1 (fun q0 => k .ret (newelref09_CheckWorks_x17_r q0)) (fun (_ : Unit) => k (.exit 4) (newelref09_CheckWorks_x17_4 ))) (by kernel_rfl) ?_
    have h : (fun (v0 : Int) (v1 : api_Works) => loopM E.Θ (newellaw09_Example_cal N) (newelref09_CheckWorks_lp N) (noJn) 0 newelref09_CheckWorks_L17 (bodyAt E 22 17) n (newelref09_CheckWorks_h17 v0 v1) k) = (fun (v0 : Int) (v1 : api_Works) => newelref09_CheckWorks_l17 N n v0 v1 (fun q0 => k .ret (newelref09_CheckWorks_x17_r q0)) (fun (_ : Unit) => k (.exit 4) (newelref09_CheckWorks_x17_4 ))) := funext fun v0 => funext fun v1 => ih v0 v1
    rw [h]
    rfl
theorem newelref09_CheckWorks_k17 {R : Type} (N : Nat) : LpKey (R := R) E 22 0 (newelref09_CheckWorks_lp N) 17 :=
  lpKey_of hE (newellaw09_Example_cal_ok N) (lp := newelref09_CheckWorks_lp N) (jn := noJn) newelref09_CheckWorks_L17_ok [] kNil (by kernel_rfl) [] jNil (by kernel_rfl) N fun S k =>
    Eq.trans (b := newelref09_CheckWorks_L17.head.raw 0 S (fun S0 => newelref09_CheckWorks_d17 N S0 k)) (by kernel_rfl) (congrArg (newelref09_CheckWorks_L17.head.raw 0 S) (funext fun S0 => Eq.trans (newelref09_CheckWorks_l17_eq N k N (toI (lget S0.tmps 7)) (Cod.dec api_WorksC (lget (entCs (entAt S0.tab 0))))).symm (by kernel_rfl)))
theorem newelref09_CheckWorks_k11 {R : Type} (N : Nat) : LpKey (R := R) E 22 0 (newelref09_CheckWorks_lp N) 11 :=
  lpKey_of hE (newellaw09_Example_cal_ok N) (lp := newelref09_CheckWorks_lp N) (jn := noJn) newelref09_CheckWorks_L11_ok [] kNil (by kernel_rfl) [] jNil (by kernel_rfl) N fun S k =>
    Eq.trans (b := newelref09_CheckWorks_L11.head.raw 0 S (fun S0 => newelref09_CheckWorks_d11 N S0 k)) (by kernel_rfl) (congrArg (newelref09_CheckWorks_L11.head.raw 0 S) (funext fun S0 => Eq.trans (newelref09_CheckWorks_l11_eq N k N (toI (lget S0.tmps 3)) (toI (lget S0.tmps 5)) (toI (lget S0.tmps 6)) (Cod.dec api_WorksC (lget (entCs (entAt S0.tab 0)))) (Cod.dec api_JobC (lget (entCs (entAt S0.tab 1))))).symm (by kernel_rfl)))
theorem newelref09_CheckWorks_k4 {R : Type} (N : Nat) : LpKey (R := R) E 22 0 (newelref09_CheckWorks_lp N) 4 :=
  lpKey_of hE (newellaw09_Example_cal_ok N) (lp := newelref09_CheckWorks_lp N) (jn := noJn) newelref09_CheckWorks_L4_ok [11] (kCons (newelref09_CheckWorks_k11 N) kNil) (by kernel_rfl) [] jNil (by kernel_rfl) N fun S k =>
    Eq.trans (b := newelref09_CheckWorks_L4.head.raw 0 S (fun S0 => newelref09_CheckWorks_d4 N S0 k)) (by kernel_rfl) (congrArg (newelref09_CheckWorks_L4.head.raw 0 S) (funext fun S0 => Eq.trans (newelref09_CheckWorks_l4_eq N k N (toI (lget S0.tmps 3)) (Cod.dec api_WorksC (lget (entCs (entAt S0.tab 0))))).symm (by kernel_rfl)))
noncomputable def newelref09_CheckWorks_go {R : Type} (N : Nat) (args : List SV) (T : Tab) (kf : SV × Tab → Option R) : Option R :=
  newelref09_CheckWorks N (Cod.dec api_WorksC (lget (toCs (lget args 0)))) (fun q0 => kf (lget [.int .i64 q0] 0, []))
noncomputable def newelref09_CheckWorks_cal {R : Type} (N : Nat) : Cal R := callM (newellaw09_Example_cal N) 22 0 newelref09_CheckWorks_sp (newelref09_CheckWorks_go N)
theorem newelref09_CheckWorks_cal_ok {R : Type} (N : Nat) : CalOk E.P (newelref09_CheckWorks_cal (R := R) N) :=
  callM_ok hE (newellaw09_Example_cal_ok N) (lp := newelref09_CheckWorks_lp N) (jn := noJn) (keys := [4, 11, 17]) (kCons (newelref09_CheckWorks_k4 N) (kCons (newelref09_CheckWorks_k11 N) (kCons (newelref09_CheckWorks_k17 N) kNil))) (by kernel_rfl) (js := []) jNil (by kernel_rfl) newelref09_CheckWorks_sp_ok newelref09_CheckWorks_rs_ok (fun args T kf => Eq.trans (newelref09_CheckWorks_def N (Cod.dec api_WorksC (lget (toCs (lget args 0)))) (fun q0 => kf (lget [.int .i64 q0] 0, []))) (by kernel_rfl : newelref09_CheckWorks_run N args T kf = fnM E (newellaw09_Example_cal N) (newelref09_CheckWorks_lp N) (noJn) 22 (newelref09_CheckWorks_sp.vs args) (newelref09_CheckWorks_sp.tab T) 0 (resK newelref09_CheckWorks_rs kf)))
def shaft_CheckWorks_1_m {R : Type} (N : Nat) (a536 : Int) (a537 : Int) (a538 : Int) (k : Bool → Option R) : Option R :=
  bif decide (a537 ≤ a536) then
   k (decide (a536 ≤ a538))
  else
   k false
noncomputable def shaft_CheckWorks_1 {R : Type} : Nat → Int → Int → Int → (Bool → Option R) → Option R := lock (@shaft_CheckWorks_1_m R)
theorem shaft_CheckWorks_1_def {R : Type} (N : Nat) (a536 : Int) (a537 : Int) (a538 : Int) (k : Bool → Option R) : shaft_CheckWorks_1 N a536 a537 a538 k = shaft_CheckWorks_1_m N a536 a537 a538 k := by unfold shaft_CheckWorks_1; rw [lock_eq]
def shaft_CheckWorks_1_sp : Sp := ⟨[rInt .i64, rInt .i64, rInt .i64], []⟩
theorem shaft_CheckWorks_1_sp_ok : shaft_CheckWorks_1_sp.Ok := ⟨(allCons (rInt_ok .i64) (allCons (rInt_ok .i64) (allCons (rInt_ok .i64) allNil))), eNil⟩
def shaft_CheckWorks_1_rs : Sp := ⟨[rBool], []⟩
theorem shaft_CheckWorks_1_rs_ok : shaft_CheckWorks_1_rs.Ok := ⟨(allCons rBool_ok allNil), eNil⟩
def shaft_CheckWorks_1_run {R : Type} (N : Nat) (args : List SV) (T : Tab) (kf : SV × Tab → Option R) : Option R :=
  shaft_CheckWorks_1_m N (toI (lget args 0)) (toI (lget args 1)) (toI (lget args 2)) (fun q0 => kf (lget [.bool q0] 0, []))
def shaft_CheckWorks_1_lp {R : Type} (N : Nat) : Lp R := fun body S k => Option.none
noncomputable def shaft_CheckWorks_1_go {R : Type} (N : Nat) (args : List SV) (T : Tab) (kf : SV × Tab → Option R) : Option R :=
  shaft_CheckWorks_1 N (toI (lget args 0)) (toI (lget args 1)) (toI (lget args 2)) (fun q0 => kf (lget [.bool q0] 0, []))
noncomputable def shaft_CheckWorks_1_cal {R : Type} (N : Nat) : Cal R := callM (newelref09_CheckWorks_cal N) 64 0 shaft_CheckWorks_1_sp (shaft_CheckWorks_1_go N)
theorem shaft_CheckWorks_1_cal_ok {R : Type} (N : Nat) : CalOk E.P (shaft_CheckWorks_1_cal (R := R) N) :=
  callM_ok hE (newelref09_CheckWorks_cal_ok N) (lp := shaft_CheckWorks_1_lp N) (jn := noJn) (keys := []) kNil (by kernel_rfl) (js := []) jNil (by kernel_rfl) shaft_CheckWorks_1_sp_ok shaft_CheckWorks_1_rs_ok (fun args T kf => Eq.trans (shaft_CheckWorks_1_def N (toI (lget args 0)) (toI (lget args 1)) (toI (lget args 2)) (fun q0 => kf (lget [.bool q0] 0, []))) (by kernel_rfl : shaft_CheckWorks_1_run N args T kf = fnM E (newelref09_CheckWorks_cal N) (shaft_CheckWorks_1_lp N) (noJn) 64 (shaft_CheckWorks_1_sp.vs args) (shaft_CheckWorks_1_sp.tab T) 0 (resK shaft_CheckWorks_1_rs kf)))
def shaft_CheckWorks_2_m {R : Type} (N : Nat) (a581 : Int) (a582 : Int) (a583 : Arr api_Job) (a584 : Arr Int) (a585 : Int) (a586 : Int) (k : Bool → Option R) : Option R :=
  bif decide (a582 < (0 : Int)) then
   Option.none
  else
   shaft_CheckWorks_1 N a581 (1 : Int) (w64 (w64 ((1 : Int) * (2 : Int) ^ min (Int.toNat a582) (IntKind.bits IntKind.i64)) - (1 : Int))) (fun r587 =>
   k !r587)
noncomputable def shaft_CheckWorks_2 {R : Type} : Nat → Int → Int → Arr api_Job → Arr Int → Int → Int → (Bool → Option R) → Option R := lock (@shaft_CheckWorks_2_m R)
theorem shaft_CheckWorks_2_def {R : Type} (N : Nat) (a581 : Int) (a582 : Int) (a583 : Arr api_Job) (a584 : Arr Int) (a585 : Int) (a586 : Int) (k : Bool → Option R) : shaft_CheckWorks_2 N a581 a582 a583 a584 a585 a586 k = shaft_CheckWorks_2_m N a581 a582 a583 a584 a585 a586 k := by unfold shaft_CheckWorks_2; rw [lock_eq]
def shaft_CheckWorks_2_sp : Sp := ⟨[rInt .i64, rPtr 0 0, rPtr 1 0], [(0, eBlk [rFunc 64 0 []]), (1, eBlk [rInt .i64, rSl api_JobC, rSl intC, rInt .i64, rInt .i64])]⟩
theorem shaft_CheckWorks_2_sp_ok : shaft_CheckWorks_2_sp.Ok := ⟨(allCons (rInt_ok .i64) (allCons (rPtr_ok 0 0) (allCons (rPtr_ok 1 0) allNil))), (eCons (eBlk_ok (allCons (rFunc_ok 64 0 allNil) allNil)) (eCons (eBlk_ok (allCons (rInt_ok .i64) (allCons (rSl_ok api_JobC_ok) (allCons (rSl_ok intC_ok) (allCons (rInt_ok .i64) (allCons (rInt_ok .i64) allNil)))))) eNil))⟩
def shaft_CheckWorks_2_rs : Sp := ⟨[rBool], [(0, eBlk [rFunc 64 0 []]), (1, eBlk [rInt .i64, rSl api_JobC, rSl intC, rInt .i64, rInt .i64])]⟩
theorem shaft_CheckWorks_2_rs_ok : shaft_CheckWorks_2_rs.Ok := ⟨(allCons rBool_ok allNil), (eCons (eBlk_ok (allCons (rFunc_ok 64 0 allNil) allNil)) (eCons (eBlk_ok (allCons (rInt_ok .i64) (allCons (rSl_ok api_JobC_ok) (allCons (rSl_ok intC_ok) (allCons (rInt_ok .i64) (allCons (rInt_ok .i64) allNil)))))) eNil))⟩
def shaft_CheckWorks_2_run {R : Type} (N : Nat) (args : List SV) (T : Tab) (kf : SV × Tab → Option R) : Option R :=
  shaft_CheckWorks_2_m N (toI (lget args 0)) (toI (lget (entCs (entAt T 1)) 0)) (lstC api_JobC (lget (entCs (entAt T 1)) 1)) (lstC intC (lget (entCs (entAt T 1)) 2)) (toI (lget (entCs (entAt T 1)) 3)) (toI (lget (entCs (entAt T 1)) 4)) (fun q0 => kf (lget [.bool q0] 0, [(0, .blk [.func 64 0 []]), (1, .blk [.int .i64 (toI (lget (entCs (entAt T 1)) 0)), slC api_JobC (lstC api_JobC (lget (entCs (entAt T 1)) 1)), slC intC (lstC intC (lget (entCs (entAt T 1)) 2)), .int .i64 (toI (lget (entCs (entAt T 1)) 3)), .int .i64 (toI (lget (entCs (entAt T 1)) 4))])]))
def shaft_CheckWorks_2_lp {R : Type} (N : Nat) : Lp R := fun body S k => Option.none
noncomputable def shaft_CheckWorks_2_go {R : Type} (N : Nat) (args : List SV) (T : Tab) (kf : SV × Tab → Option R) : Option R :=
  shaft_CheckWorks_2 N (toI (lget args 0)) (toI (lget (entCs (entAt T 1)) 0)) (lstC api_JobC (lget (entCs (entAt T 1)) 1)) (lstC intC (lget (entCs (entAt T 1)) 2)) (toI (lget (entCs (entAt T 1)) 3)) (toI (lget (entCs (entAt T 1)) 4)) (fun q0 => kf (lget [.bool q0] 0, [(0, .blk [.func 64 0 []]), (1, .blk [.int .i64 (toI (lget (entCs (entAt T 1)) 0)), slC api_JobC (lstC api_JobC (lget (entCs (entAt T 1)) 1)), slC intC (lstC intC (lget (entCs (entAt T 1)) 2)), .int .i64 (toI (lget (entCs (entAt T 1)) 3)), .int .i64 (toI (lget (entCs (entAt T 1)) 4))])]))
noncomputable def shaft_CheckWorks_2_cal {R : Type} (N : Nat) : Cal R := callM (shaft_CheckWorks_1_cal N) 65 2 shaft_CheckWorks_2_sp (shaft_CheckWorks_2_go N)
theorem shaft_CheckWorks_2_cal_ok {R : Type} (N : Nat) : CalOk E.P (shaft_CheckWorks_2_cal (R := R) N) :=
  callM_ok hE (shaft_CheckWorks_1_cal_ok N) (lp := shaft_CheckWorks_2_lp N) (jn := noJn) (keys := []) kNil (by kernel_rfl) (js := []) jNil (by kernel_rfl) shaft_CheckWorks_2_sp_ok shaft_CheckWorks_2_rs_ok (fun args T kf => Eq.trans (shaft_CheckWorks_2_def N (toI (lget args 0)) (toI (lget (entCs (entAt T 1)) 0)) (lstC api_JobC (lget (entCs (entAt T 1)) 1)) (lstC intC (lget (entCs (entAt T 1)) 2)) (toI (lget (entCs (entAt T 1)) 3)) (toI (lget (entCs (entAt T 1)) 4)) (fun q0 => kf (lget [.bool q0] 0, [(0, .blk [.func 64 0 []]), (1, .blk [.int .i64 (toI (lget (entCs (entAt T 1)) 0)), slC api_JobC (lstC api_JobC (lget (entCs (entAt T 1)) 1)), slC intC (lstC intC (lget (entCs (entAt T 1)) 2)), .int .i64 (toI (lget (entCs (entAt T 1)) 3)), .int .i64 (toI (lget (entCs (entAt T 1)) 4))])]))) (by kernel_rfl : shaft_CheckWorks_2_run N args T kf = fnM E (shaft_CheckWorks_1_cal N) (shaft_CheckWorks_2_lp N) (noJn) 65 (shaft_CheckWorks_2_sp.vs args) (shaft_CheckWorks_2_sp.tab T) 2 (resK shaft_CheckWorks_2_rs kf)))
def slices_IndexFunc___int_int__L2 : LoopSp := ⟨⟨[0, 1, 7, 8], ⟨((rSl intC) :: (rFunc 65 0 [rPtr 0 0, rPtr 1 0]) :: (dr 5 ((rInt .i64) :: (rInt .i64) :: (dr 10 [])))), [(0, eBlk [rFunc 64 0 []]), (1, eBlk [rInt .i64, rSl api_JobC, rSl intC, rInt .i64, rInt .i64])]⟩, 2⟩, [(Option.none, ⟨[4], ⟨(dr 4 ((rInt .i64) :: (dr 14 []))), [(0, eBlk [rFunc 64 0 []]), (1, eBlk [rInt .i64, rSl api_JobC, rSl intC, rInt .i64, rInt .i64])]⟩, 2⟩), (some 0, ⟨[], ⟨(dr 19 []), [(0, eBlk [rFunc 64 0 []]), (1, eBlk [rInt .i64, rSl api_JobC, rSl intC, rInt .i64, rInt .i64])]⟩, 2⟩)]⟩
theorem slices_IndexFunc___int_int__L2_ok : slices_IndexFunc___int_int__L2.Ok := ⟨⟨(allCons (rSl_ok intC_ok) (allCons (rFunc_ok 65 0 (allCons (rPtr_ok 0 0) (allCons (rPtr_ok 1 0) allNil))) (drCons 5 (allCons (rInt_ok .i64) (allCons (rInt_ok .i64) (drCons 10 allNil)))))), (eCons (eBlk_ok (allCons (rFunc_ok 64 0 allNil) allNil)) (eCons (eBlk_ok (allCons (rInt_ok .i64) (allCons (rSl_ok api_JobC_ok) (allCons (rSl_ok intC_ok) (allCons (rInt_ok .i64) (allCons (rInt_ok .i64) allNil)))))) eNil))⟩, (xCons ⟨(drCons 4 (allCons (rInt_ok .i64) (drCons 14 allNil))), (eCons (eBlk_ok (allCons (rFunc_ok 64 0 allNil) allNil)) (eCons (eBlk_ok (allCons (rInt_ok .i64) (allCons (rSl_ok api_JobC_ok) (allCons (rSl_ok intC_ok) (allCons (rInt_ok .i64) (allCons (rInt_ok .i64) allNil)))))) eNil))⟩ (xCons ⟨(drCons 19 allNil), (eCons (eBlk_ok (allCons (rFunc_ok 64 0 allNil) allNil)) (eCons (eBlk_ok (allCons (rInt_ok .i64) (allCons (rSl_ok api_JobC_ok) (allCons (rSl_ok intC_ok) (allCons (rInt_ok .i64) (allCons (rInt_ok .i64) allNil)))))) eNil))⟩ xNil))⟩
def slices_IndexFunc___int_int__h2 (v573 : Arr Int) (v574 : Int) (v575 : Int) (v576 : Int) (v577 : Arr api_Job) (v578 : Arr Int) (v579 : Int) (v580 : Int) : St := ⟨((slC intC v573) :: (.func 65 0 [.ptr 0 0, .ptr 1 0]) :: (un 5 ((.int .i64 v574) :: (.int .i64 v575) :: (un 10 [])))), [(0, .blk [.func 64 0 []]), (1, .blk [.int .i64 v576, slC api_JobC v577, slC intC v578, .int .i64 v579, .int .i64 v580])], 2⟩
def slices_IndexFunc___int_int__x2_r (v576 : Int) (v577 : Arr api_Job) (v578 : Arr Int) (v579 : Int) (v580 : Int) (q0 : Int) : St := ⟨(un 4 ((.int .i64 q0) :: (un 14 []))), [(0, .blk [.func 64 0 []]), (1, .blk [.int .i64 v576, slC api_JobC v577, slC intC v578, .int .i64 v579, .int .i64 v580])], 2⟩
def slices_IndexFunc___int_int__x2_0 (v576 : Int) (v577 : Arr api_Job) (v578 : Arr Int) (v579 : Int) (v580 : Int) : St := ⟨(un 19 []), [(0, .blk [.func 64 0 []]), (1, .blk [.int .i64 v576, slC api_JobC v577, slC intC v578, .int .i64 v579, .int .i64 v580])], 2⟩
def slices_IndexFunc___int_int__b2 {R : Type} (N : Nat) (rc : Arr Int → Int → Int → Int → Arr api_Job → Arr Int → Int → Int → Option R) (v573 : Arr Int) (v574 : Int) (v575 : Int) (v576 : Int) (v577 : Arr api_Job) (v578 : Arr Int) (v579 : Int) (v580 : Int) (kr : Int → Option R) (k0 : Unit → Option R) : Option R :=
  bif decide (v575 < v574) then
   bif decide ((0 : Int) ≤ v575) && decide (v575 < (↑(Arr.n v573) : Int)) then
    shaft_CheckWorks_2 N (Arr.f v573 (Int.toNat v575)) v576 v577 v578 v579 v580 (fun r588 =>
    bif r588 then
     kr v575
    else
     rc v573 v574 (w64 (v575 + (1 : Int))) v576 v577 v578 v579 v580)
   else
    Option.none
  else
   k0 ()
def slices_IndexFunc___int_int__l2 {R : Type} (N : Nat) : Nat → Arr Int → Int → Int → Int → Arr api_Job → Arr Int → Int → Int → (Int → Option R) → (Unit → Option R) → Option R
  | 0, _, _, _, _, _, _, _, _, _, _ => Option.none
  | n + 1, v573, v574, v575, v576, v577, v578, v579, v580, kr, k0 => slices_IndexFunc___int_int__b2 N (fun v573 v574 v575 v576 v577 v578 v579 v580 => slices_IndexFunc___int_int__l2 N n v573 v574 v575 v576 v577 v578 v579 v580 kr k0) v573 v574 v575 v576 v577 v578 v579 v580 kr k0
def slices_IndexFunc___int_int__m {R : Type} (N : Nat) (a567 : Arr Int) (a568 : Int) (a569 : Arr api_Job) (a570 : Arr Int) (a571 : Int) (a572 : Int) (k : Int → Option R) : Option R :=
  slices_IndexFunc___int_int__l2 N N a567 ((↑(Arr.n a567) : Int)) (0 : Int) a568 a569 a570 a571 a572 (fun r589 =>
   k r589) (fun (_ : Unit) =>
   k (-1 : Int))
noncomputable def slices_IndexFunc___int_int_ {R : Type} : Nat → Arr Int → Int → Arr api_Job → Arr Int → Int → Int → (Int → Option R) → Option R := lock (@slices_IndexFunc___int_int__m R)
theorem slices_IndexFunc___int_int__def {R : Type} (N : Nat) (a567 : Arr Int) (a568 : Int) (a569 : Arr api_Job) (a570 : Arr Int) (a571 : Int) (a572 : Int) (k : Int → Option R) : slices_IndexFunc___int_int_ N a567 a568 a569 a570 a571 a572 k = slices_IndexFunc___int_int__m N a567 a568 a569 a570 a571 a572 k := by unfold slices_IndexFunc___int_int_; rw [lock_eq]
def slices_IndexFunc___int_int__sp : Sp := ⟨[rSl intC, rFunc 65 0 [rPtr 0 0, rPtr 1 0]], [(0, eBlk [rFunc 64 0 []]), (1, eBlk [rInt .i64, rSl api_JobC, rSl intC, rInt .i64, rInt .i64])]⟩
theorem slices_IndexFunc___int_int__sp_ok : slices_IndexFunc___int_int__sp.Ok := ⟨(allCons (rSl_ok intC_ok) (allCons (rFunc_ok 65 0 (allCons (rPtr_ok 0 0) (allCons (rPtr_ok 1 0) allNil))) allNil)), (eCons (eBlk_ok (allCons (rFunc_ok 64 0 allNil) allNil)) (eCons (eBlk_ok (allCons (rInt_ok .i64) (allCons (rSl_ok api_JobC_ok) (allCons (rSl_ok intC_ok) (allCons (rInt_ok .i64) (allCons (rInt_ok .i64) allNil)))))) eNil))⟩
def slices_IndexFunc___int_int__rs : Sp := ⟨[rInt .i64], [(0, eBlk [rFunc 64 0 []]), (1, eBlk [rInt .i64, rSl api_JobC, rSl intC, rInt .i64, rInt .i64])]⟩
theorem slices_IndexFunc___int_int__rs_ok : slices_IndexFunc___int_int__rs.Ok := ⟨(allCons (rInt_ok .i64) allNil), (eCons (eBlk_ok (allCons (rFunc_ok 64 0 allNil) allNil)) (eCons (eBlk_ok (allCons (rInt_ok .i64) (allCons (rSl_ok api_JobC_ok) (allCons (rSl_ok intC_ok) (allCons (rInt_ok .i64) (allCons (rInt_ok .i64) allNil)))))) eNil))⟩
def slices_IndexFunc___int_int__run {R : Type} (N : Nat) (args : List SV) (T : Tab) (kf : SV × Tab → Option R) : Option R :=
  slices_IndexFunc___int_int__m N (lstC intC (lget args 0)) (toI (lget (entCs (entAt T 1)) 0)) (lstC api_JobC (lget (entCs (entAt T 1)) 1)) (lstC intC (lget (entCs (entAt T 1)) 2)) (toI (lget (entCs (entAt T 1)) 3)) (toI (lget (entCs (entAt T 1)) 4)) (fun q0 => kf (lget [.int .i64 q0] 0, [(0, .blk [.func 64 0 []]), (1, .blk [.int .i64 (toI (lget (entCs (entAt T 1)) 0)), slC api_JobC (lstC api_JobC (lget (entCs (entAt T 1)) 1)), slC intC (lstC intC (lget (entCs (entAt T 1)) 2)), .int .i64 (toI (lget (entCs (entAt T 1)) 3)), .int .i64 (toI (lget (entCs (entAt T 1)) 4))])]))
def slices_IndexFunc___int_int__d2 {R : Type} (N : Nat) (S0 : St) (k : Exit → St → Option R) : Option R :=
  slices_IndexFunc___int_int__l2 N N (lstC intC (lget S0.tmps 0)) (toI (lget S0.tmps 7)) (toI (lget S0.tmps 8)) (toI (lget (entCs (entAt S0.tab 1)) 0)) (lstC api_JobC (lget (entCs (entAt S0.tab 1)) 1)) (lstC intC (lget (entCs (entAt S0.tab 1)) 2)) (toI (lget (entCs (entAt S0.tab 1)) 3)) (toI (lget (entCs (entAt S0.tab 1)) 4)) (fun q0 => k .ret (slices_IndexFunc___int_int__x2_r (toI (lget (entCs (entAt S0.tab 1)) 0)) (lstC api_JobC (lget (entCs (entAt S0.tab 1)) 1)) (lstC intC (lget (entCs (entAt S0.tab 1)) 2)) (toI (lget (entCs (entAt S0.tab 1)) 3)) (toI (lget (entCs (entAt S0.tab 1)) 4)) q0)) (fun (_ : Unit) => k (.exit 0) (slices_IndexFunc___int_int__x2_0 (toI (lget (entCs (entAt S0.tab 1)) 0)) (lstC api_JobC (lget (entCs (entAt S0.tab 1)) 1)) (lstC intC (lget (entCs (entAt S0.tab 1)) 2)) (toI (lget (entCs (entAt S0.tab 1)) 3)) (toI (lget (entCs (entAt S0.tab 1)) 4))))
def slices_IndexFunc___int_int__lp {R : Type} (N : Nat) : Lp R := fun body S k => bif (Go.Sx.keyOf body).getD 0 == 2 then (slices_IndexFunc___int_int__L2.head.raw 2 S (fun S0 => slices_IndexFunc___int_int__d2 N S0 k)) else Option.none
theorem slices_IndexFunc___int_int__l2_eq {R : Type} (N : Nat) (k : Exit → St → Option R) (n : Nat) : ∀ (v0 : Arr Int) (v1 : Int) (v2 : Int) (v3 : Int) (v4 : Arr api_Job) (v5 : Arr Int) (v6 : Int) (v7 : Int), loopM E.Θ (shaft_CheckWorks_2_cal N) (slices_IndexFunc___int_int__lp N) (noJn) 2 slices_IndexFunc___int_int__L2 (bodyAt E 78 2) n (slices_IndexFunc___int_int__h2 v0 v1 v2 v3 v4 v5 v6 v7) k = slices_IndexFunc___int_int__l2 N n v0 v1 v2 v3 v4 v5 v6 v7 (fun q0 => k .ret (slices_IndexFunc___int_int__x2_r v3 v4 v5 v6 v7 q0)) (fun (_ : Unit) => k (.exit 0) (slices_IndexFunc___int_int__x2_0 v3 v4 v5 v6 v7)) := by
  induction n with
  | zero => intro v0 v1 v2 v3 v4 v5 v6 v7; rfl
  | succ n ih =>
    intro v0 v1 v2 v3 v4 v5 v6 v7
    refine Eq.trans (b := slices_IndexFunc___int_int__b2 N (fun v0 v1 v2 v3 v4 v5 v6 v7 => loopM E.Θ (shaft_CheckWorks_2_cal N) (slices_IndexFunc___int_int__lp N) (noJn) 2 slices_IndexFunc___int_int__L2 (bodyAt E 78 2) n (slices_IndexFunc___int_int__h2 v0 v1 v2 v3 v4 v5 v6 v7) k) v0 v1 v2 v3 v4 v5 v6 v7 (fun q0 => k .ret (slices_IndexFunc___int_int__x2_r v3 v4 v5 v6 v7 q0)) (fun (_ : Unit) => k (.exit 0) (slices_IndexFunc___int_int__x2_0 v3 v4 v5 v6 v7))) (by kernel_rfl) ?_
    have h : (fun (v0 : Arr Int) (v1 : Int) (v2 : Int) (v3 : Int) (v4 : Arr api_Job) (v5 : Arr Int) (v6 : Int) (v7 : Int) => loopM E.Θ (shaft_CheckWorks_2_cal N) (slices_IndexFunc___int_int__lp N) (noJn) 2 slices_IndexFunc___int_int__L2 (bodyAt E 78 2) n (slices_IndexFunc___int_int__h2 v0 v1 v2 v3 v4 v5 v6 v7) k) = (fun (v0 : Arr Int) (v1 : Int) (v2 : Int) (v3 : Int) (v4 : Arr api_Job) (v5 : Arr Int) (v6 : Int) (v7 : Int) => slices_IndexFunc___int_int__l2 N n v0 v1 v2 v3 v4 v5 v6 v7 (fun q0 => k .ret (slices_IndexFunc___int_int__x2_r v3 v4 v5 v6 v7 q0)) (fun (_ : Unit) => k (.exit 0) (slices_IndexFunc___int_int__x2_0 v3 v4 v5 v6 v7))) := funext fun v0 => funext fun v1 => funext fun v2 => funext fun v3 => funext fun v4 => funext fun v5 => funext fun v6 => funext fun v7 => ih v0 v1 v2 v3 v4 v5 v6 v7
    rw [h]
    rfl
theorem slices_IndexFunc___int_int__k2 {R : Type} (N : Nat) : LpKey (R := R) E 78 2 (slices_IndexFunc___int_int__lp N) 2 :=
  lpKey_of hE (shaft_CheckWorks_2_cal_ok N) (lp := slices_IndexFunc___int_int__lp N) (jn := noJn) slices_IndexFunc___int_int__L2_ok [] kNil (by kernel_rfl) [] jNil (by kernel_rfl) N fun S k =>
    Eq.trans (b := slices_IndexFunc___int_int__L2.head.raw 2 S (fun S0 => slices_IndexFunc___int_int__d2 N S0 k)) (by kernel_rfl) (congrArg (slices_IndexFunc___int_int__L2.head.raw 2 S) (funext fun S0 => Eq.trans (slices_IndexFunc___int_int__l2_eq N k N (lstC intC (lget S0.tmps 0)) (toI (lget S0.tmps 7)) (toI (lget S0.tmps 8)) (toI (lget (entCs (entAt S0.tab 1)) 0)) (lstC api_JobC (lget (entCs (entAt S0.tab 1)) 1)) (lstC intC (lget (entCs (entAt S0.tab 1)) 2)) (toI (lget (entCs (entAt S0.tab 1)) 3)) (toI (lget (entCs (entAt S0.tab 1)) 4))).symm (by kernel_rfl)))
noncomputable def slices_IndexFunc___int_int__go {R : Type} (N : Nat) (args : List SV) (T : Tab) (kf : SV × Tab → Option R) : Option R :=
  slices_IndexFunc___int_int_ N (lstC intC (lget args 0)) (toI (lget (entCs (entAt T 1)) 0)) (lstC api_JobC (lget (entCs (entAt T 1)) 1)) (lstC intC (lget (entCs (entAt T 1)) 2)) (toI (lget (entCs (entAt T 1)) 3)) (toI (lget (entCs (entAt T 1)) 4)) (fun q0 => kf (lget [.int .i64 q0] 0, [(0, .blk [.func 64 0 []]), (1, .blk [.int .i64 (toI (lget (entCs (entAt T 1)) 0)), slC api_JobC (lstC api_JobC (lget (entCs (entAt T 1)) 1)), slC intC (lstC intC (lget (entCs (entAt T 1)) 2)), .int .i64 (toI (lget (entCs (entAt T 1)) 3)), .int .i64 (toI (lget (entCs (entAt T 1)) 4))])]))
noncomputable def slices_IndexFunc___int_int__cal {R : Type} (N : Nat) : Cal R := callM (shaft_CheckWorks_2_cal N) 78 2 slices_IndexFunc___int_int__sp (slices_IndexFunc___int_int__go N)
theorem slices_IndexFunc___int_int__cal_ok {R : Type} (N : Nat) : CalOk E.P (slices_IndexFunc___int_int__cal (R := R) N) :=
  callM_ok hE (shaft_CheckWorks_2_cal_ok N) (lp := slices_IndexFunc___int_int__lp N) (jn := noJn) (keys := [2]) (kCons (slices_IndexFunc___int_int__k2 N) kNil) (by kernel_rfl) (js := []) jNil (by kernel_rfl) slices_IndexFunc___int_int__sp_ok slices_IndexFunc___int_int__rs_ok (fun args T kf => Eq.trans (slices_IndexFunc___int_int__def N (lstC intC (lget args 0)) (toI (lget (entCs (entAt T 1)) 0)) (lstC api_JobC (lget (entCs (entAt T 1)) 1)) (lstC intC (lget (entCs (entAt T 1)) 2)) (toI (lget (entCs (entAt T 1)) 3)) (toI (lget (entCs (entAt T 1)) 4)) (fun q0 => kf (lget [.int .i64 q0] 0, [(0, .blk [.func 64 0 []]), (1, .blk [.int .i64 (toI (lget (entCs (entAt T 1)) 0)), slC api_JobC (lstC api_JobC (lget (entCs (entAt T 1)) 1)), slC intC (lstC intC (lget (entCs (entAt T 1)) 2)), .int .i64 (toI (lget (entCs (entAt T 1)) 3)), .int .i64 (toI (lget (entCs (entAt T 1)) 4))])]))) (by kernel_rfl : slices_IndexFunc___int_int__run N args T kf = fnM E (shaft_CheckWorks_2_cal N) (slices_IndexFunc___int_int__lp N) (noJn) 78 (slices_IndexFunc___int_int__sp.vs args) (slices_IndexFunc___int_int__sp.tab T) 2 (resK slices_IndexFunc___int_int__rs kf)))
def slices_ContainsFunc___int_int__m {R : Type} (N : Nat) (a561 : Arr Int) (a562 : Int) (a563 : Arr api_Job) (a564 : Arr Int) (a565 : Int) (a566 : Int) (k : Bool → Option R) : Option R :=
  slices_IndexFunc___int_int_ N a561 a562 a563 a564 a565 a566 (fun r590 =>
  k (decide (r590 ≥ (0 : Int))))
noncomputable def slices_ContainsFunc___int_int_ {R : Type} : Nat → Arr Int → Int → Arr api_Job → Arr Int → Int → Int → (Bool → Option R) → Option R := lock (@slices_ContainsFunc___int_int__m R)
theorem slices_ContainsFunc___int_int__def {R : Type} (N : Nat) (a561 : Arr Int) (a562 : Int) (a563 : Arr api_Job) (a564 : Arr Int) (a565 : Int) (a566 : Int) (k : Bool → Option R) : slices_ContainsFunc___int_int_ N a561 a562 a563 a564 a565 a566 k = slices_ContainsFunc___int_int__m N a561 a562 a563 a564 a565 a566 k := by unfold slices_ContainsFunc___int_int_; rw [lock_eq]
def slices_ContainsFunc___int_int__sp : Sp := ⟨[rSl intC, rFunc 65 0 [rPtr 0 0, rPtr 1 0]], [(0, eBlk [rFunc 64 0 []]), (1, eBlk [rInt .i64, rSl api_JobC, rSl intC, rInt .i64, rInt .i64])]⟩
theorem slices_ContainsFunc___int_int__sp_ok : slices_ContainsFunc___int_int__sp.Ok := ⟨(allCons (rSl_ok intC_ok) (allCons (rFunc_ok 65 0 (allCons (rPtr_ok 0 0) (allCons (rPtr_ok 1 0) allNil))) allNil)), (eCons (eBlk_ok (allCons (rFunc_ok 64 0 allNil) allNil)) (eCons (eBlk_ok (allCons (rInt_ok .i64) (allCons (rSl_ok api_JobC_ok) (allCons (rSl_ok intC_ok) (allCons (rInt_ok .i64) (allCons (rInt_ok .i64) allNil)))))) eNil))⟩
def slices_ContainsFunc___int_int__rs : Sp := ⟨[rBool], [(0, eBlk [rFunc 64 0 []]), (1, eBlk [rInt .i64, rSl api_JobC, rSl intC, rInt .i64, rInt .i64])]⟩
theorem slices_ContainsFunc___int_int__rs_ok : slices_ContainsFunc___int_int__rs.Ok := ⟨(allCons rBool_ok allNil), (eCons (eBlk_ok (allCons (rFunc_ok 64 0 allNil) allNil)) (eCons (eBlk_ok (allCons (rInt_ok .i64) (allCons (rSl_ok api_JobC_ok) (allCons (rSl_ok intC_ok) (allCons (rInt_ok .i64) (allCons (rInt_ok .i64) allNil)))))) eNil))⟩
def slices_ContainsFunc___int_int__run {R : Type} (N : Nat) (args : List SV) (T : Tab) (kf : SV × Tab → Option R) : Option R :=
  slices_ContainsFunc___int_int__m N (lstC intC (lget args 0)) (toI (lget (entCs (entAt T 1)) 0)) (lstC api_JobC (lget (entCs (entAt T 1)) 1)) (lstC intC (lget (entCs (entAt T 1)) 2)) (toI (lget (entCs (entAt T 1)) 3)) (toI (lget (entCs (entAt T 1)) 4)) (fun q0 => kf (lget [.bool q0] 0, [(0, .blk [.func 64 0 []]), (1, .blk [.int .i64 (toI (lget (entCs (entAt T 1)) 0)), slC api_JobC (lstC api_JobC (lget (entCs (entAt T 1)) 1)), slC intC (lstC intC (lget (entCs (entAt T 1)) 2)), .int .i64 (toI (lget (entCs (entAt T 1)) 3)), .int .i64 (toI (lget (entCs (entAt T 1)) 4))])]))
def slices_ContainsFunc___int_int__lp {R : Type} (N : Nat) : Lp R := fun body S k => Option.none
noncomputable def slices_ContainsFunc___int_int__go {R : Type} (N : Nat) (args : List SV) (T : Tab) (kf : SV × Tab → Option R) : Option R :=
  slices_ContainsFunc___int_int_ N (lstC intC (lget args 0)) (toI (lget (entCs (entAt T 1)) 0)) (lstC api_JobC (lget (entCs (entAt T 1)) 1)) (lstC intC (lget (entCs (entAt T 1)) 2)) (toI (lget (entCs (entAt T 1)) 3)) (toI (lget (entCs (entAt T 1)) 4)) (fun q0 => kf (lget [.bool q0] 0, [(0, .blk [.func 64 0 []]), (1, .blk [.int .i64 (toI (lget (entCs (entAt T 1)) 0)), slC api_JobC (lstC api_JobC (lget (entCs (entAt T 1)) 1)), slC intC (lstC intC (lget (entCs (entAt T 1)) 2)), .int .i64 (toI (lget (entCs (entAt T 1)) 3)), .int .i64 (toI (lget (entCs (entAt T 1)) 4))])]))
noncomputable def slices_ContainsFunc___int_int__cal {R : Type} (N : Nat) : Cal R := callM (slices_IndexFunc___int_int__cal N) 57 2 slices_ContainsFunc___int_int__sp (slices_ContainsFunc___int_int__go N)
theorem slices_ContainsFunc___int_int__cal_ok {R : Type} (N : Nat) : CalOk E.P (slices_ContainsFunc___int_int__cal (R := R) N) :=
  callM_ok hE (slices_IndexFunc___int_int__cal_ok N) (lp := slices_ContainsFunc___int_int__lp N) (jn := noJn) (keys := []) kNil (by kernel_rfl) (js := []) jNil (by kernel_rfl) slices_ContainsFunc___int_int__sp_ok slices_ContainsFunc___int_int__rs_ok (fun args T kf => Eq.trans (slices_ContainsFunc___int_int__def N (lstC intC (lget args 0)) (toI (lget (entCs (entAt T 1)) 0)) (lstC api_JobC (lget (entCs (entAt T 1)) 1)) (lstC intC (lget (entCs (entAt T 1)) 2)) (toI (lget (entCs (entAt T 1)) 3)) (toI (lget (entCs (entAt T 1)) 4)) (fun q0 => kf (lget [.bool q0] 0, [(0, .blk [.func 64 0 []]), (1, .blk [.int .i64 (toI (lget (entCs (entAt T 1)) 0)), slC api_JobC (lstC api_JobC (lget (entCs (entAt T 1)) 1)), slC intC (lstC intC (lget (entCs (entAt T 1)) 2)), .int .i64 (toI (lget (entCs (entAt T 1)) 3)), .int .i64 (toI (lget (entCs (entAt T 1)) 4))])]))) (by kernel_rfl : slices_ContainsFunc___int_int__run N args T kf = fnM E (slices_IndexFunc___int_int__cal N) (slices_ContainsFunc___int_int__lp N) (noJn) 57 (slices_ContainsFunc___int_int__sp.vs args) (slices_ContainsFunc___int_int__sp.tab T) 2 (resK slices_ContainsFunc___int_int__rs kf)))
def shaft_CheckWorks_L11 : LoopSp := ⟨⟨[1, 3, 4, 6, 43, 44, 45, 66, 67, 68], ⟨(dr 1 ((rPtr 0 0) :: (dr 1 ((rPtr 1 0) :: (rInt .i64) :: (dr 1 ((rInt .i64) :: (dr 36 ((rSl api_JobC) :: (rInt .i64) :: (rInt .i64) :: (dr 20 ((rSl intC) :: (rInt .i64) :: (rInt .i64) :: (dr 18 []))))))))))), [(0, eBlkC api_WorksC), (1, eBlk [rFunc 64 0 []])]⟩, 2⟩, [(Option.none, ⟨[2], ⟨(dr 2 ((rInt .i64) :: (dr 84 []))), []⟩, 0⟩), (some 2, ⟨[1, 3, 43, 44, 45], ⟨(dr 1 ((rPtr 0 0) :: (dr 1 ((rPtr 1 0) :: (dr 39 ((rSl api_JobC) :: (rInt .i64) :: (rInt .i64) :: (dr 41 []))))))), [(0, eBlkC api_WorksC), (1, eBlk [rFunc 64 0 []])]⟩, 2⟩)]⟩
theorem shaft_CheckWorks_L11_ok : shaft_CheckWorks_L11.Ok := ⟨⟨(drCons 1 (allCons (rPtr_ok 0 0) (drCons 1 (allCons (rPtr_ok 1 0) (allCons (rInt_ok .i64) (drCons 1 (allCons (rInt_ok .i64) (drCons 36 (allCons (rSl_ok api_JobC_ok) (allCons (rInt_ok .i64) (allCons (rInt_ok .i64) (drCons 20 (allCons (rSl_ok intC_ok) (allCons (rInt_ok .i64) (allCons (rInt_ok .i64) (drCons 18 allNil)))))))))))))))), (eCons (eBlkC_ok api_WorksC_ok api_WorksC_len) (eCons (eBlk_ok (allCons (rFunc_ok 64 0 allNil) allNil)) eNil))⟩, (xCons ⟨(drCons 2 (allCons (rInt_ok .i64) (drCons 84 allNil))), eNil⟩ (xCons ⟨(drCons 1 (allCons (rPtr_ok 0 0) (drCons 1 (allCons (rPtr_ok 1 0) (drCons 39 (allCons (rSl_ok api_JobC_ok) (allCons (rInt_ok .i64) (allCons (rInt_ok .i64) (drCons 41 allNil))))))))), (eCons (eBlkC_ok api_WorksC_ok api_WorksC_len) (eCons (eBlk_ok (allCons (rFunc_ok 64 0 allNil) allNil)) eNil))⟩ xNil))⟩
def shaft_CheckWorks_h11 (v549 : Int) (v550 : Int) (v551 : Arr api_Job) (v552 : Int) (v553 : Int) (v554 : Arr Int) (v555 : Int) (v556 : Int) (v557 : api_Works) : St := ⟨(un 1 ((.ptr 0 0) :: (un 1 ((.ptr 1 0) :: (.int .i64 v549) :: (un 1 ((.int .i64 v550) :: (un 36 ((slC api_JobC v551) :: (.int .i64 v552) :: (.int .i64 v553) :: (un 20 ((slC intC v554) :: (.int .i64 v555) :: (.int .i64 v556) :: (un 18 []))))))))))), [(0, .blk (Cod.enc api_WorksC v557)), (1, .blk [.func 64 0 []])], 2⟩
def shaft_CheckWorks_x11_r (q0 : Int) : St := ⟨(un 2 ((.int .i64 q0) :: (un 84 []))), [], 0⟩
def shaft_CheckWorks_x11_2 (v551 : Arr api_Job) (v552 : Int) (v553 : Int) (v557 : api_Works) : St := ⟨(un 1 ((.ptr 0 0) :: (un 1 ((.ptr 1 0) :: (un 39 ((slC api_JobC v551) :: (.int .i64 v552) :: (.int .i64 v553) :: (un 41 []))))))), [(0, .blk (Cod.enc api_WorksC v557)), (1, .blk [.func 64 0 []])], 2⟩
def shaft_CheckWorks_b11 {R : Type} (N : Nat) (rc : Int → Int → Arr api_Job → Int → Int → Arr Int → Int → Int → api_Works → Option R) (v549 : Int) (v550 : Int) (v551 : Arr api_Job) (v552 : Int) (v553 : Int) (v554 : Arr Int) (v555 : Int) (v556 : Int) (v557 : api_Works) (kr : Int → Option R) (k2 : Unit → Option R) : Option R :=
  bif decide (v556 < v555) then
   bif decide ((0 : Int) ≤ v556) && decide (v556 < (↑(Arr.n v554) : Int)) then
    shaft_CheckWorks_1 N (Arr.f v554 (Int.toNat v556)) v550 (w64 (v549 - (1 : Int))) (fun r558 =>
    bif !r558 then
     kr (92 : Int)
    else
     rc v549 (w64 (Arr.f v554 (Int.toNat v556) + (1 : Int))) v551 v552 v553 v554 v555 (w64 (v556 + (1 : Int))) v557)
   else
    Option.none
  else
   k2 ()
def shaft_CheckWorks_l11 {R : Type} (N : Nat) : Nat → Int → Int → Arr api_Job → Int → Int → Arr Int → Int → Int → api_Works → (Int → Option R) → (Unit → Option R) → Option R
  | 0, _, _, _, _, _, _, _, _, _, _, _ => Option.none
  | n + 1, v549, v550, v551, v552, v553, v554, v555, v556, v557, kr, k2 => shaft_CheckWorks_b11 N (fun v549 v550 v551 v552 v553 v554 v555 v556 v557 => shaft_CheckWorks_l11 N n v549 v550 v551 v552 v553 v554 v555 v556 v557 kr k2) v549 v550 v551 v552 v553 v554 v555 v556 v557 kr k2
def shaft_CheckWorks_L5 : LoopSp := ⟨⟨[1, 3, 43, 44, 45], ⟨(dr 1 ((rPtr 0 0) :: (dr 1 ((rPtr 1 0) :: (dr 39 ((rSl api_JobC) :: (rInt .i64) :: (rInt .i64) :: (dr 41 []))))))), [(0, eBlkC api_WorksC), (1, eBlk [rFunc 64 0 []])]⟩, 2⟩, [(Option.none, ⟨[2], ⟨(dr 2 ((rInt .i64) :: (dr 84 []))), []⟩, 0⟩), (some 0, ⟨[1, 3], ⟨(dr 1 ((rPtr 0 0) :: (dr 1 ((rPtr 1 0) :: (dr 83 []))))), [(0, eBlkC api_WorksC), (1, eBlk [rFunc 64 0 []])]⟩, 2⟩)]⟩
theorem shaft_CheckWorks_L5_ok : shaft_CheckWorks_L5.Ok := ⟨⟨(drCons 1 (allCons (rPtr_ok 0 0) (drCons 1 (allCons (rPtr_ok 1 0) (drCons 39 (allCons (rSl_ok api_JobC_ok) (allCons (rInt_ok .i64) (allCons (rInt_ok .i64) (drCons 41 allNil))))))))), (eCons (eBlkC_ok api_WorksC_ok api_WorksC_len) (eCons (eBlk_ok (allCons (rFunc_ok 64 0 allNil) allNil)) eNil))⟩, (xCons ⟨(drCons 2 (allCons (rInt_ok .i64) (drCons 84 allNil))), eNil⟩ (xCons ⟨(drCons 1 (allCons (rPtr_ok 0 0) (drCons 1 (allCons (rPtr_ok 1 0) (drCons 83 allNil))))), (eCons (eBlkC_ok api_WorksC_ok api_WorksC_len) (eCons (eBlk_ok (allCons (rFunc_ok 64 0 allNil) allNil)) eNil))⟩ xNil))⟩
def shaft_CheckWorks_h5 (v543 : Arr api_Job) (v544 : Int) (v545 : Int) (v546 : api_Works) : St := ⟨(un 1 ((.ptr 0 0) :: (un 1 ((.ptr 1 0) :: (un 39 ((slC api_JobC v543) :: (.int .i64 v544) :: (.int .i64 v545) :: (un 41 []))))))), [(0, .blk (Cod.enc api_WorksC v546)), (1, .blk [.func 64 0 []])], 2⟩
def shaft_CheckWorks_x5_r (q0 : Int) : St := ⟨(un 2 ((.int .i64 q0) :: (un 84 []))), [], 0⟩
def shaft_CheckWorks_x5_0 (v546 : api_Works) : St := ⟨(un 1 ((.ptr 0 0) :: (un 1 ((.ptr 1 0) :: (un 83 []))))), [(0, .blk (Cod.enc api_WorksC v546)), (1, .blk [.func 64 0 []])], 2⟩
def shaft_CheckWorks_b5 {R : Type} (N : Nat) (rc : Arr api_Job → Int → Int → api_Works → Option R) (v543 : Arr api_Job) (v544 : Int) (v545 : Int) (v546 : api_Works) (kr : Int → Option R) (k0 : Unit → Option R) : Option R :=
  bif decide (v545 < v544) then
   bif decide ((0 : Int) ≤ v545) && decide (v545 < (↑(Arr.n v543) : Int)) then
    shaft_CheckWorks_1 N (api_Job.Machine (Arr.f v543 (Int.toNat v545))) (0 : Int) (w64 (api_Works.Machines v546 - (1 : Int))) (fun r547 =>
    bif !r547 then
     kr (92 : Int)
    else
     shaft_CheckWorks_1 N (api_Job.Nights (Arr.f v543 (Int.toNat v545))) (1 : Int) (24 : Int) (fun r548 =>
     bif !r548 then
      kr (92 : Int)
     else
      shaft_CheckWorks_l11 N N v545 (0 : Int) v543 v544 v545 (api_Job.After (Arr.f v543 (Int.toNat v545))) ((↑(Arr.n (api_Job.After (Arr.f v543 (Int.toNat v545)))) : Int)) (0 : Int) v546 (fun r559 =>
       kr r559) (fun (_ : Unit) =>
       rc v543 v544 (w64 (v545 + (1 : Int))) v546)))
   else
    Option.none
  else
   k0 ()
def shaft_CheckWorks_l5 {R : Type} (N : Nat) : Nat → Arr api_Job → Int → Int → api_Works → (Int → Option R) → (Unit → Option R) → Option R
  | 0, _, _, _, _, _, _ => Option.none
  | n + 1, v543, v544, v545, v546, kr, k0 => shaft_CheckWorks_b5 N (fun v543 v544 v545 v546 => shaft_CheckWorks_l5 N n v543 v544 v545 v546 kr k0) v543 v544 v545 v546 kr k0
def shaft_CheckWorks_m {R : Type} (N : Nat) (a535 : api_Works) (k : Int → Option R) : Option R :=
  shaft_CheckWorks_1 N (api_Works.Machines a535) (1 : Int) (12 : Int) (fun r539 =>
  bif !r539 then
   k (92 : Int)
  else
   shaft_CheckWorks_1 N ((↑(Arr.n (api_Works.Jobs a535)) : Int)) (1 : Int) (6 : Int) (fun r540 =>
   bif !r540 then
    k (92 : Int)
   else
    bif decide ((↑(Arr.n (api_Works.Never a535)) : Int) > (20 : Int)) then
     k (92 : Int)
    else
     shaft_CheckWorks_1 N (api_Works.Crews a535) (1 : Int) (6 : Int) (fun r541 =>
     bif !r541 then
      k (92 : Int)
     else
      shaft_CheckWorks_1 N (api_Works.Until a535) (1 : Int) (24 : Int) (fun r542 =>
      bif !r542 then
       k (92 : Int)
      else
       shaft_CheckWorks_l5 N N (api_Works.Jobs a535) ((↑(Arr.n (api_Works.Jobs a535)) : Int)) (0 : Int) a535 (fun r560 =>
        k r560) (fun (_ : Unit) =>
        slices_ContainsFunc___int_int_ N (api_Works.Never a535) (api_Works.Machines a535) (api_Works.Jobs a535) (api_Works.Never a535) (api_Works.Crews a535) (api_Works.Until a535) (fun r591 =>
        bif r591 then
         k (92 : Int)
        else
         k (0 : Int)))))))
noncomputable def shaft_CheckWorks {R : Type} : Nat → api_Works → (Int → Option R) → Option R := lock (@shaft_CheckWorks_m R)
theorem shaft_CheckWorks_def {R : Type} (N : Nat) (a535 : api_Works) (k : Int → Option R) : shaft_CheckWorks N a535 k = shaft_CheckWorks_m N a535 k := by unfold shaft_CheckWorks; rw [lock_eq]
def shaft_CheckWorks_sp : Sp := ⟨[rAgg api_WorksC], []⟩
theorem shaft_CheckWorks_sp_ok : shaft_CheckWorks_sp.Ok := ⟨(allCons (rAgg_ok api_WorksC_ok api_WorksC_len) allNil), eNil⟩
def shaft_CheckWorks_rs : Sp := ⟨[rInt .i64], []⟩
theorem shaft_CheckWorks_rs_ok : shaft_CheckWorks_rs.Ok := ⟨(allCons (rInt_ok .i64) allNil), eNil⟩
def shaft_CheckWorks_run {R : Type} (N : Nat) (args : List SV) (T : Tab) (kf : SV × Tab → Option R) : Option R :=
  shaft_CheckWorks_m N (Cod.dec api_WorksC (lget (toCs (lget args 0)))) (fun q0 => kf (lget [.int .i64 q0] 0, []))
def shaft_CheckWorks_d11 {R : Type} (N : Nat) (S0 : St) (k : Exit → St → Option R) : Option R :=
  shaft_CheckWorks_l11 N N (toI (lget S0.tmps 4)) (toI (lget S0.tmps 6)) (lstC api_JobC (lget S0.tmps 43)) (toI (lget S0.tmps 44)) (toI (lget S0.tmps 45)) (lstC intC (lget S0.tmps 66)) (toI (lget S0.tmps 67)) (toI (lget S0.tmps 68)) (Cod.dec api_WorksC (lget (entCs (entAt S0.tab 0)))) (fun q0 => k .ret (shaft_CheckWorks_x11_r q0)) (fun (_ : Unit) => k (.exit 2) (shaft_CheckWorks_x11_2 (lstC api_JobC (lget S0.tmps 43)) (toI (lget S0.tmps 44)) (toI (lget S0.tmps 45)) (Cod.dec api_WorksC (lget (entCs (entAt S0.tab 0))))))
def shaft_CheckWorks_d5 {R : Type} (N : Nat) (S0 : St) (k : Exit → St → Option R) : Option R :=
  shaft_CheckWorks_l5 N N (lstC api_JobC (lget S0.tmps 43)) (toI (lget S0.tmps 44)) (toI (lget S0.tmps 45)) (Cod.dec api_WorksC (lget (entCs (entAt S0.tab 0)))) (fun q0 => k .ret (shaft_CheckWorks_x5_r q0)) (fun (_ : Unit) => k (.exit 0) (shaft_CheckWorks_x5_0 (Cod.dec api_WorksC (lget (entCs (entAt S0.tab 0))))))
def shaft_CheckWorks_lp {R : Type} (N : Nat) : Lp R := fun body S k => bif (Go.Sx.keyOf body).getD 0 == 5 then (shaft_CheckWorks_L5.head.raw 0 S (fun S0 => shaft_CheckWorks_d5 N S0 k)) else bif (Go.Sx.keyOf body).getD 0 == 11 then (shaft_CheckWorks_L11.head.raw 0 S (fun S0 => shaft_CheckWorks_d11 N S0 k)) else Option.none
theorem shaft_CheckWorks_l5_eq {R : Type} (N : Nat) (k : Exit → St → Option R) (n : Nat) : ∀ (v0 : Arr api_Job) (v1 : Int) (v2 : Int) (v3 : api_Works), loopM E.Θ (slices_ContainsFunc___int_int__cal N) (shaft_CheckWorks_lp N) (noJn) 0 shaft_CheckWorks_L5 (bodyAt E 41 5) n (shaft_CheckWorks_h5 v0 v1 v2 v3) k = shaft_CheckWorks_l5 N n v0 v1 v2 v3 (fun q0 => k .ret (shaft_CheckWorks_x5_r q0)) (fun (_ : Unit) => k (.exit 0) (shaft_CheckWorks_x5_0 v3)) := by
  induction n with
  | zero => intro v0 v1 v2 v3; rfl
  | succ n ih =>
    intro v0 v1 v2 v3
    refine Eq.trans (b := shaft_CheckWorks_b5 N (fun v0 v1 v2 v3 => loopM E.Θ (slices_ContainsFunc___int_int__cal N) (shaft_CheckWorks_lp N) (noJn) 0 shaft_CheckWorks_L5 (bodyAt E 41 5) n (shaft_CheckWorks_h5 v0 v1 v2 v3) k) v0 v1 v2 v3 (fun q0 => k .ret (shaft_CheckWorks_x5_r q0)) (fun (_ : Unit) => k (.exit 0) (shaft_CheckWorks_x5_0 v3))) (by kernel_rfl) ?_
    have h : (fun (v0 : Arr api_Job) (v1 : Int) (v2 : Int) (v3 : api_Works) => loopM E.Θ (slices_ContainsFunc___int_int__cal N) (shaft_CheckWorks_lp N) (noJn) 0 shaft_CheckWorks_L5 (bodyAt E 41 5) n (shaft_CheckWorks_h5 v0 v1 v2 v3) k) = (fun (v0 : Arr api_Job) (v1 : Int) (v2 : Int) (v3 : api_Works) => shaft_CheckWorks_l5 N n v0 v1 v2 v3 (fun q0 => k .ret (shaft_CheckWorks_x5_r q0)) (fun (_ : Unit) => k (.exit 0) (shaft_CheckWorks_x5_0 v3))) := funext fun v0 => funext fun v1 => funext fun v2 => funext fun v3 => ih v0 v1 v2 v3
    rw [h]
    rfl
theorem shaft_CheckWorks_l11_eq {R : Type} (N : Nat) (k : Exit → St → Option R) (n : Nat) : ∀ (v0 : Int) (v1 : Int) (v2 : Arr api_Job) (v3 : Int) (v4 : Int) (v5 : Arr Int) (v6 : Int) (v7 : Int) (v8 : api_Works), loopM E.Θ (slices_ContainsFunc___int_int__cal N) (shaft_CheckWorks_lp N) (noJn) 0 shaft_CheckWorks_L11 (bodyAt E 41 11) n (shaft_CheckWorks_h11 v0 v1 v2 v3 v4 v5 v6 v7 v8) k = shaft_CheckWorks_l11 N n v0 v1 v2 v3 v4 v5 v6 v7 v8 (fun q0 => k .ret (shaft_CheckWorks_x11_r q0)) (fun (_ : Unit) => k (.exit 2) (shaft_CheckWorks_x11_2 v2 v3 v4 v8)) := by
  induction n with
  | zero => intro v0 v1 v2 v3 v4 v5 v6 v7 v8; rfl
  | succ n ih =>
    intro v0 v1 v2 v3 v4 v5 v6 v7 v8
    refine Eq.trans (b := shaft_CheckWorks_b11 N (fun v0 v1 v2 v3 v4 v5 v6 v7 v8 => loopM E.Θ (slices_ContainsFunc___int_int__cal N) (shaft_CheckWorks_lp N) (noJn) 0 shaft_CheckWorks_L11 (bodyAt E 41 11) n (shaft_CheckWorks_h11 v0 v1 v2 v3 v4 v5 v6 v7 v8) k) v0 v1 v2 v3 v4 v5 v6 v7 v8 (fun q0 => k .ret (shaft_CheckWorks_x11_r q0)) (fun (_ : Unit) => k (.exit 2) (shaft_CheckWorks_x11_2 v2 v3 v4 v8))) (by kernel_rfl) ?_
    have h : (fun (v0 : Int) (v1 : Int) (v2 : Arr api_Job) (v3 : Int) (v4 : Int) (v5 : Arr Int) (v6 : Int) (v7 : Int) (v8 : api_Works) => loopM E.Θ (slices_ContainsFunc___int_int__cal N) (shaft_CheckWorks_lp N) (noJn) 0 shaft_CheckWorks_L11 (bodyAt E 41 11) n (shaft_CheckWorks_h11 v0 v1 v2 v3 v4 v5 v6 v7 v8) k) = (fun (v0 : Int) (v1 : Int) (v2 : Arr api_Job) (v3 : Int) (v4 : Int) (v5 : Arr Int) (v6 : Int) (v7 : Int) (v8 : api_Works) => shaft_CheckWorks_l11 N n v0 v1 v2 v3 v4 v5 v6 v7 v8 (fun q0 => k .ret (shaft_CheckWorks_x11_r q0)) (fun (_ : Unit) => k (.exit 2) (shaft_CheckWorks_x11_2 v2 v3 v4 v8))) := funext fun v0 => funext fun v1 => funext fun v2 => funext fun v3 => funext fun v4 => funext fun v5 => funext fun v6 => funext fun v7 => funext fun v8 => ih v0 v1 v2 v3 v4 v5 v6 v7 v8
    rw [h]
    rfl
theorem shaft_CheckWorks_k11 {R : Type} (N : Nat) : LpKey (R := R) E 41 0 (shaft_CheckWorks_lp N) 11 :=
  lpKey_of hE (slices_ContainsFunc___int_int__cal_ok N) (lp := shaft_CheckWorks_lp N) (jn := noJn) shaft_CheckWorks_L11_ok [] kNil (by kernel_rfl) [] jNil (by kernel_rfl) N fun S k =>
    Eq.trans (b := shaft_CheckWorks_L11.head.raw 0 S (fun S0 => shaft_CheckWorks_d11 N S0 k)) (by kernel_rfl) (congrArg (shaft_CheckWorks_L11.head.raw 0 S) (funext fun S0 => Eq.trans (shaft_CheckWorks_l11_eq N k N (toI (lget S0.tmps 4)) (toI (lget S0.tmps 6)) (lstC api_JobC (lget S0.tmps 43)) (toI (lget S0.tmps 44)) (toI (lget S0.tmps 45)) (lstC intC (lget S0.tmps 66)) (toI (lget S0.tmps 67)) (toI (lget S0.tmps 68)) (Cod.dec api_WorksC (lget (entCs (entAt S0.tab 0))))).symm (by kernel_rfl)))
theorem shaft_CheckWorks_k5 {R : Type} (N : Nat) : LpKey (R := R) E 41 0 (shaft_CheckWorks_lp N) 5 :=
  lpKey_of hE (slices_ContainsFunc___int_int__cal_ok N) (lp := shaft_CheckWorks_lp N) (jn := noJn) shaft_CheckWorks_L5_ok [11] (kCons (shaft_CheckWorks_k11 N) kNil) (by kernel_rfl) [] jNil (by kernel_rfl) N fun S k =>
    Eq.trans (b := shaft_CheckWorks_L5.head.raw 0 S (fun S0 => shaft_CheckWorks_d5 N S0 k)) (by kernel_rfl) (congrArg (shaft_CheckWorks_L5.head.raw 0 S) (funext fun S0 => Eq.trans (shaft_CheckWorks_l5_eq N k N (lstC api_JobC (lget S0.tmps 43)) (toI (lget S0.tmps 44)) (toI (lget S0.tmps 45)) (Cod.dec api_WorksC (lget (entCs (entAt S0.tab 0))))).symm (by kernel_rfl)))
noncomputable def shaft_CheckWorks_go {R : Type} (N : Nat) (args : List SV) (T : Tab) (kf : SV × Tab → Option R) : Option R :=
  shaft_CheckWorks N (Cod.dec api_WorksC (lget (toCs (lget args 0)))) (fun q0 => kf (lget [.int .i64 q0] 0, []))
noncomputable def shaft_CheckWorks_cal {R : Type} (N : Nat) : Cal R := callM (slices_ContainsFunc___int_int__cal N) 41 0 shaft_CheckWorks_sp (shaft_CheckWorks_go N)
theorem shaft_CheckWorks_cal_ok {R : Type} (N : Nat) : CalOk E.P (shaft_CheckWorks_cal (R := R) N) :=
  callM_ok hE (slices_ContainsFunc___int_int__cal_ok N) (lp := shaft_CheckWorks_lp N) (jn := noJn) (keys := [5, 11]) (kCons (shaft_CheckWorks_k5 N) (kCons (shaft_CheckWorks_k11 N) kNil)) (by kernel_rfl) (js := []) jNil (by kernel_rfl) shaft_CheckWorks_sp_ok shaft_CheckWorks_rs_ok (fun args T kf => Eq.trans (shaft_CheckWorks_def N (Cod.dec api_WorksC (lget (toCs (lget args 0)))) (fun q0 => kf (lget [.int .i64 q0] 0, []))) (by kernel_rfl : shaft_CheckWorks_run N args T kf = fnM E (slices_ContainsFunc___int_int__cal N) (shaft_CheckWorks_lp N) (noJn) 41 (shaft_CheckWorks_sp.vs args) (shaft_CheckWorks_sp.tab T) 0 (resK shaft_CheckWorks_rs kf)))
def newelref09_End_L3 : LoopSp := ⟨⟨[1, 2, 5, 6], ⟨(dr 1 ((rSl intC) :: (rPtr 0 0) :: (dr 2 ((rInt .i64) :: (rInt .i64) :: (dr 20 []))))), [(0, eBlkC api_WorksC)]⟩, 1⟩, [(some 0, ⟨[5], ⟨(dr 5 ((rInt .i64) :: (dr 21 []))), []⟩, 0⟩)]⟩
theorem newelref09_End_L3_ok : newelref09_End_L3.Ok := ⟨⟨(drCons 1 (allCons (rSl_ok intC_ok) (allCons (rPtr_ok 0 0) (drCons 2 (allCons (rInt_ok .i64) (allCons (rInt_ok .i64) (drCons 20 allNil))))))), (eCons (eBlkC_ok api_WorksC_ok api_WorksC_len) eNil)⟩, (xCons ⟨(drCons 5 (allCons (rInt_ok .i64) (drCons 21 allNil))), eNil⟩ xNil)⟩
def newelref09_End_h3 (v594 : Arr Int) (v595 : Int) (v596 : Int) (v597 : api_Works) : St := ⟨(un 1 ((slC intC v594) :: (.ptr 0 0) :: (un 2 ((.int .i64 v595) :: (.int .i64 v596) :: (un 20 []))))), [(0, .blk (Cod.enc api_WorksC v597))], 1⟩
def newelref09_End_x3_0 (q0 : Int) : St := ⟨(un 5 ((.int .i64 q0) :: (un 21 []))), [], 0⟩
def newelref09_End_b3 {R : Type} (N : Nat) (rc : Arr Int → Int → Int → api_Works → Option R) (v594 : Arr Int) (v595 : Int) (v596 : Int) (v597 : api_Works) (k0 : Int → Option R) : Option R :=
  bif decide (v596 < (↑(Arr.n v594) : Int)) then
   bif decide ((0 : Int) ≤ v596) && decide (v596 < (↑(Arr.n v594) : Int)) then
    bif decide ((0 : Int) ≤ v596) && decide (v596 < (↑(Arr.n (api_Works.Jobs v597)) : Int)) then
     rc v594 (mxI v595 (w64 (Arr.f v594 (Int.toNat v596) + api_Job.Nights (Arr.f (api_Works.Jobs v597) (Int.toNat v596))))) (w64 (v596 + (1 : Int))) v597
    else
     Option.none
   else
    Option.none
  else
   k0 v595
def newelref09_End_l3 {R : Type} (N : Nat) : Nat → Arr Int → Int → Int → api_Works → (Int → Option R) → Option R
  | 0, _, _, _, _, _ => Option.none
  | n + 1, v594, v595, v596, v597, k0 => newelref09_End_b3 N (fun v594 v595 v596 v597 => newelref09_End_l3 N n v594 v595 v596 v597 k0) v594 v595 v596 v597 k0
def newelref09_End_m {R : Type} (N : Nat) (a592 : api_Works) (a593 : Arr Int) (k : Int → Option R) : Option R :=
  newelref09_End_l3 N N a593 (0 : Int) (0 : Int) a592 (fun r598 =>
   k r598)
noncomputable def newelref09_End {R : Type} : Nat → api_Works → Arr Int → (Int → Option R) → Option R := lock (@newelref09_End_m R)
theorem newelref09_End_def {R : Type} (N : Nat) (a592 : api_Works) (a593 : Arr Int) (k : Int → Option R) : newelref09_End N a592 a593 k = newelref09_End_m N a592 a593 k := by unfold newelref09_End; rw [lock_eq]
def newelref09_End_sp : Sp := ⟨[rAgg api_WorksC, rSl intC], []⟩
theorem newelref09_End_sp_ok : newelref09_End_sp.Ok := ⟨(allCons (rAgg_ok api_WorksC_ok api_WorksC_len) (allCons (rSl_ok intC_ok) allNil)), eNil⟩
def newelref09_End_rs : Sp := ⟨[rInt .i64], []⟩
theorem newelref09_End_rs_ok : newelref09_End_rs.Ok := ⟨(allCons (rInt_ok .i64) allNil), eNil⟩
def newelref09_End_run {R : Type} (N : Nat) (args : List SV) (T : Tab) (kf : SV × Tab → Option R) : Option R :=
  newelref09_End_m N (Cod.dec api_WorksC (lget (toCs (lget args 0)))) (lstC intC (lget args 1)) (fun q0 => kf (lget [.int .i64 q0] 0, []))
def newelref09_End_d3 {R : Type} (N : Nat) (S0 : St) (k : Exit → St → Option R) : Option R :=
  newelref09_End_l3 N N (lstC intC (lget S0.tmps 1)) (toI (lget S0.tmps 5)) (toI (lget S0.tmps 6)) (Cod.dec api_WorksC (lget (entCs (entAt S0.tab 0)))) (fun q0 => k (.exit 0) (newelref09_End_x3_0 q0))
def newelref09_End_lp {R : Type} (N : Nat) : Lp R := fun body S k => bif (Go.Sx.keyOf body).getD 0 == 3 then (newelref09_End_L3.head.raw 0 S (fun S0 => newelref09_End_d3 N S0 k)) else Option.none
theorem newelref09_End_l3_eq {R : Type} (N : Nat) (k : Exit → St → Option R) (n : Nat) : ∀ (v0 : Arr Int) (v1 : Int) (v2 : Int) (v3 : api_Works), loopM E.Θ (shaft_CheckWorks_cal N) (newelref09_End_lp N) (noJn) 0 newelref09_End_L3 (bodyAt E 42 3) n (newelref09_End_h3 v0 v1 v2 v3) k = newelref09_End_l3 N n v0 v1 v2 v3 (fun q0 => k (.exit 0) (newelref09_End_x3_0 q0)) := by
  induction n with
  | zero => intro v0 v1 v2 v3; rfl
  | succ n ih =>
    intro v0 v1 v2 v3
    refine Eq.trans (b := newelref09_End_b3 N (fun v0 v1 v2 v3 => loopM E.Θ (shaft_CheckWorks_cal N) (newelref09_End_lp N) (noJn) 0 newelref09_End_L3 (bodyAt E 42 3) n (newelref09_End_h3 v0 v1 v2 v3) k) v0 v1 v2 v3 (fun q0 => k (.exit 0) (newelref09_End_x3_0 q0))) (by kernel_rfl) ?_
    have h : (fun (v0 : Arr Int) (v1 : Int) (v2 : Int) (v3 : api_Works) => loopM E.Θ (shaft_CheckWorks_cal N) (newelref09_End_lp N) (noJn) 0 newelref09_End_L3 (bodyAt E 42 3) n (newelref09_End_h3 v0 v1 v2 v3) k) = (fun (v0 : Arr Int) (v1 : Int) (v2 : Int) (v3 : api_Works) => newelref09_End_l3 N n v0 v1 v2 v3 (fun q0 => k (.exit 0) (newelref09_End_x3_0 q0))) := funext fun v0 => funext fun v1 => funext fun v2 => funext fun v3 => ih v0 v1 v2 v3
    rw [h]
    rfl
theorem newelref09_End_k3 {R : Type} (N : Nat) : LpKey (R := R) E 42 0 (newelref09_End_lp N) 3 :=
  lpKey_of hE (shaft_CheckWorks_cal_ok N) (lp := newelref09_End_lp N) (jn := noJn) newelref09_End_L3_ok [] kNil (by kernel_rfl) [] jNil (by kernel_rfl) N fun S k =>
    Eq.trans (b := newelref09_End_L3.head.raw 0 S (fun S0 => newelref09_End_d3 N S0 k)) (by kernel_rfl) (congrArg (newelref09_End_L3.head.raw 0 S) (funext fun S0 => Eq.trans (newelref09_End_l3_eq N k N (lstC intC (lget S0.tmps 1)) (toI (lget S0.tmps 5)) (toI (lget S0.tmps 6)) (Cod.dec api_WorksC (lget (entCs (entAt S0.tab 0))))).symm (by kernel_rfl)))
noncomputable def newelref09_End_go {R : Type} (N : Nat) (args : List SV) (T : Tab) (kf : SV × Tab → Option R) : Option R :=
  newelref09_End N (Cod.dec api_WorksC (lget (toCs (lget args 0)))) (lstC intC (lget args 1)) (fun q0 => kf (lget [.int .i64 q0] 0, []))
noncomputable def newelref09_End_cal {R : Type} (N : Nat) : Cal R := callM (shaft_CheckWorks_cal N) 42 0 newelref09_End_sp (newelref09_End_go N)
theorem newelref09_End_cal_ok {R : Type} (N : Nat) : CalOk E.P (newelref09_End_cal (R := R) N) :=
  callM_ok hE (shaft_CheckWorks_cal_ok N) (lp := newelref09_End_lp N) (jn := noJn) (keys := [3]) (kCons (newelref09_End_k3 N) kNil) (by kernel_rfl) (js := []) jNil (by kernel_rfl) newelref09_End_sp_ok newelref09_End_rs_ok (fun args T kf => Eq.trans (newelref09_End_def N (Cod.dec api_WorksC (lget (toCs (lget args 0)))) (lstC intC (lget args 1)) (fun q0 => kf (lget [.int .i64 q0] 0, []))) (by kernel_rfl : newelref09_End_run N args T kf = fnM E (shaft_CheckWorks_cal N) (newelref09_End_lp N) (noJn) 42 (newelref09_End_sp.vs args) (newelref09_End_sp.tab T) 0 (resK newelref09_End_rs kf)))
def newelref09_at_m {R : Type} (N : Nat) (a636 : api_Works) (a637 : Arr Int) (a638 : Int) (a639 : Int) (k : Bool → Option R) : Option R :=
  bif decide ((0 : Int) ≤ a638) && decide (a638 < (↑(Arr.n a637) : Int)) then
   bif decide (Arr.f a637 (Int.toNat a638) ≤ a639) then
    bif decide ((0 : Int) ≤ a638) && decide (a638 < (↑(Arr.n a637) : Int)) then
     bif decide ((0 : Int) ≤ a638) && decide (a638 < (↑(Arr.n (api_Works.Jobs a636)) : Int)) then
      k (decide (w64 (a639 - Arr.f a637 (Int.toNat a638)) < api_Job.Nights (Arr.f (api_Works.Jobs a636) (Int.toNat a638))))
     else
      Option.none
    else
     Option.none
   else
    k false
  else
   Option.none
noncomputable def newelref09_at {R : Type} : Nat → api_Works → Arr Int → Int → Int → (Bool → Option R) → Option R := lock (@newelref09_at_m R)
theorem newelref09_at_def {R : Type} (N : Nat) (a636 : api_Works) (a637 : Arr Int) (a638 : Int) (a639 : Int) (k : Bool → Option R) : newelref09_at N a636 a637 a638 a639 k = newelref09_at_m N a636 a637 a638 a639 k := by unfold newelref09_at; rw [lock_eq]
def newelref09_at_sp : Sp := ⟨[rAgg api_WorksC, rSl intC, rInt .i64, rInt .i64], []⟩
theorem newelref09_at_sp_ok : newelref09_at_sp.Ok := ⟨(allCons (rAgg_ok api_WorksC_ok api_WorksC_len) (allCons (rSl_ok intC_ok) (allCons (rInt_ok .i64) (allCons (rInt_ok .i64) allNil)))), eNil⟩
def newelref09_at_rs : Sp := ⟨[rBool], []⟩
theorem newelref09_at_rs_ok : newelref09_at_rs.Ok := ⟨(allCons rBool_ok allNil), eNil⟩
def newelref09_at_run {R : Type} (N : Nat) (args : List SV) (T : Tab) (kf : SV × Tab → Option R) : Option R :=
  newelref09_at_m N (Cod.dec api_WorksC (lget (toCs (lget args 0)))) (lstC intC (lget args 1)) (toI (lget args 2)) (toI (lget args 3)) (fun q0 => kf (lget [.bool q0] 0, []))
def newelref09_at_lp {R : Type} (N : Nat) : Lp R := fun body S k => Option.none
noncomputable def newelref09_at_go {R : Type} (N : Nat) (args : List SV) (T : Tab) (kf : SV × Tab → Option R) : Option R :=
  newelref09_at N (Cod.dec api_WorksC (lget (toCs (lget args 0)))) (lstC intC (lget args 1)) (toI (lget args 2)) (toI (lget args 3)) (fun q0 => kf (lget [.bool q0] 0, []))
noncomputable def newelref09_at_cal {R : Type} (N : Nat) : Cal R := callM (newelref09_End_cal N) 80 0 newelref09_at_sp (newelref09_at_go N)
theorem newelref09_at_cal_ok {R : Type} (N : Nat) : CalOk E.P (newelref09_at_cal (R := R) N) :=
  callM_ok hE (newelref09_End_cal_ok N) (lp := newelref09_at_lp N) (jn := noJn) (keys := []) kNil (by kernel_rfl) (js := []) jNil (by kernel_rfl) newelref09_at_sp_ok newelref09_at_rs_ok (fun args T kf => Eq.trans (newelref09_at_def N (Cod.dec api_WorksC (lget (toCs (lget args 0)))) (lstC intC (lget args 1)) (toI (lget args 2)) (toI (lget args 3)) (fun q0 => kf (lget [.bool q0] 0, []))) (by kernel_rfl : newelref09_at_run N args T kf = fnM E (newelref09_End_cal N) (newelref09_at_lp N) (noJn) 80 (newelref09_at_sp.vs args) (newelref09_at_sp.tab T) 0 (resK newelref09_at_rs kf)))
def newelref09_out_L2 : LoopSp := ⟨⟨[1, 2, 3, 6, 7, 8, 9], ⟨(dr 1 ((rSl intC) :: (rInt .i64) :: (rPtr 0 0) :: (dr 2 ((rInt .i64) :: (rInt .i64) :: (rBool) :: (rInt .i64) :: (dr 36 []))))), [(0, eBlkC api_WorksC)]⟩, 1⟩, [(some 0, ⟨[6, 7, 8], ⟨(dr 6 ((rInt .i64) :: (rInt .i64) :: (rBool) :: (dr 37 []))), []⟩, 0⟩)]⟩
theorem newelref09_out_L2_ok : newelref09_out_L2.Ok := ⟨⟨(drCons 1 (allCons (rSl_ok intC_ok) (allCons (rInt_ok .i64) (allCons (rPtr_ok 0 0) (drCons 2 (allCons (rInt_ok .i64) (allCons (rInt_ok .i64) (allCons rBool_ok (allCons (rInt_ok .i64) (drCons 36 allNil)))))))))), (eCons (eBlkC_ok api_WorksC_ok api_WorksC_len) eNil)⟩, (xCons ⟨(drCons 6 (allCons (rInt_ok .i64) (allCons (rInt_ok .i64) (allCons rBool_ok (drCons 37 allNil))))), eNil⟩ xNil)⟩
def newelref09_out_h2 (v629 : Arr Int) (v630 : Int) (v631 : Int) (v632 : Int) (v633 : Bool) (v634 : Int) (v635 : api_Works) : St := ⟨(un 1 ((slC intC v629) :: (.int .i64 v630) :: (.ptr 0 0) :: (un 2 ((.int .i64 v631) :: (.int .i64 v632) :: (.bool v633) :: (.int .i64 v634) :: (un 36 []))))), [(0, .blk (Cod.enc api_WorksC v635))], 1⟩
def newelref09_out_x2_0 (q0 : Int) (q1 : Int) (q2 : Bool) : St := ⟨(un 6 ((.int .i64 q0) :: (.int .i64 q1) :: (.bool q2) :: (un 37 []))), [], 0⟩
def newelref09_out_b2 {R : Type} (N : Nat) (rc : Arr Int → Int → Int → Int → Bool → Int → api_Works → Option R) (v629 : Arr Int) (v630 : Int) (v631 : Int) (v632 : Int) (v633 : Bool) (v634 : Int) (v635 : api_Works) (k0 : Int → Int → Bool → Option R) : Option R :=
  bif decide (v634 < (↑(Arr.n (api_Works.Jobs v635)) : Int)) then
   newelref09_at N v635 v629 v634 v630 (fun r640 =>
   bif r640 then
    bif decide ((0 : Int) ≤ v634) && decide (v634 < (↑(Arr.n (api_Works.Jobs v635)) : Int)) then
     bif decide (IntKind.wrap IntKind.u64 (api_Job.Machine (Arr.f (api_Works.Jobs v635) (Int.toNat v634))) < (0 : Int)) then
      Option.none
     else
      bif v633 then
       rc v629 v630 (w64 (↑(BitVec.toNat (BitVec.ofInt (IntKind.bits IntKind.i64) v631 ||| BitVec.ofInt (IntKind.bits IntKind.i64) (w64 ((1 : Int) * (2 : Int) ^ min (Int.toNat (IntKind.wrap IntKind.u64 (api_Job.Machine (Arr.f (api_Works.Jobs v635) (Int.toNat v634))))) (IntKind.bits IntKind.i64))))) : Int)) (w64 (v632 + (1 : Int))) true (w64 (v634 + (1 : Int))) v635
      else
       rc v629 v630 (w64 (↑(BitVec.toNat (BitVec.ofInt (IntKind.bits IntKind.i64) v631 ||| BitVec.ofInt (IntKind.bits IntKind.i64) (w64 ((1 : Int) * (2 : Int) ^ min (Int.toNat (IntKind.wrap IntKind.u64 (api_Job.Machine (Arr.f (api_Works.Jobs v635) (Int.toNat v634))))) (IntKind.bits IntKind.i64))))) : Int)) (w64 (v632 + (1 : Int))) (w64 (↑(BitVec.toNat (BitVec.ofInt (IntKind.bits IntKind.i64) v631 &&& BitVec.ofInt (IntKind.bits IntKind.i64) (w64 ((1 : Int) * (2 : Int) ^ min (Int.toNat (IntKind.wrap IntKind.u64 (api_Job.Machine (Arr.f (api_Works.Jobs v635) (Int.toNat v634))))) (IntKind.bits IntKind.i64))))) : Int) != (0 : Int)) (w64 (v634 + (1 : Int))) v635
    else
     Option.none
   else
    rc v629 v630 v631 v632 v633 (w64 (v634 + (1 : Int))) v635)
  else
   k0 v631 v632 v633
def newelref09_out_l2 {R : Type} (N : Nat) : Nat → Arr Int → Int → Int → Int → Bool → Int → api_Works → (Int → Int → Bool → Option R) → Option R
  | 0, _, _, _, _, _, _, _, _ => Option.none
  | n + 1, v629, v630, v631, v632, v633, v634, v635, k0 => newelref09_out_b2 N (fun v629 v630 v631 v632 v633 v634 v635 => newelref09_out_l2 N n v629 v630 v631 v632 v633 v634 v635 k0) v629 v630 v631 v632 v633 v634 v635 k0
def newelref09_out_m {R : Type} (N : Nat) (a626 : api_Works) (a627 : Arr Int) (a628 : Int) (k : Int → Int → Bool → Option R) : Option R :=
  newelref09_out_l2 N N a627 a628 (0 : Int) (0 : Int) false (0 : Int) a626 (fun r641 r642 r643 =>
   k r641 r642 r643)
noncomputable def newelref09_out {R : Type} : Nat → api_Works → Arr Int → Int → (Int → Int → Bool → Option R) → Option R := lock (@newelref09_out_m R)
theorem newelref09_out_def {R : Type} (N : Nat) (a626 : api_Works) (a627 : Arr Int) (a628 : Int) (k : Int → Int → Bool → Option R) : newelref09_out N a626 a627 a628 k = newelref09_out_m N a626 a627 a628 k := by unfold newelref09_out; rw [lock_eq]
def newelref09_out_sp : Sp := ⟨[rAgg api_WorksC, rSl intC, rInt .i64], []⟩
theorem newelref09_out_sp_ok : newelref09_out_sp.Ok := ⟨(allCons (rAgg_ok api_WorksC_ok api_WorksC_len) (allCons (rSl_ok intC_ok) (allCons (rInt_ok .i64) allNil))), eNil⟩
def newelref09_out_rs : Sp := ⟨[rTup [rInt .i64, rInt .i64, rBool]], []⟩
theorem newelref09_out_rs_ok : newelref09_out_rs.Ok := ⟨(allCons (rTup_ok (allCons (rInt_ok .i64) (allCons (rInt_ok .i64) (allCons rBool_ok allNil)))) allNil), eNil⟩
def newelref09_out_run {R : Type} (N : Nat) (args : List SV) (T : Tab) (kf : SV × Tab → Option R) : Option R :=
  newelref09_out_m N (Cod.dec api_WorksC (lget (toCs (lget args 0)))) (lstC intC (lget args 1)) (toI (lget args 2)) (fun q0 q1 q2 => kf (lget [.tup [.int .i64 q0, .int .i64 q1, .bool q2]] 0, []))
def newelref09_out_d2 {R : Type} (N : Nat) (S0 : St) (k : Exit → St → Option R) : Option R :=
  newelref09_out_l2 N N (lstC intC (lget S0.tmps 1)) (toI (lget S0.tmps 2)) (toI (lget S0.tmps 6)) (toI (lget S0.tmps 7)) (toB (lget S0.tmps 8)) (toI (lget S0.tmps 9)) (Cod.dec api_WorksC (lget (entCs (entAt S0.tab 0)))) (fun q0 q1 q2 => k (.exit 0) (newelref09_out_x2_0 q0 q1 q2))
def newelref09_out_lp {R : Type} (N : Nat) : Lp R := fun body S k => bif (Go.Sx.keyOf body).getD 0 == 2 then (newelref09_out_L2.head.raw 0 S (fun S0 => newelref09_out_d2 N S0 k)) else Option.none
theorem newelref09_out_l2_eq {R : Type} (N : Nat) (k : Exit → St → Option R) (n : Nat) : ∀ (v0 : Arr Int) (v1 : Int) (v2 : Int) (v3 : Int) (v4 : Bool) (v5 : Int) (v6 : api_Works), loopM E.Θ (newelref09_at_cal N) (newelref09_out_lp N) (noJn) 0 newelref09_out_L2 (bodyAt E 63 2) n (newelref09_out_h2 v0 v1 v2 v3 v4 v5 v6) k = newelref09_out_l2 N n v0 v1 v2 v3 v4 v5 v6 (fun q0 q1 q2 => k (.exit 0) (newelref09_out_x2_0 q0 q1 q2)) := by
  induction n with
  | zero => intro v0 v1 v2 v3 v4 v5 v6; rfl
  | succ n ih =>
    intro v0 v1 v2 v3 v4 v5 v6
    refine Eq.trans (b := newelref09_out_b2 N (fun v0 v1 v2 v3 v4 v5 v6 => loopM E.Θ (newelref09_at_cal N) (newelref09_out_lp N) (noJn) 0 newelref09_out_L2 (bodyAt E 63 2) n (newelref09_out_h2 v0 v1 v2 v3 v4 v5 v6) k) v0 v1 v2 v3 v4 v5 v6 (fun q0 q1 q2 => k (.exit 0) (newelref09_out_x2_0 q0 q1 q2))) (by kernel_rfl) ?_
    have h : (fun (v0 : Arr Int) (v1 : Int) (v2 : Int) (v3 : Int) (v4 : Bool) (v5 : Int) (v6 : api_Works) => loopM E.Θ (newelref09_at_cal N) (newelref09_out_lp N) (noJn) 0 newelref09_out_L2 (bodyAt E 63 2) n (newelref09_out_h2 v0 v1 v2 v3 v4 v5 v6) k) = (fun (v0 : Arr Int) (v1 : Int) (v2 : Int) (v3 : Int) (v4 : Bool) (v5 : Int) (v6 : api_Works) => newelref09_out_l2 N n v0 v1 v2 v3 v4 v5 v6 (fun q0 q1 q2 => k (.exit 0) (newelref09_out_x2_0 q0 q1 q2))) := funext fun v0 => funext fun v1 => funext fun v2 => funext fun v3 => funext fun v4 => funext fun v5 => funext fun v6 => ih v0 v1 v2 v3 v4 v5 v6
    rw [h]
    rfl
theorem newelref09_out_k2 {R : Type} (N : Nat) : LpKey (R := R) E 63 0 (newelref09_out_lp N) 2 :=
  lpKey_of hE (newelref09_at_cal_ok N) (lp := newelref09_out_lp N) (jn := noJn) newelref09_out_L2_ok [] kNil (by kernel_rfl) [] jNil (by kernel_rfl) N fun S k =>
    Eq.trans (b := newelref09_out_L2.head.raw 0 S (fun S0 => newelref09_out_d2 N S0 k)) (by kernel_rfl) (congrArg (newelref09_out_L2.head.raw 0 S) (funext fun S0 => Eq.trans (newelref09_out_l2_eq N k N (lstC intC (lget S0.tmps 1)) (toI (lget S0.tmps 2)) (toI (lget S0.tmps 6)) (toI (lget S0.tmps 7)) (toB (lget S0.tmps 8)) (toI (lget S0.tmps 9)) (Cod.dec api_WorksC (lget (entCs (entAt S0.tab 0))))).symm (by kernel_rfl)))
noncomputable def newelref09_out_go {R : Type} (N : Nat) (args : List SV) (T : Tab) (kf : SV × Tab → Option R) : Option R :=
  newelref09_out N (Cod.dec api_WorksC (lget (toCs (lget args 0)))) (lstC intC (lget args 1)) (toI (lget args 2)) (fun q0 q1 q2 => kf (lget [.tup [.int .i64 q0, .int .i64 q1, .bool q2]] 0, []))
noncomputable def newelref09_out_cal {R : Type} (N : Nat) : Cal R := callM (newelref09_at_cal N) 63 0 newelref09_out_sp (newelref09_out_go N)
theorem newelref09_out_cal_ok {R : Type} (N : Nat) : CalOk E.P (newelref09_out_cal (R := R) N) :=
  callM_ok hE (newelref09_at_cal_ok N) (lp := newelref09_out_lp N) (jn := noJn) (keys := [2]) (kCons (newelref09_out_k2 N) kNil) (by kernel_rfl) (js := []) jNil (by kernel_rfl) newelref09_out_sp_ok newelref09_out_rs_ok (fun args T kf => Eq.trans (newelref09_out_def N (Cod.dec api_WorksC (lget (toCs (lget args 0)))) (lstC intC (lget args 1)) (toI (lget args 2)) (fun q0 q1 q2 => kf (lget [.tup [.int .i64 q0, .int .i64 q1, .bool q2]] 0, []))) (by kernel_rfl : newelref09_out_run N args T kf = fnM E (newelref09_at_cal N) (newelref09_out_lp N) (noJn) 63 (newelref09_out_sp.vs args) (newelref09_out_sp.tab T) 0 (resK newelref09_out_rs kf)))
end
end Go.Proofs.YtckkodiefpdmhaaDoor
