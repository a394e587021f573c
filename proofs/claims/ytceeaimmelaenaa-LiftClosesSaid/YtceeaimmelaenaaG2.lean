/-
  Models of the functions, and that they are what the code does. Written by a program.
-/
import Derived.Test.YtceeaimmelaenaaG1
set_option maxRecDepth 100000
set_option maxHeartbeats 0
set_option linter.unusedVariables false
namespace Go.Proofs.Ytceeaimmelaenaa
open Go.Sx
noncomputable section
def lift_Levels_L6 : LoopSp := ⟨⟨[3, 4, 6, 7, 9, 22, 23, 24], ⟨(dr 3 ((rPtr 0 0) :: (rPtr 1 0) :: (dr 1 ((rRow 2) :: (rRow 3) :: (dr 1 ((rInt .i64) :: (dr 12 ((rSl intC) :: (rInt .i64) :: (rInt .i64) :: (dr 28 []))))))))), [(0, eBlkC api_LiftC), (1, eBlk [rInt .i64]), (2, eRow intC), (3, eRow intC)]⟩, 4⟩, [(some 0, ⟨[6, 7], ⟨(dr 6 ((rRow 0) :: (rRow 1) :: (dr 45 []))), [(0, eRow intC), (1, eRow intC)]⟩, 2⟩)]⟩
theorem lift_Levels_L6_ok : lift_Levels_L6.Ok := ⟨⟨(drCons 3 (allCons (rPtr_ok 0 0) (allCons (rPtr_ok 1 0) (drCons 1 (allCons (rRow_ok 2) (allCons (rRow_ok 3) (drCons 1 (allCons (rInt_ok .i64) (drCons 12 (allCons (rSl_ok intC_ok) (allCons (rInt_ok .i64) (allCons (rInt_ok .i64) (drCons 28 allNil))))))))))))), (eCons (eBlkC_ok api_LiftC_ok api_LiftC_len) (eCons (eBlk_ok (allCons (rInt_ok .i64) allNil)) (eCons (eRow_ok intC_ok) (eCons (eRow_ok intC_ok) eNil))))⟩, (xCons ⟨(drCons 6 (allCons (rRow_ok 0) (allCons (rRow_ok 1) (drCons 45 allNil)))), (eCons (eRow_ok intC_ok) (eCons (eRow_ok intC_ok) eNil))⟩ xNil)⟩
def lift_Levels_h6 (v466 : Int) (v467 : Arr Int) (v468 : Int) (v469 : Int) (v470 : api_Lift) (v471 : Int) (v472 : Bool) (v473 : Arr Int) (v474 : Bool) (v475 : Arr Int) : St := ⟨(un 3 ((.ptr 0 0) :: (.ptr 1 0) :: (un 1 ((.row 2) :: (.row 3) :: (un 1 ((.int .i64 v466) :: (un 12 ((slC intC v467) :: (.int .i64 v468) :: (.int .i64 v469) :: (un 28 []))))))))), [(0, .blk (Cod.enc api_LiftC v470)), (1, .blk [.int .i64 v471]), (2, rowE intC v472 v473), (3, rowE intC v474 v475)], 4⟩
def lift_Levels_x6_0 (q0 : Bool) (q1 : Arr Int) (q2 : Bool) (q3 : Arr Int) : St := ⟨(un 6 ((.row 0) :: (.row 1) :: (un 45 []))), [(0, rowE intC q0 q1), (1, rowE intC q2 q3)], 2⟩
def lift_Levels_b6 {R : Type} (N : Nat) (rc : Int → Arr Int → Int → Int → api_Lift → Int → Bool → Arr Int → Bool → Arr Int → Option R) (v466 : Int) (v467 : Arr Int) (v468 : Int) (v469 : Int) (v470 : api_Lift) (v471 : Int) (v472 : Bool) (v473 : Arr Int) (v474 : Bool) (v475 : Arr Int) (k0 : Bool → Arr Int → Bool → Arr Int → Option R) : Option R :=
  bif decide (v469 < v468) then
   bif decide ((0 : Int) ≤ v469) && decide (v469 < (↑(Arr.n v467) : Int)) then
    lift_sink N v470 v471 v466 (Arr.f v467 (Int.toNat v469)) (fun r476 =>
    bif decide ((if w64 ((0 : Int) - r476) > r476 then w64 ((0 : Int) - r476) else r476) > api_Lift.Level v470) then
     bif room (Arr.n v475 + (1 : Nat)) then
      bif room (Arr.n v473 + (1 : Nat)) then
       rc (Arr.f v467 (Int.toNat v469)) v467 v468 (w64 (v469 + (1 : Int))) v470 v471 false (lst intC (Arr.n v473 + (1 : Nat)) (catC (Arr.n v473) (Cod.cell intC (Arr.f v473)) (litC [SV.int IntKind.i64 (0 : Int)] [[SV.int IntKind.i64 (0 : Int)]]))) false (lst intC (Arr.n v475 + (1 : Nat)) (catC (Arr.n v475) (Cod.cell intC (Arr.f v475)) (litC [SV.int IntKind.i64 (0 : Int)] [[SV.int IntKind.i64 v469]])))
      else
       Option.none
     else
      Option.none
    else
     bif room (Arr.n v473 + (1 : Nat)) then
      rc v466 v467 v468 (w64 (v469 + (1 : Int))) v470 v471 false (lst intC (Arr.n v473 + (1 : Nat)) (catC (Arr.n v473) (Cod.cell intC (Arr.f v473)) (litC [SV.int IntKind.i64 (0 : Int)] [[SV.int IntKind.i64 r476]]))) v474 v475
     else
      Option.none)
   else
    Option.none
  else
   k0 v472 v473 v474 v475
def lift_Levels_l6 {R : Type} (N : Nat) : Nat → Int → Arr Int → Int → Int → api_Lift → Int → Bool → Arr Int → Bool → Arr Int → (Bool → Arr Int → Bool → Arr Int → Option R) → Option R
  | 0, _, _, _, _, _, _, _, _, _, _, _ => Option.none
  | n + 1, v466, v467, v468, v469, v470, v471, v472, v473, v474, v475, k0 => lift_Levels_b6 N (fun v466 v467 v468 v469 v470 v471 v472 v473 v474 v475 => lift_Levels_l6 N n v466 v467 v468 v469 v470 v471 v472 v473 v474 v475 k0) v466 v467 v468 v469 v470 v471 v472 v473 v474 v475 k0


def lift_Levels_m {R : Type} (N : Nat) (a370 : api_Lift) (a371 : Int) (a372 : Arr Int) (k : Int → Bool → Arr Int → Bool → Arr Int → Option R) : Option R :=
  lift_check_v6 N a370 (api_Lift.Car a370) (api_Lift.Counter a370) (api_Lift.Rated a370) (api_Lift.Rope a370) (api_Lift.Floors a370) (api_Lift.Num a370) (api_Lift.Den a370) (api_Lift.Speed a370) (api_Lift.Accel a370) (api_Lift.Over a370) (api_Lift.Stiff a370) (api_Lift.Level a370) a371 a372 (fun r465 =>
  bif r465 != (0 : Int) then
   k r465 true (lst intC (0 : Nat) (zeroC [SV.int IntKind.i64 (0 : Int)])) true (lst intC (0 : Nat) (zeroC [SV.int IntKind.i64 (0 : Int)]))
  else
   bif decide ((0 : Int) < (↑(Arr.n a372) : Int)) then
    lift_Levels_l6 N N (Arr.f a372 (Int.toNat (0 : Int))) a372 ((↑(Arr.n a372) : Int)) (0 : Int) a370 a371 true (lst intC (0 : Nat) (zeroC [SV.int IntKind.i64 (0 : Int)])) true (lst intC (0 : Nat) (zeroC [SV.int IntKind.i64 (0 : Int)])) (fun r477 r478 r479 r480 =>
     k (0 : Int) r477 r478 r479 r480)
   else
    Option.none)
noncomputable def lift_Levels {R : Type} : Nat → api_Lift → Int → Arr Int → (Int → Bool → Arr Int → Bool → Arr Int → Option R) → Option R := lock (@lift_Levels_m R)
theorem lift_Levels_def {R : Type} (N : Nat) (a370 : api_Lift) (a371 : Int) (a372 : Arr Int) (k : Int → Bool → Arr Int → Bool → Arr Int → Option R) : lift_Levels N a370 a371 a372 k = lift_Levels_m N a370 a371 a372 k := by unfold lift_Levels; rw [lock_eq]
def lift_Levels_sp : Sp := ⟨[rAgg api_LiftC, rInt .i64, rSl intC], []⟩
theorem lift_Levels_sp_ok : lift_Levels_sp.Ok := ⟨(allCons (rAgg_ok api_LiftC_ok api_LiftC_len) (allCons (rInt_ok .i64) (allCons (rSl_ok intC_ok) allNil))), eNil⟩
def lift_Levels_rs : Sp := ⟨[rTup [rRow 0, rRow 1, rInt .i64]], [(0, eRow intC), (1, eRow intC)]⟩
theorem lift_Levels_rs_ok : lift_Levels_rs.Ok := ⟨(allCons (rTup_ok (allCons (rRow_ok 0) (allCons (rRow_ok 1) (allCons (rInt_ok .i64) allNil)))) allNil), (eCons (eRow_ok intC_ok) (eCons (eRow_ok intC_ok) eNil))⟩
def lift_Levels_run {R : Type} (N : Nat) (args : List SV) (T : Tab) (kf : SV × Tab → Option R) : Option R :=
  lift_Levels_m N (Cod.dec api_LiftC (lget (toCs (lget args 0)))) (toI (lget args 1)) (lstC intC (lget args 2)) (fun q0 q1 q2 q3 q4 => kf (lget [.tup [.row 0, .row 1, .int .i64 q0]] 0, [(0, rowE intC q1 q2), (1, rowE intC q3 q4)]))
def lift_Levels_d6 {R : Type} (N : Nat) (S0 : St) (k : Exit → St → Option R) : Option R :=
  lift_Levels_l6 N N (toI (lget S0.tmps 9)) (lstC intC (lget S0.tmps 22)) (toI (lget S0.tmps 23)) (toI (lget S0.tmps 24)) (Cod.dec api_LiftC (lget (entCs (entAt S0.tab 0)))) (toI (lget (entCs (entAt S0.tab 1)) 0)) (entNl (entAt S0.tab 2)) (lst intC (entN (entAt S0.tab 2)) (entC (entAt S0.tab 2))) (entNl (entAt S0.tab 3)) (lst intC (entN (entAt S0.tab 3)) (entC (entAt S0.tab 3))) (fun q0 q1 q2 q3 => k (.exit 0) (lift_Levels_x6_0 q0 q1 q2 q3))
def lift_Levels_lp {R : Type} (N : Nat) : Lp R := fun body S k => bif (Go.Sx.keyOf body).getD 0 == 6 then lift_Levels_L6.head.raw 0 S (fun S0 => lift_Levels_d6 N S0 k) else Option.none
theorem lift_Levels_l6_eq {R : Type} (N : Nat) (k : Exit → St → Option R) (n : Nat) : ∀ (v0 : Int) (v1 : Arr Int) (v2 : Int) (v3 : Int) (v4 : api_Lift) (v5 : Int) (v6 : Bool) (v7 : Arr Int) (v8 : Bool) (v9 : Arr Int), loopM E.Θ (lift_check_v6_cal N) (lift_Levels_lp N) 0 lift_Levels_L6 (bodyAt E 38 6) n (lift_Levels_h6 v0 v1 v2 v3 v4 v5 v6 v7 v8 v9) k = lift_Levels_l6 N n v0 v1 v2 v3 v4 v5 v6 v7 v8 v9 (fun q0 q1 q2 q3 => k (.exit 0) (lift_Levels_x6_0 q0 q1 q2 q3)) := by
  induction n with
  | zero => intro v0 v1 v2 v3 v4 v5 v6 v7 v8 v9; rfl
  | succ n ih =>
    intro v0 v1 v2 v3 v4 v5 v6 v7 v8 v9
    refine Eq.trans (b := lift_Levels_b6 N (fun v0 v1 v2 v3 v4 v5 v6 v7 v8 v9 => loopM E.Θ (lift_check_v6_cal N) (lift_Levels_lp N) 0 lift_Levels_L6 (bodyAt E 38 6) n (lift_Levels_h6 v0 v1 v2 v3 v4 v5 v6 v7 v8 v9) k) v0 v1 v2 v3 v4 v5 v6 v7 v8 v9 (fun q0 q1 q2 q3 => k (.exit 0) (lift_Levels_x6_0 q0 q1 q2 q3))) (by kernel_rfl) ?_
    have h : (fun (v0 : Int) (v1 : Arr Int) (v2 : Int) (v3 : Int) (v4 : api_Lift) (v5 : Int) (v6 : Bool) (v7 : Arr Int) (v8 : Bool) (v9 : Arr Int) => loopM E.Θ (lift_check_v6_cal N) (lift_Levels_lp N) 0 lift_Levels_L6 (bodyAt E 38 6) n (lift_Levels_h6 v0 v1 v2 v3 v4 v5 v6 v7 v8 v9) k) = (fun (v0 : Int) (v1 : Arr Int) (v2 : Int) (v3 : Int) (v4 : api_Lift) (v5 : Int) (v6 : Bool) (v7 : Arr Int) (v8 : Bool) (v9 : Arr Int) => lift_Levels_l6 N n v0 v1 v2 v3 v4 v5 v6 v7 v8 v9 (fun q0 q1 q2 q3 => k (.exit 0) (lift_Levels_x6_0 q0 q1 q2 q3))) := funext fun v0 => funext fun v1 => funext fun v2 => funext fun v3 => funext fun v4 => funext fun v5 => funext fun v6 => funext fun v7 => funext fun v8 => funext fun v9 => ih v0 v1 v2 v3 v4 v5 v6 v7 v8 v9
    rw [h]
    rfl
theorem lift_Levels_k6 {R : Type} (N : Nat) : LpKey (R := R) E 38 0 (lift_Levels_lp N) 6 :=
  lpKey_of hE (lift_check_v6_cal_ok N) lift_Levels_L6_ok [] kNil (by kernel_rfl) N fun S k =>
    Eq.trans (b := lift_Levels_L6.head.raw 0 S (fun S0 => lift_Levels_d6 N S0 k)) (by kernel_rfl) (congrArg (lift_Levels_L6.head.raw 0 S) (funext fun S0 => Eq.trans (lift_Levels_l6_eq N k N (toI (lget S0.tmps 9)) (lstC intC (lget S0.tmps 22)) (toI (lget S0.tmps 23)) (toI (lget S0.tmps 24)) (Cod.dec api_LiftC (lget (entCs (entAt S0.tab 0)))) (toI (lget (entCs (entAt S0.tab 1)) 0)) (entNl (entAt S0.tab 2)) (lst intC (entN (entAt S0.tab 2)) (entC (entAt S0.tab 2))) (entNl (entAt S0.tab 3)) (lst intC (entN (entAt S0.tab 3)) (entC (entAt S0.tab 3)))).symm (by kernel_rfl)))
noncomputable def lift_Levels_go {R : Type} (N : Nat) (args : List SV) (T : Tab) (kf : SV × Tab → Option R) : Option R :=
  lift_Levels N (Cod.dec api_LiftC (lget (toCs (lget args 0)))) (toI (lget args 1)) (lstC intC (lget args 2)) (fun q0 q1 q2 q3 q4 => kf (lget [.tup [.row 0, .row 1, .int .i64 q0]] 0, [(0, rowE intC q1 q2), (1, rowE intC q3 q4)]))
noncomputable def lift_Levels_cal {R : Type} (N : Nat) : Cal R := callM (lift_check_v6_cal N) 38 0 lift_Levels_sp (lift_Levels_go N)
theorem lift_Levels_cal_ok {R : Type} (N : Nat) : CalOk E.P (lift_Levels_cal (R := R) N) :=
  callM_ok hE (lift_check_v6_cal_ok N) (lp := lift_Levels_lp N) (keys := [6]) (kCons (lift_Levels_k6 N) kNil) (by kernel_rfl) lift_Levels_sp_ok lift_Levels_rs_ok (fun args T kf => Eq.trans (lift_Levels_def N (Cod.dec api_LiftC (lget (toCs (lget args 0)))) (toI (lget args 1)) (lstC intC (lget args 2)) (fun q0 q1 q2 q3 q4 => kf (lget [.tup [.row 0, .row 1, .int .i64 q0]] 0, [(0, rowE intC q1 q2), (1, rowE intC q3 q4)]))) (by kernel_rfl : lift_Levels_run N args T kf = fnM E (lift_check_v6_cal N) (lift_Levels_lp N) 38 (lift_Levels_sp.vs args) (lift_Levels_sp.tab T) 0 (resK lift_Levels_rs kf)))

def newelref05_Levels_L6 : LoopSp := ⟨⟨[1, 2, 3, 6, 7, 9], ⟨(dr 1 ((rInt .i64) :: (rSl intC) :: (rPtr 0 0) :: (dr 2 ((rRow 1) :: (rRow 2) :: (dr 1 ((rInt .i64) :: (dr 69 []))))))), [(0, eBlkC api_LiftC), (1, eRow intC), (2, eRow intC)]⟩, 3⟩, [(Option.none, ⟨[6, 7, 8], ⟨(dr 6 ((rRow 0) :: (rRow 1) :: (rInt .i64) :: (dr 70 []))), [(0, eRow intC), (1, eRow intC)]⟩, 2⟩), (some 0, ⟨[1, 2, 3, 6, 7], ⟨(dr 1 ((rInt .i64) :: (rSl intC) :: (rPtr 0 0) :: (dr 2 ((rRow 1) :: (rRow 2) :: (dr 71 []))))), [(0, eBlkC api_LiftC), (1, eRow intC), (2, eRow intC)]⟩, 3⟩)]⟩
theorem newelref05_Levels_L6_ok : newelref05_Levels_L6.Ok := ⟨⟨(drCons 1 (allCons (rInt_ok .i64) (allCons (rSl_ok intC_ok) (allCons (rPtr_ok 0 0) (drCons 2 (allCons (rRow_ok 1) (allCons (rRow_ok 2) (drCons 1 (allCons (rInt_ok .i64) (drCons 69 allNil)))))))))), (eCons (eBlkC_ok api_LiftC_ok api_LiftC_len) (eCons (eRow_ok intC_ok) (eCons (eRow_ok intC_ok) eNil)))⟩, (xCons ⟨(drCons 6 (allCons (rRow_ok 0) (allCons (rRow_ok 1) (allCons (rInt_ok .i64) (drCons 70 allNil))))), (eCons (eRow_ok intC_ok) (eCons (eRow_ok intC_ok) eNil))⟩ (xCons ⟨(drCons 1 (allCons (rInt_ok .i64) (allCons (rSl_ok intC_ok) (allCons (rPtr_ok 0 0) (drCons 2 (allCons (rRow_ok 1) (allCons (rRow_ok 2) (drCons 71 allNil)))))))), (eCons (eBlkC_ok api_LiftC_ok api_LiftC_len) (eCons (eRow_ok intC_ok) (eCons (eRow_ok intC_ok) eNil)))⟩ xNil))⟩
def newelref05_Levels_h6 (v487 : Int) (v488 : Arr Int) (v489 : Int) (v490 : api_Lift) (v491 : Bool) (v492 : Arr Int) (v493 : Bool) (v494 : Arr Int) : St := ⟨(un 1 ((.int .i64 v487) :: (slC intC v488) :: (.ptr 0 0) :: (un 2 ((.row 1) :: (.row 2) :: (un 1 ((.int .i64 v489) :: (un 69 []))))))), [(0, .blk (Cod.enc api_LiftC v490)), (1, rowE intC v491 v492), (2, rowE intC v493 v494)], 3⟩
def newelref05_Levels_x6_r (q0 : Int) (q1 : Bool) (q2 : Arr Int) (q3 : Bool) (q4 : Arr Int) : St := ⟨(un 6 ((.row 0) :: (.row 1) :: (.int .i64 q0) :: (un 70 []))), [(0, rowE intC q1 q2), (1, rowE intC q3 q4)], 2⟩
def newelref05_Levels_x6_0 (v487 : Int) (v488 : Arr Int) (v490 : api_Lift) (v491 : Bool) (v492 : Arr Int) (v493 : Bool) (v494 : Arr Int) : St := ⟨(un 1 ((.int .i64 v487) :: (slC intC v488) :: (.ptr 0 0) :: (un 2 ((.row 1) :: (.row 2) :: (un 71 []))))), [(0, .blk (Cod.enc api_LiftC v490)), (1, rowE intC v491 v492), (2, rowE intC v493 v494)], 3⟩
def newelref05_Levels_b6 {R : Type} (N : Nat) (rc : Int → Arr Int → Int → api_Lift → Bool → Arr Int → Bool → Arr Int → Option R) (v487 : Int) (v488 : Arr Int) (v489 : Int) (v490 : api_Lift) (v491 : Bool) (v492 : Arr Int) (v493 : Bool) (v494 : Arr Int) (kr : Int → Bool → Arr Int → Bool → Arr Int → Option R) (k0 : Unit → Option R) : Option R :=
  bif decide (v489 < (↑(Arr.n v488) : Int)) then
   bif decide ((0 : Int) ≤ v489) && decide (v489 < (↑(Arr.n v488) : Int)) then
    newelref05_within N (Arr.f v488 (Int.toNat v489)) (0 : Int) (api_Lift.Rated v490) (fun r495 =>
    bif !r495 then
     kr (1 : Int) true (lst intC (0 : Nat) (zeroC [SV.int IntKind.i64 (0 : Int)])) true (lst intC (0 : Nat) (zeroC [SV.int IntKind.i64 (0 : Int)]))
    else
     rc v487 v488 (w64 (v489 + (1 : Int))) v490 v491 v492 v493 v494)
   else
    Option.none
  else
   k0 ()
def newelref05_Levels_l6 {R : Type} (N : Nat) : Nat → Int → Arr Int → Int → api_Lift → Bool → Arr Int → Bool → Arr Int → (Int → Bool → Arr Int → Bool → Arr Int → Option R) → (Unit → Option R) → Option R
  | 0, _, _, _, _, _, _, _, _, _, _ => Option.none
  | n + 1, v487, v488, v489, v490, v491, v492, v493, v494, kr, k0 => newelref05_Levels_b6 N (fun v487 v488 v489 v490 v491 v492 v493 v494 => newelref05_Levels_l6 N n v487 v488 v489 v490 v491 v492 v493 v494 kr k0) v487 v488 v489 v490 v491 v492 v493 v494 kr k0

def newelref05_Levels_L12 : LoopSp := ⟨⟨[1, 2, 3, 6, 7, 10, 11], ⟨(dr 1 ((rInt .i64) :: (rSl intC) :: (rPtr 0 0) :: (dr 2 ((rRow 1) :: (rRow 2) :: (dr 2 ((rInt .i64) :: (rInt .i64) :: (dr 67 []))))))), [(0, eBlkC api_LiftC), (1, eRow intC), (2, eRow intC)]⟩, 3⟩, [(some 2, ⟨[6, 7], ⟨(dr 6 ((rRow 0) :: (rRow 1) :: (dr 71 []))), [(0, eRow intC), (1, eRow intC)]⟩, 2⟩)]⟩
theorem newelref05_Levels_L12_ok : newelref05_Levels_L12.Ok := ⟨⟨(drCons 1 (allCons (rInt_ok .i64) (allCons (rSl_ok intC_ok) (allCons (rPtr_ok 0 0) (drCons 2 (allCons (rRow_ok 1) (allCons (rRow_ok 2) (drCons 2 (allCons (rInt_ok .i64) (allCons (rInt_ok .i64) (drCons 67 allNil))))))))))), (eCons (eBlkC_ok api_LiftC_ok api_LiftC_len) (eCons (eRow_ok intC_ok) (eCons (eRow_ok intC_ok) eNil)))⟩, (xCons ⟨(drCons 6 (allCons (rRow_ok 0) (allCons (rRow_ok 1) (drCons 71 allNil)))), (eCons (eRow_ok intC_ok) (eCons (eRow_ok intC_ok) eNil))⟩ xNil)⟩
def newelref05_Levels_h12 (v501 : Int) (v502 : Arr Int) (v503 : Int) (v504 : Int) (v505 : api_Lift) (v506 : Bool) (v507 : Arr Int) (v508 : Bool) (v509 : Arr Int) : St := ⟨(un 1 ((.int .i64 v501) :: (slC intC v502) :: (.ptr 0 0) :: (un 2 ((.row 1) :: (.row 2) :: (un 2 ((.int .i64 v503) :: (.int .i64 v504) :: (un 67 []))))))), [(0, .blk (Cod.enc api_LiftC v505)), (1, rowE intC v506 v507), (2, rowE intC v508 v509)], 3⟩
def newelref05_Levels_x12_2 (q0 : Bool) (q1 : Arr Int) (q2 : Bool) (q3 : Arr Int) : St := ⟨(un 6 ((.row 0) :: (.row 1) :: (un 71 []))), [(0, rowE intC q0 q1), (1, rowE intC q2 q3)], 2⟩
def newelref05_Levels_b12 {R : Type} (N : Nat) (rc : Int → Arr Int → Int → Int → api_Lift → Bool → Arr Int → Bool → Arr Int → Option R) (v501 : Int) (v502 : Arr Int) (v503 : Int) (v504 : Int) (v505 : api_Lift) (v506 : Bool) (v507 : Arr Int) (v508 : Bool) (v509 : Arr Int) (k2 : Bool → Arr Int → Bool → Arr Int → Option R) : Option R :=
  bif decide (v504 < (↑(Arr.n v502) : Int)) then
   bif decide ((0 : Int) ≤ v504) && decide (v504 < (↑(Arr.n v502) : Int)) then
    newelref05_sink N v505 v501 v503 (Arr.f v502 (Int.toNat v504)) (fun r510 =>
    newelref05_apart N r510 (0 : Int) (fun r511 =>
    bif decide (r511 > api_Lift.Level v505) then
     bif decide ((0 : Int) ≤ v504) && decide (v504 < (↑(Arr.n v502) : Int)) then
      bif room (Arr.n v509 + (1 : Nat)) then
       bif room (Arr.n v507 + (1 : Nat)) then
        rc v501 v502 (Arr.f v502 (Int.toNat v504)) (w64 (v504 + (1 : Int))) v505 false (lst intC (Arr.n v507 + (1 : Nat)) (catC (Arr.n v507) (Cod.cell intC (Arr.f v507)) (litC [SV.int IntKind.i64 (0 : Int)] [[SV.int IntKind.i64 (0 : Int)]]))) false (lst intC (Arr.n v509 + (1 : Nat)) (catC (Arr.n v509) (Cod.cell intC (Arr.f v509)) (litC [SV.int IntKind.i64 (0 : Int)] [[SV.int IntKind.i64 v504]])))
       else
        Option.none
      else
       Option.none
     else
      Option.none
    else
     bif room (Arr.n v507 + (1 : Nat)) then
      rc v501 v502 v503 (w64 (v504 + (1 : Int))) v505 false (lst intC (Arr.n v507 + (1 : Nat)) (catC (Arr.n v507) (Cod.cell intC (Arr.f v507)) (litC [SV.int IntKind.i64 (0 : Int)] [[SV.int IntKind.i64 r510]]))) v508 v509
     else
      Option.none))
   else
    Option.none
  else
   k2 v506 v507 v508 v509
def newelref05_Levels_l12 {R : Type} (N : Nat) : Nat → Int → Arr Int → Int → Int → api_Lift → Bool → Arr Int → Bool → Arr Int → (Bool → Arr Int → Bool → Arr Int → Option R) → Option R
  | 0, _, _, _, _, _, _, _, _, _, _ => Option.none
  | n + 1, v501, v502, v503, v504, v505, v506, v507, v508, v509, k2 => newelref05_Levels_b12 N (fun v501 v502 v503 v504 v505 v506 v507 v508 v509 => newelref05_Levels_l12 N n v501 v502 v503 v504 v505 v506 v507 v508 v509 k2) v501 v502 v503 v504 v505 v506 v507 v508 v509 k2


def newelref05_Levels_m {R : Type} (N : Nat) (a481 : api_Lift) (a482 : Int) (a483 : Arr Int) (k : Int → Bool → Arr Int → Bool → Arr Int → Option R) : Option R :=
  newelref05_Check N a481 (fun r484 =>
  bif r484 != (0 : Int) then
   k (50 : Int) true (lst intC (0 : Nat) (zeroC [SV.int IntKind.i64 (0 : Int)])) true (lst intC (0 : Nat) (zeroC [SV.int IntKind.i64 (0 : Int)]))
  else
   newelref05_within N a482 (0 : Int) (w64 ((↑(Arr.n (api_Lift.Floors a481)) : Int) - (1 : Int))) (fun r485 =>
   bif !r485 then
    k (1 : Int) true (lst intC (0 : Nat) (zeroC [SV.int IntKind.i64 (0 : Int)])) true (lst intC (0 : Nat) (zeroC [SV.int IntKind.i64 (0 : Int)]))
   else
    newelref05_within N ((↑(Arr.n a483) : Int)) (1 : Int) (60 : Int) (fun r486 =>
    bif !r486 then
     k (1 : Int) true (lst intC (0 : Nat) (zeroC [SV.int IntKind.i64 (0 : Int)])) true (lst intC (0 : Nat) (zeroC [SV.int IntKind.i64 (0 : Int)]))
    else
     newelref05_Levels_l6 N N a482 a483 (0 : Int) a481 true (lst intC (0 : Nat) (zeroC [SV.int IntKind.i64 (0 : Int)])) true (lst intC (0 : Nat) (zeroC [SV.int IntKind.i64 (0 : Int)])) (fun r496 r497 r498 r499 r500 =>
      k r496 r497 r498 r499 r500) (fun (_ : Unit) =>
      bif decide ((0 : Int) < (↑(Arr.n a483) : Int)) then
       newelref05_Levels_l12 N N a482 a483 (Arr.f a483 (Int.toNat (0 : Int))) (0 : Int) a481 true (lst intC (0 : Nat) (zeroC [SV.int IntKind.i64 (0 : Int)])) true (lst intC (0 : Nat) (zeroC [SV.int IntKind.i64 (0 : Int)])) (fun r512 r513 r514 r515 =>
        k (0 : Int) r512 r513 r514 r515)
      else
       Option.none))))
noncomputable def newelref05_Levels {R : Type} : Nat → api_Lift → Int → Arr Int → (Int → Bool → Arr Int → Bool → Arr Int → Option R) → Option R := lock (@newelref05_Levels_m R)
theorem newelref05_Levels_def {R : Type} (N : Nat) (a481 : api_Lift) (a482 : Int) (a483 : Arr Int) (k : Int → Bool → Arr Int → Bool → Arr Int → Option R) : newelref05_Levels N a481 a482 a483 k = newelref05_Levels_m N a481 a482 a483 k := by unfold newelref05_Levels; rw [lock_eq]
def newelref05_Levels_sp : Sp := ⟨[rAgg api_LiftC, rInt .i64, rSl intC], []⟩
theorem newelref05_Levels_sp_ok : newelref05_Levels_sp.Ok := ⟨(allCons (rAgg_ok api_LiftC_ok api_LiftC_len) (allCons (rInt_ok .i64) (allCons (rSl_ok intC_ok) allNil))), eNil⟩
def newelref05_Levels_rs : Sp := ⟨[rTup [rRow 0, rRow 1, rInt .i64]], [(0, eRow intC), (1, eRow intC)]⟩
theorem newelref05_Levels_rs_ok : newelref05_Levels_rs.Ok := ⟨(allCons (rTup_ok (allCons (rRow_ok 0) (allCons (rRow_ok 1) (allCons (rInt_ok .i64) allNil)))) allNil), (eCons (eRow_ok intC_ok) (eCons (eRow_ok intC_ok) eNil))⟩
def newelref05_Levels_run {R : Type} (N : Nat) (args : List SV) (T : Tab) (kf : SV × Tab → Option R) : Option R :=
  newelref05_Levels_m N (Cod.dec api_LiftC (lget (toCs (lget args 0)))) (toI (lget args 1)) (lstC intC (lget args 2)) (fun q0 q1 q2 q3 q4 => kf (lget [.tup [.row 0, .row 1, .int .i64 q0]] 0, [(0, rowE intC q1 q2), (1, rowE intC q3 q4)]))
def newelref05_Levels_d12 {R : Type} (N : Nat) (S0 : St) (k : Exit → St → Option R) : Option R :=
  newelref05_Levels_l12 N N (toI (lget S0.tmps 1)) (lstC intC (lget S0.tmps 2)) (toI (lget S0.tmps 10)) (toI (lget S0.tmps 11)) (Cod.dec api_LiftC (lget (entCs (entAt S0.tab 0)))) (entNl (entAt S0.tab 1)) (lst intC (entN (entAt S0.tab 1)) (entC (entAt S0.tab 1))) (entNl (entAt S0.tab 2)) (lst intC (entN (entAt S0.tab 2)) (entC (entAt S0.tab 2))) (fun q0 q1 q2 q3 => k (.exit 2) (newelref05_Levels_x12_2 q0 q1 q2 q3))
def newelref05_Levels_d6 {R : Type} (N : Nat) (S0 : St) (k : Exit → St → Option R) : Option R :=
  newelref05_Levels_l6 N N (toI (lget S0.tmps 1)) (lstC intC (lget S0.tmps 2)) (toI (lget S0.tmps 9)) (Cod.dec api_LiftC (lget (entCs (entAt S0.tab 0)))) (entNl (entAt S0.tab 1)) (lst intC (entN (entAt S0.tab 1)) (entC (entAt S0.tab 1))) (entNl (entAt S0.tab 2)) (lst intC (entN (entAt S0.tab 2)) (entC (entAt S0.tab 2))) (fun q0 q1 q2 q3 q4 => k .ret (newelref05_Levels_x6_r q0 q1 q2 q3 q4)) (fun (_ : Unit) => k (.exit 0) (newelref05_Levels_x6_0 (toI (lget S0.tmps 1)) (lstC intC (lget S0.tmps 2)) (Cod.dec api_LiftC (lget (entCs (entAt S0.tab 0)))) (entNl (entAt S0.tab 1)) (lst intC (entN (entAt S0.tab 1)) (entC (entAt S0.tab 1))) (entNl (entAt S0.tab 2)) (lst intC (entN (entAt S0.tab 2)) (entC (entAt S0.tab 2)))))
def newelref05_Levels_lp {R : Type} (N : Nat) : Lp R := fun body S k => bif (Go.Sx.keyOf body).getD 0 == 6 then newelref05_Levels_L6.head.raw 0 S (fun S0 => newelref05_Levels_d6 N S0 k) else bif (Go.Sx.keyOf body).getD 0 == 12 then newelref05_Levels_L12.head.raw 0 S (fun S0 => newelref05_Levels_d12 N S0 k) else Option.none
theorem newelref05_Levels_l6_eq {R : Type} (N : Nat) (k : Exit → St → Option R) (n : Nat) : ∀ (v0 : Int) (v1 : Arr Int) (v2 : Int) (v3 : api_Lift) (v4 : Bool) (v5 : Arr Int) (v6 : Bool) (v7 : Arr Int), loopM E.Θ (lift_Levels_cal N) (newelref05_Levels_lp N) 0 newelref05_Levels_L6 (bodyAt E 41 6) n (newelref05_Levels_h6 v0 v1 v2 v3 v4 v5 v6 v7) k = newelref05_Levels_l6 N n v0 v1 v2 v3 v4 v5 v6 v7 (fun q0 q1 q2 q3 q4 => k .ret (newelref05_Levels_x6_r q0 q1 q2 q3 q4)) (fun (_ : Unit) => k (.exit 0) (newelref05_Levels_x6_0 v0 v1 v3 v4 v5 v6 v7)) := by
  induction n with
  | zero => intro v0 v1 v2 v3 v4 v5 v6 v7; rfl
  | succ n ih =>
    intro v0 v1 v2 v3 v4 v5 v6 v7
    refine Eq.trans (b := newelref05_Levels_b6 N (fun v0 v1 v2 v3 v4 v5 v6 v7 => loopM E.Θ (lift_Levels_cal N) (newelref05_Levels_lp N) 0 newelref05_Levels_L6 (bodyAt E 41 6) n (newelref05_Levels_h6 v0 v1 v2 v3 v4 v5 v6 v7) k) v0 v1 v2 v3 v4 v5 v6 v7 (fun q0 q1 q2 q3 q4 => k .ret (newelref05_Levels_x6_r q0 q1 q2 q3 q4)) (fun (_ : Unit) => k (.exit 0) (newelref05_Levels_x6_0 v0 v1 v3 v4 v5 v6 v7))) (by kernel_rfl) ?_
    have h : (fun (v0 : Int) (v1 : Arr Int) (v2 : Int) (v3 : api_Lift) (v4 : Bool) (v5 : Arr Int) (v6 : Bool) (v7 : Arr Int) => loopM E.Θ (lift_Levels_cal N) (newelref05_Levels_lp N) 0 newelref05_Levels_L6 (bodyAt E 41 6) n (newelref05_Levels_h6 v0 v1 v2 v3 v4 v5 v6 v7) k) = (fun (v0 : Int) (v1 : Arr Int) (v2 : Int) (v3 : api_Lift) (v4 : Bool) (v5 : Arr Int) (v6 : Bool) (v7 : Arr Int) => newelref05_Levels_l6 N n v0 v1 v2 v3 v4 v5 v6 v7 (fun q0 q1 q2 q3 q4 => k .ret (newelref05_Levels_x6_r q0 q1 q2 q3 q4)) (fun (_ : Unit) => k (.exit 0) (newelref05_Levels_x6_0 v0 v1 v3 v4 v5 v6 v7))) := funext fun v0 => funext fun v1 => funext fun v2 => funext fun v3 => funext fun v4 => funext fun v5 => funext fun v6 => funext fun v7 => ih v0 v1 v2 v3 v4 v5 v6 v7
    rw [h]
    rfl
theorem newelref05_Levels_l12_eq {R : Type} (N : Nat) (k : Exit → St → Option R) (n : Nat) : ∀ (v0 : Int) (v1 : Arr Int) (v2 : Int) (v3 : Int) (v4 : api_Lift) (v5 : Bool) (v6 : Arr Int) (v7 : Bool) (v8 : Arr Int), loopM E.Θ (lift_Levels_cal N) (newelref05_Levels_lp N) 0 newelref05_Levels_L12 (bodyAt E 41 12) n (newelref05_Levels_h12 v0 v1 v2 v3 v4 v5 v6 v7 v8) k = newelref05_Levels_l12 N n v0 v1 v2 v3 v4 v5 v6 v7 v8 (fun q0 q1 q2 q3 => k (.exit 2) (newelref05_Levels_x12_2 q0 q1 q2 q3)) := by
  induction n with
  | zero => intro v0 v1 v2 v3 v4 v5 v6 v7 v8; rfl
  | succ n ih =>
    intro v0 v1 v2 v3 v4 v5 v6 v7 v8
    refine Eq.trans (b := newelref05_Levels_b12 N (fun v0 v1 v2 v3 v4 v5 v6 v7 v8 => loopM E.Θ (lift_Levels_cal N) (newelref05_Levels_lp N) 0 newelref05_Levels_L12 (bodyAt E 41 12) n (newelref05_Levels_h12 v0 v1 v2 v3 v4 v5 v6 v7 v8) k) v0 v1 v2 v3 v4 v5 v6 v7 v8 (fun q0 q1 q2 q3 => k (.exit 2) (newelref05_Levels_x12_2 q0 q1 q2 q3))) (by kernel_rfl) ?_
    have h : (fun (v0 : Int) (v1 : Arr Int) (v2 : Int) (v3 : Int) (v4 : api_Lift) (v5 : Bool) (v6 : Arr Int) (v7 : Bool) (v8 : Arr Int) => loopM E.Θ (lift_Levels_cal N) (newelref05_Levels_lp N) 0 newelref05_Levels_L12 (bodyAt E 41 12) n (newelref05_Levels_h12 v0 v1 v2 v3 v4 v5 v6 v7 v8) k) = (fun (v0 : Int) (v1 : Arr Int) (v2 : Int) (v3 : Int) (v4 : api_Lift) (v5 : Bool) (v6 : Arr Int) (v7 : Bool) (v8 : Arr Int) => newelref05_Levels_l12 N n v0 v1 v2 v3 v4 v5 v6 v7 v8 (fun q0 q1 q2 q3 => k (.exit 2) (newelref05_Levels_x12_2 q0 q1 q2 q3))) := funext fun v0 => funext fun v1 => funext fun v2 => funext fun v3 => funext fun v4 => funext fun v5 => funext fun v6 => funext fun v7 => funext fun v8 => ih v0 v1 v2 v3 v4 v5 v6 v7 v8
    rw [h]
    rfl
theorem newelref05_Levels_k12 {R : Type} (N : Nat) : LpKey (R := R) E 41 0 (newelref05_Levels_lp N) 12 :=
  lpKey_of hE (lift_Levels_cal_ok N) newelref05_Levels_L12_ok [] kNil (by kernel_rfl) N fun S k =>
    Eq.trans (b := newelref05_Levels_L12.head.raw 0 S (fun S0 => newelref05_Levels_d12 N S0 k)) (by kernel_rfl) (congrArg (newelref05_Levels_L12.head.raw 0 S) (funext fun S0 => Eq.trans (newelref05_Levels_l12_eq N k N (toI (lget S0.tmps 1)) (lstC intC (lget S0.tmps 2)) (toI (lget S0.tmps 10)) (toI (lget S0.tmps 11)) (Cod.dec api_LiftC (lget (entCs (entAt S0.tab 0)))) (entNl (entAt S0.tab 1)) (lst intC (entN (entAt S0.tab 1)) (entC (entAt S0.tab 1))) (entNl (entAt S0.tab 2)) (lst intC (entN (entAt S0.tab 2)) (entC (entAt S0.tab 2)))).symm (by kernel_rfl)))
theorem newelref05_Levels_k6 {R : Type} (N : Nat) : LpKey (R := R) E 41 0 (newelref05_Levels_lp N) 6 :=
  lpKey_of hE (lift_Levels_cal_ok N) newelref05_Levels_L6_ok [] kNil (by kernel_rfl) N fun S k =>
    Eq.trans (b := newelref05_Levels_L6.head.raw 0 S (fun S0 => newelref05_Levels_d6 N S0 k)) (by kernel_rfl) (congrArg (newelref05_Levels_L6.head.raw 0 S) (funext fun S0 => Eq.trans (newelref05_Levels_l6_eq N k N (toI (lget S0.tmps 1)) (lstC intC (lget S0.tmps 2)) (toI (lget S0.tmps 9)) (Cod.dec api_LiftC (lget (entCs (entAt S0.tab 0)))) (entNl (entAt S0.tab 1)) (lst intC (entN (entAt S0.tab 1)) (entC (entAt S0.tab 1))) (entNl (entAt S0.tab 2)) (lst intC (entN (entAt S0.tab 2)) (entC (entAt S0.tab 2)))).symm (by kernel_rfl)))
noncomputable def newelref05_Levels_go {R : Type} (N : Nat) (args : List SV) (T : Tab) (kf : SV × Tab → Option R) : Option R :=
  newelref05_Levels N (Cod.dec api_LiftC (lget (toCs (lget args 0)))) (toI (lget args 1)) (lstC intC (lget args 2)) (fun q0 q1 q2 q3 q4 => kf (lget [.tup [.row 0, .row 1, .int .i64 q0]] 0, [(0, rowE intC q1 q2), (1, rowE intC q3 q4)]))
noncomputable def newelref05_Levels_cal {R : Type} (N : Nat) : Cal R := callM (lift_Levels_cal N) 41 0 newelref05_Levels_sp (newelref05_Levels_go N)
theorem newelref05_Levels_cal_ok {R : Type} (N : Nat) : CalOk E.P (newelref05_Levels_cal (R := R) N) :=
  callM_ok hE (lift_Levels_cal_ok N) (lp := newelref05_Levels_lp N) (keys := [6, 12]) (kCons (newelref05_Levels_k6 N) (kCons (newelref05_Levels_k12 N) kNil)) (by kernel_rfl) newelref05_Levels_sp_ok newelref05_Levels_rs_ok (fun args T kf => Eq.trans (newelref05_Levels_def N (Cod.dec api_LiftC (lget (toCs (lget args 0)))) (toI (lget args 1)) (lstC intC (lget args 2)) (fun q0 q1 q2 q3 q4 => kf (lget [.tup [.row 0, .row 1, .int .i64 q0]] 0, [(0, rowE intC q1 q2), (1, rowE intC q3 q4)]))) (by kernel_rfl : newelref05_Levels_run N args T kf = fnM E (lift_Levels_cal N) (newelref05_Levels_lp N) 41 (newelref05_Levels_sp.vs args) (newelref05_Levels_sp.tab T) 0 (resK newelref05_Levels_rs kf)))

def lift_most_L3 : LoopSp := ⟨⟨[1, 2, 3, 7, 8], ⟨(dr 1 ((rInt .i64) :: (rInt .i64) :: (rPtr 0 0) :: (dr 3 ((rInt .i64) :: (rInt .i64) :: (dr 24 []))))), [(0, eBlkC api_LiftC)]⟩, 1⟩, [(some 0, ⟨[7], ⟨(dr 7 ((rInt .i64) :: (dr 25 []))), []⟩, 0⟩)]⟩
theorem lift_most_L3_ok : lift_most_L3.Ok := ⟨⟨(drCons 1 (allCons (rInt_ok .i64) (allCons (rInt_ok .i64) (allCons (rPtr_ok 0 0) (drCons 3 (allCons (rInt_ok .i64) (allCons (rInt_ok .i64) (drCons 24 allNil)))))))), (eCons (eBlkC_ok api_LiftC_ok api_LiftC_len) eNil)⟩, (xCons ⟨(drCons 7 (allCons (rInt_ok .i64) (drCons 25 allNil))), eNil⟩ xNil)⟩
def lift_most_h3 (v519 : Int) (v520 : Int) (v521 : Int) (v522 : Int) (v523 : api_Lift) : St := ⟨(un 1 ((.int .i64 v519) :: (.int .i64 v520) :: (.ptr 0 0) :: (un 3 ((.int .i64 v521) :: (.int .i64 v522) :: (un 24 []))))), [(0, .blk (Cod.enc api_LiftC v523))], 1⟩
def lift_most_x3_0 (q0 : Int) : St := ⟨(un 7 ((.int .i64 q0) :: (un 25 []))), [], 0⟩
def lift_most_b3 {R : Type} (N : Nat) (rc : Int → Int → Int → Int → api_Lift → Option R) (v519 : Int) (v520 : Int) (v521 : Int) (v522 : Int) (v523 : api_Lift) (k0 : Int → Option R) : Option R :=
  bif decide (v522 ≤ v520) then
   rc v519 v520 (w64 (v521 + if w64 (w64 (w64 (v520 - v522) + (1 : Int)) * api_Lift.Accel v523) < if w64 (v519 + w64 (v522 * api_Lift.Accel v523)) < api_Lift.Speed v523 then w64 (v519 + w64 (v522 * api_Lift.Accel v523)) else api_Lift.Speed v523 then w64 (w64 (w64 (v520 - v522) + (1 : Int)) * api_Lift.Accel v523) else if w64 (v519 + w64 (v522 * api_Lift.Accel v523)) < api_Lift.Speed v523 then w64 (v519 + w64 (v522 * api_Lift.Accel v523)) else api_Lift.Speed v523)) (w64 (v522 + (1 : Int))) v523
  else
   k0 v521
def lift_most_l3 {R : Type} (N : Nat) : Nat → Int → Int → Int → Int → api_Lift → (Int → Option R) → Option R
  | 0, _, _, _, _, _, _ => Option.none
  | n + 1, v519, v520, v521, v522, v523, k0 => lift_most_b3 N (fun v519 v520 v521 v522 v523 => lift_most_l3 N n v519 v520 v521 v522 v523 k0) v519 v520 v521 v522 v523 k0


def lift_most_m {R : Type} (N : Nat) (a516 : api_Lift) (a517 : Int) (a518 : Int) (k : Int → Option R) : Option R :=
  lift_most_l3 N N a517 a518 (0 : Int) (1 : Int) a516 (fun r524 =>
   k r524)
noncomputable def lift_most {R : Type} : Nat → api_Lift → Int → Int → (Int → Option R) → Option R := lock (@lift_most_m R)
theorem lift_most_def {R : Type} (N : Nat) (a516 : api_Lift) (a517 : Int) (a518 : Int) (k : Int → Option R) : lift_most N a516 a517 a518 k = lift_most_m N a516 a517 a518 k := by unfold lift_most; rw [lock_eq]
def lift_most_sp : Sp := ⟨[rAgg api_LiftC, rInt .i64, rInt .i64], []⟩
theorem lift_most_sp_ok : lift_most_sp.Ok := ⟨(allCons (rAgg_ok api_LiftC_ok api_LiftC_len) (allCons (rInt_ok .i64) (allCons (rInt_ok .i64) allNil))), eNil⟩
def lift_most_rs : Sp := ⟨[rInt .i64], []⟩
theorem lift_most_rs_ok : lift_most_rs.Ok := ⟨(allCons (rInt_ok .i64) allNil), eNil⟩
def lift_most_run {R : Type} (N : Nat) (args : List SV) (T : Tab) (kf : SV × Tab → Option R) : Option R :=
  lift_most_m N (Cod.dec api_LiftC (lget (toCs (lget args 0)))) (toI (lget args 1)) (toI (lget args 2)) (fun q0 => kf (lget [.int .i64 q0] 0, []))
def lift_most_d3 {R : Type} (N : Nat) (S0 : St) (k : Exit → St → Option R) : Option R :=
  lift_most_l3 N N (toI (lget S0.tmps 1)) (toI (lget S0.tmps 2)) (toI (lget S0.tmps 7)) (toI (lget S0.tmps 8)) (Cod.dec api_LiftC (lget (entCs (entAt S0.tab 0)))) (fun q0 => k (.exit 0) (lift_most_x3_0 q0))
def lift_most_lp {R : Type} (N : Nat) : Lp R := fun body S k => bif (Go.Sx.keyOf body).getD 0 == 3 then lift_most_L3.head.raw 0 S (fun S0 => lift_most_d3 N S0 k) else Option.none
theorem lift_most_l3_eq {R : Type} (N : Nat) (k : Exit → St → Option R) (n : Nat) : ∀ (v0 : Int) (v1 : Int) (v2 : Int) (v3 : Int) (v4 : api_Lift), loopM E.Θ (newelref05_Levels_cal N) (lift_most_lp N) 0 lift_most_L3 (bodyAt E 69 3) n (lift_most_h3 v0 v1 v2 v3 v4) k = lift_most_l3 N n v0 v1 v2 v3 v4 (fun q0 => k (.exit 0) (lift_most_x3_0 q0)) := by
  induction n with
  | zero => intro v0 v1 v2 v3 v4; rfl
  | succ n ih =>
    intro v0 v1 v2 v3 v4
    refine Eq.trans (b := lift_most_b3 N (fun v0 v1 v2 v3 v4 => loopM E.Θ (newelref05_Levels_cal N) (lift_most_lp N) 0 lift_most_L3 (bodyAt E 69 3) n (lift_most_h3 v0 v1 v2 v3 v4) k) v0 v1 v2 v3 v4 (fun q0 => k (.exit 0) (lift_most_x3_0 q0))) (by kernel_rfl) ?_
    have h : (fun (v0 : Int) (v1 : Int) (v2 : Int) (v3 : Int) (v4 : api_Lift) => loopM E.Θ (newelref05_Levels_cal N) (lift_most_lp N) 0 lift_most_L3 (bodyAt E 69 3) n (lift_most_h3 v0 v1 v2 v3 v4) k) = (fun (v0 : Int) (v1 : Int) (v2 : Int) (v3 : Int) (v4 : api_Lift) => lift_most_l3 N n v0 v1 v2 v3 v4 (fun q0 => k (.exit 0) (lift_most_x3_0 q0))) := funext fun v0 => funext fun v1 => funext fun v2 => funext fun v3 => funext fun v4 => ih v0 v1 v2 v3 v4
    rw [h]
    rfl
theorem lift_most_k3 {R : Type} (N : Nat) : LpKey (R := R) E 69 0 (lift_most_lp N) 3 :=
  lpKey_of hE (newelref05_Levels_cal_ok N) lift_most_L3_ok [] kNil (by kernel_rfl) N fun S k =>
    Eq.trans (b := lift_most_L3.head.raw 0 S (fun S0 => lift_most_d3 N S0 k)) (by kernel_rfl) (congrArg (lift_most_L3.head.raw 0 S) (funext fun S0 => Eq.trans (lift_most_l3_eq N k N (toI (lget S0.tmps 1)) (toI (lget S0.tmps 2)) (toI (lget S0.tmps 7)) (toI (lget S0.tmps 8)) (Cod.dec api_LiftC (lget (entCs (entAt S0.tab 0))))).symm (by kernel_rfl)))
noncomputable def lift_most_go {R : Type} (N : Nat) (args : List SV) (T : Tab) (kf : SV × Tab → Option R) : Option R :=
  lift_most N (Cod.dec api_LiftC (lget (toCs (lget args 0)))) (toI (lget args 1)) (toI (lget args 2)) (fun q0 => kf (lget [.int .i64 q0] 0, []))
noncomputable def lift_most_cal {R : Type} (N : Nat) : Cal R := callM (newelref05_Levels_cal N) 69 0 lift_most_sp (lift_most_go N)
theorem lift_most_cal_ok {R : Type} (N : Nat) : CalOk E.P (lift_most_cal (R := R) N) :=
  callM_ok hE (newelref05_Levels_cal_ok N) (lp := lift_most_lp N) (keys := [3]) (kCons (lift_most_k3 N) kNil) (by kernel_rfl) lift_most_sp_ok lift_most_rs_ok (fun args T kf => Eq.trans (lift_most_def N (Cod.dec api_LiftC (lget (toCs (lget args 0)))) (toI (lget args 1)) (toI (lget args 2)) (fun q0 => kf (lget [.int .i64 q0] 0, []))) (by kernel_rfl : lift_most_run N args T kf = fnM E (newelref05_Levels_cal N) (lift_most_lp N) 69 (lift_most_sp.vs args) (lift_most_sp.tab T) 0 (resK lift_most_rs kf)))

def newelref05_reach_L3 : LoopSp := ⟨⟨[1, 2, 5, 6], ⟨(dr 1 ((rInt .i64) :: (rPtr 0 0) :: (dr 2 ((rInt .i64) :: (rInt .i64) :: (dr 22 []))))), [(0, eBlkC api_LiftC)]⟩, 1⟩, [(some 0, ⟨[5], ⟨(dr 5 ((rInt .i64) :: (dr 23 []))), []⟩, 0⟩)]⟩
theorem newelref05_reach_L3_ok : newelref05_reach_L3.Ok := ⟨⟨(drCons 1 (allCons (rInt_ok .i64) (allCons (rPtr_ok 0 0) (drCons 2 (allCons (rInt_ok .i64) (allCons (rInt_ok .i64) (drCons 22 allNil))))))), (eCons (eBlkC_ok api_LiftC_ok api_LiftC_len) eNil)⟩, (xCons ⟨(drCons 5 (allCons (rInt_ok .i64) (drCons 23 allNil))), eNil⟩ xNil)⟩
def newelref05_reach_h3 (v527 : Int) (v528 : Int) (v529 : Int) (v530 : api_Lift) : St := ⟨(un 1 ((.int .i64 v527) :: (.ptr 0 0) :: (un 2 ((.int .i64 v528) :: (.int .i64 v529) :: (un 22 []))))), [(0, .blk (Cod.enc api_LiftC v530))], 1⟩
def newelref05_reach_x3_0 (q0 : Int) : St := ⟨(un 5 ((.int .i64 q0) :: (un 23 []))), [], 0⟩
def newelref05_reach_b3 {R : Type} (N : Nat) (rc : Int → Int → Int → api_Lift → Option R) (v527 : Int) (v528 : Int) (v529 : Int) (v530 : api_Lift) (k0 : Int → Option R) : Option R :=
  bif decide (v529 ≤ v527) then
   rc v527 (w64 (v528 + if w64 (api_Lift.Accel v530 * w64 (w64 (v527 + (1 : Int)) - v529)) < if w64 (api_Lift.Accel v530 * v529) < api_Lift.Speed v530 then w64 (api_Lift.Accel v530 * v529) else api_Lift.Speed v530 then w64 (api_Lift.Accel v530 * w64 (w64 (v527 + (1 : Int)) - v529)) else if w64 (api_Lift.Accel v530 * v529) < api_Lift.Speed v530 then w64 (api_Lift.Accel v530 * v529) else api_Lift.Speed v530)) (w64 (v529 + (1 : Int))) v530
  else
   k0 v528
def newelref05_reach_l3 {R : Type} (N : Nat) : Nat → Int → Int → Int → api_Lift → (Int → Option R) → Option R
  | 0, _, _, _, _, _ => Option.none
  | n + 1, v527, v528, v529, v530, k0 => newelref05_reach_b3 N (fun v527 v528 v529 v530 => newelref05_reach_l3 N n v527 v528 v529 v530 k0) v527 v528 v529 v530 k0


def newelref05_reach_m {R : Type} (N : Nat) (a525 : api_Lift) (a526 : Int) (k : Int → Option R) : Option R :=
  newelref05_reach_l3 N N a526 (0 : Int) (1 : Int) a525 (fun r531 =>
   k r531)
noncomputable def newelref05_reach {R : Type} : Nat → api_Lift → Int → (Int → Option R) → Option R := lock (@newelref05_reach_m R)
theorem newelref05_reach_def {R : Type} (N : Nat) (a525 : api_Lift) (a526 : Int) (k : Int → Option R) : newelref05_reach N a525 a526 k = newelref05_reach_m N a525 a526 k := by unfold newelref05_reach; rw [lock_eq]
def newelref05_reach_sp : Sp := ⟨[rAgg api_LiftC, rInt .i64], []⟩
theorem newelref05_reach_sp_ok : newelref05_reach_sp.Ok := ⟨(allCons (rAgg_ok api_LiftC_ok api_LiftC_len) (allCons (rInt_ok .i64) allNil)), eNil⟩
def newelref05_reach_rs : Sp := ⟨[rInt .i64], []⟩
theorem newelref05_reach_rs_ok : newelref05_reach_rs.Ok := ⟨(allCons (rInt_ok .i64) allNil), eNil⟩
def newelref05_reach_run {R : Type} (N : Nat) (args : List SV) (T : Tab) (kf : SV × Tab → Option R) : Option R :=
  newelref05_reach_m N (Cod.dec api_LiftC (lget (toCs (lget args 0)))) (toI (lget args 1)) (fun q0 => kf (lget [.int .i64 q0] 0, []))
def newelref05_reach_d3 {R : Type} (N : Nat) (S0 : St) (k : Exit → St → Option R) : Option R :=
  newelref05_reach_l3 N N (toI (lget S0.tmps 1)) (toI (lget S0.tmps 5)) (toI (lget S0.tmps 6)) (Cod.dec api_LiftC (lget (entCs (entAt S0.tab 0)))) (fun q0 => k (.exit 0) (newelref05_reach_x3_0 q0))
def newelref05_reach_lp {R : Type} (N : Nat) : Lp R := fun body S k => bif (Go.Sx.keyOf body).getD 0 == 3 then newelref05_reach_L3.head.raw 0 S (fun S0 => newelref05_reach_d3 N S0 k) else Option.none
theorem newelref05_reach_l3_eq {R : Type} (N : Nat) (k : Exit → St → Option R) (n : Nat) : ∀ (v0 : Int) (v1 : Int) (v2 : Int) (v3 : api_Lift), loopM E.Θ (lift_most_cal N) (newelref05_reach_lp N) 0 newelref05_reach_L3 (bodyAt E 70 3) n (newelref05_reach_h3 v0 v1 v2 v3) k = newelref05_reach_l3 N n v0 v1 v2 v3 (fun q0 => k (.exit 0) (newelref05_reach_x3_0 q0)) := by
  induction n with
  | zero => intro v0 v1 v2 v3; rfl
  | succ n ih =>
    intro v0 v1 v2 v3
    refine Eq.trans (b := newelref05_reach_b3 N (fun v0 v1 v2 v3 => loopM E.Θ (lift_most_cal N) (newelref05_reach_lp N) 0 newelref05_reach_L3 (bodyAt E 70 3) n (newelref05_reach_h3 v0 v1 v2 v3) k) v0 v1 v2 v3 (fun q0 => k (.exit 0) (newelref05_reach_x3_0 q0))) (by kernel_rfl) ?_
    have h : (fun (v0 : Int) (v1 : Int) (v2 : Int) (v3 : api_Lift) => loopM E.Θ (lift_most_cal N) (newelref05_reach_lp N) 0 newelref05_reach_L3 (bodyAt E 70 3) n (newelref05_reach_h3 v0 v1 v2 v3) k) = (fun (v0 : Int) (v1 : Int) (v2 : Int) (v3 : api_Lift) => newelref05_reach_l3 N n v0 v1 v2 v3 (fun q0 => k (.exit 0) (newelref05_reach_x3_0 q0))) := funext fun v0 => funext fun v1 => funext fun v2 => funext fun v3 => ih v0 v1 v2 v3
    rw [h]
    rfl
theorem newelref05_reach_k3 {R : Type} (N : Nat) : LpKey (R := R) E 70 0 (newelref05_reach_lp N) 3 :=
  lpKey_of hE (lift_most_cal_ok N) newelref05_reach_L3_ok [] kNil (by kernel_rfl) N fun S k =>
    Eq.trans (b := newelref05_reach_L3.head.raw 0 S (fun S0 => newelref05_reach_d3 N S0 k)) (by kernel_rfl) (congrArg (newelref05_reach_L3.head.raw 0 S) (funext fun S0 => Eq.trans (newelref05_reach_l3_eq N k N (toI (lget S0.tmps 1)) (toI (lget S0.tmps 5)) (toI (lget S0.tmps 6)) (Cod.dec api_LiftC (lget (entCs (entAt S0.tab 0))))).symm (by kernel_rfl)))
noncomputable def newelref05_reach_go {R : Type} (N : Nat) (args : List SV) (T : Tab) (kf : SV × Tab → Option R) : Option R :=
  newelref05_reach N (Cod.dec api_LiftC (lget (toCs (lget args 0)))) (toI (lget args 1)) (fun q0 => kf (lget [.int .i64 q0] 0, []))
noncomputable def newelref05_reach_cal {R : Type} (N : Nat) : Cal R := callM (lift_most_cal N) 70 0 newelref05_reach_sp (newelref05_reach_go N)
theorem newelref05_reach_cal_ok {R : Type} (N : Nat) : CalOk E.P (newelref05_reach_cal (R := R) N) :=
  callM_ok hE (lift_most_cal_ok N) (lp := newelref05_reach_lp N) (keys := [3]) (kCons (newelref05_reach_k3 N) kNil) (by kernel_rfl) newelref05_reach_sp_ok newelref05_reach_rs_ok (fun args T kf => Eq.trans (newelref05_reach_def N (Cod.dec api_LiftC (lget (toCs (lget args 0)))) (toI (lget args 1)) (fun q0 => kf (lget [.int .i64 q0] 0, []))) (by kernel_rfl : newelref05_reach_run N args T kf = fnM E (lift_most_cal N) (newelref05_reach_lp N) 70 (newelref05_reach_sp.vs args) (newelref05_reach_sp.tab T) 0 (resK newelref05_reach_rs kf)))


def lift_Reach_1_m {R : Type} (N : Nat) (a537 : Int) (k : Bool → Option R) : Option R :=
  lift_between N a537 (0 : Int) (1000 : Int) (fun r538 =>
  k r538)
noncomputable def lift_Reach_1 {R : Type} : Nat → Int → (Bool → Option R) → Option R := lock (@lift_Reach_1_m R)
theorem lift_Reach_1_def {R : Type} (N : Nat) (a537 : Int) (k : Bool → Option R) : lift_Reach_1 N a537 k = lift_Reach_1_m N a537 k := by unfold lift_Reach_1; rw [lock_eq]
def lift_Reach_1_sp : Sp := ⟨[rPtr 0 0], [(0, eBlk [rInt .i64])]⟩
theorem lift_Reach_1_sp_ok : lift_Reach_1_sp.Ok := ⟨(allCons (rPtr_ok 0 0) allNil), (eCons (eBlk_ok (allCons (rInt_ok .i64) allNil)) eNil)⟩
def lift_Reach_1_rs : Sp := ⟨[rBool], [(0, eBlk [rInt .i64])]⟩
theorem lift_Reach_1_rs_ok : lift_Reach_1_rs.Ok := ⟨(allCons rBool_ok allNil), (eCons (eBlk_ok (allCons (rInt_ok .i64) allNil)) eNil)⟩
def lift_Reach_1_run {R : Type} (N : Nat) (args : List SV) (T : Tab) (kf : SV × Tab → Option R) : Option R :=
  lift_Reach_1_m N (toI (lget (entCs (entAt T 0)) 0)) (fun q0 => kf (lget [.bool q0] 0, [(0, .blk [.int .i64 (toI (lget (entCs (entAt T 0)) 0))])]))
def lift_Reach_1_lp {R : Type} (N : Nat) : Lp R := fun body S k => Option.none
noncomputable def lift_Reach_1_go {R : Type} (N : Nat) (args : List SV) (T : Tab) (kf : SV × Tab → Option R) : Option R :=
  lift_Reach_1 N (toI (lget (entCs (entAt T 0)) 0)) (fun q0 => kf (lget [.bool q0] 0, [(0, .blk [.int .i64 (toI (lget (entCs (entAt T 0)) 0))])]))
noncomputable def lift_Reach_1_cal {R : Type} (N : Nat) : Cal R := callM (newelref05_reach_cal N) 68 1 lift_Reach_1_sp (lift_Reach_1_go N)
theorem lift_Reach_1_cal_ok {R : Type} (N : Nat) : CalOk E.P (lift_Reach_1_cal (R := R) N) :=
  callM_ok hE (newelref05_reach_cal_ok N) (lp := lift_Reach_1_lp N) (keys := []) kNil (by kernel_rfl) lift_Reach_1_sp_ok lift_Reach_1_rs_ok (fun args T kf => Eq.trans (lift_Reach_1_def N (toI (lget (entCs (entAt T 0)) 0)) (fun q0 => kf (lget [.bool q0] 0, [(0, .blk [.int .i64 (toI (lget (entCs (entAt T 0)) 0))])]))) (by kernel_rfl : lift_Reach_1_run N args T kf = fnM E (newelref05_reach_cal N) (lift_Reach_1_lp N) 68 (lift_Reach_1_sp.vs args) (lift_Reach_1_sp.tab T) 1 (resK lift_Reach_1_rs kf)))


def lift_check_v7_m {R : Type} (N : Nat) (a534 : api_Lift) (a535 : Int) (k : Int → Option R) : Option R :=
  lift_Check N a534 (fun r536 =>
  bif r536 != (0 : Int) then
   k r536
  else
   lift_Reach_1 N a535 (fun r539 =>
   bif !r539 then
    k (1 : Int)
   else
    k (0 : Int)))
noncomputable def lift_check_v7 {R : Type} : Nat → api_Lift → Int → (Int → Option R) → Option R := lock (@lift_check_v7_m R)
theorem lift_check_v7_def {R : Type} (N : Nat) (a534 : api_Lift) (a535 : Int) (k : Int → Option R) : lift_check_v7 N a534 a535 k = lift_check_v7_m N a534 a535 k := by unfold lift_check_v7; rw [lock_eq]
def lift_check_v7_sp : Sp := ⟨[rAgg api_LiftC, rFunc 68 [rPtr 0 0]], [(0, eBlk [rInt .i64])]⟩
theorem lift_check_v7_sp_ok : lift_check_v7_sp.Ok := ⟨(allCons (rAgg_ok api_LiftC_ok api_LiftC_len) (allCons (rFunc_ok 68 (allCons (rPtr_ok 0 0) allNil)) allNil)), (eCons (eBlk_ok (allCons (rInt_ok .i64) allNil)) eNil)⟩
def lift_check_v7_rs : Sp := ⟨[rInt .i64], [(0, eBlk [rInt .i64])]⟩
theorem lift_check_v7_rs_ok : lift_check_v7_rs.Ok := ⟨(allCons (rInt_ok .i64) allNil), (eCons (eBlk_ok (allCons (rInt_ok .i64) allNil)) eNil)⟩
def lift_check_v7_run {R : Type} (N : Nat) (args : List SV) (T : Tab) (kf : SV × Tab → Option R) : Option R :=
  lift_check_v7_m N (Cod.dec api_LiftC (lget (toCs (lget args 0)))) (toI (lget (entCs (entAt T 0)) 0)) (fun q0 => kf (lget [.int .i64 q0] 0, [(0, .blk [.int .i64 (toI (lget (entCs (entAt T 0)) 0))])]))
def lift_check_v7_lp {R : Type} (N : Nat) : Lp R := fun body S k => Option.none
noncomputable def lift_check_v7_go {R : Type} (N : Nat) (args : List SV) (T : Tab) (kf : SV × Tab → Option R) : Option R :=
  lift_check_v7 N (Cod.dec api_LiftC (lget (toCs (lget args 0)))) (toI (lget (entCs (entAt T 0)) 0)) (fun q0 => kf (lget [.int .i64 q0] 0, [(0, .blk [.int .i64 (toI (lget (entCs (entAt T 0)) 0))])]))
noncomputable def lift_check_v7_cal {R : Type} (N : Nat) : Cal R := callM (lift_Reach_1_cal N) 56 1 lift_check_v7_sp (lift_check_v7_go N)
theorem lift_check_v7_cal_ok {R : Type} (N : Nat) : CalOk E.P (lift_check_v7_cal (R := R) N) :=
  callM_ok hE (lift_Reach_1_cal_ok N) (lp := lift_check_v7_lp N) (keys := []) kNil (by kernel_rfl) lift_check_v7_sp_ok lift_check_v7_rs_ok (fun args T kf => Eq.trans (lift_check_v7_def N (Cod.dec api_LiftC (lget (toCs (lget args 0)))) (toI (lget (entCs (entAt T 0)) 0)) (fun q0 => kf (lget [.int .i64 q0] 0, [(0, .blk [.int .i64 (toI (lget (entCs (entAt T 0)) 0))])]))) (by kernel_rfl : lift_check_v7_run N args T kf = fnM E (lift_Reach_1_cal N) (lift_check_v7_lp N) 56 (lift_check_v7_sp.vs args) (lift_check_v7_sp.tab T) 1 (resK lift_check_v7_rs kf)))


def lift_Reach_m {R : Type} (N : Nat) (a532 : api_Lift) (a533 : Int) (k : Int → Int → Option R) : Option R :=
  lift_check_v7 N a532 a533 (fun r540 =>
  bif r540 != (0 : Int) then
   k (0 : Int) r540
  else
   lift_most N a532 (0 : Int) a533 (fun r541 =>
   k r541 (0 : Int)))
noncomputable def lift_Reach {R : Type} : Nat → api_Lift → Int → (Int → Int → Option R) → Option R := lock (@lift_Reach_m R)
theorem lift_Reach_def {R : Type} (N : Nat) (a532 : api_Lift) (a533 : Int) (k : Int → Int → Option R) : lift_Reach N a532 a533 k = lift_Reach_m N a532 a533 k := by unfold lift_Reach; rw [lock_eq]
def lift_Reach_sp : Sp := ⟨[rAgg api_LiftC, rInt .i64], []⟩
theorem lift_Reach_sp_ok : lift_Reach_sp.Ok := ⟨(allCons (rAgg_ok api_LiftC_ok api_LiftC_len) (allCons (rInt_ok .i64) allNil)), eNil⟩
def lift_Reach_rs : Sp := ⟨[rTup [rInt .i64, rInt .i64]], []⟩
theorem lift_Reach_rs_ok : lift_Reach_rs.Ok := ⟨(allCons (rTup_ok (allCons (rInt_ok .i64) (allCons (rInt_ok .i64) allNil))) allNil), eNil⟩
def lift_Reach_run {R : Type} (N : Nat) (args : List SV) (T : Tab) (kf : SV × Tab → Option R) : Option R :=
  lift_Reach_m N (Cod.dec api_LiftC (lget (toCs (lget args 0)))) (toI (lget args 1)) (fun q0 q1 => kf (lget [.tup [.int .i64 q0, .int .i64 q1]] 0, []))
def lift_Reach_lp {R : Type} (N : Nat) : Lp R := fun body S k => Option.none
noncomputable def lift_Reach_go {R : Type} (N : Nat) (args : List SV) (T : Tab) (kf : SV × Tab → Option R) : Option R :=
  lift_Reach N (Cod.dec api_LiftC (lget (toCs (lget args 0)))) (toI (lget args 1)) (fun q0 q1 => kf (lget [.tup [.int .i64 q0, .int .i64 q1]] 0, []))
noncomputable def lift_Reach_cal {R : Type} (N : Nat) : Cal R := callM (lift_check_v7_cal N) 33 0 lift_Reach_sp (lift_Reach_go N)
theorem lift_Reach_cal_ok {R : Type} (N : Nat) : CalOk E.P (lift_Reach_cal (R := R) N) :=
  callM_ok hE (lift_check_v7_cal_ok N) (lp := lift_Reach_lp N) (keys := []) kNil (by kernel_rfl) lift_Reach_sp_ok lift_Reach_rs_ok (fun args T kf => Eq.trans (lift_Reach_def N (Cod.dec api_LiftC (lget (toCs (lget args 0)))) (toI (lget args 1)) (fun q0 q1 => kf (lget [.tup [.int .i64 q0, .int .i64 q1]] 0, []))) (by kernel_rfl : lift_Reach_run N args T kf = fnM E (lift_check_v7_cal N) (lift_Reach_lp N) 33 (lift_Reach_sp.vs args) (lift_Reach_sp.tab T) 0 (resK lift_Reach_rs kf)))


def newelref05_Reach_m {R : Type} (N : Nat) (a542 : api_Lift) (a543 : Int) (k : Int → Int → Option R) : Option R :=
  newelref05_Check N a542 (fun r544 =>
  bif r544 != (0 : Int) then
   k (0 : Int) (50 : Int)
  else
   newelref05_within N a543 (0 : Int) (1000 : Int) (fun r545 =>
   bif !r545 then
    k (0 : Int) (1 : Int)
   else
    newelref05_reach N a542 a543 (fun r546 =>
    k r546 (0 : Int))))
noncomputable def newelref05_Reach {R : Type} : Nat → api_Lift → Int → (Int → Int → Option R) → Option R := lock (@newelref05_Reach_m R)
theorem newelref05_Reach_def {R : Type} (N : Nat) (a542 : api_Lift) (a543 : Int) (k : Int → Int → Option R) : newelref05_Reach N a542 a543 k = newelref05_Reach_m N a542 a543 k := by unfold newelref05_Reach; rw [lock_eq]
def newelref05_Reach_sp : Sp := ⟨[rAgg api_LiftC, rInt .i64], []⟩
theorem newelref05_Reach_sp_ok : newelref05_Reach_sp.Ok := ⟨(allCons (rAgg_ok api_LiftC_ok api_LiftC_len) (allCons (rInt_ok .i64) allNil)), eNil⟩
def newelref05_Reach_rs : Sp := ⟨[rTup [rInt .i64, rInt .i64]], []⟩
theorem newelref05_Reach_rs_ok : newelref05_Reach_rs.Ok := ⟨(allCons (rTup_ok (allCons (rInt_ok .i64) (allCons (rInt_ok .i64) allNil))) allNil), eNil⟩
def newelref05_Reach_run {R : Type} (N : Nat) (args : List SV) (T : Tab) (kf : SV × Tab → Option R) : Option R :=
  newelref05_Reach_m N (Cod.dec api_LiftC (lget (toCs (lget args 0)))) (toI (lget args 1)) (fun q0 q1 => kf (lget [.tup [.int .i64 q0, .int .i64 q1]] 0, []))
def newelref05_Reach_lp {R : Type} (N : Nat) : Lp R := fun body S k => Option.none
noncomputable def newelref05_Reach_go {R : Type} (N : Nat) (args : List SV) (T : Tab) (kf : SV × Tab → Option R) : Option R :=
  newelref05_Reach N (Cod.dec api_LiftC (lget (toCs (lget args 0)))) (toI (lget args 1)) (fun q0 q1 => kf (lget [.tup [.int .i64 q0, .int .i64 q1]] 0, []))
noncomputable def newelref05_Reach_cal {R : Type} (N : Nat) : Cal R := callM (lift_Reach_cal N) 34 0 newelref05_Reach_sp (newelref05_Reach_go N)
theorem newelref05_Reach_cal_ok {R : Type} (N : Nat) : CalOk E.P (newelref05_Reach_cal (R := R) N) :=
  callM_ok hE (lift_Reach_cal_ok N) (lp := newelref05_Reach_lp N) (keys := []) kNil (by kernel_rfl) newelref05_Reach_sp_ok newelref05_Reach_rs_ok (fun args T kf => Eq.trans (newelref05_Reach_def N (Cod.dec api_LiftC (lget (toCs (lget args 0)))) (toI (lget args 1)) (fun q0 q1 => kf (lget [.tup [.int .i64 q0, .int .i64 q1]] 0, []))) (by kernel_rfl : newelref05_Reach_run N args T kf = fnM E (lift_Reach_cal N) (newelref05_Reach_lp N) 34 (newelref05_Reach_sp.vs args) (newelref05_Reach_sp.tab T) 0 (resK newelref05_Reach_rs kf)))


def lift_distance_m {R : Type} (N : Nat) (a547 : api_Lift) (a548 : Int) (a549 : Int) (k : Int → Bool → Option R) : Option R :=
  lift_between N a548 (0 : Int) (w64 ((↑(Arr.n (api_Lift.Floors a547)) : Int) - (1 : Int))) (fun r550 =>
  bif !r550 then
   k (0 : Int) false
  else
   lift_between N a549 (0 : Int) (w64 ((↑(Arr.n (api_Lift.Floors a547)) : Int) - (1 : Int))) (fun r551 =>
   bif !r551 then
    k (0 : Int) false
   else
    bif decide ((0 : Int) ≤ a548) && decide (a548 < (↑(Arr.n (api_Lift.Floors a547)) : Int)) then
     bif decide ((0 : Int) ≤ a549) && decide (a549 < (↑(Arr.n (api_Lift.Floors a547)) : Int)) then
      k (if w64 ((0 : Int) - w64 (Arr.f (api_Lift.Floors a547) (Int.toNat a548) - Arr.f (api_Lift.Floors a547) (Int.toNat a549))) > w64 (Arr.f (api_Lift.Floors a547) (Int.toNat a548) - Arr.f (api_Lift.Floors a547) (Int.toNat a549)) then w64 ((0 : Int) - w64 (Arr.f (api_Lift.Floors a547) (Int.toNat a548) - Arr.f (api_Lift.Floors a547) (Int.toNat a549))) else w64 (Arr.f (api_Lift.Floors a547) (Int.toNat a548) - Arr.f (api_Lift.Floors a547) (Int.toNat a549))) true
     else
      Option.none
    else
     Option.none))
noncomputable def lift_distance {R : Type} : Nat → api_Lift → Int → Int → (Int → Bool → Option R) → Option R := lock (@lift_distance_m R)
theorem lift_distance_def {R : Type} (N : Nat) (a547 : api_Lift) (a548 : Int) (a549 : Int) (k : Int → Bool → Option R) : lift_distance N a547 a548 a549 k = lift_distance_m N a547 a548 a549 k := by unfold lift_distance; rw [lock_eq]
def lift_distance_sp : Sp := ⟨[rAgg api_LiftC, rInt .i64, rInt .i64], []⟩
theorem lift_distance_sp_ok : lift_distance_sp.Ok := ⟨(allCons (rAgg_ok api_LiftC_ok api_LiftC_len) (allCons (rInt_ok .i64) (allCons (rInt_ok .i64) allNil))), eNil⟩
def lift_distance_rs : Sp := ⟨[rTup [rInt .i64, rBool]], []⟩
theorem lift_distance_rs_ok : lift_distance_rs.Ok := ⟨(allCons (rTup_ok (allCons (rInt_ok .i64) (allCons rBool_ok allNil))) allNil), eNil⟩
def lift_distance_run {R : Type} (N : Nat) (args : List SV) (T : Tab) (kf : SV × Tab → Option R) : Option R :=
  lift_distance_m N (Cod.dec api_LiftC (lget (toCs (lget args 0)))) (toI (lget args 1)) (toI (lget args 2)) (fun q0 q1 => kf (lget [.tup [.int .i64 q0, .bool q1]] 0, []))
def lift_distance_lp {R : Type} (N : Nat) : Lp R := fun body S k => Option.none
noncomputable def lift_distance_go {R : Type} (N : Nat) (args : List SV) (T : Tab) (kf : SV × Tab → Option R) : Option R :=
  lift_distance N (Cod.dec api_LiftC (lget (toCs (lget args 0)))) (toI (lget args 1)) (toI (lget args 2)) (fun q0 q1 => kf (lget [.tup [.int .i64 q0, .bool q1]] 0, []))
noncomputable def lift_distance_cal {R : Type} (N : Nat) : Cal R := callM (newelref05_Reach_cal N) 50 0 lift_distance_sp (lift_distance_go N)
theorem lift_distance_cal_ok {R : Type} (N : Nat) : CalOk E.P (lift_distance_cal (R := R) N) :=
  callM_ok hE (newelref05_Reach_cal_ok N) (lp := lift_distance_lp N) (keys := []) kNil (by kernel_rfl) lift_distance_sp_ok lift_distance_rs_ok (fun args T kf => Eq.trans (lift_distance_def N (Cod.dec api_LiftC (lget (toCs (lget args 0)))) (toI (lget args 1)) (toI (lget args 2)) (fun q0 q1 => kf (lget [.tup [.int .i64 q0, .bool q1]] 0, []))) (by kernel_rfl : lift_distance_run N args T kf = fnM E (newelref05_Reach_cal N) (lift_distance_lp N) 50 (lift_distance_sp.vs args) (lift_distance_sp.tab T) 0 (resK lift_distance_rs kf)))


def newelref05_Floors_m {R : Type} (N : Nat) (a552 : api_Lift) (a553 : Int) (a554 : Int) (k : Bool → Option R) : Option R :=
  newelref05_within N a553 (0 : Int) (w64 ((↑(Arr.n (api_Lift.Floors a552)) : Int) - (1 : Int))) (fun r555 =>
  bif r555 then
   newelref05_within N a554 (0 : Int) (w64 ((↑(Arr.n (api_Lift.Floors a552)) : Int) - (1 : Int))) (fun r556 =>
   k r556)
  else
   k false)
noncomputable def newelref05_Floors {R : Type} : Nat → api_Lift → Int → Int → (Bool → Option R) → Option R := lock (@newelref05_Floors_m R)
theorem newelref05_Floors_def {R : Type} (N : Nat) (a552 : api_Lift) (a553 : Int) (a554 : Int) (k : Bool → Option R) : newelref05_Floors N a552 a553 a554 k = newelref05_Floors_m N a552 a553 a554 k := by unfold newelref05_Floors; rw [lock_eq]
def newelref05_Floors_sp : Sp := ⟨[rAgg api_LiftC, rInt .i64, rInt .i64], []⟩
theorem newelref05_Floors_sp_ok : newelref05_Floors_sp.Ok := ⟨(allCons (rAgg_ok api_LiftC_ok api_LiftC_len) (allCons (rInt_ok .i64) (allCons (rInt_ok .i64) allNil))), eNil⟩
def newelref05_Floors_rs : Sp := ⟨[rBool], []⟩
theorem newelref05_Floors_rs_ok : newelref05_Floors_rs.Ok := ⟨(allCons rBool_ok allNil), eNil⟩
def newelref05_Floors_run {R : Type} (N : Nat) (args : List SV) (T : Tab) (kf : SV × Tab → Option R) : Option R :=
  newelref05_Floors_m N (Cod.dec api_LiftC (lget (toCs (lget args 0)))) (toI (lget args 1)) (toI (lget args 2)) (fun q0 => kf (lget [.bool q0] 0, []))
def newelref05_Floors_lp {R : Type} (N : Nat) : Lp R := fun body S k => Option.none
noncomputable def newelref05_Floors_go {R : Type} (N : Nat) (args : List SV) (T : Tab) (kf : SV × Tab → Option R) : Option R :=
  newelref05_Floors N (Cod.dec api_LiftC (lget (toCs (lget args 0)))) (toI (lget args 1)) (toI (lget args 2)) (fun q0 => kf (lget [.bool q0] 0, []))
noncomputable def newelref05_Floors_cal {R : Type} (N : Nat) : Cal R := callM (lift_distance_cal N) 23 0 newelref05_Floors_sp (newelref05_Floors_go N)
theorem newelref05_Floors_cal_ok {R : Type} (N : Nat) : CalOk E.P (newelref05_Floors_cal (R := R) N) :=
  callM_ok hE (lift_distance_cal_ok N) (lp := newelref05_Floors_lp N) (keys := []) kNil (by kernel_rfl) newelref05_Floors_sp_ok newelref05_Floors_rs_ok (fun args T kf => Eq.trans (newelref05_Floors_def N (Cod.dec api_LiftC (lget (toCs (lget args 0)))) (toI (lget args 1)) (toI (lget args 2)) (fun q0 => kf (lget [.bool q0] 0, []))) (by kernel_rfl : newelref05_Floors_run N args T kf = fnM E (lift_distance_cal N) (newelref05_Floors_lp N) 23 (newelref05_Floors_sp.vs args) (newelref05_Floors_sp.tab T) 0 (resK newelref05_Floors_rs kf)))

def lift_trip_L2 : LoopSp := ⟨⟨[1, 2, 5], ⟨(dr 1 ((rInt .i64) :: (rPtr 0 0) :: (dr 2 ((rInt .i64) :: (dr 48 []))))), [(0, eBlkC api_LiftC)]⟩, 1⟩, [(some 0, ⟨[1, 2, 5], ⟨(dr 1 ((rInt .i64) :: (rPtr 0 0) :: (dr 2 ((rInt .i64) :: (dr 48 []))))), [(0, eBlkC api_LiftC)]⟩, 1⟩)]⟩
theorem lift_trip_L2_ok : lift_trip_L2.Ok := ⟨⟨(drCons 1 (allCons (rInt_ok .i64) (allCons (rPtr_ok 0 0) (drCons 2 (allCons (rInt_ok .i64) (drCons 48 allNil)))))), (eCons (eBlkC_ok api_LiftC_ok api_LiftC_len) eNil)⟩, (xCons ⟨(drCons 1 (allCons (rInt_ok .i64) (allCons (rPtr_ok 0 0) (drCons 2 (allCons (rInt_ok .i64) (drCons 48 allNil)))))), (eCons (eBlkC_ok api_LiftC_ok api_LiftC_len) eNil)⟩ xNil)⟩
def lift_trip_h2 (v559 : Int) (v560 : Int) (v561 : api_Lift) : St := ⟨(un 1 ((.int .i64 v559) :: (.ptr 0 0) :: (un 2 ((.int .i64 v560) :: (un 48 []))))), [(0, .blk (Cod.enc api_LiftC v561))], 1⟩
def lift_trip_x2_0 (v559 : Int) (v561 : api_Lift) (q1 : Int) : St := ⟨(un 1 ((.int .i64 v559) :: (.ptr 0 0) :: (un 2 ((.int .i64 q1) :: (un 48 []))))), [(0, .blk (Cod.enc api_LiftC v561))], 1⟩
def lift_trip_b2 {R : Type} (N : Nat) (rc : Int → Int → api_Lift → Option R) (v559 : Int) (v560 : Int) (v561 : api_Lift) (k0 : Int → Option R) : Option R :=
  lift_most N v561 (0 : Int) v560 (fun r562 =>
  bif decide (r562 < v559) then
   rc v559 (w64 (v560 + (1 : Int))) v561
  else
   k0 v560)
def lift_trip_l2 {R : Type} (N : Nat) : Nat → Int → Int → api_Lift → (Int → Option R) → Option R
  | 0, _, _, _, _ => Option.none
  | n + 1, v559, v560, v561, k0 => lift_trip_b2 N (fun v559 v560 v561 => lift_trip_l2 N n v559 v560 v561 k0) v559 v560 v561 k0

def lift_least_L3 : LoopSp := ⟨⟨[1, 2, 3, 7, 8], ⟨(dr 1 ((rInt .i64) :: (rInt .i64) :: (rPtr 0 0) :: (dr 3 ((rInt .i64) :: (rInt .i64) :: (dr 15 []))))), [(0, eBlkC api_LiftC)]⟩, 1⟩, [(some 0, ⟨[7], ⟨(dr 7 ((rInt .i64) :: (dr 16 []))), []⟩, 0⟩)]⟩
theorem lift_least_L3_ok : lift_least_L3.Ok := ⟨⟨(drCons 1 (allCons (rInt_ok .i64) (allCons (rInt_ok .i64) (allCons (rPtr_ok 0 0) (drCons 3 (allCons (rInt_ok .i64) (allCons (rInt_ok .i64) (drCons 15 allNil)))))))), (eCons (eBlkC_ok api_LiftC_ok api_LiftC_len) eNil)⟩, (xCons ⟨(drCons 7 (allCons (rInt_ok .i64) (drCons 16 allNil))), eNil⟩ xNil)⟩
def lift_least_h3 (v579 : Int) (v580 : Int) (v581 : Int) (v582 : Int) (v583 : api_Lift) : St := ⟨(un 1 ((.int .i64 v579) :: (.int .i64 v580) :: (.ptr 0 0) :: (un 3 ((.int .i64 v581) :: (.int .i64 v582) :: (un 15 []))))), [(0, .blk (Cod.enc api_LiftC v583))], 1⟩
def lift_least_x3_0 (q0 : Int) : St := ⟨(un 7 ((.int .i64 q0) :: (un 16 []))), [], 0⟩
def lift_least_b3 {R : Type} (N : Nat) (rc : Int → Int → Int → Int → api_Lift → Option R) (v579 : Int) (v580 : Int) (v581 : Int) (v582 : Int) (v583 : api_Lift) (k0 : Int → Option R) : Option R :=
  bif decide (v582 ≤ v580) then
   rc v579 v580 (w64 (v581 + if w64 (v579 - w64 (v582 * api_Lift.Accel v583)) > (0 : Int) then w64 (v579 - w64 (v582 * api_Lift.Accel v583)) else (0 : Int))) (w64 (v582 + (1 : Int))) v583
  else
   k0 v581
def lift_least_l3 {R : Type} (N : Nat) : Nat → Int → Int → Int → Int → api_Lift → (Int → Option R) → Option R
  | 0, _, _, _, _, _, _ => Option.none
  | n + 1, v579, v580, v581, v582, v583, k0 => lift_least_b3 N (fun v579 v580 v581 v582 v583 => lift_least_l3 N n v579 v580 v581 v582 v583 k0) v579 v580 v581 v582 v583 k0


def lift_least_m {R : Type} (N : Nat) (a576 : api_Lift) (a577 : Int) (a578 : Int) (k : Int → Option R) : Option R :=
  lift_least_l3 N N a577 a578 (0 : Int) (1 : Int) a576 (fun r584 =>
   k r584)
noncomputable def lift_least {R : Type} : Nat → api_Lift → Int → Int → (Int → Option R) → Option R := lock (@lift_least_m R)
theorem lift_least_def {R : Type} (N : Nat) (a576 : api_Lift) (a577 : Int) (a578 : Int) (k : Int → Option R) : lift_least N a576 a577 a578 k = lift_least_m N a576 a577 a578 k := by unfold lift_least; rw [lock_eq]
def lift_least_sp : Sp := ⟨[rAgg api_LiftC, rInt .i64, rInt .i64], []⟩
theorem lift_least_sp_ok : lift_least_sp.Ok := ⟨(allCons (rAgg_ok api_LiftC_ok api_LiftC_len) (allCons (rInt_ok .i64) (allCons (rInt_ok .i64) allNil))), eNil⟩
def lift_least_rs : Sp := ⟨[rInt .i64], []⟩
theorem lift_least_rs_ok : lift_least_rs.Ok := ⟨(allCons (rInt_ok .i64) allNil), eNil⟩
def lift_least_run {R : Type} (N : Nat) (args : List SV) (T : Tab) (kf : SV × Tab → Option R) : Option R :=
  lift_least_m N (Cod.dec api_LiftC (lget (toCs (lget args 0)))) (toI (lget args 1)) (toI (lget args 2)) (fun q0 => kf (lget [.int .i64 q0] 0, []))
def lift_least_d3 {R : Type} (N : Nat) (S0 : St) (k : Exit → St → Option R) : Option R :=
  lift_least_l3 N N (toI (lget S0.tmps 1)) (toI (lget S0.tmps 2)) (toI (lget S0.tmps 7)) (toI (lget S0.tmps 8)) (Cod.dec api_LiftC (lget (entCs (entAt S0.tab 0)))) (fun q0 => k (.exit 0) (lift_least_x3_0 q0))
def lift_least_lp {R : Type} (N : Nat) : Lp R := fun body S k => bif (Go.Sx.keyOf body).getD 0 == 3 then lift_least_L3.head.raw 0 S (fun S0 => lift_least_d3 N S0 k) else Option.none
theorem lift_least_l3_eq {R : Type} (N : Nat) (k : Exit → St → Option R) (n : Nat) : ∀ (v0 : Int) (v1 : Int) (v2 : Int) (v3 : Int) (v4 : api_Lift), loopM E.Θ (newelref05_Floors_cal N) (lift_least_lp N) 0 lift_least_L3 (bodyAt E 81 3) n (lift_least_h3 v0 v1 v2 v3 v4) k = lift_least_l3 N n v0 v1 v2 v3 v4 (fun q0 => k (.exit 0) (lift_least_x3_0 q0)) := by
  induction n with
  | zero => intro v0 v1 v2 v3 v4; rfl
  | succ n ih =>
    intro v0 v1 v2 v3 v4
    refine Eq.trans (b := lift_least_b3 N (fun v0 v1 v2 v3 v4 => loopM E.Θ (newelref05_Floors_cal N) (lift_least_lp N) 0 lift_least_L3 (bodyAt E 81 3) n (lift_least_h3 v0 v1 v2 v3 v4) k) v0 v1 v2 v3 v4 (fun q0 => k (.exit 0) (lift_least_x3_0 q0))) (by kernel_rfl) ?_
    have h : (fun (v0 : Int) (v1 : Int) (v2 : Int) (v3 : Int) (v4 : api_Lift) => loopM E.Θ (newelref05_Floors_cal N) (lift_least_lp N) 0 lift_least_L3 (bodyAt E 81 3) n (lift_least_h3 v0 v1 v2 v3 v4) k) = (fun (v0 : Int) (v1 : Int) (v2 : Int) (v3 : Int) (v4 : api_Lift) => lift_least_l3 N n v0 v1 v2 v3 v4 (fun q0 => k (.exit 0) (lift_least_x3_0 q0))) := funext fun v0 => funext fun v1 => funext fun v2 => funext fun v3 => funext fun v4 => ih v0 v1 v2 v3 v4
    rw [h]
    rfl
theorem lift_least_k3 {R : Type} (N : Nat) : LpKey (R := R) E 81 0 (lift_least_lp N) 3 :=
  lpKey_of hE (newelref05_Floors_cal_ok N) lift_least_L3_ok [] kNil (by kernel_rfl) N fun S k =>
    Eq.trans (b := lift_least_L3.head.raw 0 S (fun S0 => lift_least_d3 N S0 k)) (by kernel_rfl) (congrArg (lift_least_L3.head.raw 0 S) (funext fun S0 => Eq.trans (lift_least_l3_eq N k N (toI (lget S0.tmps 1)) (toI (lget S0.tmps 2)) (toI (lget S0.tmps 7)) (toI (lget S0.tmps 8)) (Cod.dec api_LiftC (lget (entCs (entAt S0.tab 0))))).symm (by kernel_rfl)))
noncomputable def lift_least_go {R : Type} (N : Nat) (args : List SV) (T : Tab) (kf : SV × Tab → Option R) : Option R :=
  lift_least N (Cod.dec api_LiftC (lget (toCs (lget args 0)))) (toI (lget args 1)) (toI (lget args 2)) (fun q0 => kf (lget [.int .i64 q0] 0, []))
noncomputable def lift_least_cal {R : Type} (N : Nat) : Cal R := callM (newelref05_Floors_cal N) 81 0 lift_least_sp (lift_least_go N)
theorem lift_least_cal_ok {R : Type} (N : Nat) : CalOk E.P (lift_least_cal (R := R) N) :=
  callM_ok hE (newelref05_Floors_cal_ok N) (lp := lift_least_lp N) (keys := [3]) (kCons (lift_least_k3 N) kNil) (by kernel_rfl) lift_least_sp_ok lift_least_rs_ok (fun args T kf => Eq.trans (lift_least_def N (Cod.dec api_LiftC (lget (toCs (lget args 0)))) (toI (lget args 1)) (toI (lget args 2)) (fun q0 => kf (lget [.int .i64 q0] 0, []))) (by kernel_rfl : lift_least_run N args T kf = fnM E (newelref05_Floors_cal N) (lift_least_lp N) 81 (lift_least_sp.vs args) (lift_least_sp.tab T) 0 (resK lift_least_rs kf)))

def lift_trip_L10 : LoopSp := ⟨⟨[1, 2, 6, 8, 9], ⟨(dr 1 ((rInt .i64) :: (rPtr 0 0) :: (dr 3 ((rRow 1) :: (dr 1 ((rInt .i64) :: (rInt .i64) :: (dr 44 []))))))), [(0, eBlkC api_LiftC), (1, eRow intC)]⟩, 2⟩, [(some 4, ⟨[1, 2, 6, 8, 9], ⟨(dr 1 ((rInt .i64) :: (rPtr 0 0) :: (dr 3 ((rRow 1) :: (dr 1 ((rInt .i64) :: (rInt .i64) :: (dr 44 []))))))), [(0, eBlkC api_LiftC), (1, eRow intC)]⟩, 2⟩)]⟩
theorem lift_trip_L10_ok : lift_trip_L10.Ok := ⟨⟨(drCons 1 (allCons (rInt_ok .i64) (allCons (rPtr_ok 0 0) (drCons 3 (allCons (rRow_ok 1) (drCons 1 (allCons (rInt_ok .i64) (allCons (rInt_ok .i64) (drCons 44 allNil))))))))), (eCons (eBlkC_ok api_LiftC_ok api_LiftC_len) (eCons (eRow_ok intC_ok) eNil))⟩, (xCons ⟨(drCons 1 (allCons (rInt_ok .i64) (allCons (rPtr_ok 0 0) (drCons 3 (allCons (rRow_ok 1) (drCons 1 (allCons (rInt_ok .i64) (allCons (rInt_ok .i64) (drCons 44 allNil))))))))), (eCons (eBlkC_ok api_LiftC_ok api_LiftC_len) (eCons (eRow_ok intC_ok) eNil))⟩ xNil)⟩
def lift_trip_h10 (v570 : Int) (v571 : Int) (v572 : Int) (v573 : api_Lift) (v574 : Bool) (v575 : Arr Int) : St := ⟨(un 1 ((.int .i64 v570) :: (.ptr 0 0) :: (un 3 ((.row 1) :: (un 1 ((.int .i64 v571) :: (.int .i64 v572) :: (un 44 []))))))), [(0, .blk (Cod.enc api_LiftC v573)), (1, rowE intC v574 v575)], 2⟩
def lift_trip_x10_4 (v570 : Int) (v571 : Int) (v573 : api_Lift) (v574 : Bool) (v575 : Arr Int) (q2 : Int) : St := ⟨(un 1 ((.int .i64 v570) :: (.ptr 0 0) :: (un 3 ((.row 1) :: (un 1 ((.int .i64 v571) :: (.int .i64 q2) :: (un 44 []))))))), [(0, .blk (Cod.enc api_LiftC v573)), (1, rowE intC v574 v575)], 2⟩
def lift_trip_b10 {R : Type} (N : Nat) (rc : Int → Int → Int → api_Lift → Bool → Arr Int → Option R) (v570 : Int) (v571 : Int) (v572 : Int) (v573 : api_Lift) (v574 : Bool) (v575 : Arr Int) (k4 : Int → Option R) : Option R :=
  lift_least N v573 v572 v571 (fun r585 =>
  bif decide (w64 (v572 + r585) > v570) then
   rc v570 v571 (w64 (v572 - (1 : Int))) v573 v574 v575
  else
   k4 v572)
def lift_trip_l10 {R : Type} (N : Nat) : Nat → Int → Int → Int → api_Lift → Bool → Arr Int → (Int → Option R) → Option R
  | 0, _, _, _, _, _, _, _ => Option.none
  | n + 1, v570, v571, v572, v573, v574, v575, k4 => lift_trip_b10 N (fun v570 v571 v572 v573 v574 v575 => lift_trip_l10 N n v570 v571 v572 v573 v574 v575 k4) v570 v571 v572 v573 v574 v575 k4

def lift_trip_L7 : LoopSp := ⟨⟨[1, 2, 6, 7, 8], ⟨(dr 1 ((rInt .i64) :: (rPtr 0 0) :: (dr 3 ((rRow 1) :: (rInt .i64) :: (rInt .i64) :: (dr 45 []))))), [(0, eBlkC api_LiftC), (1, eRow intC)]⟩, 2⟩, [(some 2, ⟨[6], ⟨(dr 6 ((rRow 0) :: (dr 47 []))), [(0, eRow intC)]⟩, 1⟩)]⟩
theorem lift_trip_L7_ok : lift_trip_L7.Ok := ⟨⟨(drCons 1 (allCons (rInt_ok .i64) (allCons (rPtr_ok 0 0) (drCons 3 (allCons (rRow_ok 1) (allCons (rInt_ok .i64) (allCons (rInt_ok .i64) (drCons 45 allNil)))))))), (eCons (eBlkC_ok api_LiftC_ok api_LiftC_len) (eCons (eRow_ok intC_ok) eNil))⟩, (xCons ⟨(drCons 6 (allCons (rRow_ok 0) (drCons 47 allNil))), (eCons (eRow_ok intC_ok) eNil)⟩ xNil)⟩
def lift_trip_h7 (v564 : Int) (v565 : Int) (v566 : Int) (v567 : api_Lift) (v568 : Bool) (v569 : Arr Int) : St := ⟨(un 1 ((.int .i64 v564) :: (.ptr 0 0) :: (un 3 ((.row 1) :: (.int .i64 v565) :: (.int .i64 v566) :: (un 45 []))))), [(0, .blk (Cod.enc api_LiftC v567)), (1, rowE intC v568 v569)], 2⟩
def lift_trip_x7_2 (q0 : Bool) (q1 : Arr Int) : St := ⟨(un 6 ((.row 0) :: (un 47 []))), [(0, rowE intC q0 q1)], 1⟩
def lift_trip_b7 {R : Type} (N : Nat) (rc : Int → Int → Int → api_Lift → Bool → Arr Int → Option R) (v564 : Int) (v565 : Int) (v566 : Int) (v567 : api_Lift) (v568 : Bool) (v569 : Arr Int) (k2 : Bool → Arr Int → Option R) : Option R :=
  bif decide (v566 ≥ (0 : Int)) then
   lift_trip_l10 N N v564 v566 (if w64 (w64 (v566 + (1 : Int)) * api_Lift.Accel v567) < if w64 (v565 + api_Lift.Accel v567) < api_Lift.Speed v567 then w64 (v565 + api_Lift.Accel v567) else api_Lift.Speed v567 then w64 (w64 (v566 + (1 : Int)) * api_Lift.Accel v567) else if w64 (v565 + api_Lift.Accel v567) < api_Lift.Speed v567 then w64 (v565 + api_Lift.Accel v567) else api_Lift.Speed v567) v567 v568 v569 (fun r586 =>
    bif room (Arr.n v569 + (1 : Nat)) then
     rc (w64 (v564 - r586)) r586 (w64 (v566 - (1 : Int))) v567 false (lst intC (Arr.n v569 + (1 : Nat)) (catC (Arr.n v569) (Cod.cell intC (Arr.f v569)) (litC [SV.int IntKind.i64 (0 : Int)] [[SV.int IntKind.i64 r586]])))
    else
     Option.none)
  else
   k2 v568 v569
def lift_trip_l7 {R : Type} (N : Nat) : Nat → Int → Int → Int → api_Lift → Bool → Arr Int → (Bool → Arr Int → Option R) → Option R
  | 0, _, _, _, _, _, _, _ => Option.none
  | n + 1, v564, v565, v566, v567, v568, v569, k2 => lift_trip_b7 N (fun v564 v565 v566 v567 v568 v569 => lift_trip_l7 N n v564 v565 v566 v567 v568 v569 k2) v564 v565 v566 v567 v568 v569 k2


def lift_trip_m {R : Type} (N : Nat) (a557 : api_Lift) (a558 : Int) (k : Bool → Arr Int → Option R) : Option R :=
  lift_trip_l2 N N a558 (0 : Int) a557 (fun r563 =>
   lift_trip_l7 N N a558 (0 : Int) (w64 (r563 - (1 : Int))) a557 true (lst intC (0 : Nat) (zeroC [SV.int IntKind.i64 (0 : Int)])) (fun r587 r588 =>
    k r587 r588))
noncomputable def lift_trip {R : Type} : Nat → api_Lift → Int → (Bool → Arr Int → Option R) → Option R := lock (@lift_trip_m R)
theorem lift_trip_def {R : Type} (N : Nat) (a557 : api_Lift) (a558 : Int) (k : Bool → Arr Int → Option R) : lift_trip N a557 a558 k = lift_trip_m N a557 a558 k := by unfold lift_trip; rw [lock_eq]
def lift_trip_sp : Sp := ⟨[rAgg api_LiftC, rInt .i64], []⟩
theorem lift_trip_sp_ok : lift_trip_sp.Ok := ⟨(allCons (rAgg_ok api_LiftC_ok api_LiftC_len) (allCons (rInt_ok .i64) allNil)), eNil⟩
def lift_trip_rs : Sp := ⟨[rRow 0], [(0, eRow intC)]⟩
theorem lift_trip_rs_ok : lift_trip_rs.Ok := ⟨(allCons (rRow_ok 0) allNil), (eCons (eRow_ok intC_ok) eNil)⟩
def lift_trip_run {R : Type} (N : Nat) (args : List SV) (T : Tab) (kf : SV × Tab → Option R) : Option R :=
  lift_trip_m N (Cod.dec api_LiftC (lget (toCs (lget args 0)))) (toI (lget args 1)) (fun q0 q1 => kf (lget [.row 0] 0, [(0, rowE intC q0 q1)]))
def lift_trip_d10 {R : Type} (N : Nat) (S0 : St) (k : Exit → St → Option R) : Option R :=
  lift_trip_l10 N N (toI (lget S0.tmps 1)) (toI (lget S0.tmps 8)) (toI (lget S0.tmps 9)) (Cod.dec api_LiftC (lget (entCs (entAt S0.tab 0)))) (entNl (entAt S0.tab 1)) (lst intC (entN (entAt S0.tab 1)) (entC (entAt S0.tab 1))) (fun q2 => k (.exit 4) (lift_trip_x10_4 (toI (lget S0.tmps 1)) (toI (lget S0.tmps 8)) (Cod.dec api_LiftC (lget (entCs (entAt S0.tab 0)))) (entNl (entAt S0.tab 1)) (lst intC (entN (entAt S0.tab 1)) (entC (entAt S0.tab 1))) q2))
def lift_trip_d7 {R : Type} (N : Nat) (S0 : St) (k : Exit → St → Option R) : Option R :=
  lift_trip_l7 N N (toI (lget S0.tmps 1)) (toI (lget S0.tmps 7)) (toI (lget S0.tmps 8)) (Cod.dec api_LiftC (lget (entCs (entAt S0.tab 0)))) (entNl (entAt S0.tab 1)) (lst intC (entN (entAt S0.tab 1)) (entC (entAt S0.tab 1))) (fun q0 q1 => k (.exit 2) (lift_trip_x7_2 q0 q1))
def lift_trip_d2 {R : Type} (N : Nat) (S0 : St) (k : Exit → St → Option R) : Option R :=
  lift_trip_l2 N N (toI (lget S0.tmps 1)) (toI (lget S0.tmps 5)) (Cod.dec api_LiftC (lget (entCs (entAt S0.tab 0)))) (fun q1 => k (.exit 0) (lift_trip_x2_0 (toI (lget S0.tmps 1)) (Cod.dec api_LiftC (lget (entCs (entAt S0.tab 0)))) q1))
def lift_trip_lp {R : Type} (N : Nat) : Lp R := fun body S k => bif (Go.Sx.keyOf body).getD 0 == 2 then lift_trip_L2.head.raw 0 S (fun S0 => lift_trip_d2 N S0 k) else bif (Go.Sx.keyOf body).getD 0 == 7 then lift_trip_L7.head.raw 0 S (fun S0 => lift_trip_d7 N S0 k) else bif (Go.Sx.keyOf body).getD 0 == 10 then lift_trip_L10.head.raw 0 S (fun S0 => lift_trip_d10 N S0 k) else Option.none
theorem lift_trip_l2_eq {R : Type} (N : Nat) (k : Exit → St → Option R) (n : Nat) : ∀ (v0 : Int) (v1 : Int) (v2 : api_Lift), loopM E.Θ (lift_least_cal N) (lift_trip_lp N) 0 lift_trip_L2 (bodyAt E 52 2) n (lift_trip_h2 v0 v1 v2) k = lift_trip_l2 N n v0 v1 v2 (fun q1 => k (.exit 0) (lift_trip_x2_0 v0 v2 q1)) := by
  induction n with
  | zero => intro v0 v1 v2; rfl
  | succ n ih =>
    intro v0 v1 v2
    refine Eq.trans (b := lift_trip_b2 N (fun v0 v1 v2 => loopM E.Θ (lift_least_cal N) (lift_trip_lp N) 0 lift_trip_L2 (bodyAt E 52 2) n (lift_trip_h2 v0 v1 v2) k) v0 v1 v2 (fun q1 => k (.exit 0) (lift_trip_x2_0 v0 v2 q1))) (by kernel_rfl) ?_
    have h : (fun (v0 : Int) (v1 : Int) (v2 : api_Lift) => loopM E.Θ (lift_least_cal N) (lift_trip_lp N) 0 lift_trip_L2 (bodyAt E 52 2) n (lift_trip_h2 v0 v1 v2) k) = (fun (v0 : Int) (v1 : Int) (v2 : api_Lift) => lift_trip_l2 N n v0 v1 v2 (fun q1 => k (.exit 0) (lift_trip_x2_0 v0 v2 q1))) := funext fun v0 => funext fun v1 => funext fun v2 => ih v0 v1 v2
    rw [h]
    rfl
theorem lift_trip_l7_eq {R : Type} (N : Nat) (k : Exit → St → Option R) (n : Nat) : ∀ (v0 : Int) (v1 : Int) (v2 : Int) (v3 : api_Lift) (v4 : Bool) (v5 : Arr Int), loopM E.Θ (lift_least_cal N) (lift_trip_lp N) 0 lift_trip_L7 (bodyAt E 52 7) n (lift_trip_h7 v0 v1 v2 v3 v4 v5) k = lift_trip_l7 N n v0 v1 v2 v3 v4 v5 (fun q0 q1 => k (.exit 2) (lift_trip_x7_2 q0 q1)) := by
  induction n with
  | zero => intro v0 v1 v2 v3 v4 v5; rfl
  | succ n ih =>
    intro v0 v1 v2 v3 v4 v5
    refine Eq.trans (b := lift_trip_b7 N (fun v0 v1 v2 v3 v4 v5 => loopM E.Θ (lift_least_cal N) (lift_trip_lp N) 0 lift_trip_L7 (bodyAt E 52 7) n (lift_trip_h7 v0 v1 v2 v3 v4 v5) k) v0 v1 v2 v3 v4 v5 (fun q0 q1 => k (.exit 2) (lift_trip_x7_2 q0 q1))) (by kernel_rfl) ?_
    have h : (fun (v0 : Int) (v1 : Int) (v2 : Int) (v3 : api_Lift) (v4 : Bool) (v5 : Arr Int) => loopM E.Θ (lift_least_cal N) (lift_trip_lp N) 0 lift_trip_L7 (bodyAt E 52 7) n (lift_trip_h7 v0 v1 v2 v3 v4 v5) k) = (fun (v0 : Int) (v1 : Int) (v2 : Int) (v3 : api_Lift) (v4 : Bool) (v5 : Arr Int) => lift_trip_l7 N n v0 v1 v2 v3 v4 v5 (fun q0 q1 => k (.exit 2) (lift_trip_x7_2 q0 q1))) := funext fun v0 => funext fun v1 => funext fun v2 => funext fun v3 => funext fun v4 => funext fun v5 => ih v0 v1 v2 v3 v4 v5
    rw [h]
    rfl
theorem lift_trip_l10_eq {R : Type} (N : Nat) (k : Exit → St → Option R) (n : Nat) : ∀ (v0 : Int) (v1 : Int) (v2 : Int) (v3 : api_Lift) (v4 : Bool) (v5 : Arr Int), loopM E.Θ (lift_least_cal N) (lift_trip_lp N) 0 lift_trip_L10 (bodyAt E 52 10) n (lift_trip_h10 v0 v1 v2 v3 v4 v5) k = lift_trip_l10 N n v0 v1 v2 v3 v4 v5 (fun q2 => k (.exit 4) (lift_trip_x10_4 v0 v1 v3 v4 v5 q2)) := by
  induction n with
  | zero => intro v0 v1 v2 v3 v4 v5; rfl
  | succ n ih =>
    intro v0 v1 v2 v3 v4 v5
    refine Eq.trans (b := lift_trip_b10 N (fun v0 v1 v2 v3 v4 v5 => loopM E.Θ (lift_least_cal N) (lift_trip_lp N) 0 lift_trip_L10 (bodyAt E 52 10) n (lift_trip_h10 v0 v1 v2 v3 v4 v5) k) v0 v1 v2 v3 v4 v5 (fun q2 => k (.exit 4) (lift_trip_x10_4 v0 v1 v3 v4 v5 q2))) (by kernel_rfl) ?_
    have h : (fun (v0 : Int) (v1 : Int) (v2 : Int) (v3 : api_Lift) (v4 : Bool) (v5 : Arr Int) => loopM E.Θ (lift_least_cal N) (lift_trip_lp N) 0 lift_trip_L10 (bodyAt E 52 10) n (lift_trip_h10 v0 v1 v2 v3 v4 v5) k) = (fun (v0 : Int) (v1 : Int) (v2 : Int) (v3 : api_Lift) (v4 : Bool) (v5 : Arr Int) => lift_trip_l10 N n v0 v1 v2 v3 v4 v5 (fun q2 => k (.exit 4) (lift_trip_x10_4 v0 v1 v3 v4 v5 q2))) := funext fun v0 => funext fun v1 => funext fun v2 => funext fun v3 => funext fun v4 => funext fun v5 => ih v0 v1 v2 v3 v4 v5
    rw [h]
    rfl
theorem lift_trip_k10 {R : Type} (N : Nat) : LpKey (R := R) E 52 0 (lift_trip_lp N) 10 :=
  lpKey_of hE (lift_least_cal_ok N) lift_trip_L10_ok [] kNil (by kernel_rfl) N fun S k =>
    Eq.trans (b := lift_trip_L10.head.raw 0 S (fun S0 => lift_trip_d10 N S0 k)) (by kernel_rfl) (congrArg (lift_trip_L10.head.raw 0 S) (funext fun S0 => Eq.trans (lift_trip_l10_eq N k N (toI (lget S0.tmps 1)) (toI (lget S0.tmps 8)) (toI (lget S0.tmps 9)) (Cod.dec api_LiftC (lget (entCs (entAt S0.tab 0)))) (entNl (entAt S0.tab 1)) (lst intC (entN (entAt S0.tab 1)) (entC (entAt S0.tab 1)))).symm (by kernel_rfl)))
theorem lift_trip_k7 {R : Type} (N : Nat) : LpKey (R := R) E 52 0 (lift_trip_lp N) 7 :=
  lpKey_of hE (lift_least_cal_ok N) lift_trip_L7_ok [10] (kCons (lift_trip_k10 N) kNil) (by kernel_rfl) N fun S k =>
    Eq.trans (b := lift_trip_L7.head.raw 0 S (fun S0 => lift_trip_d7 N S0 k)) (by kernel_rfl) (congrArg (lift_trip_L7.head.raw 0 S) (funext fun S0 => Eq.trans (lift_trip_l7_eq N k N (toI (lget S0.tmps 1)) (toI (lget S0.tmps 7)) (toI (lget S0.tmps 8)) (Cod.dec api_LiftC (lget (entCs (entAt S0.tab 0)))) (entNl (entAt S0.tab 1)) (lst intC (entN (entAt S0.tab 1)) (entC (entAt S0.tab 1)))).symm (by kernel_rfl)))
theorem lift_trip_k2 {R : Type} (N : Nat) : LpKey (R := R) E 52 0 (lift_trip_lp N) 2 :=
  lpKey_of hE (lift_least_cal_ok N) lift_trip_L2_ok [] kNil (by kernel_rfl) N fun S k =>
    Eq.trans (b := lift_trip_L2.head.raw 0 S (fun S0 => lift_trip_d2 N S0 k)) (by kernel_rfl) (congrArg (lift_trip_L2.head.raw 0 S) (funext fun S0 => Eq.trans (lift_trip_l2_eq N k N (toI (lget S0.tmps 1)) (toI (lget S0.tmps 5)) (Cod.dec api_LiftC (lget (entCs (entAt S0.tab 0))))).symm (by kernel_rfl)))
noncomputable def lift_trip_go {R : Type} (N : Nat) (args : List SV) (T : Tab) (kf : SV × Tab → Option R) : Option R :=
  lift_trip N (Cod.dec api_LiftC (lget (toCs (lget args 0)))) (toI (lget args 1)) (fun q0 q1 => kf (lget [.row 0] 0, [(0, rowE intC q0 q1)]))
noncomputable def lift_trip_cal {R : Type} (N : Nat) : Cal R := callM (lift_least_cal N) 52 0 lift_trip_sp (lift_trip_go N)
theorem lift_trip_cal_ok {R : Type} (N : Nat) : CalOk E.P (lift_trip_cal (R := R) N) :=
  callM_ok hE (lift_least_cal_ok N) (lp := lift_trip_lp N) (keys := [2, 7, 10]) (kCons (lift_trip_k2 N) (kCons (lift_trip_k7 N) (kCons (lift_trip_k10 N) kNil))) (by kernel_rfl) lift_trip_sp_ok lift_trip_rs_ok (fun args T kf => Eq.trans (lift_trip_def N (Cod.dec api_LiftC (lget (toCs (lget args 0)))) (toI (lget args 1)) (fun q0 q1 => kf (lget [.row 0] 0, [(0, rowE intC q0 q1)]))) (by kernel_rfl : lift_trip_run N args T kf = fnM E (lift_least_cal N) (lift_trip_lp N) 52 (lift_trip_sp.vs args) (lift_trip_sp.tab T) 0 (resK lift_trip_rs kf)))


def lift_Trip_m {R : Type} (N : Nat) (a589 : api_Lift) (a590 : Int) (a591 : Int) (k : Int → Bool → Arr Int → Option R) : Option R :=
  lift_Check N a589 (fun r592 =>
  bif r592 != (0 : Int) then
   k r592 true (lst intC (0 : Nat) (zeroC [SV.int IntKind.i64 (0 : Int)]))
  else
   lift_distance N a589 a590 a591 (fun r593 r594 =>
   bif !r594 then
    k (1 : Int) true (lst intC (0 : Nat) (zeroC [SV.int IntKind.i64 (0 : Int)]))
   else
    lift_trip N a589 r593 (fun r595 r596 =>
    k (0 : Int) r595 r596)))
noncomputable def lift_Trip {R : Type} : Nat → api_Lift → Int → Int → (Int → Bool → Arr Int → Option R) → Option R := lock (@lift_Trip_m R)
theorem lift_Trip_def {R : Type} (N : Nat) (a589 : api_Lift) (a590 : Int) (a591 : Int) (k : Int → Bool → Arr Int → Option R) : lift_Trip N a589 a590 a591 k = lift_Trip_m N a589 a590 a591 k := by unfold lift_Trip; rw [lock_eq]
def lift_Trip_sp : Sp := ⟨[rAgg api_LiftC, rInt .i64, rInt .i64], []⟩
theorem lift_Trip_sp_ok : lift_Trip_sp.Ok := ⟨(allCons (rAgg_ok api_LiftC_ok api_LiftC_len) (allCons (rInt_ok .i64) (allCons (rInt_ok .i64) allNil))), eNil⟩
def lift_Trip_rs : Sp := ⟨[rTup [rRow 0, rInt .i64]], [(0, eRow intC)]⟩
theorem lift_Trip_rs_ok : lift_Trip_rs.Ok := ⟨(allCons (rTup_ok (allCons (rRow_ok 0) (allCons (rInt_ok .i64) allNil))) allNil), (eCons (eRow_ok intC_ok) eNil)⟩
def lift_Trip_run {R : Type} (N : Nat) (args : List SV) (T : Tab) (kf : SV × Tab → Option R) : Option R :=
  lift_Trip_m N (Cod.dec api_LiftC (lget (toCs (lget args 0)))) (toI (lget args 1)) (toI (lget args 2)) (fun q0 q1 q2 => kf (lget [.tup [.row 0, .int .i64 q0]] 0, [(0, rowE intC q1 q2)]))
def lift_Trip_lp {R : Type} (N : Nat) : Lp R := fun body S k => Option.none
noncomputable def lift_Trip_go {R : Type} (N : Nat) (args : List SV) (T : Tab) (kf : SV × Tab → Option R) : Option R :=
  lift_Trip N (Cod.dec api_LiftC (lget (toCs (lget args 0)))) (toI (lget args 1)) (toI (lget args 2)) (fun q0 q1 q2 => kf (lget [.tup [.row 0, .int .i64 q0]] 0, [(0, rowE intC q1 q2)]))
noncomputable def lift_Trip_cal {R : Type} (N : Nat) : Cal R := callM (lift_trip_cal N) 24 0 lift_Trip_sp (lift_Trip_go N)
theorem lift_Trip_cal_ok {R : Type} (N : Nat) : CalOk E.P (lift_Trip_cal (R := R) N) :=
  callM_ok hE (lift_trip_cal_ok N) (lp := lift_Trip_lp N) (keys := []) kNil (by kernel_rfl) lift_Trip_sp_ok lift_Trip_rs_ok (fun args T kf => Eq.trans (lift_Trip_def N (Cod.dec api_LiftC (lget (toCs (lget args 0)))) (toI (lget args 1)) (toI (lget args 2)) (fun q0 q1 q2 => kf (lget [.tup [.row 0, .int .i64 q0]] 0, [(0, rowE intC q1 q2)]))) (by kernel_rfl : lift_Trip_run N args T kf = fnM E (lift_trip_cal N) (lift_Trip_lp N) 24 (lift_Trip_sp.vs args) (lift_Trip_sp.tab T) 0 (resK lift_Trip_rs kf)))

def newelref05_rest_L4 : LoopSp := ⟨⟨[1, 2, 3, 6, 7, 9], ⟨(dr 1 ((rInt .i64) :: (rInt .i64) :: (rPtr 0 0) :: (dr 2 ((rInt .i64) :: (rInt .i64) :: (dr 1 ((rInt .i64) :: (dr 41 []))))))), [(0, eBlkC api_LiftC)]⟩, 1⟩, [(some 0, ⟨[6, 7], ⟨(dr 6 ((rInt .i64) :: (rInt .i64) :: (dr 43 []))), []⟩, 0⟩)]⟩
theorem newelref05_rest_L4_ok : newelref05_rest_L4.Ok := ⟨⟨(drCons 1 (allCons (rInt_ok .i64) (allCons (rInt_ok .i64) (allCons (rPtr_ok 0 0) (drCons 2 (allCons (rInt_ok .i64) (allCons (rInt_ok .i64) (drCons 1 (allCons (rInt_ok .i64) (drCons 41 allNil)))))))))), (eCons (eBlkC_ok api_LiftC_ok api_LiftC_len) eNil)⟩, (xCons ⟨(drCons 6 (allCons (rInt_ok .i64) (allCons (rInt_ok .i64) (drCons 43 allNil)))), eNil⟩ xNil)⟩
def newelref05_rest_h4 (v600 : Int) (v601 : Int) (v602 : Int) (v603 : Int) (v604 : Int) (v605 : api_Lift) : St := ⟨(un 1 ((.int .i64 v600) :: (.int .i64 v601) :: (.ptr 0 0) :: (un 2 ((.int .i64 v602) :: (.int .i64 v603) :: (un 1 ((.int .i64 v604) :: (un 41 []))))))), [(0, .blk (Cod.enc api_LiftC v605))], 1⟩
def newelref05_rest_x4_0 (q0 : Int) (q1 : Int) : St := ⟨(un 6 ((.int .i64 q0) :: (.int .i64 q1) :: (un 43 []))), [], 0⟩
def newelref05_rest_b4 {R : Type} (N : Nat) (rc : Int → Int → Int → Int → Int → api_Lift → Option R) (v600 : Int) (v601 : Int) (v602 : Int) (v603 : Int) (v604 : Int) (v605 : api_Lift) (k0 : Int → Int → Option R) : Option R :=
  bif decide (v604 ≤ v601) then
   rc v600 v601 (w64 (v602 + if w64 (v600 - w64 (api_Lift.Accel v605 * v604)) > (0 : Int) then w64 (v600 - w64 (api_Lift.Accel v605 * v604)) else (0 : Int))) (w64 (v603 + if w64 (api_Lift.Accel v605 * w64 (w64 (v601 + (1 : Int)) - v604)) < if w64 (v600 + w64 (api_Lift.Accel v605 * v604)) < api_Lift.Speed v605 then w64 (v600 + w64 (api_Lift.Accel v605 * v604)) else api_Lift.Speed v605 then w64 (api_Lift.Accel v605 * w64 (w64 (v601 + (1 : Int)) - v604)) else if w64 (v600 + w64 (api_Lift.Accel v605 * v604)) < api_Lift.Speed v605 then w64 (v600 + w64 (api_Lift.Accel v605 * v604)) else api_Lift.Speed v605)) (w64 (v604 + (1 : Int))) v605
  else
   k0 v602 v603
def newelref05_rest_l4 {R : Type} (N : Nat) : Nat → Int → Int → Int → Int → Int → api_Lift → (Int → Int → Option R) → Option R
  | 0, _, _, _, _, _, _, _ => Option.none
  | n + 1, v600, v601, v602, v603, v604, v605, k0 => newelref05_rest_b4 N (fun v600 v601 v602 v603 v604 v605 => newelref05_rest_l4 N n v600 v601 v602 v603 v604 v605 k0) v600 v601 v602 v603 v604 v605 k0


def newelref05_rest_m {R : Type} (N : Nat) (a597 : api_Lift) (a598 : Int) (a599 : Int) (k : Int → Int → Bool → Option R) : Option R :=
  bif decide (a598 > w64 (api_Lift.Accel a597 * w64 (a599 + (1 : Int)))) then
   k (0 : Int) (0 : Int) false
  else
   newelref05_rest_l4 N N a598 a599 (0 : Int) (0 : Int) (1 : Int) a597 (fun r606 r607 =>
    k r606 r607 true)
noncomputable def newelref05_rest {R : Type} : Nat → api_Lift → Int → Int → (Int → Int → Bool → Option R) → Option R := lock (@newelref05_rest_m R)
theorem newelref05_rest_def {R : Type} (N : Nat) (a597 : api_Lift) (a598 : Int) (a599 : Int) (k : Int → Int → Bool → Option R) : newelref05_rest N a597 a598 a599 k = newelref05_rest_m N a597 a598 a599 k := by unfold newelref05_rest; rw [lock_eq]
def newelref05_rest_sp : Sp := ⟨[rAgg api_LiftC, rInt .i64, rInt .i64], []⟩
theorem newelref05_rest_sp_ok : newelref05_rest_sp.Ok := ⟨(allCons (rAgg_ok api_LiftC_ok api_LiftC_len) (allCons (rInt_ok .i64) (allCons (rInt_ok .i64) allNil))), eNil⟩
def newelref05_rest_rs : Sp := ⟨[rTup [rInt .i64, rInt .i64, rBool]], []⟩
theorem newelref05_rest_rs_ok : newelref05_rest_rs.Ok := ⟨(allCons (rTup_ok (allCons (rInt_ok .i64) (allCons (rInt_ok .i64) (allCons rBool_ok allNil)))) allNil), eNil⟩
def newelref05_rest_run {R : Type} (N : Nat) (args : List SV) (T : Tab) (kf : SV × Tab → Option R) : Option R :=
  newelref05_rest_m N (Cod.dec api_LiftC (lget (toCs (lget args 0)))) (toI (lget args 1)) (toI (lget args 2)) (fun q0 q1 q2 => kf (lget [.tup [.int .i64 q0, .int .i64 q1, .bool q2]] 0, []))
def newelref05_rest_d4 {R : Type} (N : Nat) (S0 : St) (k : Exit → St → Option R) : Option R :=
  newelref05_rest_l4 N N (toI (lget S0.tmps 1)) (toI (lget S0.tmps 2)) (toI (lget S0.tmps 6)) (toI (lget S0.tmps 7)) (toI (lget S0.tmps 9)) (Cod.dec api_LiftC (lget (entCs (entAt S0.tab 0)))) (fun q0 q1 => k (.exit 0) (newelref05_rest_x4_0 q0 q1))
def newelref05_rest_lp {R : Type} (N : Nat) : Lp R := fun body S k => bif (Go.Sx.keyOf body).getD 0 == 4 then newelref05_rest_L4.head.raw 0 S (fun S0 => newelref05_rest_d4 N S0 k) else Option.none
theorem newelref05_rest_l4_eq {R : Type} (N : Nat) (k : Exit → St → Option R) (n : Nat) : ∀ (v0 : Int) (v1 : Int) (v2 : Int) (v3 : Int) (v4 : Int) (v5 : api_Lift), loopM E.Θ (lift_Trip_cal N) (newelref05_rest_lp N) 0 newelref05_rest_L4 (bodyAt E 71 4) n (newelref05_rest_h4 v0 v1 v2 v3 v4 v5) k = newelref05_rest_l4 N n v0 v1 v2 v3 v4 v5 (fun q0 q1 => k (.exit 0) (newelref05_rest_x4_0 q0 q1)) := by
  induction n with
  | zero => intro v0 v1 v2 v3 v4 v5; rfl
  | succ n ih =>
    intro v0 v1 v2 v3 v4 v5
    refine Eq.trans (b := newelref05_rest_b4 N (fun v0 v1 v2 v3 v4 v5 => loopM E.Θ (lift_Trip_cal N) (newelref05_rest_lp N) 0 newelref05_rest_L4 (bodyAt E 71 4) n (newelref05_rest_h4 v0 v1 v2 v3 v4 v5) k) v0 v1 v2 v3 v4 v5 (fun q0 q1 => k (.exit 0) (newelref05_rest_x4_0 q0 q1))) (by kernel_rfl) ?_
    have h : (fun (v0 : Int) (v1 : Int) (v2 : Int) (v3 : Int) (v4 : Int) (v5 : api_Lift) => loopM E.Θ (lift_Trip_cal N) (newelref05_rest_lp N) 0 newelref05_rest_L4 (bodyAt E 71 4) n (newelref05_rest_h4 v0 v1 v2 v3 v4 v5) k) = (fun (v0 : Int) (v1 : Int) (v2 : Int) (v3 : Int) (v4 : Int) (v5 : api_Lift) => newelref05_rest_l4 N n v0 v1 v2 v3 v4 v5 (fun q0 q1 => k (.exit 0) (newelref05_rest_x4_0 q0 q1))) := funext fun v0 => funext fun v1 => funext fun v2 => funext fun v3 => funext fun v4 => funext fun v5 => ih v0 v1 v2 v3 v4 v5
    rw [h]
    rfl
theorem newelref05_rest_k4 {R : Type} (N : Nat) : LpKey (R := R) E 71 0 (newelref05_rest_lp N) 4 :=
  lpKey_of hE (lift_Trip_cal_ok N) newelref05_rest_L4_ok [] kNil (by kernel_rfl) N fun S k =>
    Eq.trans (b := newelref05_rest_L4.head.raw 0 S (fun S0 => newelref05_rest_d4 N S0 k)) (by kernel_rfl) (congrArg (newelref05_rest_L4.head.raw 0 S) (funext fun S0 => Eq.trans (newelref05_rest_l4_eq N k N (toI (lget S0.tmps 1)) (toI (lget S0.tmps 2)) (toI (lget S0.tmps 6)) (toI (lget S0.tmps 7)) (toI (lget S0.tmps 9)) (Cod.dec api_LiftC (lget (entCs (entAt S0.tab 0))))).symm (by kernel_rfl)))
noncomputable def newelref05_rest_go {R : Type} (N : Nat) (args : List SV) (T : Tab) (kf : SV × Tab → Option R) : Option R :=
  newelref05_rest N (Cod.dec api_LiftC (lget (toCs (lget args 0)))) (toI (lget args 1)) (toI (lget args 2)) (fun q0 q1 q2 => kf (lget [.tup [.int .i64 q0, .int .i64 q1, .bool q2]] 0, []))
noncomputable def newelref05_rest_cal {R : Type} (N : Nat) : Cal R := callM (lift_Trip_cal N) 71 0 newelref05_rest_sp (newelref05_rest_go N)
theorem newelref05_rest_cal_ok {R : Type} (N : Nat) : CalOk E.P (newelref05_rest_cal (R := R) N) :=
  callM_ok hE (lift_Trip_cal_ok N) (lp := newelref05_rest_lp N) (keys := [4]) (kCons (newelref05_rest_k4 N) kNil) (by kernel_rfl) newelref05_rest_sp_ok newelref05_rest_rs_ok (fun args T kf => Eq.trans (newelref05_rest_def N (Cod.dec api_LiftC (lget (toCs (lget args 0)))) (toI (lget args 1)) (toI (lget args 2)) (fun q0 q1 q2 => kf (lget [.tup [.int .i64 q0, .int .i64 q1, .bool q2]] 0, []))) (by kernel_rfl : newelref05_rest_run N args T kf = fnM E (lift_Trip_cal N) (newelref05_rest_lp N) 71 (newelref05_rest_sp.vs args) (newelref05_rest_sp.tab T) 0 (resK newelref05_rest_rs kf)))

def newelref05_Trip_L7 : LoopSp := ⟨⟨[3, 8, 9], ⟨(dr 3 ((rPtr 0 0) :: (dr 4 ((rInt .i64) :: (rInt .i64) :: (dr 90 []))))), [(0, eBlkC api_LiftC)]⟩, 1⟩, [(some 0, ⟨[3, 8, 9], ⟨(dr 3 ((rPtr 0 0) :: (dr 4 ((rInt .i64) :: (rInt .i64) :: (dr 90 []))))), [(0, eBlkC api_LiftC)]⟩, 1⟩)]⟩
theorem newelref05_Trip_L7_ok : newelref05_Trip_L7.Ok := ⟨⟨(drCons 3 (allCons (rPtr_ok 0 0) (drCons 4 (allCons (rInt_ok .i64) (allCons (rInt_ok .i64) (drCons 90 allNil)))))), (eCons (eBlkC_ok api_LiftC_ok api_LiftC_len) eNil)⟩, (xCons ⟨(drCons 3 (allCons (rPtr_ok 0 0) (drCons 4 (allCons (rInt_ok .i64) (allCons (rInt_ok .i64) (drCons 90 allNil)))))), (eCons (eBlkC_ok api_LiftC_ok api_LiftC_len) eNil)⟩ xNil)⟩
def newelref05_Trip_h7 (v614 : Int) (v615 : Int) (v616 : api_Lift) : St := ⟨(un 3 ((.ptr 0 0) :: (un 4 ((.int .i64 v614) :: (.int .i64 v615) :: (un 90 []))))), [(0, .blk (Cod.enc api_LiftC v616))], 1⟩
def newelref05_Trip_x7_0 (v614 : Int) (v616 : api_Lift) (q1 : Int) : St := ⟨(un 3 ((.ptr 0 0) :: (un 4 ((.int .i64 v614) :: (.int .i64 q1) :: (un 90 []))))), [(0, .blk (Cod.enc api_LiftC v616))], 1⟩
def newelref05_Trip_b7 {R : Type} (N : Nat) (rc : Int → Int → api_Lift → Option R) (v614 : Int) (v615 : Int) (v616 : api_Lift) (k0 : Int → Option R) : Option R :=
  newelref05_reach N v616 v615 (fun r617 =>
  bif decide (r617 < v614) then
   rc v614 (w64 (v615 + (1 : Int))) v616
  else
   k0 v615)
def newelref05_Trip_l7 {R : Type} (N : Nat) : Nat → Int → Int → api_Lift → (Int → Option R) → Option R
  | 0, _, _, _, _ => Option.none
  | n + 1, v614, v615, v616, k0 => newelref05_Trip_b7 N (fun v614 v615 v616 => newelref05_Trip_l7 N n v614 v615 v616 k0) v614 v615 v616 k0

def newelref05_Trip_L15 : LoopSp := ⟨⟨[3, 8, 10, 11, 12, 13], ⟨(dr 3 ((rPtr 0 0) :: (dr 4 ((rInt .i64) :: (dr 1 ((rRow 1) :: (rInt .i64) :: (rInt .i64) :: (rInt .i64) :: (dr 86 []))))))), [(0, eBlkC api_LiftC), (1, eRow intC)]⟩, 2⟩, [(some 4, ⟨[3, 8, 10, 11, 12], ⟨(dr 3 ((rPtr 0 0) :: (dr 4 ((rInt .i64) :: (dr 1 ((rRow 1) :: (rInt .i64) :: (rInt .i64) :: (dr 87 []))))))), [(0, eBlkC api_LiftC), (1, eRow intC)]⟩, 2⟩)]⟩
theorem newelref05_Trip_L15_ok : newelref05_Trip_L15.Ok := ⟨⟨(drCons 3 (allCons (rPtr_ok 0 0) (drCons 4 (allCons (rInt_ok .i64) (drCons 1 (allCons (rRow_ok 1) (allCons (rInt_ok .i64) (allCons (rInt_ok .i64) (allCons (rInt_ok .i64) (drCons 86 allNil)))))))))), (eCons (eBlkC_ok api_LiftC_ok api_LiftC_len) (eCons (eRow_ok intC_ok) eNil))⟩, (xCons ⟨(drCons 3 (allCons (rPtr_ok 0 0) (drCons 4 (allCons (rInt_ok .i64) (drCons 1 (allCons (rRow_ok 1) (allCons (rInt_ok .i64) (allCons (rInt_ok .i64) (drCons 87 allNil))))))))), (eCons (eBlkC_ok api_LiftC_ok api_LiftC_len) (eCons (eRow_ok intC_ok) eNil))⟩ xNil)⟩
def newelref05_Trip_h15 (v625 : Int) (v626 : Int) (v627 : Int) (v628 : Int) (v629 : api_Lift) (v630 : Bool) (v631 : Arr Int) : St := ⟨(un 3 ((.ptr 0 0) :: (un 4 ((.int .i64 v625) :: (un 1 ((.row 1) :: (.int .i64 v626) :: (.int .i64 v627) :: (.int .i64 v628) :: (un 86 []))))))), [(0, .blk (Cod.enc api_LiftC v629)), (1, rowE intC v630 v631)], 2⟩
def newelref05_Trip_x15_4 (v627 : Int) (v629 : api_Lift) (q0 : Int) (q1 : Int) (q4 : Bool) (q5 : Arr Int) : St := ⟨(un 3 ((.ptr 0 0) :: (un 4 ((.int .i64 q0) :: (un 1 ((.row 1) :: (.int .i64 q1) :: (.int .i64 v627) :: (un 87 []))))))), [(0, .blk (Cod.enc api_LiftC v629)), (1, rowE intC q4 q5)], 2⟩
def newelref05_Trip_b15 {R : Type} (N : Nat) (rc : Int → Int → Int → Int → api_Lift → Bool → Arr Int → Option R) (v625 : Int) (v626 : Int) (v627 : Int) (v628 : Int) (v629 : api_Lift) (v630 : Bool) (v631 : Arr Int) (k4 : Int → Int → Bool → Arr Int → Option R) : Option R :=
  bif decide (v628 ≥ (0 : Int)) then
   newelref05_rest N v629 v628 v627 (fun r632 r633 r634 =>
   bif r634 then
    bif decide (v628 ≥ w64 (v626 - api_Lift.Accel v629)) then
     bif decide (w64 (v628 + r632) ≤ v625) then
      bif decide (v625 ≤ w64 (v628 + r633)) then
       bif room (Arr.n v631 + (1 : Nat)) then
        k4 (w64 (v625 - v628)) v628 false (lst intC (Arr.n v631 + (1 : Nat)) (catC (Arr.n v631) (Cod.cell intC (Arr.f v631)) (litC [SV.int IntKind.i64 (0 : Int)] [[SV.int IntKind.i64 v628]])))
       else
        Option.none
      else
       rc v625 v626 v627 (w64 (v628 - (1 : Int))) v629 v630 v631
     else
      rc v625 v626 v627 (w64 (v628 - (1 : Int))) v629 v630 v631
    else
     rc v625 v626 v627 (w64 (v628 - (1 : Int))) v629 v630 v631
   else
    rc v625 v626 v627 (w64 (v628 - (1 : Int))) v629 v630 v631)
  else
   k4 v625 v626 v630 v631
def newelref05_Trip_l15 {R : Type} (N : Nat) : Nat → Int → Int → Int → Int → api_Lift → Bool → Arr Int → (Int → Int → Bool → Arr Int → Option R) → Option R
  | 0, _, _, _, _, _, _, _, _ => Option.none
  | n + 1, v625, v626, v627, v628, v629, v630, v631, k4 => newelref05_Trip_b15 N (fun v625 v626 v627 v628 v629 v630 v631 => newelref05_Trip_l15 N n v625 v626 v627 v628 v629 v630 v631 k4) v625 v626 v627 v628 v629 v630 v631 k4

def newelref05_Trip_L12 : LoopSp := ⟨⟨[3, 8, 10, 11, 12], ⟨(dr 3 ((rPtr 0 0) :: (dr 4 ((rInt .i64) :: (dr 1 ((rRow 1) :: (rInt .i64) :: (rInt .i64) :: (dr 87 []))))))), [(0, eBlkC api_LiftC), (1, eRow intC)]⟩, 2⟩, [(some 2, ⟨[10], ⟨(dr 10 ((rRow 0) :: (dr 89 []))), [(0, eRow intC)]⟩, 1⟩)]⟩
theorem newelref05_Trip_L12_ok : newelref05_Trip_L12.Ok := ⟨⟨(drCons 3 (allCons (rPtr_ok 0 0) (drCons 4 (allCons (rInt_ok .i64) (drCons 1 (allCons (rRow_ok 1) (allCons (rInt_ok .i64) (allCons (rInt_ok .i64) (drCons 87 allNil))))))))), (eCons (eBlkC_ok api_LiftC_ok api_LiftC_len) (eCons (eRow_ok intC_ok) eNil))⟩, (xCons ⟨(drCons 10 (allCons (rRow_ok 0) (drCons 89 allNil))), (eCons (eRow_ok intC_ok) eNil)⟩ xNil)⟩
def newelref05_Trip_h12 (v619 : Int) (v620 : Int) (v621 : Int) (v622 : api_Lift) (v623 : Bool) (v624 : Arr Int) : St := ⟨(un 3 ((.ptr 0 0) :: (un 4 ((.int .i64 v619) :: (un 1 ((.row 1) :: (.int .i64 v620) :: (.int .i64 v621) :: (un 87 []))))))), [(0, .blk (Cod.enc api_LiftC v622)), (1, rowE intC v623 v624)], 2⟩
def newelref05_Trip_x12_2 (q0 : Bool) (q1 : Arr Int) : St := ⟨(un 10 ((.row 0) :: (un 89 []))), [(0, rowE intC q0 q1)], 1⟩
def newelref05_Trip_b12 {R : Type} (N : Nat) (rc : Int → Int → Int → api_Lift → Bool → Arr Int → Option R) (v619 : Int) (v620 : Int) (v621 : Int) (v622 : api_Lift) (v623 : Bool) (v624 : Arr Int) (k2 : Bool → Arr Int → Option R) : Option R :=
  bif decide (v621 ≥ (0 : Int)) then
   newelref05_Trip_l15 N N v619 v620 v621 (if w64 (v620 + api_Lift.Accel v622) < api_Lift.Speed v622 then w64 (v620 + api_Lift.Accel v622) else api_Lift.Speed v622) v622 v623 v624 (fun r635 r636 r637 r638 =>
    rc r635 r636 (w64 (v621 - (1 : Int))) v622 r637 r638)
  else
   k2 v623 v624
def newelref05_Trip_l12 {R : Type} (N : Nat) : Nat → Int → Int → Int → api_Lift → Bool → Arr Int → (Bool → Arr Int → Option R) → Option R
  | 0, _, _, _, _, _, _, _ => Option.none
  | n + 1, v619, v620, v621, v622, v623, v624, k2 => newelref05_Trip_b12 N (fun v619 v620 v621 v622 v623 v624 => newelref05_Trip_l12 N n v619 v620 v621 v622 v623 v624 k2) v619 v620 v621 v622 v623 v624 k2


def newelref05_Trip_m {R : Type} (N : Nat) (a608 : api_Lift) (a609 : Int) (a610 : Int) (k : Int → Bool → Arr Int → Option R) : Option R :=
  newelref05_Check N a608 (fun r611 =>
  bif r611 != (0 : Int) then
   k (50 : Int) true (lst intC (0 : Nat) (zeroC [SV.int IntKind.i64 (0 : Int)]))
  else
   newelref05_Floors N a608 a609 a610 (fun r612 =>
   bif !r612 then
    k (1 : Int) true (lst intC (0 : Nat) (zeroC [SV.int IntKind.i64 (0 : Int)]))
   else
    bif decide ((0 : Int) ≤ a609) && decide (a609 < (↑(Arr.n (api_Lift.Floors a608)) : Int)) then
     bif decide ((0 : Int) ≤ a610) && decide (a610 < (↑(Arr.n (api_Lift.Floors a608)) : Int)) then
      newelref05_apart N (Arr.f (api_Lift.Floors a608) (Int.toNat a609)) (Arr.f (api_Lift.Floors a608) (Int.toNat a610)) (fun r613 =>
      newelref05_Trip_l7 N N r613 (0 : Int) a608 (fun r618 =>
       newelref05_Trip_l12 N N r613 (0 : Int) (w64 (r618 - (1 : Int))) a608 true (lst intC (0 : Nat) (zeroC [SV.int IntKind.i64 (0 : Int)])) (fun r639 r640 =>
        k (0 : Int) r639 r640)))
     else
      Option.none
    else
     Option.none))
noncomputable def newelref05_Trip {R : Type} : Nat → api_Lift → Int → Int → (Int → Bool → Arr Int → Option R) → Option R := lock (@newelref05_Trip_m R)
theorem newelref05_Trip_def {R : Type} (N : Nat) (a608 : api_Lift) (a609 : Int) (a610 : Int) (k : Int → Bool → Arr Int → Option R) : newelref05_Trip N a608 a609 a610 k = newelref05_Trip_m N a608 a609 a610 k := by unfold newelref05_Trip; rw [lock_eq]
def newelref05_Trip_sp : Sp := ⟨[rAgg api_LiftC, rInt .i64, rInt .i64], []⟩
theorem newelref05_Trip_sp_ok : newelref05_Trip_sp.Ok := ⟨(allCons (rAgg_ok api_LiftC_ok api_LiftC_len) (allCons (rInt_ok .i64) (allCons (rInt_ok .i64) allNil))), eNil⟩
def newelref05_Trip_rs : Sp := ⟨[rTup [rRow 0, rInt .i64]], [(0, eRow intC)]⟩
theorem newelref05_Trip_rs_ok : newelref05_Trip_rs.Ok := ⟨(allCons (rTup_ok (allCons (rRow_ok 0) (allCons (rInt_ok .i64) allNil))) allNil), (eCons (eRow_ok intC_ok) eNil)⟩
def newelref05_Trip_run {R : Type} (N : Nat) (args : List SV) (T : Tab) (kf : SV × Tab → Option R) : Option R :=
  newelref05_Trip_m N (Cod.dec api_LiftC (lget (toCs (lget args 0)))) (toI (lget args 1)) (toI (lget args 2)) (fun q0 q1 q2 => kf (lget [.tup [.row 0, .int .i64 q0]] 0, [(0, rowE intC q1 q2)]))
def newelref05_Trip_d15 {R : Type} (N : Nat) (S0 : St) (k : Exit → St → Option R) : Option R :=
  newelref05_Trip_l15 N N (toI (lget S0.tmps 8)) (toI (lget S0.tmps 11)) (toI (lget S0.tmps 12)) (toI (lget S0.tmps 13)) (Cod.dec api_LiftC (lget (entCs (entAt S0.tab 0)))) (entNl (entAt S0.tab 1)) (lst intC (entN (entAt S0.tab 1)) (entC (entAt S0.tab 1))) (fun q0 q1 q4 q5 => k (.exit 4) (newelref05_Trip_x15_4 (toI (lget S0.tmps 12)) (Cod.dec api_LiftC (lget (entCs (entAt S0.tab 0)))) q0 q1 q4 q5))
def newelref05_Trip_d12 {R : Type} (N : Nat) (S0 : St) (k : Exit → St → Option R) : Option R :=
  newelref05_Trip_l12 N N (toI (lget S0.tmps 8)) (toI (lget S0.tmps 11)) (toI (lget S0.tmps 12)) (Cod.dec api_LiftC (lget (entCs (entAt S0.tab 0)))) (entNl (entAt S0.tab 1)) (lst intC (entN (entAt S0.tab 1)) (entC (entAt S0.tab 1))) (fun q0 q1 => k (.exit 2) (newelref05_Trip_x12_2 q0 q1))
def newelref05_Trip_d7 {R : Type} (N : Nat) (S0 : St) (k : Exit → St → Option R) : Option R :=
  newelref05_Trip_l7 N N (toI (lget S0.tmps 8)) (toI (lget S0.tmps 9)) (Cod.dec api_LiftC (lget (entCs (entAt S0.tab 0)))) (fun q1 => k (.exit 0) (newelref05_Trip_x7_0 (toI (lget S0.tmps 8)) (Cod.dec api_LiftC (lget (entCs (entAt S0.tab 0)))) q1))
def newelref05_Trip_lp {R : Type} (N : Nat) : Lp R := fun body S k => bif (Go.Sx.keyOf body).getD 0 == 7 then newelref05_Trip_L7.head.raw 0 S (fun S0 => newelref05_Trip_d7 N S0 k) else bif (Go.Sx.keyOf body).getD 0 == 12 then newelref05_Trip_L12.head.raw 0 S (fun S0 => newelref05_Trip_d12 N S0 k) else bif (Go.Sx.keyOf body).getD 0 == 15 then newelref05_Trip_L15.head.raw 0 S (fun S0 => newelref05_Trip_d15 N S0 k) else Option.none
theorem newelref05_Trip_l7_eq {R : Type} (N : Nat) (k : Exit → St → Option R) (n : Nat) : ∀ (v0 : Int) (v1 : Int) (v2 : api_Lift), loopM E.Θ (newelref05_rest_cal N) (newelref05_Trip_lp N) 0 newelref05_Trip_L7 (bodyAt E 35 7) n (newelref05_Trip_h7 v0 v1 v2) k = newelref05_Trip_l7 N n v0 v1 v2 (fun q1 => k (.exit 0) (newelref05_Trip_x7_0 v0 v2 q1)) := by
  induction n with
  | zero => intro v0 v1 v2; rfl
  | succ n ih =>
    intro v0 v1 v2
    refine Eq.trans (b := newelref05_Trip_b7 N (fun v0 v1 v2 => loopM E.Θ (newelref05_rest_cal N) (newelref05_Trip_lp N) 0 newelref05_Trip_L7 (bodyAt E 35 7) n (newelref05_Trip_h7 v0 v1 v2) k) v0 v1 v2 (fun q1 => k (.exit 0) (newelref05_Trip_x7_0 v0 v2 q1))) (by kernel_rfl) ?_
    have h : (fun (v0 : Int) (v1 : Int) (v2 : api_Lift) => loopM E.Θ (newelref05_rest_cal N) (newelref05_Trip_lp N) 0 newelref05_Trip_L7 (bodyAt E 35 7) n (newelref05_Trip_h7 v0 v1 v2) k) = (fun (v0 : Int) (v1 : Int) (v2 : api_Lift) => newelref05_Trip_l7 N n v0 v1 v2 (fun q1 => k (.exit 0) (newelref05_Trip_x7_0 v0 v2 q1))) := funext fun v0 => funext fun v1 => funext fun v2 => ih v0 v1 v2
    rw [h]
    rfl
theorem newelref05_Trip_l12_eq {R : Type} (N : Nat) (k : Exit → St → Option R) (n : Nat) : ∀ (v0 : Int) (v1 : Int) (v2 : Int) (v3 : api_Lift) (v4 : Bool) (v5 : Arr Int), loopM E.Θ (newelref05_rest_cal N) (newelref05_Trip_lp N) 0 newelref05_Trip_L12 (bodyAt E 35 12) n (newelref05_Trip_h12 v0 v1 v2 v3 v4 v5) k = newelref05_Trip_l12 N n v0 v1 v2 v3 v4 v5 (fun q0 q1 => k (.exit 2) (newelref05_Trip_x12_2 q0 q1)) := by
  induction n with
  | zero => intro v0 v1 v2 v3 v4 v5; rfl
  | succ n ih =>
    intro v0 v1 v2 v3 v4 v5
    refine Eq.trans (b := newelref05_Trip_b12 N (fun v0 v1 v2 v3 v4 v5 => loopM E.Θ (newelref05_rest_cal N) (newelref05_Trip_lp N) 0 newelref05_Trip_L12 (bodyAt E 35 12) n (newelref05_Trip_h12 v0 v1 v2 v3 v4 v5) k) v0 v1 v2 v3 v4 v5 (fun q0 q1 => k (.exit 2) (newelref05_Trip_x12_2 q0 q1))) (by kernel_rfl) ?_
    have h : (fun (v0 : Int) (v1 : Int) (v2 : Int) (v3 : api_Lift) (v4 : Bool) (v5 : Arr Int) => loopM E.Θ (newelref05_rest_cal N) (newelref05_Trip_lp N) 0 newelref05_Trip_L12 (bodyAt E 35 12) n (newelref05_Trip_h12 v0 v1 v2 v3 v4 v5) k) = (fun (v0 : Int) (v1 : Int) (v2 : Int) (v3 : api_Lift) (v4 : Bool) (v5 : Arr Int) => newelref05_Trip_l12 N n v0 v1 v2 v3 v4 v5 (fun q0 q1 => k (.exit 2) (newelref05_Trip_x12_2 q0 q1))) := funext fun v0 => funext fun v1 => funext fun v2 => funext fun v3 => funext fun v4 => funext fun v5 => ih v0 v1 v2 v3 v4 v5
    rw [h]
    rfl
theorem newelref05_Trip_l15_eq {R : Type} (N : Nat) (k : Exit → St → Option R) (n : Nat) : ∀ (v0 : Int) (v1 : Int) (v2 : Int) (v3 : Int) (v4 : api_Lift) (v5 : Bool) (v6 : Arr Int), loopM E.Θ (newelref05_rest_cal N) (newelref05_Trip_lp N) 0 newelref05_Trip_L15 (bodyAt E 35 15) n (newelref05_Trip_h15 v0 v1 v2 v3 v4 v5 v6) k = newelref05_Trip_l15 N n v0 v1 v2 v3 v4 v5 v6 (fun q0 q1 q4 q5 => k (.exit 4) (newelref05_Trip_x15_4 v2 v4 q0 q1 q4 q5)) := by
  induction n with
  | zero => intro v0 v1 v2 v3 v4 v5 v6; rfl
  | succ n ih =>
    intro v0 v1 v2 v3 v4 v5 v6
    refine Eq.trans (b := newelref05_Trip_b15 N (fun v0 v1 v2 v3 v4 v5 v6 => loopM E.Θ (newelref05_rest_cal N) (newelref05_Trip_lp N) 0 newelref05_Trip_L15 (bodyAt E 35 15) n (newelref05_Trip_h15 v0 v1 v2 v3 v4 v5 v6) k) v0 v1 v2 v3 v4 v5 v6 (fun q0 q1 q4 q5 => k (.exit 4) (newelref05_Trip_x15_4 v2 v4 q0 q1 q4 q5))) (by kernel_rfl) ?_
    have h : (fun (v0 : Int) (v1 : Int) (v2 : Int) (v3 : Int) (v4 : api_Lift) (v5 : Bool) (v6 : Arr Int) => loopM E.Θ (newelref05_rest_cal N) (newelref05_Trip_lp N) 0 newelref05_Trip_L15 (bodyAt E 35 15) n (newelref05_Trip_h15 v0 v1 v2 v3 v4 v5 v6) k) = (fun (v0 : Int) (v1 : Int) (v2 : Int) (v3 : Int) (v4 : api_Lift) (v5 : Bool) (v6 : Arr Int) => newelref05_Trip_l15 N n v0 v1 v2 v3 v4 v5 v6 (fun q0 q1 q4 q5 => k (.exit 4) (newelref05_Trip_x15_4 v2 v4 q0 q1 q4 q5))) := funext fun v0 => funext fun v1 => funext fun v2 => funext fun v3 => funext fun v4 => funext fun v5 => funext fun v6 => ih v0 v1 v2 v3 v4 v5 v6
    rw [h]
    rfl
theorem newelref05_Trip_k15 {R : Type} (N : Nat) : LpKey (R := R) E 35 0 (newelref05_Trip_lp N) 15 :=
  lpKey_of hE (newelref05_rest_cal_ok N) newelref05_Trip_L15_ok [] kNil (by kernel_rfl) N fun S k =>
    Eq.trans (b := newelref05_Trip_L15.head.raw 0 S (fun S0 => newelref05_Trip_d15 N S0 k)) (by kernel_rfl) (congrArg (newelref05_Trip_L15.head.raw 0 S) (funext fun S0 => Eq.trans (newelref05_Trip_l15_eq N k N (toI (lget S0.tmps 8)) (toI (lget S0.tmps 11)) (toI (lget S0.tmps 12)) (toI (lget S0.tmps 13)) (Cod.dec api_LiftC (lget (entCs (entAt S0.tab 0)))) (entNl (entAt S0.tab 1)) (lst intC (entN (entAt S0.tab 1)) (entC (entAt S0.tab 1)))).symm (by kernel_rfl)))
theorem newelref05_Trip_k12 {R : Type} (N : Nat) : LpKey (R := R) E 35 0 (newelref05_Trip_lp N) 12 :=
  lpKey_of hE (newelref05_rest_cal_ok N) newelref05_Trip_L12_ok [15] (kCons (newelref05_Trip_k15 N) kNil) (by kernel_rfl) N fun S k =>
    Eq.trans (b := newelref05_Trip_L12.head.raw 0 S (fun S0 => newelref05_Trip_d12 N S0 k)) (by kernel_rfl) (congrArg (newelref05_Trip_L12.head.raw 0 S) (funext fun S0 => Eq.trans (newelref05_Trip_l12_eq N k N (toI (lget S0.tmps 8)) (toI (lget S0.tmps 11)) (toI (lget S0.tmps 12)) (Cod.dec api_LiftC (lget (entCs (entAt S0.tab 0)))) (entNl (entAt S0.tab 1)) (lst intC (entN (entAt S0.tab 1)) (entC (entAt S0.tab 1)))).symm (by kernel_rfl)))
theorem newelref05_Trip_k7 {R : Type} (N : Nat) : LpKey (R := R) E 35 0 (newelref05_Trip_lp N) 7 :=
  lpKey_of hE (newelref05_rest_cal_ok N) newelref05_Trip_L7_ok [] kNil (by kernel_rfl) N fun S k =>
    Eq.trans (b := newelref05_Trip_L7.head.raw 0 S (fun S0 => newelref05_Trip_d7 N S0 k)) (by kernel_rfl) (congrArg (newelref05_Trip_L7.head.raw 0 S) (funext fun S0 => Eq.trans (newelref05_Trip_l7_eq N k N (toI (lget S0.tmps 8)) (toI (lget S0.tmps 9)) (Cod.dec api_LiftC (lget (entCs (entAt S0.tab 0))))).symm (by kernel_rfl)))
noncomputable def newelref05_Trip_go {R : Type} (N : Nat) (args : List SV) (T : Tab) (kf : SV × Tab → Option R) : Option R :=
  newelref05_Trip N (Cod.dec api_LiftC (lget (toCs (lget args 0)))) (toI (lget args 1)) (toI (lget args 2)) (fun q0 q1 q2 => kf (lget [.tup [.row 0, .int .i64 q0]] 0, [(0, rowE intC q1 q2)]))
noncomputable def newelref05_Trip_cal {R : Type} (N : Nat) : Cal R := callM (newelref05_rest_cal N) 35 0 newelref05_Trip_sp (newelref05_Trip_go N)
theorem newelref05_Trip_cal_ok {R : Type} (N : Nat) : CalOk E.P (newelref05_Trip_cal (R := R) N) :=
  callM_ok hE (newelref05_rest_cal_ok N) (lp := newelref05_Trip_lp N) (keys := [7, 12, 15]) (kCons (newelref05_Trip_k7 N) (kCons (newelref05_Trip_k12 N) (kCons (newelref05_Trip_k15 N) kNil))) (by kernel_rfl) newelref05_Trip_sp_ok newelref05_Trip_rs_ok (fun args T kf => Eq.trans (newelref05_Trip_def N (Cod.dec api_LiftC (lget (toCs (lget args 0)))) (toI (lget args 1)) (toI (lget args 2)) (fun q0 q1 q2 => kf (lget [.tup [.row 0, .int .i64 q0]] 0, [(0, rowE intC q1 q2)]))) (by kernel_rfl : newelref05_Trip_run N args T kf = fnM E (newelref05_rest_cal N) (newelref05_Trip_lp N) 35 (newelref05_Trip_sp.vs args) (newelref05_Trip_sp.tab T) 0 (resK newelref05_Trip_rs kf)))

def newelref05_IsTrip_L3 : LoopSp := ⟨⟨[1, 2, 5, 6], ⟨(dr 1 ((rSl intC) :: (rPtr 0 0) :: (dr 2 ((rInt .i64) :: (rInt .i64) :: (dr 29 []))))), [(0, eBlkC api_LiftC)]⟩, 1⟩, [(Option.none, ⟨[4], ⟨(dr 4 ((rBool) :: (dr 31 []))), []⟩, 0⟩), (some 0, ⟨[], ⟨(dr 36 []), []⟩, 0⟩)]⟩
theorem newelref05_IsTrip_L3_ok : newelref05_IsTrip_L3.Ok := ⟨⟨(drCons 1 (allCons (rSl_ok intC_ok) (allCons (rPtr_ok 0 0) (drCons 2 (allCons (rInt_ok .i64) (allCons (rInt_ok .i64) (drCons 29 allNil))))))), (eCons (eBlkC_ok api_LiftC_ok api_LiftC_len) eNil)⟩, (xCons ⟨(drCons 4 (allCons rBool_ok (drCons 31 allNil))), eNil⟩ (xCons ⟨(drCons 36 allNil), eNil⟩ xNil))⟩
def newelref05_IsTrip_h3 (v643 : Arr Int) (v644 : Int) (v645 : Int) (v646 : api_Lift) : St := ⟨(un 1 ((slC intC v643) :: (.ptr 0 0) :: (un 2 ((.int .i64 v644) :: (.int .i64 v645) :: (un 29 []))))), [(0, .blk (Cod.enc api_LiftC v646))], 1⟩
def newelref05_IsTrip_x3_r (q0 : Bool) : St := ⟨(un 4 ((.bool q0) :: (un 31 []))), [], 0⟩
def newelref05_IsTrip_x3_0  : St := ⟨(un 36 []), [], 0⟩
def newelref05_IsTrip_b3 {R : Type} (N : Nat) (rc : Arr Int → Int → Int → api_Lift → Option R) (v643 : Arr Int) (v644 : Int) (v645 : Int) (v646 : api_Lift) (kr : Bool → Option R) (k0 : Unit → Option R) : Option R :=
  bif decide (v645 ≤ (↑(Arr.n v643) : Int)) then
   bif decide (v645 < (↑(Arr.n v643) : Int)) then
    bif decide ((0 : Int) ≤ v645) && decide (v645 < (↑(Arr.n v643) : Int)) then
     newelref05_within N (Arr.f v643 (Int.toNat v645)) (0 : Int) (api_Lift.Speed v646) (fun r647 =>
     bif !r647 then
      kr false
     else
      newelref05_apart N (Arr.f v643 (Int.toNat v645)) v644 (fun r648 =>
      bif decide (r648 > api_Lift.Accel v646) then
       kr false
      else
       rc v643 (Arr.f v643 (Int.toNat v645)) (w64 (v645 + (1 : Int))) v646))
    else
     Option.none
   else
    newelref05_within N (0 : Int) (0 : Int) (api_Lift.Speed v646) (fun r649 =>
    bif !r649 then
     kr false
    else
     newelref05_apart N (0 : Int) v644 (fun r650 =>
     bif decide (r650 > api_Lift.Accel v646) then
      kr false
     else
      rc v643 (0 : Int) (w64 (v645 + (1 : Int))) v646))
  else
   k0 ()
def newelref05_IsTrip_l3 {R : Type} (N : Nat) : Nat → Arr Int → Int → Int → api_Lift → (Bool → Option R) → (Unit → Option R) → Option R
  | 0, _, _, _, _, _, _ => Option.none
  | n + 1, v643, v644, v645, v646, kr, k0 => newelref05_IsTrip_b3 N (fun v643 v644 v645 v646 => newelref05_IsTrip_l3 N n v643 v644 v645 v646 kr k0) v643 v644 v645 v646 kr k0


def newelref05_IsTrip_m {R : Type} (N : Nat) (a641 : api_Lift) (a642 : Arr Int) (k : Bool → Option R) : Option R :=
  newelref05_IsTrip_l3 N N a642 (0 : Int) (0 : Int) a641 (fun r651 =>
   k r651) (fun (_ : Unit) =>
   k true)
noncomputable def newelref05_IsTrip {R : Type} : Nat → api_Lift → Arr Int → (Bool → Option R) → Option R := lock (@newelref05_IsTrip_m R)
theorem newelref05_IsTrip_def {R : Type} (N : Nat) (a641 : api_Lift) (a642 : Arr Int) (k : Bool → Option R) : newelref05_IsTrip N a641 a642 k = newelref05_IsTrip_m N a641 a642 k := by unfold newelref05_IsTrip; rw [lock_eq]
def newelref05_IsTrip_sp : Sp := ⟨[rAgg api_LiftC, rSl intC], []⟩
theorem newelref05_IsTrip_sp_ok : newelref05_IsTrip_sp.Ok := ⟨(allCons (rAgg_ok api_LiftC_ok api_LiftC_len) (allCons (rSl_ok intC_ok) allNil)), eNil⟩
def newelref05_IsTrip_rs : Sp := ⟨[rBool], []⟩
theorem newelref05_IsTrip_rs_ok : newelref05_IsTrip_rs.Ok := ⟨(allCons rBool_ok allNil), eNil⟩
def newelref05_IsTrip_run {R : Type} (N : Nat) (args : List SV) (T : Tab) (kf : SV × Tab → Option R) : Option R :=
  newelref05_IsTrip_m N (Cod.dec api_LiftC (lget (toCs (lget args 0)))) (lstC intC (lget args 1)) (fun q0 => kf (lget [.bool q0] 0, []))
def newelref05_IsTrip_d3 {R : Type} (N : Nat) (S0 : St) (k : Exit → St → Option R) : Option R :=
  newelref05_IsTrip_l3 N N (lstC intC (lget S0.tmps 1)) (toI (lget S0.tmps 5)) (toI (lget S0.tmps 6)) (Cod.dec api_LiftC (lget (entCs (entAt S0.tab 0)))) (fun q0 => k .ret (newelref05_IsTrip_x3_r q0)) (fun (_ : Unit) => k (.exit 0) (newelref05_IsTrip_x3_0 ))
def newelref05_IsTrip_lp {R : Type} (N : Nat) : Lp R := fun body S k => bif (Go.Sx.keyOf body).getD 0 == 3 then newelref05_IsTrip_L3.head.raw 0 S (fun S0 => newelref05_IsTrip_d3 N S0 k) else Option.none
theorem newelref05_IsTrip_l3_eq {R : Type} (N : Nat) (k : Exit → St → Option R) (n : Nat) : ∀ (v0 : Arr Int) (v1 : Int) (v2 : Int) (v3 : api_Lift), loopM E.Θ (newelref05_Trip_cal N) (newelref05_IsTrip_lp N) 0 newelref05_IsTrip_L3 (bodyAt E 25 3) n (newelref05_IsTrip_h3 v0 v1 v2 v3) k = newelref05_IsTrip_l3 N n v0 v1 v2 v3 (fun q0 => k .ret (newelref05_IsTrip_x3_r q0)) (fun (_ : Unit) => k (.exit 0) (newelref05_IsTrip_x3_0 )) := by
  induction n with
  | zero => intro v0 v1 v2 v3; rfl
  | succ n ih =>
    intro v0 v1 v2 v3
    refine Eq.trans (b := newelref05_IsTrip_b3 N (fun v0 v1 v2 v3 => loopM E.Θ (newelref05_Trip_cal N) (newelref05_IsTrip_lp N) 0 newelref05_IsTrip_L3 (bodyAt E 25 3) n (newelref05_IsTrip_h3 v0 v1 v2 v3) k) v0 v1 v2 v3 (fun q0 => k .ret (newelref05_IsTrip_x3_r q0)) (fun (_ : Unit) => k (.exit 0) (newelref05_IsTrip_x3_0 ))) (by kernel_rfl) ?_
    have h : (fun (v0 : Arr Int) (v1 : Int) (v2 : Int) (v3 : api_Lift) => loopM E.Θ (newelref05_Trip_cal N) (newelref05_IsTrip_lp N) 0 newelref05_IsTrip_L3 (bodyAt E 25 3) n (newelref05_IsTrip_h3 v0 v1 v2 v3) k) = (fun (v0 : Arr Int) (v1 : Int) (v2 : Int) (v3 : api_Lift) => newelref05_IsTrip_l3 N n v0 v1 v2 v3 (fun q0 => k .ret (newelref05_IsTrip_x3_r q0)) (fun (_ : Unit) => k (.exit 0) (newelref05_IsTrip_x3_0 ))) := funext fun v0 => funext fun v1 => funext fun v2 => funext fun v3 => ih v0 v1 v2 v3
    rw [h]
    rfl
theorem newelref05_IsTrip_k3 {R : Type} (N : Nat) : LpKey (R := R) E 25 0 (newelref05_IsTrip_lp N) 3 :=
  lpKey_of hE (newelref05_Trip_cal_ok N) newelref05_IsTrip_L3_ok [] kNil (by kernel_rfl) N fun S k =>
    Eq.trans (b := newelref05_IsTrip_L3.head.raw 0 S (fun S0 => newelref05_IsTrip_d3 N S0 k)) (by kernel_rfl) (congrArg (newelref05_IsTrip_L3.head.raw 0 S) (funext fun S0 => Eq.trans (newelref05_IsTrip_l3_eq N k N (lstC intC (lget S0.tmps 1)) (toI (lget S0.tmps 5)) (toI (lget S0.tmps 6)) (Cod.dec api_LiftC (lget (entCs (entAt S0.tab 0))))).symm (by kernel_rfl)))
noncomputable def newelref05_IsTrip_go {R : Type} (N : Nat) (args : List SV) (T : Tab) (kf : SV × Tab → Option R) : Option R :=
  newelref05_IsTrip N (Cod.dec api_LiftC (lget (toCs (lget args 0)))) (lstC intC (lget args 1)) (fun q0 => kf (lget [.bool q0] 0, []))
noncomputable def newelref05_IsTrip_cal {R : Type} (N : Nat) : Cal R := callM (newelref05_Trip_cal N) 25 0 newelref05_IsTrip_sp (newelref05_IsTrip_go N)
theorem newelref05_IsTrip_cal_ok {R : Type} (N : Nat) : CalOk E.P (newelref05_IsTrip_cal (R := R) N) :=
  callM_ok hE (newelref05_Trip_cal_ok N) (lp := newelref05_IsTrip_lp N) (keys := [3]) (kCons (newelref05_IsTrip_k3 N) kNil) (by kernel_rfl) newelref05_IsTrip_sp_ok newelref05_IsTrip_rs_ok (fun args T kf => Eq.trans (newelref05_IsTrip_def N (Cod.dec api_LiftC (lget (toCs (lget args 0)))) (lstC intC (lget args 1)) (fun q0 => kf (lget [.bool q0] 0, []))) (by kernel_rfl : newelref05_IsTrip_run N args T kf = fnM E (newelref05_Trip_cal N) (newelref05_IsTrip_lp N) 25 (newelref05_IsTrip_sp.vs args) (newelref05_IsTrip_sp.tab T) 0 (resK newelref05_IsTrip_rs kf)))


def lift_checkDoor_m {R : Type} (N : Nat) (a652 : api_Door) (k : Int → Option R) : Option R :=
  lift_between N (api_Door.Wide a652) (1 : Int) (50 : Int) (fun r653 =>
  bif !r653 then
   k (51 : Int)
  else
   lift_between N (api_Door.Wait a652) (0 : Int) (200 : Int) (fun r654 =>
   bif !r654 then
    k (51 : Int)
   else
    k (0 : Int)))
noncomputable def lift_checkDoor {R : Type} : Nat → api_Door → (Int → Option R) → Option R := lock (@lift_checkDoor_m R)
theorem lift_checkDoor_def {R : Type} (N : Nat) (a652 : api_Door) (k : Int → Option R) : lift_checkDoor N a652 k = lift_checkDoor_m N a652 k := by unfold lift_checkDoor; rw [lock_eq]
def lift_checkDoor_sp : Sp := ⟨[rAgg api_DoorC], []⟩
theorem lift_checkDoor_sp_ok : lift_checkDoor_sp.Ok := ⟨(allCons (rAgg_ok api_DoorC_ok api_DoorC_len) allNil), eNil⟩
def lift_checkDoor_rs : Sp := ⟨[rInt .i64], []⟩
theorem lift_checkDoor_rs_ok : lift_checkDoor_rs.Ok := ⟨(allCons (rInt_ok .i64) allNil), eNil⟩
def lift_checkDoor_run {R : Type} (N : Nat) (args : List SV) (T : Tab) (kf : SV × Tab → Option R) : Option R :=
  lift_checkDoor_m N (Cod.dec api_DoorC (lget (toCs (lget args 0)))) (fun q0 => kf (lget [.int .i64 q0] 0, []))
def lift_checkDoor_lp {R : Type} (N : Nat) : Lp R := fun body S k => Option.none
noncomputable def lift_checkDoor_go {R : Type} (N : Nat) (args : List SV) (T : Tab) (kf : SV × Tab → Option R) : Option R :=
  lift_checkDoor N (Cod.dec api_DoorC (lget (toCs (lget args 0)))) (fun q0 => kf (lget [.int .i64 q0] 0, []))
noncomputable def lift_checkDoor_cal {R : Type} (N : Nat) : Cal R := callM (newelref05_IsTrip_cal N) 49 0 lift_checkDoor_sp (lift_checkDoor_go N)
theorem lift_checkDoor_cal_ok {R : Type} (N : Nat) : CalOk E.P (lift_checkDoor_cal (R := R) N) :=
  callM_ok hE (newelref05_IsTrip_cal_ok N) (lp := lift_checkDoor_lp N) (keys := []) kNil (by kernel_rfl) lift_checkDoor_sp_ok lift_checkDoor_rs_ok (fun args T kf => Eq.trans (lift_checkDoor_def N (Cod.dec api_DoorC (lget (toCs (lget args 0)))) (fun q0 => kf (lget [.int .i64 q0] 0, []))) (by kernel_rfl : lift_checkDoor_run N args T kf = fnM E (newelref05_IsTrip_cal N) (lift_checkDoor_lp N) 49 (lift_checkDoor_sp.vs args) (lift_checkDoor_sp.tab T) 0 (resK lift_checkDoor_rs kf)))


def newelref05_CheckDoor_m {R : Type} (N : Nat) (a655 : api_Door) (k : Int → Option R) : Option R :=
  newelref05_within N (api_Door.Wide a655) (1 : Int) (50 : Int) (fun r656 =>
  bif !r656 then
   k (51 : Int)
  else
   newelref05_within N (api_Door.Wait a655) (0 : Int) (200 : Int) (fun r657 =>
   bif !r657 then
    k (51 : Int)
   else
    k (0 : Int)))
noncomputable def newelref05_CheckDoor {R : Type} : Nat → api_Door → (Int → Option R) → Option R := lock (@newelref05_CheckDoor_m R)
theorem newelref05_CheckDoor_def {R : Type} (N : Nat) (a655 : api_Door) (k : Int → Option R) : newelref05_CheckDoor N a655 k = newelref05_CheckDoor_m N a655 k := by unfold newelref05_CheckDoor; rw [lock_eq]
def newelref05_CheckDoor_sp : Sp := ⟨[rAgg api_DoorC], []⟩
theorem newelref05_CheckDoor_sp_ok : newelref05_CheckDoor_sp.Ok := ⟨(allCons (rAgg_ok api_DoorC_ok api_DoorC_len) allNil), eNil⟩
def newelref05_CheckDoor_rs : Sp := ⟨[rInt .i64], []⟩
theorem newelref05_CheckDoor_rs_ok : newelref05_CheckDoor_rs.Ok := ⟨(allCons (rInt_ok .i64) allNil), eNil⟩
def newelref05_CheckDoor_run {R : Type} (N : Nat) (args : List SV) (T : Tab) (kf : SV × Tab → Option R) : Option R :=
  newelref05_CheckDoor_m N (Cod.dec api_DoorC (lget (toCs (lget args 0)))) (fun q0 => kf (lget [.int .i64 q0] 0, []))
def newelref05_CheckDoor_lp {R : Type} (N : Nat) : Lp R := fun body S k => Option.none
noncomputable def newelref05_CheckDoor_go {R : Type} (N : Nat) (args : List SV) (T : Tab) (kf : SV × Tab → Option R) : Option R :=
  newelref05_CheckDoor N (Cod.dec api_DoorC (lget (toCs (lget args 0)))) (fun q0 => kf (lget [.int .i64 q0] 0, []))
noncomputable def newelref05_CheckDoor_cal {R : Type} (N : Nat) : Cal R := callM (lift_checkDoor_cal N) 46 0 newelref05_CheckDoor_sp (newelref05_CheckDoor_go N)
theorem newelref05_CheckDoor_cal_ok {R : Type} (N : Nat) : CalOk E.P (newelref05_CheckDoor_cal (R := R) N) :=
  callM_ok hE (lift_checkDoor_cal_ok N) (lp := newelref05_CheckDoor_lp N) (keys := []) kNil (by kernel_rfl) newelref05_CheckDoor_sp_ok newelref05_CheckDoor_rs_ok (fun args T kf => Eq.trans (newelref05_CheckDoor_def N (Cod.dec api_DoorC (lget (toCs (lget args 0)))) (fun q0 => kf (lget [.int .i64 q0] 0, []))) (by kernel_rfl : newelref05_CheckDoor_run N args T kf = fnM E (lift_checkDoor_cal N) (newelref05_CheckDoor_lp N) 46 (newelref05_CheckDoor_sp.vs args) (newelref05_CheckDoor_sp.tab T) 0 (resK newelref05_CheckDoor_rs kf)))

def newelref05_Breaks_L3 : LoopSp := ⟨⟨[0, 3, 4], ⟨((rSl intC) :: (dr 2 ((rInt .i64) :: (rInt .i64) :: (dr 21 [])))), []⟩, 0⟩, [(Option.none, ⟨[2], ⟨(dr 2 ((rBool) :: (dr 23 []))), []⟩, 0⟩), (some 0, ⟨[0], ⟨((rSl intC) :: (dr 25 [])), []⟩, 0⟩)]⟩
theorem newelref05_Breaks_L3_ok : newelref05_Breaks_L3.Ok := ⟨⟨(allCons (rSl_ok intC_ok) (drCons 2 (allCons (rInt_ok .i64) (allCons (rInt_ok .i64) (drCons 21 allNil))))), eNil⟩, (xCons ⟨(drCons 2 (allCons rBool_ok (drCons 23 allNil))), eNil⟩ (xCons ⟨(allCons (rSl_ok intC_ok) (drCons 25 allNil)), eNil⟩ xNil))⟩
def newelref05_Breaks_h3 (v659 : Arr Int) (v660 : Int) (v661 : Int) : St := ⟨((slC intC v659) :: (un 2 ((.int .i64 v660) :: (.int .i64 v661) :: (un 21 [])))), [], 0⟩
def newelref05_Breaks_x3_r (q0 : Bool) : St := ⟨(un 2 ((.bool q0) :: (un 23 []))), [], 0⟩
def newelref05_Breaks_x3_0 (v659 : Arr Int) : St := ⟨((slC intC v659) :: (un 25 [])), [], 0⟩
def newelref05_Breaks_b3 {R : Type} (N : Nat) (rc : Arr Int → Int → Int → Option R) (v659 : Arr Int) (v660 : Int) (v661 : Int) (kr : Bool → Option R) (k0 : Unit → Option R) : Option R :=
  bif decide (v661 < (↑(Arr.n v659) : Int)) then
   bif decide ((0 : Int) ≤ v661) && decide (v661 < (↑(Arr.n v659) : Int)) then
    newelref05_within N (Arr.f v659 (Int.toNat v661)) (w64 (v660 + (1 : Int))) (100000 : Int) (fun r662 =>
    bif !r662 then
     kr false
    else
     bif decide ((0 : Int) ≤ v661) && decide (v661 < (↑(Arr.n v659) : Int)) then
      rc v659 (Arr.f v659 (Int.toNat v661)) (w64 (v661 + (1 : Int)))
     else
      Option.none)
   else
    Option.none
  else
   k0 ()
def newelref05_Breaks_l3 {R : Type} (N : Nat) : Nat → Arr Int → Int → Int → (Bool → Option R) → (Unit → Option R) → Option R
  | 0, _, _, _, _, _ => Option.none
  | n + 1, v659, v660, v661, kr, k0 => newelref05_Breaks_b3 N (fun v659 v660 v661 => newelref05_Breaks_l3 N n v659 v660 v661 kr k0) v659 v660 v661 kr k0


def newelref05_Breaks_m {R : Type} (N : Nat) (a658 : Arr Int) (k : Bool → Option R) : Option R :=
  newelref05_Breaks_l3 N N a658 (-1 : Int) (0 : Int) (fun r663 =>
   k r663) (fun (_ : Unit) =>
   k (decide ((↑(Arr.n a658) : Int) ≤ (20 : Int))))
noncomputable def newelref05_Breaks {R : Type} : Nat → Arr Int → (Bool → Option R) → Option R := lock (@newelref05_Breaks_m R)
theorem newelref05_Breaks_def {R : Type} (N : Nat) (a658 : Arr Int) (k : Bool → Option R) : newelref05_Breaks N a658 k = newelref05_Breaks_m N a658 k := by unfold newelref05_Breaks; rw [lock_eq]
def newelref05_Breaks_sp : Sp := ⟨[rSl intC], []⟩
theorem newelref05_Breaks_sp_ok : newelref05_Breaks_sp.Ok := ⟨(allCons (rSl_ok intC_ok) allNil), eNil⟩
def newelref05_Breaks_rs : Sp := ⟨[rBool], []⟩
theorem newelref05_Breaks_rs_ok : newelref05_Breaks_rs.Ok := ⟨(allCons rBool_ok allNil), eNil⟩
def newelref05_Breaks_run {R : Type} (N : Nat) (args : List SV) (T : Tab) (kf : SV × Tab → Option R) : Option R :=
  newelref05_Breaks_m N (lstC intC (lget args 0)) (fun q0 => kf (lget [.bool q0] 0, []))
def newelref05_Breaks_d3 {R : Type} (N : Nat) (S0 : St) (k : Exit → St → Option R) : Option R :=
  newelref05_Breaks_l3 N N (lstC intC (lget S0.tmps 0)) (toI (lget S0.tmps 3)) (toI (lget S0.tmps 4)) (fun q0 => k .ret (newelref05_Breaks_x3_r q0)) (fun (_ : Unit) => k (.exit 0) (newelref05_Breaks_x3_0 (lstC intC (lget S0.tmps 0))))
def newelref05_Breaks_lp {R : Type} (N : Nat) : Lp R := fun body S k => bif (Go.Sx.keyOf body).getD 0 == 3 then newelref05_Breaks_L3.head.raw 0 S (fun S0 => newelref05_Breaks_d3 N S0 k) else Option.none
theorem newelref05_Breaks_l3_eq {R : Type} (N : Nat) (k : Exit → St → Option R) (n : Nat) : ∀ (v0 : Arr Int) (v1 : Int) (v2 : Int), loopM E.Θ (newelref05_CheckDoor_cal N) (newelref05_Breaks_lp N) 0 newelref05_Breaks_L3 (bodyAt E 47 3) n (newelref05_Breaks_h3 v0 v1 v2) k = newelref05_Breaks_l3 N n v0 v1 v2 (fun q0 => k .ret (newelref05_Breaks_x3_r q0)) (fun (_ : Unit) => k (.exit 0) (newelref05_Breaks_x3_0 v0)) := by
  induction n with
  | zero => intro v0 v1 v2; rfl
  | succ n ih =>
    intro v0 v1 v2
    refine Eq.trans (b := newelref05_Breaks_b3 N (fun v0 v1 v2 => loopM E.Θ (newelref05_CheckDoor_cal N) (newelref05_Breaks_lp N) 0 newelref05_Breaks_L3 (bodyAt E 47 3) n (newelref05_Breaks_h3 v0 v1 v2) k) v0 v1 v2 (fun q0 => k .ret (newelref05_Breaks_x3_r q0)) (fun (_ : Unit) => k (.exit 0) (newelref05_Breaks_x3_0 v0))) (by kernel_rfl) ?_
    have h : (fun (v0 : Arr Int) (v1 : Int) (v2 : Int) => loopM E.Θ (newelref05_CheckDoor_cal N) (newelref05_Breaks_lp N) 0 newelref05_Breaks_L3 (bodyAt E 47 3) n (newelref05_Breaks_h3 v0 v1 v2) k) = (fun (v0 : Arr Int) (v1 : Int) (v2 : Int) => newelref05_Breaks_l3 N n v0 v1 v2 (fun q0 => k .ret (newelref05_Breaks_x3_r q0)) (fun (_ : Unit) => k (.exit 0) (newelref05_Breaks_x3_0 v0))) := funext fun v0 => funext fun v1 => funext fun v2 => ih v0 v1 v2
    rw [h]
    rfl
theorem newelref05_Breaks_k3 {R : Type} (N : Nat) : LpKey (R := R) E 47 0 (newelref05_Breaks_lp N) 3 :=
  lpKey_of hE (newelref05_CheckDoor_cal_ok N) newelref05_Breaks_L3_ok [] kNil (by kernel_rfl) N fun S k =>
    Eq.trans (b := newelref05_Breaks_L3.head.raw 0 S (fun S0 => newelref05_Breaks_d3 N S0 k)) (by kernel_rfl) (congrArg (newelref05_Breaks_L3.head.raw 0 S) (funext fun S0 => Eq.trans (newelref05_Breaks_l3_eq N k N (lstC intC (lget S0.tmps 0)) (toI (lget S0.tmps 3)) (toI (lget S0.tmps 4))).symm (by kernel_rfl)))
noncomputable def newelref05_Breaks_go {R : Type} (N : Nat) (args : List SV) (T : Tab) (kf : SV × Tab → Option R) : Option R :=
  newelref05_Breaks N (lstC intC (lget args 0)) (fun q0 => kf (lget [.bool q0] 0, []))
noncomputable def newelref05_Breaks_cal {R : Type} (N : Nat) : Cal R := callM (newelref05_CheckDoor_cal N) 47 0 newelref05_Breaks_sp (newelref05_Breaks_go N)
theorem newelref05_Breaks_cal_ok {R : Type} (N : Nat) : CalOk E.P (newelref05_Breaks_cal (R := R) N) :=
  callM_ok hE (newelref05_CheckDoor_cal_ok N) (lp := newelref05_Breaks_lp N) (keys := [3]) (kCons (newelref05_Breaks_k3 N) kNil) (by kernel_rfl) newelref05_Breaks_sp_ok newelref05_Breaks_rs_ok (fun args T kf => Eq.trans (newelref05_Breaks_def N (lstC intC (lget args 0)) (fun q0 => kf (lget [.bool q0] 0, []))) (by kernel_rfl : newelref05_Breaks_run N args T kf = fnM E (newelref05_CheckDoor_cal N) (newelref05_Breaks_lp N) 47 (newelref05_Breaks_sp.vs args) (newelref05_Breaks_sp.tab T) 0 (resK newelref05_Breaks_rs kf)))

def lift_Doors_L7 : LoopSp := ⟨⟨[1, 2, 20, 21, 22], ⟨(dr 1 ((rSl intC) :: (rPtr 0 0) :: (dr 17 ((rSl intC) :: (rInt .i64) :: (rInt .i64) :: (dr 42 []))))), [(0, eBlkC api_DoorC)]⟩, 1⟩, [(Option.none, ⟨[4, 5], ⟨(dr 4 ((rRow 0) :: (rInt .i64) :: (dr 59 []))), [(0, eRow intC)]⟩, 1⟩), (some 0, ⟨[1, 2], ⟨(dr 1 ((rSl intC) :: (rPtr 0 0) :: (dr 62 []))), [(0, eBlkC api_DoorC)]⟩, 1⟩)]⟩
theorem lift_Doors_L7_ok : lift_Doors_L7.Ok := ⟨⟨(drCons 1 (allCons (rSl_ok intC_ok) (allCons (rPtr_ok 0 0) (drCons 17 (allCons (rSl_ok intC_ok) (allCons (rInt_ok .i64) (allCons (rInt_ok .i64) (drCons 42 allNil)))))))), (eCons (eBlkC_ok api_DoorC_ok api_DoorC_len) eNil)⟩, (xCons ⟨(drCons 4 (allCons (rRow_ok 0) (allCons (rInt_ok .i64) (drCons 59 allNil)))), (eCons (eRow_ok intC_ok) eNil)⟩ (xCons ⟨(drCons 1 (allCons (rSl_ok intC_ok) (allCons (rPtr_ok 0 0) (drCons 62 allNil)))), (eCons (eBlkC_ok api_DoorC_ok api_DoorC_len) eNil)⟩ xNil))⟩
def lift_Doors_h7 (v667 : Arr Int) (v668 : Arr Int) (v669 : Int) (v670 : Int) (v671 : api_Door) : St := ⟨(un 1 ((slC intC v667) :: (.ptr 0 0) :: (un 17 ((slC intC v668) :: (.int .i64 v669) :: (.int .i64 v670) :: (un 42 []))))), [(0, .blk (Cod.enc api_DoorC v671))], 1⟩
def lift_Doors_x7_r (q0 : Int) (q1 : Bool) (q2 : Arr Int) : St := ⟨(un 4 ((.row 0) :: (.int .i64 q0) :: (un 59 []))), [(0, rowE intC q1 q2)], 1⟩
def lift_Doors_x7_0 (v667 : Arr Int) (v671 : api_Door) : St := ⟨(un 1 ((slC intC v667) :: (.ptr 0 0) :: (un 62 []))), [(0, .blk (Cod.enc api_DoorC v671))], 1⟩
def lift_Doors_b7 {R : Type} (N : Nat) (rc : Arr Int → Arr Int → Int → Int → api_Door → Option R) (v667 : Arr Int) (v668 : Arr Int) (v669 : Int) (v670 : Int) (v671 : api_Door) (kr : Int → Bool → Arr Int → Option R) (k0 : Unit → Option R) : Option R :=
  bif decide (v670 < v669) then
   bif decide ((0 : Int) ≤ v670) && decide (v670 < (↑(Arr.n v668) : Int)) then
    lift_between N (Arr.f v668 (Int.toNat v670)) (0 : Int) (100000 : Int) (fun r672 =>
    bif !r672 then
     kr (1 : Int) true (lst intC (0 : Nat) (zeroC [SV.int IntKind.i64 (0 : Int)]))
    else
     bif decide (v670 > (0 : Int)) then
      bif decide ((0 : Int) ≤ w64 (v670 - (1 : Int))) && decide (w64 (v670 - (1 : Int)) < (↑(Arr.n v667) : Int)) then
       bif decide (Arr.f v668 (Int.toNat v670) ≤ Arr.f v667 (Int.toNat (w64 (v670 - (1 : Int))))) then
        kr (1 : Int) true (lst intC (0 : Nat) (zeroC [SV.int IntKind.i64 (0 : Int)]))
       else
        rc v667 v668 v669 (w64 (v670 + (1 : Int))) v671
      else
       Option.none
     else
      rc v667 v668 v669 (w64 (v670 + (1 : Int))) v671)
   else
    Option.none
  else
   k0 ()
def lift_Doors_l7 {R : Type} (N : Nat) : Nat → Arr Int → Arr Int → Int → Int → api_Door → (Int → Bool → Arr Int → Option R) → (Unit → Option R) → Option R
  | 0, _, _, _, _, _, _, _ => Option.none
  | n + 1, v667, v668, v669, v670, v671, kr, k0 => lift_Doors_b7 N (fun v667 v668 v669 v670 v671 => lift_Doors_l7 N n v667 v668 v669 v670 v671 kr k0) v667 v668 v669 v670 v671 kr k0

def slices_Index___int_int__L2 : LoopSp := ⟨⟨[0, 1, 7, 8], ⟨((rSl intC) :: (rInt .i64) :: (dr 5 ((rInt .i64) :: (rInt .i64) :: (dr 10 [])))), []⟩, 0⟩, [(Option.none, ⟨[4], ⟨(dr 4 ((rInt .i64) :: (dr 14 []))), []⟩, 0⟩), (some 0, ⟨[], ⟨(dr 19 []), []⟩, 0⟩)]⟩
theorem slices_Index___int_int__L2_ok : slices_Index___int_int__L2.Ok := ⟨⟨(allCons (rSl_ok intC_ok) (allCons (rInt_ok .i64) (drCons 5 (allCons (rInt_ok .i64) (allCons (rInt_ok .i64) (drCons 10 allNil)))))), eNil⟩, (xCons ⟨(drCons 4 (allCons (rInt_ok .i64) (drCons 14 allNil))), eNil⟩ (xCons ⟨(drCons 19 allNil), eNil⟩ xNil))⟩
def slices_Index___int_int__h2 (v685 : Arr Int) (v686 : Int) (v687 : Int) (v688 : Int) : St := ⟨((slC intC v685) :: (.int .i64 v686) :: (un 5 ((.int .i64 v687) :: (.int .i64 v688) :: (un 10 [])))), [], 0⟩
def slices_Index___int_int__x2_r (q0 : Int) : St := ⟨(un 4 ((.int .i64 q0) :: (un 14 []))), [], 0⟩
def slices_Index___int_int__x2_0  : St := ⟨(un 19 []), [], 0⟩
def slices_Index___int_int__b2 {R : Type} (N : Nat) (rc : Arr Int → Int → Int → Int → Option R) (v685 : Arr Int) (v686 : Int) (v687 : Int) (v688 : Int) (kr : Int → Option R) (k0 : Unit → Option R) : Option R :=
  bif decide (v688 < v687) then
   bif decide ((0 : Int) ≤ v688) && decide (v688 < (↑(Arr.n v685) : Int)) then
    bif v686 == Arr.f v685 (Int.toNat v688) then
     kr v688
    else
     rc v685 v686 v687 (w64 (v688 + (1 : Int)))
   else
    Option.none
  else
   k0 ()
def slices_Index___int_int__l2 {R : Type} (N : Nat) : Nat → Arr Int → Int → Int → Int → (Int → Option R) → (Unit → Option R) → Option R
  | 0, _, _, _, _, _, _ => Option.none
  | n + 1, v685, v686, v687, v688, kr, k0 => slices_Index___int_int__b2 N (fun v685 v686 v687 v688 => slices_Index___int_int__l2 N n v685 v686 v687 v688 kr k0) v685 v686 v687 v688 kr k0


def slices_Index___int_int__m {R : Type} (N : Nat) (a683 : Arr Int) (a684 : Int) (k : Int → Option R) : Option R :=
  slices_Index___int_int__l2 N N a683 a684 ((↑(Arr.n a683) : Int)) (0 : Int) (fun r689 =>
   k r689) (fun (_ : Unit) =>
   k (-1 : Int))
noncomputable def slices_Index___int_int_ {R : Type} : Nat → Arr Int → Int → (Int → Option R) → Option R := lock (@slices_Index___int_int__m R)
theorem slices_Index___int_int__def {R : Type} (N : Nat) (a683 : Arr Int) (a684 : Int) (k : Int → Option R) : slices_Index___int_int_ N a683 a684 k = slices_Index___int_int__m N a683 a684 k := by unfold slices_Index___int_int_; rw [lock_eq]
def slices_Index___int_int__sp : Sp := ⟨[rSl intC, rInt .i64], []⟩
theorem slices_Index___int_int__sp_ok : slices_Index___int_int__sp.Ok := ⟨(allCons (rSl_ok intC_ok) (allCons (rInt_ok .i64) allNil)), eNil⟩
def slices_Index___int_int__rs : Sp := ⟨[rInt .i64], []⟩
theorem slices_Index___int_int__rs_ok : slices_Index___int_int__rs.Ok := ⟨(allCons (rInt_ok .i64) allNil), eNil⟩
def slices_Index___int_int__run {R : Type} (N : Nat) (args : List SV) (T : Tab) (kf : SV × Tab → Option R) : Option R :=
  slices_Index___int_int__m N (lstC intC (lget args 0)) (toI (lget args 1)) (fun q0 => kf (lget [.int .i64 q0] 0, []))
def slices_Index___int_int__d2 {R : Type} (N : Nat) (S0 : St) (k : Exit → St → Option R) : Option R :=
  slices_Index___int_int__l2 N N (lstC intC (lget S0.tmps 0)) (toI (lget S0.tmps 1)) (toI (lget S0.tmps 7)) (toI (lget S0.tmps 8)) (fun q0 => k .ret (slices_Index___int_int__x2_r q0)) (fun (_ : Unit) => k (.exit 0) (slices_Index___int_int__x2_0 ))
def slices_Index___int_int__lp {R : Type} (N : Nat) : Lp R := fun body S k => bif (Go.Sx.keyOf body).getD 0 == 2 then slices_Index___int_int__L2.head.raw 0 S (fun S0 => slices_Index___int_int__d2 N S0 k) else Option.none
theorem slices_Index___int_int__l2_eq {R : Type} (N : Nat) (k : Exit → St → Option R) (n : Nat) : ∀ (v0 : Arr Int) (v1 : Int) (v2 : Int) (v3 : Int), loopM E.Θ (newelref05_Breaks_cal N) (slices_Index___int_int__lp N) 0 slices_Index___int_int__L2 (bodyAt E 84 2) n (slices_Index___int_int__h2 v0 v1 v2 v3) k = slices_Index___int_int__l2 N n v0 v1 v2 v3 (fun q0 => k .ret (slices_Index___int_int__x2_r q0)) (fun (_ : Unit) => k (.exit 0) (slices_Index___int_int__x2_0 )) := by
  induction n with
  | zero => intro v0 v1 v2 v3; rfl
  | succ n ih =>
    intro v0 v1 v2 v3
    refine Eq.trans (b := slices_Index___int_int__b2 N (fun v0 v1 v2 v3 => loopM E.Θ (newelref05_Breaks_cal N) (slices_Index___int_int__lp N) 0 slices_Index___int_int__L2 (bodyAt E 84 2) n (slices_Index___int_int__h2 v0 v1 v2 v3) k) v0 v1 v2 v3 (fun q0 => k .ret (slices_Index___int_int__x2_r q0)) (fun (_ : Unit) => k (.exit 0) (slices_Index___int_int__x2_0 ))) (by kernel_rfl) ?_
    have h : (fun (v0 : Arr Int) (v1 : Int) (v2 : Int) (v3 : Int) => loopM E.Θ (newelref05_Breaks_cal N) (slices_Index___int_int__lp N) 0 slices_Index___int_int__L2 (bodyAt E 84 2) n (slices_Index___int_int__h2 v0 v1 v2 v3) k) = (fun (v0 : Arr Int) (v1 : Int) (v2 : Int) (v3 : Int) => slices_Index___int_int__l2 N n v0 v1 v2 v3 (fun q0 => k .ret (slices_Index___int_int__x2_r q0)) (fun (_ : Unit) => k (.exit 0) (slices_Index___int_int__x2_0 ))) := funext fun v0 => funext fun v1 => funext fun v2 => funext fun v3 => ih v0 v1 v2 v3
    rw [h]
    rfl
theorem slices_Index___int_int__k2 {R : Type} (N : Nat) : LpKey (R := R) E 84 0 (slices_Index___int_int__lp N) 2 :=
  lpKey_of hE (newelref05_Breaks_cal_ok N) slices_Index___int_int__L2_ok [] kNil (by kernel_rfl) N fun S k =>
    Eq.trans (b := slices_Index___int_int__L2.head.raw 0 S (fun S0 => slices_Index___int_int__d2 N S0 k)) (by kernel_rfl) (congrArg (slices_Index___int_int__L2.head.raw 0 S) (funext fun S0 => Eq.trans (slices_Index___int_int__l2_eq N k N (lstC intC (lget S0.tmps 0)) (toI (lget S0.tmps 1)) (toI (lget S0.tmps 7)) (toI (lget S0.tmps 8))).symm (by kernel_rfl)))
noncomputable def slices_Index___int_int__go {R : Type} (N : Nat) (args : List SV) (T : Tab) (kf : SV × Tab → Option R) : Option R :=
  slices_Index___int_int_ N (lstC intC (lget args 0)) (toI (lget args 1)) (fun q0 => kf (lget [.int .i64 q0] 0, []))
noncomputable def slices_Index___int_int__cal {R : Type} (N : Nat) : Cal R := callM (newelref05_Breaks_cal N) 84 0 slices_Index___int_int__sp (slices_Index___int_int__go N)
theorem slices_Index___int_int__cal_ok {R : Type} (N : Nat) : CalOk E.P (slices_Index___int_int__cal (R := R) N) :=
  callM_ok hE (newelref05_Breaks_cal_ok N) (lp := slices_Index___int_int__lp N) (keys := [2]) (kCons (slices_Index___int_int__k2 N) kNil) (by kernel_rfl) slices_Index___int_int__sp_ok slices_Index___int_int__rs_ok (fun args T kf => Eq.trans (slices_Index___int_int__def N (lstC intC (lget args 0)) (toI (lget args 1)) (fun q0 => kf (lget [.int .i64 q0] 0, []))) (by kernel_rfl : slices_Index___int_int__run N args T kf = fnM E (newelref05_Breaks_cal N) (slices_Index___int_int__lp N) 84 (slices_Index___int_int__sp.vs args) (slices_Index___int_int__sp.tab T) 0 (resK slices_Index___int_int__rs kf)))


def slices_Contains___int_int__m {R : Type} (N : Nat) (a681 : Arr Int) (a682 : Int) (k : Bool → Option R) : Option R :=
  slices_Index___int_int_ N a681 a682 (fun r690 =>
  k (decide (r690 ≥ (0 : Int))))
noncomputable def slices_Contains___int_int_ {R : Type} : Nat → Arr Int → Int → (Bool → Option R) → Option R := lock (@slices_Contains___int_int__m R)
theorem slices_Contains___int_int__def {R : Type} (N : Nat) (a681 : Arr Int) (a682 : Int) (k : Bool → Option R) : slices_Contains___int_int_ N a681 a682 k = slices_Contains___int_int__m N a681 a682 k := by unfold slices_Contains___int_int_; rw [lock_eq]
def slices_Contains___int_int__sp : Sp := ⟨[rSl intC, rInt .i64], []⟩
theorem slices_Contains___int_int__sp_ok : slices_Contains___int_int__sp.Ok := ⟨(allCons (rSl_ok intC_ok) (allCons (rInt_ok .i64) allNil)), eNil⟩
def slices_Contains___int_int__rs : Sp := ⟨[rBool], []⟩
theorem slices_Contains___int_int__rs_ok : slices_Contains___int_int__rs.Ok := ⟨(allCons rBool_ok allNil), eNil⟩
def slices_Contains___int_int__run {R : Type} (N : Nat) (args : List SV) (T : Tab) (kf : SV × Tab → Option R) : Option R :=
  slices_Contains___int_int__m N (lstC intC (lget args 0)) (toI (lget args 1)) (fun q0 => kf (lget [.bool q0] 0, []))
def slices_Contains___int_int__lp {R : Type} (N : Nat) : Lp R := fun body S k => Option.none
noncomputable def slices_Contains___int_int__go {R : Type} (N : Nat) (args : List SV) (T : Tab) (kf : SV × Tab → Option R) : Option R :=
  slices_Contains___int_int_ N (lstC intC (lget args 0)) (toI (lget args 1)) (fun q0 => kf (lget [.bool q0] 0, []))
noncomputable def slices_Contains___int_int__cal {R : Type} (N : Nat) : Cal R := callM (slices_Index___int_int__cal N) 79 0 slices_Contains___int_int__sp (slices_Contains___int_int__go N)
theorem slices_Contains___int_int__cal_ok {R : Type} (N : Nat) : CalOk E.P (slices_Contains___int_int__cal (R := R) N) :=
  callM_ok hE (slices_Index___int_int__cal_ok N) (lp := slices_Contains___int_int__lp N) (keys := []) kNil (by kernel_rfl) slices_Contains___int_int__sp_ok slices_Contains___int_int__rs_ok (fun args T kf => Eq.trans (slices_Contains___int_int__def N (lstC intC (lget args 0)) (toI (lget args 1)) (fun q0 => kf (lget [.bool q0] 0, []))) (by kernel_rfl : slices_Contains___int_int__run N args T kf = fnM E (slices_Index___int_int__cal N) (slices_Contains___int_int__lp N) 79 (slices_Contains___int_int__sp.vs args) (slices_Contains___int_int__sp.tab T) 0 (resK slices_Contains___int_int__rs kf)))


def lift_leaf_hold_m {R : Type} (N : Nat) (a694 : lift_leaf) (k : lift_leaf → Option R) : Option R :=
  bif api_Door.Wait (lift_leaf.Door a694) == (0 : Int) then
   k (lift_leaf.mk (lift_leaf.Door a694) (lift_leaf.f_at a694) (2 : Int) (api_Door.Wait (lift_leaf.Door a694)))
  else
   k (lift_leaf.mk (lift_leaf.Door a694) (lift_leaf.f_at a694) (1 : Int) (api_Door.Wait (lift_leaf.Door a694)))
noncomputable def lift_leaf_hold {R : Type} : Nat → lift_leaf → (lift_leaf → Option R) → Option R := lock (@lift_leaf_hold_m R)
theorem lift_leaf_hold_def {R : Type} (N : Nat) (a694 : lift_leaf) (k : lift_leaf → Option R) : lift_leaf_hold N a694 k = lift_leaf_hold_m N a694 k := by unfold lift_leaf_hold; rw [lock_eq]
def lift_leaf_hold_sp : Sp := ⟨[rPtr 0 0], [(0, eBlkC lift_leafC)]⟩
theorem lift_leaf_hold_sp_ok : lift_leaf_hold_sp.Ok := ⟨(allCons (rPtr_ok 0 0) allNil), (eCons (eBlkC_ok lift_leafC_ok lift_leafC_len) eNil)⟩
def lift_leaf_hold_rs : Sp := ⟨[rTup []], [(0, eBlkC lift_leafC)]⟩
theorem lift_leaf_hold_rs_ok : lift_leaf_hold_rs.Ok := ⟨(allCons (rTup_ok allNil) allNil), (eCons (eBlkC_ok lift_leafC_ok lift_leafC_len) eNil)⟩
def lift_leaf_hold_run {R : Type} (N : Nat) (args : List SV) (T : Tab) (kf : SV × Tab → Option R) : Option R :=
  lift_leaf_hold_m N (Cod.dec lift_leafC (lget (entCs (entAt T 0)))) (fun q0 => kf (lget [.tup []] 0, [(0, .blk (Cod.enc lift_leafC q0))]))
def lift_leaf_hold_lp {R : Type} (N : Nat) : Lp R := fun body S k => Option.none
noncomputable def lift_leaf_hold_go {R : Type} (N : Nat) (args : List SV) (T : Tab) (kf : SV × Tab → Option R) : Option R :=
  lift_leaf_hold N (Cod.dec lift_leafC (lget (entCs (entAt T 0)))) (fun q0 => kf (lget [.tup []] 0, [(0, .blk (Cod.enc lift_leafC q0))]))
noncomputable def lift_leaf_hold_cal {R : Type} (N : Nat) : Cal R := callM (slices_Contains___int_int__cal N) 83 1 lift_leaf_hold_sp (lift_leaf_hold_go N)
theorem lift_leaf_hold_cal_ok {R : Type} (N : Nat) : CalOk E.P (lift_leaf_hold_cal (R := R) N) :=
  callM_ok hE (slices_Contains___int_int__cal_ok N) (lp := lift_leaf_hold_lp N) (keys := []) kNil (by kernel_rfl) lift_leaf_hold_sp_ok lift_leaf_hold_rs_ok (fun args T kf => Eq.trans (lift_leaf_hold_def N (Cod.dec lift_leafC (lget (entCs (entAt T 0)))) (fun q0 => kf (lget [.tup []] 0, [(0, .blk (Cod.enc lift_leafC q0))]))) (by kernel_rfl : lift_leaf_hold_run N args T kf = fnM E (slices_Contains___int_int__cal N) (lift_leaf_hold_lp N) 83 (lift_leaf_hold_sp.vs args) (lift_leaf_hold_sp.tab T) 1 (resK lift_leaf_hold_rs kf)))


def lift_leaf_tick_m {R : Type} (N : Nat) (a692 : Bool) (a693 : lift_leaf) (k : lift_leaf → Option R) : Option R :=
  bif a692 then
   bif lift_leaf.f_does a693 != (0 : Int) then
    bif decide (lift_leaf.f_at a693 < api_Door.Wide (lift_leaf.Door a693)) then
     bif w64 (lift_leaf.f_at a693 + (1 : Int)) == api_Door.Wide (lift_leaf.Door a693) then
      lift_leaf_hold N (lift_leaf.mk (lift_leaf.Door a693) (w64 (lift_leaf.f_at a693 + (1 : Int))) (0 : Int) (lift_leaf.f_left a693)) (fun r695 =>
      k r695)
     else
      k (lift_leaf.mk (lift_leaf.Door a693) (w64 (lift_leaf.f_at a693 + (1 : Int))) (0 : Int) (lift_leaf.f_left a693))
    else
     lift_leaf_hold N a693 (fun r696 =>
     bif lift_leaf.f_does r696 == (0 : Int) then
      bif w64 (lift_leaf.f_at r696 + (1 : Int)) == api_Door.Wide (lift_leaf.Door r696) then
       lift_leaf_hold N (lift_leaf.mk (lift_leaf.Door r696) (w64 (lift_leaf.f_at r696 + (1 : Int))) (lift_leaf.f_does r696) (lift_leaf.f_left r696)) (fun r697 =>
       k r697)
      else
       k (lift_leaf.mk (lift_leaf.Door r696) (w64 (lift_leaf.f_at r696 + (1 : Int))) (lift_leaf.f_does r696) (lift_leaf.f_left r696))
     else
      bif lift_leaf.f_does r696 == (1 : Int) then
       bif w64 (lift_leaf.f_left r696 - (1 : Int)) == (0 : Int) then
        k (lift_leaf.mk (lift_leaf.Door r696) (lift_leaf.f_at r696) (2 : Int) (w64 (lift_leaf.f_left r696 - (1 : Int))))
       else
        k (lift_leaf.mk (lift_leaf.Door r696) (lift_leaf.f_at r696) (lift_leaf.f_does r696) (w64 (lift_leaf.f_left r696 - (1 : Int))))
      else
       bif lift_leaf.f_does r696 == (2 : Int) then
        k (lift_leaf.mk (lift_leaf.Door r696) (w64 (lift_leaf.f_at r696 - (1 : Int))) (lift_leaf.f_does r696) (lift_leaf.f_left r696))
       else
        k r696)
   else
    bif lift_leaf.f_does a693 == (0 : Int) then
     bif w64 (lift_leaf.f_at a693 + (1 : Int)) == api_Door.Wide (lift_leaf.Door a693) then
      lift_leaf_hold N (lift_leaf.mk (lift_leaf.Door a693) (w64 (lift_leaf.f_at a693 + (1 : Int))) (lift_leaf.f_does a693) (lift_leaf.f_left a693)) (fun r698 =>
      k r698)
     else
      k (lift_leaf.mk (lift_leaf.Door a693) (w64 (lift_leaf.f_at a693 + (1 : Int))) (lift_leaf.f_does a693) (lift_leaf.f_left a693))
    else
     bif lift_leaf.f_does a693 == (1 : Int) then
      bif w64 (lift_leaf.f_left a693 - (1 : Int)) == (0 : Int) then
       k (lift_leaf.mk (lift_leaf.Door a693) (lift_leaf.f_at a693) (2 : Int) (w64 (lift_leaf.f_left a693 - (1 : Int))))
      else
       k (lift_leaf.mk (lift_leaf.Door a693) (lift_leaf.f_at a693) (lift_leaf.f_does a693) (w64 (lift_leaf.f_left a693 - (1 : Int))))
     else
      bif lift_leaf.f_does a693 == (2 : Int) then
       k (lift_leaf.mk (lift_leaf.Door a693) (w64 (lift_leaf.f_at a693 - (1 : Int))) (lift_leaf.f_does a693) (lift_leaf.f_left a693))
      else
       k a693
  else
   bif lift_leaf.f_does a693 == (0 : Int) then
    bif w64 (lift_leaf.f_at a693 + (1 : Int)) == api_Door.Wide (lift_leaf.Door a693) then
     lift_leaf_hold N (lift_leaf.mk (lift_leaf.Door a693) (w64 (lift_leaf.f_at a693 + (1 : Int))) (lift_leaf.f_does a693) (lift_leaf.f_left a693)) (fun r699 =>
     k r699)
    else
     k (lift_leaf.mk (lift_leaf.Door a693) (w64 (lift_leaf.f_at a693 + (1 : Int))) (lift_leaf.f_does a693) (lift_leaf.f_left a693))
   else
    bif lift_leaf.f_does a693 == (1 : Int) then
     bif w64 (lift_leaf.f_left a693 - (1 : Int)) == (0 : Int) then
      k (lift_leaf.mk (lift_leaf.Door a693) (lift_leaf.f_at a693) (2 : Int) (w64 (lift_leaf.f_left a693 - (1 : Int))))
     else
      k (lift_leaf.mk (lift_leaf.Door a693) (lift_leaf.f_at a693) (lift_leaf.f_does a693) (w64 (lift_leaf.f_left a693 - (1 : Int))))
    else
     bif lift_leaf.f_does a693 == (2 : Int) then
      k (lift_leaf.mk (lift_leaf.Door a693) (w64 (lift_leaf.f_at a693 - (1 : Int))) (lift_leaf.f_does a693) (lift_leaf.f_left a693))
     else
      k a693
noncomputable def lift_leaf_tick {R : Type} : Nat → Bool → lift_leaf → (lift_leaf → Option R) → Option R := lock (@lift_leaf_tick_m R)
theorem lift_leaf_tick_def {R : Type} (N : Nat) (a692 : Bool) (a693 : lift_leaf) (k : lift_leaf → Option R) : lift_leaf_tick N a692 a693 k = lift_leaf_tick_m N a692 a693 k := by unfold lift_leaf_tick; rw [lock_eq]
def lift_leaf_tick_sp : Sp := ⟨[rPtr 0 0, rBool], [(0, eBlkC lift_leafC)]⟩
theorem lift_leaf_tick_sp_ok : lift_leaf_tick_sp.Ok := ⟨(allCons (rPtr_ok 0 0) (allCons rBool_ok allNil)), (eCons (eBlkC_ok lift_leafC_ok lift_leafC_len) eNil)⟩
def lift_leaf_tick_rs : Sp := ⟨[rTup []], [(0, eBlkC lift_leafC)]⟩
theorem lift_leaf_tick_rs_ok : lift_leaf_tick_rs.Ok := ⟨(allCons (rTup_ok allNil) allNil), (eCons (eBlkC_ok lift_leafC_ok lift_leafC_len) eNil)⟩
def lift_leaf_tick_run {R : Type} (N : Nat) (args : List SV) (T : Tab) (kf : SV × Tab → Option R) : Option R :=
  lift_leaf_tick_m N (toB (lget args 1)) (Cod.dec lift_leafC (lget (entCs (entAt T 0)))) (fun q0 => kf (lget [.tup []] 0, [(0, .blk (Cod.enc lift_leafC q0))]))
def lift_leaf_tick_lp {R : Type} (N : Nat) : Lp R := fun body S k => Option.none
noncomputable def lift_leaf_tick_go {R : Type} (N : Nat) (args : List SV) (T : Tab) (kf : SV × Tab → Option R) : Option R :=
  lift_leaf_tick N (toB (lget args 1)) (Cod.dec lift_leafC (lget (entCs (entAt T 0)))) (fun q0 => kf (lget [.tup []] 0, [(0, .blk (Cod.enc lift_leafC q0))]))
noncomputable def lift_leaf_tick_cal {R : Type} (N : Nat) : Cal R := callM (lift_leaf_hold_cal N) 78 1 lift_leaf_tick_sp (lift_leaf_tick_go N)
theorem lift_leaf_tick_cal_ok {R : Type} (N : Nat) : CalOk E.P (lift_leaf_tick_cal (R := R) N) :=
  callM_ok hE (lift_leaf_hold_cal_ok N) (lp := lift_leaf_tick_lp N) (keys := []) kNil (by kernel_rfl) lift_leaf_tick_sp_ok lift_leaf_tick_rs_ok (fun args T kf => Eq.trans (lift_leaf_tick_def N (toB (lget args 1)) (Cod.dec lift_leafC (lget (entCs (entAt T 0)))) (fun q0 => kf (lget [.tup []] 0, [(0, .blk (Cod.enc lift_leafC q0))]))) (by kernel_rfl : lift_leaf_tick_run N args T kf = fnM E (lift_leaf_hold_cal N) (lift_leaf_tick_lp N) 78 (lift_leaf_tick_sp.vs args) (lift_leaf_tick_sp.tab T) 1 (resK lift_leaf_tick_rs kf)))

def lift_Doors_L15 : LoopSp := ⟨⟨[1, 9, 10, 11], ⟨(dr 1 ((rSl intC) :: (dr 7 ((rPtr 0 0) :: (rRow 1) :: (rInt .i64) :: (dr 53 []))))), [(0, eBlkC lift_leafC), (1, eRow intC)]⟩, 2⟩, [(some 2, ⟨[10], ⟨(dr 10 ((rRow 0) :: (dr 54 []))), [(0, eRow intC)]⟩, 1⟩)]⟩
theorem lift_Doors_L15_ok : lift_Doors_L15.Ok := ⟨⟨(drCons 1 (allCons (rSl_ok intC_ok) (drCons 7 (allCons (rPtr_ok 0 0) (allCons (rRow_ok 1) (allCons (rInt_ok .i64) (drCons 53 allNil))))))), (eCons (eBlkC_ok lift_leafC_ok lift_leafC_len) (eCons (eRow_ok intC_ok) eNil))⟩, (xCons ⟨(drCons 10 (allCons (rRow_ok 0) (drCons 54 allNil))), (eCons (eRow_ok intC_ok) eNil)⟩ xNil)⟩
def lift_Doors_h15 (v676 : Arr Int) (v677 : Int) (v678 : lift_leaf) (v679 : Bool) (v680 : Arr Int) : St := ⟨(un 1 ((slC intC v676) :: (un 7 ((.ptr 0 0) :: (.row 1) :: (.int .i64 v677) :: (un 53 []))))), [(0, .blk (Cod.enc lift_leafC v678)), (1, rowE intC v679 v680)], 2⟩
def lift_Doors_x15_2 (q0 : Bool) (q1 : Arr Int) : St := ⟨(un 10 ((.row 0) :: (un 54 []))), [(0, rowE intC q0 q1)], 1⟩
def lift_Doors_b15 {R : Type} (N : Nat) (rc : Arr Int → Int → lift_leaf → Bool → Arr Int → Option R) (v676 : Arr Int) (v677 : Int) (v678 : lift_leaf) (v679 : Bool) (v680 : Arr Int) (k2 : Bool → Arr Int → Option R) : Option R :=
  bif v677 == (0 : Int) then
   slices_Contains___int_int_ N v676 v677 (fun r691 =>
   lift_leaf_tick N r691 v678 (fun r700 =>
   bif room (Arr.n v680 + (1 : Nat)) then
    rc v676 (w64 (v677 + (1 : Int))) r700 false (lst intC (Arr.n v680 + (1 : Nat)) (catC (Arr.n v680) (Cod.cell intC (Arr.f v680)) (litC [SV.int IntKind.i64 (0 : Int)] [[SV.int IntKind.i64 (lift_leaf.f_at r700)]])))
   else
    Option.none))
  else
   bif decide (lift_leaf.f_at v678 > (0 : Int)) then
    slices_Contains___int_int_ N v676 v677 (fun r701 =>
    lift_leaf_tick N r701 v678 (fun r702 =>
    bif room (Arr.n v680 + (1 : Nat)) then
     rc v676 (w64 (v677 + (1 : Int))) r702 false (lst intC (Arr.n v680 + (1 : Nat)) (catC (Arr.n v680) (Cod.cell intC (Arr.f v680)) (litC [SV.int IntKind.i64 (0 : Int)] [[SV.int IntKind.i64 (lift_leaf.f_at r702)]])))
    else
     Option.none))
   else
    k2 v679 v680
def lift_Doors_l15 {R : Type} (N : Nat) : Nat → Arr Int → Int → lift_leaf → Bool → Arr Int → (Bool → Arr Int → Option R) → Option R
  | 0, _, _, _, _, _, _ => Option.none
  | n + 1, v676, v677, v678, v679, v680, k2 => lift_Doors_b15 N (fun v676 v677 v678 v679 v680 => lift_Doors_l15 N n v676 v677 v678 v679 v680 k2) v676 v677 v678 v679 v680 k2


def lift_Doors_m {R : Type} (N : Nat) (a664 : api_Door) (a665 : Arr Int) (k : Int → Bool → Arr Int → Option R) : Option R :=
  lift_checkDoor N a664 (fun r666 =>
  bif r666 != (0 : Int) then
   k r666 true (lst intC (0 : Nat) (zeroC [SV.int IntKind.i64 (0 : Int)]))
  else
   bif decide ((↑(Arr.n a665) : Int) > (20 : Int)) then
    k (1 : Int) true (lst intC (0 : Nat) (zeroC [SV.int IntKind.i64 (0 : Int)]))
   else
    lift_Doors_l7 N N a665 a665 ((↑(Arr.n a665) : Int)) (0 : Int) a664 (fun r673 r674 r675 =>
     k r673 r674 r675) (fun (_ : Unit) =>
     lift_Doors_l15 N N a665 (0 : Int) (lift_leaf.mk a664 (0 : Int) (0 : Int) (0 : Int)) true (lst intC (0 : Nat) (zeroC [SV.int IntKind.i64 (0 : Int)])) (fun r703 r704 =>
      k (0 : Int) r703 r704)))
noncomputable def lift_Doors {R : Type} : Nat → api_Door → Arr Int → (Int → Bool → Arr Int → Option R) → Option R := lock (@lift_Doors_m R)
theorem lift_Doors_def {R : Type} (N : Nat) (a664 : api_Door) (a665 : Arr Int) (k : Int → Bool → Arr Int → Option R) : lift_Doors N a664 a665 k = lift_Doors_m N a664 a665 k := by unfold lift_Doors; rw [lock_eq]
def lift_Doors_sp : Sp := ⟨[rAgg api_DoorC, rSl intC], []⟩
theorem lift_Doors_sp_ok : lift_Doors_sp.Ok := ⟨(allCons (rAgg_ok api_DoorC_ok api_DoorC_len) (allCons (rSl_ok intC_ok) allNil)), eNil⟩
def lift_Doors_rs : Sp := ⟨[rTup [rRow 0, rInt .i64]], [(0, eRow intC)]⟩
theorem lift_Doors_rs_ok : lift_Doors_rs.Ok := ⟨(allCons (rTup_ok (allCons (rRow_ok 0) (allCons (rInt_ok .i64) allNil))) allNil), (eCons (eRow_ok intC_ok) eNil)⟩
def lift_Doors_run {R : Type} (N : Nat) (args : List SV) (T : Tab) (kf : SV × Tab → Option R) : Option R :=
  lift_Doors_m N (Cod.dec api_DoorC (lget (toCs (lget args 0)))) (lstC intC (lget args 1)) (fun q0 q1 q2 => kf (lget [.tup [.row 0, .int .i64 q0]] 0, [(0, rowE intC q1 q2)]))
def lift_Doors_d15 {R : Type} (N : Nat) (S0 : St) (k : Exit → St → Option R) : Option R :=
  lift_Doors_l15 N N (lstC intC (lget S0.tmps 1)) (toI (lget S0.tmps 11)) (Cod.dec lift_leafC (lget (entCs (entAt S0.tab 0)))) (entNl (entAt S0.tab 1)) (lst intC (entN (entAt S0.tab 1)) (entC (entAt S0.tab 1))) (fun q0 q1 => k (.exit 2) (lift_Doors_x15_2 q0 q1))
def lift_Doors_d7 {R : Type} (N : Nat) (S0 : St) (k : Exit → St → Option R) : Option R :=
  lift_Doors_l7 N N (lstC intC (lget S0.tmps 1)) (lstC intC (lget S0.tmps 20)) (toI (lget S0.tmps 21)) (toI (lget S0.tmps 22)) (Cod.dec api_DoorC (lget (entCs (entAt S0.tab 0)))) (fun q0 q1 q2 => k .ret (lift_Doors_x7_r q0 q1 q2)) (fun (_ : Unit) => k (.exit 0) (lift_Doors_x7_0 (lstC intC (lget S0.tmps 1)) (Cod.dec api_DoorC (lget (entCs (entAt S0.tab 0))))))
def lift_Doors_lp {R : Type} (N : Nat) : Lp R := fun body S k => bif (Go.Sx.keyOf body).getD 0 == 7 then lift_Doors_L7.head.raw 0 S (fun S0 => lift_Doors_d7 N S0 k) else bif (Go.Sx.keyOf body).getD 0 == 15 then lift_Doors_L15.head.raw 0 S (fun S0 => lift_Doors_d15 N S0 k) else Option.none
theorem lift_Doors_l7_eq {R : Type} (N : Nat) (k : Exit → St → Option R) (n : Nat) : ∀ (v0 : Arr Int) (v1 : Arr Int) (v2 : Int) (v3 : Int) (v4 : api_Door), loopM E.Θ (lift_leaf_tick_cal N) (lift_Doors_lp N) 0 lift_Doors_L7 (bodyAt E 42 7) n (lift_Doors_h7 v0 v1 v2 v3 v4) k = lift_Doors_l7 N n v0 v1 v2 v3 v4 (fun q0 q1 q2 => k .ret (lift_Doors_x7_r q0 q1 q2)) (fun (_ : Unit) => k (.exit 0) (lift_Doors_x7_0 v0 v4)) := by
  induction n with
  | zero => intro v0 v1 v2 v3 v4; rfl
  | succ n ih =>
    intro v0 v1 v2 v3 v4
    refine Eq.trans (b := lift_Doors_b7 N (fun v0 v1 v2 v3 v4 => loopM E.Θ (lift_leaf_tick_cal N) (lift_Doors_lp N) 0 lift_Doors_L7 (bodyAt E 42 7) n (lift_Doors_h7 v0 v1 v2 v3 v4) k) v0 v1 v2 v3 v4 (fun q0 q1 q2 => k .ret (lift_Doors_x7_r q0 q1 q2)) (fun (_ : Unit) => k (.exit 0) (lift_Doors_x7_0 v0 v4))) (by kernel_rfl) ?_
    have h : (fun (v0 : Arr Int) (v1 : Arr Int) (v2 : Int) (v3 : Int) (v4 : api_Door) => loopM E.Θ (lift_leaf_tick_cal N) (lift_Doors_lp N) 0 lift_Doors_L7 (bodyAt E 42 7) n (lift_Doors_h7 v0 v1 v2 v3 v4) k) = (fun (v0 : Arr Int) (v1 : Arr Int) (v2 : Int) (v3 : Int) (v4 : api_Door) => lift_Doors_l7 N n v0 v1 v2 v3 v4 (fun q0 q1 q2 => k .ret (lift_Doors_x7_r q0 q1 q2)) (fun (_ : Unit) => k (.exit 0) (lift_Doors_x7_0 v0 v4))) := funext fun v0 => funext fun v1 => funext fun v2 => funext fun v3 => funext fun v4 => ih v0 v1 v2 v3 v4
    rw [h]
    rfl
theorem lift_Doors_l15_eq {R : Type} (N : Nat) (k : Exit → St → Option R) (n : Nat) : ∀ (v0 : Arr Int) (v1 : Int) (v2 : lift_leaf) (v3 : Bool) (v4 : Arr Int), loopM E.Θ (lift_leaf_tick_cal N) (lift_Doors_lp N) 0 lift_Doors_L15 (bodyAt E 42 15) n (lift_Doors_h15 v0 v1 v2 v3 v4) k = lift_Doors_l15 N n v0 v1 v2 v3 v4 (fun q0 q1 => k (.exit 2) (lift_Doors_x15_2 q0 q1)) := by
  induction n with
  | zero => intro v0 v1 v2 v3 v4; rfl
  | succ n ih =>
    intro v0 v1 v2 v3 v4
    refine Eq.trans (b := lift_Doors_b15 N (fun v0 v1 v2 v3 v4 => loopM E.Θ (lift_leaf_tick_cal N) (lift_Doors_lp N) 0 lift_Doors_L15 (bodyAt E 42 15) n (lift_Doors_h15 v0 v1 v2 v3 v4) k) v0 v1 v2 v3 v4 (fun q0 q1 => k (.exit 2) (lift_Doors_x15_2 q0 q1))) (by kernel_rfl) ?_
    have h : (fun (v0 : Arr Int) (v1 : Int) (v2 : lift_leaf) (v3 : Bool) (v4 : Arr Int) => loopM E.Θ (lift_leaf_tick_cal N) (lift_Doors_lp N) 0 lift_Doors_L15 (bodyAt E 42 15) n (lift_Doors_h15 v0 v1 v2 v3 v4) k) = (fun (v0 : Arr Int) (v1 : Int) (v2 : lift_leaf) (v3 : Bool) (v4 : Arr Int) => lift_Doors_l15 N n v0 v1 v2 v3 v4 (fun q0 q1 => k (.exit 2) (lift_Doors_x15_2 q0 q1))) := funext fun v0 => funext fun v1 => funext fun v2 => funext fun v3 => funext fun v4 => ih v0 v1 v2 v3 v4
    rw [h]
    rfl
theorem lift_Doors_k15 {R : Type} (N : Nat) : LpKey (R := R) E 42 0 (lift_Doors_lp N) 15 :=
  lpKey_of hE (lift_leaf_tick_cal_ok N) lift_Doors_L15_ok [] kNil (by kernel_rfl) N fun S k =>
    Eq.trans (b := lift_Doors_L15.head.raw 0 S (fun S0 => lift_Doors_d15 N S0 k)) (by kernel_rfl) (congrArg (lift_Doors_L15.head.raw 0 S) (funext fun S0 => Eq.trans (lift_Doors_l15_eq N k N (lstC intC (lget S0.tmps 1)) (toI (lget S0.tmps 11)) (Cod.dec lift_leafC (lget (entCs (entAt S0.tab 0)))) (entNl (entAt S0.tab 1)) (lst intC (entN (entAt S0.tab 1)) (entC (entAt S0.tab 1)))).symm (by kernel_rfl)))
theorem lift_Doors_k7 {R : Type} (N : Nat) : LpKey (R := R) E 42 0 (lift_Doors_lp N) 7 :=
  lpKey_of hE (lift_leaf_tick_cal_ok N) lift_Doors_L7_ok [] kNil (by kernel_rfl) N fun S k =>
    Eq.trans (b := lift_Doors_L7.head.raw 0 S (fun S0 => lift_Doors_d7 N S0 k)) (by kernel_rfl) (congrArg (lift_Doors_L7.head.raw 0 S) (funext fun S0 => Eq.trans (lift_Doors_l7_eq N k N (lstC intC (lget S0.tmps 1)) (lstC intC (lget S0.tmps 20)) (toI (lget S0.tmps 21)) (toI (lget S0.tmps 22)) (Cod.dec api_DoorC (lget (entCs (entAt S0.tab 0))))).symm (by kernel_rfl)))
noncomputable def lift_Doors_go {R : Type} (N : Nat) (args : List SV) (T : Tab) (kf : SV × Tab → Option R) : Option R :=
  lift_Doors N (Cod.dec api_DoorC (lget (toCs (lget args 0)))) (lstC intC (lget args 1)) (fun q0 q1 q2 => kf (lget [.tup [.row 0, .int .i64 q0]] 0, [(0, rowE intC q1 q2)]))
noncomputable def lift_Doors_cal {R : Type} (N : Nat) : Cal R := callM (lift_leaf_tick_cal N) 42 0 lift_Doors_sp (lift_Doors_go N)
theorem lift_Doors_cal_ok {R : Type} (N : Nat) : CalOk E.P (lift_Doors_cal (R := R) N) :=
  callM_ok hE (lift_leaf_tick_cal_ok N) (lp := lift_Doors_lp N) (keys := [7, 15]) (kCons (lift_Doors_k7 N) (kCons (lift_Doors_k15 N) kNil)) (by kernel_rfl) lift_Doors_sp_ok lift_Doors_rs_ok (fun args T kf => Eq.trans (lift_Doors_def N (Cod.dec api_DoorC (lget (toCs (lget args 0)))) (lstC intC (lget args 1)) (fun q0 q1 q2 => kf (lget [.tup [.row 0, .int .i64 q0]] 0, [(0, rowE intC q1 q2)]))) (by kernel_rfl : lift_Doors_run N args T kf = fnM E (lift_leaf_tick_cal N) (lift_Doors_lp N) 42 (lift_Doors_sp.vs args) (lift_Doors_sp.tab T) 0 (resK lift_Doors_rs kf)))

def newelref05_broken_L2 : LoopSp := ⟨⟨[0, 1, 5], ⟨((rSl intC) :: (rInt .i64) :: (dr 3 ((rInt .i64) :: (dr 12 [])))), []⟩, 0⟩, [(Option.none, ⟨[4], ⟨(dr 4 ((rBool) :: (dr 13 []))), []⟩, 0⟩), (some 0, ⟨[], ⟨(dr 18 []), []⟩, 0⟩)]⟩
theorem newelref05_broken_L2_ok : newelref05_broken_L2.Ok := ⟨⟨(allCons (rSl_ok intC_ok) (allCons (rInt_ok .i64) (drCons 3 (allCons (rInt_ok .i64) (drCons 12 allNil))))), eNil⟩, (xCons ⟨(drCons 4 (allCons rBool_ok (drCons 13 allNil))), eNil⟩ (xCons ⟨(drCons 18 allNil), eNil⟩ xNil))⟩
def newelref05_broken_h2 (v719 : Arr Int) (v720 : Int) (v721 : Int) : St := ⟨((slC intC v719) :: (.int .i64 v720) :: (un 3 ((.int .i64 v721) :: (un 12 [])))), [], 0⟩
def newelref05_broken_x2_r (q0 : Bool) : St := ⟨(un 4 ((.bool q0) :: (un 13 []))), [], 0⟩
def newelref05_broken_x2_0  : St := ⟨(un 18 []), [], 0⟩
def newelref05_broken_b2 {R : Type} (N : Nat) (rc : Arr Int → Int → Int → Option R) (v719 : Arr Int) (v720 : Int) (v721 : Int) (kr : Bool → Option R) (k0 : Unit → Option R) : Option R :=
  bif decide (v721 < (↑(Arr.n v719) : Int)) then
   bif decide ((0 : Int) ≤ v721) && decide (v721 < (↑(Arr.n v719) : Int)) then
    bif Arr.f v719 (Int.toNat v721) == v720 then
     kr true
    else
     rc v719 v720 (w64 (v721 + (1 : Int)))
   else
    Option.none
  else
   k0 ()
def newelref05_broken_l2 {R : Type} (N : Nat) : Nat → Arr Int → Int → Int → (Bool → Option R) → (Unit → Option R) → Option R
  | 0, _, _, _, _, _ => Option.none
  | n + 1, v719, v720, v721, kr, k0 => newelref05_broken_b2 N (fun v719 v720 v721 => newelref05_broken_l2 N n v719 v720 v721 kr k0) v719 v720 v721 kr k0


def newelref05_broken_m {R : Type} (N : Nat) (a717 : Arr Int) (a718 : Int) (k : Bool → Option R) : Option R :=
  newelref05_broken_l2 N N a717 a718 (0 : Int) (fun r722 =>
   k r722) (fun (_ : Unit) =>
   k false)
noncomputable def newelref05_broken {R : Type} : Nat → Arr Int → Int → (Bool → Option R) → Option R := lock (@newelref05_broken_m R)
theorem newelref05_broken_def {R : Type} (N : Nat) (a717 : Arr Int) (a718 : Int) (k : Bool → Option R) : newelref05_broken N a717 a718 k = newelref05_broken_m N a717 a718 k := by unfold newelref05_broken; rw [lock_eq]
def newelref05_broken_sp : Sp := ⟨[rSl intC, rInt .i64], []⟩
theorem newelref05_broken_sp_ok : newelref05_broken_sp.Ok := ⟨(allCons (rSl_ok intC_ok) (allCons (rInt_ok .i64) allNil)), eNil⟩
def newelref05_broken_rs : Sp := ⟨[rBool], []⟩
theorem newelref05_broken_rs_ok : newelref05_broken_rs.Ok := ⟨(allCons rBool_ok allNil), eNil⟩
def newelref05_broken_run {R : Type} (N : Nat) (args : List SV) (T : Tab) (kf : SV × Tab → Option R) : Option R :=
  newelref05_broken_m N (lstC intC (lget args 0)) (toI (lget args 1)) (fun q0 => kf (lget [.bool q0] 0, []))
def newelref05_broken_d2 {R : Type} (N : Nat) (S0 : St) (k : Exit → St → Option R) : Option R :=
  newelref05_broken_l2 N N (lstC intC (lget S0.tmps 0)) (toI (lget S0.tmps 1)) (toI (lget S0.tmps 5)) (fun q0 => k .ret (newelref05_broken_x2_r q0)) (fun (_ : Unit) => k (.exit 0) (newelref05_broken_x2_0 ))
def newelref05_broken_lp {R : Type} (N : Nat) : Lp R := fun body S k => bif (Go.Sx.keyOf body).getD 0 == 2 then newelref05_broken_L2.head.raw 0 S (fun S0 => newelref05_broken_d2 N S0 k) else Option.none
theorem newelref05_broken_l2_eq {R : Type} (N : Nat) (k : Exit → St → Option R) (n : Nat) : ∀ (v0 : Arr Int) (v1 : Int) (v2 : Int), loopM E.Θ (lift_Doors_cal N) (newelref05_broken_lp N) 0 newelref05_broken_L2 (bodyAt E 80 2) n (newelref05_broken_h2 v0 v1 v2) k = newelref05_broken_l2 N n v0 v1 v2 (fun q0 => k .ret (newelref05_broken_x2_r q0)) (fun (_ : Unit) => k (.exit 0) (newelref05_broken_x2_0 )) := by
  induction n with
  | zero => intro v0 v1 v2; rfl
  | succ n ih =>
    intro v0 v1 v2
    refine Eq.trans (b := newelref05_broken_b2 N (fun v0 v1 v2 => loopM E.Θ (lift_Doors_cal N) (newelref05_broken_lp N) 0 newelref05_broken_L2 (bodyAt E 80 2) n (newelref05_broken_h2 v0 v1 v2) k) v0 v1 v2 (fun q0 => k .ret (newelref05_broken_x2_r q0)) (fun (_ : Unit) => k (.exit 0) (newelref05_broken_x2_0 ))) (by kernel_rfl) ?_
    have h : (fun (v0 : Arr Int) (v1 : Int) (v2 : Int) => loopM E.Θ (lift_Doors_cal N) (newelref05_broken_lp N) 0 newelref05_broken_L2 (bodyAt E 80 2) n (newelref05_broken_h2 v0 v1 v2) k) = (fun (v0 : Arr Int) (v1 : Int) (v2 : Int) => newelref05_broken_l2 N n v0 v1 v2 (fun q0 => k .ret (newelref05_broken_x2_r q0)) (fun (_ : Unit) => k (.exit 0) (newelref05_broken_x2_0 ))) := funext fun v0 => funext fun v1 => funext fun v2 => ih v0 v1 v2
    rw [h]
    rfl
theorem newelref05_broken_k2 {R : Type} (N : Nat) : LpKey (R := R) E 80 0 (newelref05_broken_lp N) 2 :=
  lpKey_of hE (lift_Doors_cal_ok N) newelref05_broken_L2_ok [] kNil (by kernel_rfl) N fun S k =>
    Eq.trans (b := newelref05_broken_L2.head.raw 0 S (fun S0 => newelref05_broken_d2 N S0 k)) (by kernel_rfl) (congrArg (newelref05_broken_L2.head.raw 0 S) (funext fun S0 => Eq.trans (newelref05_broken_l2_eq N k N (lstC intC (lget S0.tmps 0)) (toI (lget S0.tmps 1)) (toI (lget S0.tmps 5))).symm (by kernel_rfl)))
noncomputable def newelref05_broken_go {R : Type} (N : Nat) (args : List SV) (T : Tab) (kf : SV × Tab → Option R) : Option R :=
  newelref05_broken N (lstC intC (lget args 0)) (toI (lget args 1)) (fun q0 => kf (lget [.bool q0] 0, []))
noncomputable def newelref05_broken_cal {R : Type} (N : Nat) : Cal R := callM (lift_Doors_cal N) 80 0 newelref05_broken_sp (newelref05_broken_go N)
theorem newelref05_broken_cal_ok {R : Type} (N : Nat) : CalOk E.P (newelref05_broken_cal (R := R) N) :=
  callM_ok hE (lift_Doors_cal_ok N) (lp := newelref05_broken_lp N) (keys := [2]) (kCons (newelref05_broken_k2 N) kNil) (by kernel_rfl) newelref05_broken_sp_ok newelref05_broken_rs_ok (fun args T kf => Eq.trans (newelref05_broken_def N (lstC intC (lget args 0)) (toI (lget args 1)) (fun q0 => kf (lget [.bool q0] 0, []))) (by kernel_rfl : newelref05_broken_run N args T kf = fnM E (lift_Doors_cal N) (newelref05_broken_lp N) 80 (newelref05_broken_sp.vs args) (newelref05_broken_sp.tab T) 0 (resK newelref05_broken_rs kf)))

def newelref05_Doors_L9 : LoopSp := ⟨⟨[1, 2, 6, 7, 8, 9, 10], ⟨(dr 1 ((rSl intC) :: (rPtr 0 0) :: (dr 3 ((rInt .i64) :: (rInt .i64) :: (rInt .i64) :: (rRow 1) :: (rInt .i64) :: (dr 53 []))))), [(0, eBlkC api_DoorC), (1, eRow intC)]⟩, 2⟩, [(Option.none, ⟨[4, 5], ⟨(dr 4 ((rRow 0) :: (rInt .i64) :: (dr 58 []))), [(0, eRow intC)]⟩, 1⟩)]⟩
theorem newelref05_Doors_L9_ok : newelref05_Doors_L9.Ok := ⟨⟨(drCons 1 (allCons (rSl_ok intC_ok) (allCons (rPtr_ok 0 0) (drCons 3 (allCons (rInt_ok .i64) (allCons (rInt_ok .i64) (allCons (rInt_ok .i64) (allCons (rRow_ok 1) (allCons (rInt_ok .i64) (drCons 53 allNil)))))))))), (eCons (eBlkC_ok api_DoorC_ok api_DoorC_len) (eCons (eRow_ok intC_ok) eNil))⟩, (xCons ⟨(drCons 4 (allCons (rRow_ok 0) (allCons (rInt_ok .i64) (drCons 58 allNil)))), (eCons (eRow_ok intC_ok) eNil)⟩ xNil)⟩
def newelref05_Doors_h9 (v709 : Arr Int) (v710 : Int) (v711 : Int) (v712 : Int) (v713 : Int) (v714 : api_Door) (v715 : Bool) (v716 : Arr Int) : St := ⟨(un 1 ((slC intC v709) :: (.ptr 0 0) :: (un 3 ((.int .i64 v710) :: (.int .i64 v711) :: (.int .i64 v712) :: (.row 1) :: (.int .i64 v713) :: (un 53 []))))), [(0, .blk (Cod.enc api_DoorC v714)), (1, rowE intC v715 v716)], 2⟩
def newelref05_Doors_x9_r (q0 : Int) (q1 : Bool) (q2 : Arr Int) : St := ⟨(un 4 ((.row 0) :: (.int .i64 q0) :: (un 58 []))), [(0, rowE intC q1 q2)], 1⟩
def newelref05_Doors_b9 {R : Type} (N : Nat) (rc : Arr Int → Int → Int → Int → Int → api_Door → Bool → Arr Int → Option R) (v709 : Arr Int) (v710 : Int) (v711 : Int) (v712 : Int) (v713 : Int) (v714 : api_Door) (v715 : Bool) (v716 : Arr Int) (kr : Int → Bool → Arr Int → Option R) : Option R :=
  bif v712 != (0 : Int) then
   newelref05_broken N v709 v713 (fun r723 =>
   bif r723 then
    bif v710 == api_Door.Wide v714 then
     bif api_Door.Wait v714 == (0 : Int) then
      bif room (Arr.n v716 + (1 : Nat)) then
       bif w64 (v710 - (1 : Int)) == (0 : Int) then
        kr (0 : Int) false (lst intC (Arr.n v716 + (1 : Nat)) (catC (Arr.n v716) (Cod.cell intC (Arr.f v716)) (litC [SV.int IntKind.i64 (0 : Int)] [[SV.int IntKind.i64 (w64 (v710 - (1 : Int)))]])))
       else
        rc v709 (w64 (v710 - (1 : Int))) (api_Door.Wait v714) (2 : Int) (w64 (v713 + (1 : Int))) v714 false (lst intC (Arr.n v716 + (1 : Nat)) (catC (Arr.n v716) (Cod.cell intC (Arr.f v716)) (litC [SV.int IntKind.i64 (0 : Int)] [[SV.int IntKind.i64 (w64 (v710 - (1 : Int)))]])))
      else
       Option.none
     else
      bif room (Arr.n v716 + (1 : Nat)) then
       bif v710 == (0 : Int) then
        kr (0 : Int) false (lst intC (Arr.n v716 + (1 : Nat)) (catC (Arr.n v716) (Cod.cell intC (Arr.f v716)) (litC [SV.int IntKind.i64 (0 : Int)] [[SV.int IntKind.i64 v710]])))
       else
        rc v709 v710 (w64 (api_Door.Wait v714 - (1 : Int))) (1 : Int) (w64 (v713 + (1 : Int))) v714 false (lst intC (Arr.n v716 + (1 : Nat)) (catC (Arr.n v716) (Cod.cell intC (Arr.f v716)) (litC [SV.int IntKind.i64 (0 : Int)] [[SV.int IntKind.i64 v710]])))
      else
       Option.none
    else
     bif w64 (v710 + (1 : Int)) == api_Door.Wide v714 then
      bif room (Arr.n v716 + (1 : Nat)) then
       bif w64 (v710 + (1 : Int)) == (0 : Int) then
        kr (0 : Int) false (lst intC (Arr.n v716 + (1 : Nat)) (catC (Arr.n v716) (Cod.cell intC (Arr.f v716)) (litC [SV.int IntKind.i64 (0 : Int)] [[SV.int IntKind.i64 (w64 (v710 + (1 : Int)))]])))
       else
        rc v709 (w64 (v710 + (1 : Int))) (api_Door.Wait v714) (1 : Int) (w64 (v713 + (1 : Int))) v714 false (lst intC (Arr.n v716 + (1 : Nat)) (catC (Arr.n v716) (Cod.cell intC (Arr.f v716)) (litC [SV.int IntKind.i64 (0 : Int)] [[SV.int IntKind.i64 (w64 (v710 + (1 : Int)))]])))
      else
       Option.none
     else
      bif room (Arr.n v716 + (1 : Nat)) then
       bif w64 (v710 + (1 : Int)) == (0 : Int) then
        kr (0 : Int) false (lst intC (Arr.n v716 + (1 : Nat)) (catC (Arr.n v716) (Cod.cell intC (Arr.f v716)) (litC [SV.int IntKind.i64 (0 : Int)] [[SV.int IntKind.i64 (w64 (v710 + (1 : Int)))]])))
       else
        rc v709 (w64 (v710 + (1 : Int))) v711 (0 : Int) (w64 (v713 + (1 : Int))) v714 false (lst intC (Arr.n v716 + (1 : Nat)) (catC (Arr.n v716) (Cod.cell intC (Arr.f v716)) (litC [SV.int IntKind.i64 (0 : Int)] [[SV.int IntKind.i64 (w64 (v710 + (1 : Int)))]])))
      else
       Option.none
   else
    bif v712 == (1 : Int) then
     bif v711 == (0 : Int) then
      bif room (Arr.n v716 + (1 : Nat)) then
       bif w64 (v710 - (1 : Int)) == (0 : Int) then
        kr (0 : Int) false (lst intC (Arr.n v716 + (1 : Nat)) (catC (Arr.n v716) (Cod.cell intC (Arr.f v716)) (litC [SV.int IntKind.i64 (0 : Int)] [[SV.int IntKind.i64 (w64 (v710 - (1 : Int)))]])))
       else
        rc v709 (w64 (v710 - (1 : Int))) v711 (2 : Int) (w64 (v713 + (1 : Int))) v714 false (lst intC (Arr.n v716 + (1 : Nat)) (catC (Arr.n v716) (Cod.cell intC (Arr.f v716)) (litC [SV.int IntKind.i64 (0 : Int)] [[SV.int IntKind.i64 (w64 (v710 - (1 : Int)))]])))
      else
       Option.none
     else
      bif v712 == (0 : Int) then
       bif w64 (v710 + (1 : Int)) == api_Door.Wide v714 then
        bif room (Arr.n v716 + (1 : Nat)) then
         bif w64 (v710 + (1 : Int)) == (0 : Int) then
          kr (0 : Int) false (lst intC (Arr.n v716 + (1 : Nat)) (catC (Arr.n v716) (Cod.cell intC (Arr.f v716)) (litC [SV.int IntKind.i64 (0 : Int)] [[SV.int IntKind.i64 (w64 (v710 + (1 : Int)))]])))
         else
          rc v709 (w64 (v710 + (1 : Int))) (api_Door.Wait v714) (1 : Int) (w64 (v713 + (1 : Int))) v714 false (lst intC (Arr.n v716 + (1 : Nat)) (catC (Arr.n v716) (Cod.cell intC (Arr.f v716)) (litC [SV.int IntKind.i64 (0 : Int)] [[SV.int IntKind.i64 (w64 (v710 + (1 : Int)))]])))
        else
         Option.none
       else
        bif room (Arr.n v716 + (1 : Nat)) then
         bif w64 (v710 + (1 : Int)) == (0 : Int) then
          kr (0 : Int) false (lst intC (Arr.n v716 + (1 : Nat)) (catC (Arr.n v716) (Cod.cell intC (Arr.f v716)) (litC [SV.int IntKind.i64 (0 : Int)] [[SV.int IntKind.i64 (w64 (v710 + (1 : Int)))]])))
         else
          rc v709 (w64 (v710 + (1 : Int))) v711 v712 (w64 (v713 + (1 : Int))) v714 false (lst intC (Arr.n v716 + (1 : Nat)) (catC (Arr.n v716) (Cod.cell intC (Arr.f v716)) (litC [SV.int IntKind.i64 (0 : Int)] [[SV.int IntKind.i64 (w64 (v710 + (1 : Int)))]])))
        else
         Option.none
      else
       bif v712 == (1 : Int) then
        bif room (Arr.n v716 + (1 : Nat)) then
         bif v710 == (0 : Int) then
          kr (0 : Int) false (lst intC (Arr.n v716 + (1 : Nat)) (catC (Arr.n v716) (Cod.cell intC (Arr.f v716)) (litC [SV.int IntKind.i64 (0 : Int)] [[SV.int IntKind.i64 v710]])))
         else
          rc v709 v710 (w64 (v711 - (1 : Int))) v712 (w64 (v713 + (1 : Int))) v714 false (lst intC (Arr.n v716 + (1 : Nat)) (catC (Arr.n v716) (Cod.cell intC (Arr.f v716)) (litC [SV.int IntKind.i64 (0 : Int)] [[SV.int IntKind.i64 v710]])))
        else
         Option.none
       else
        bif v712 == (2 : Int) then
         bif room (Arr.n v716 + (1 : Nat)) then
          bif w64 (v710 - (1 : Int)) == (0 : Int) then
           kr (0 : Int) false (lst intC (Arr.n v716 + (1 : Nat)) (catC (Arr.n v716) (Cod.cell intC (Arr.f v716)) (litC [SV.int IntKind.i64 (0 : Int)] [[SV.int IntKind.i64 (w64 (v710 - (1 : Int)))]])))
          else
           rc v709 (w64 (v710 - (1 : Int))) v711 v712 (w64 (v713 + (1 : Int))) v714 false (lst intC (Arr.n v716 + (1 : Nat)) (catC (Arr.n v716) (Cod.cell intC (Arr.f v716)) (litC [SV.int IntKind.i64 (0 : Int)] [[SV.int IntKind.i64 (w64 (v710 - (1 : Int)))]])))
         else
          Option.none
        else
         bif room (Arr.n v716 + (1 : Nat)) then
          bif v710 == (0 : Int) then
           kr (0 : Int) false (lst intC (Arr.n v716 + (1 : Nat)) (catC (Arr.n v716) (Cod.cell intC (Arr.f v716)) (litC [SV.int IntKind.i64 (0 : Int)] [[SV.int IntKind.i64 v710]])))
          else
           rc v709 v710 v711 v712 (w64 (v713 + (1 : Int))) v714 false (lst intC (Arr.n v716 + (1 : Nat)) (catC (Arr.n v716) (Cod.cell intC (Arr.f v716)) (litC [SV.int IntKind.i64 (0 : Int)] [[SV.int IntKind.i64 v710]])))
         else
          Option.none
    else
     bif v712 == (0 : Int) then
      bif w64 (v710 + (1 : Int)) == api_Door.Wide v714 then
       bif room (Arr.n v716 + (1 : Nat)) then
        bif w64 (v710 + (1 : Int)) == (0 : Int) then
         kr (0 : Int) false (lst intC (Arr.n v716 + (1 : Nat)) (catC (Arr.n v716) (Cod.cell intC (Arr.f v716)) (litC [SV.int IntKind.i64 (0 : Int)] [[SV.int IntKind.i64 (w64 (v710 + (1 : Int)))]])))
        else
         rc v709 (w64 (v710 + (1 : Int))) (api_Door.Wait v714) (1 : Int) (w64 (v713 + (1 : Int))) v714 false (lst intC (Arr.n v716 + (1 : Nat)) (catC (Arr.n v716) (Cod.cell intC (Arr.f v716)) (litC [SV.int IntKind.i64 (0 : Int)] [[SV.int IntKind.i64 (w64 (v710 + (1 : Int)))]])))
       else
        Option.none
      else
       bif room (Arr.n v716 + (1 : Nat)) then
        bif w64 (v710 + (1 : Int)) == (0 : Int) then
         kr (0 : Int) false (lst intC (Arr.n v716 + (1 : Nat)) (catC (Arr.n v716) (Cod.cell intC (Arr.f v716)) (litC [SV.int IntKind.i64 (0 : Int)] [[SV.int IntKind.i64 (w64 (v710 + (1 : Int)))]])))
        else
         rc v709 (w64 (v710 + (1 : Int))) v711 v712 (w64 (v713 + (1 : Int))) v714 false (lst intC (Arr.n v716 + (1 : Nat)) (catC (Arr.n v716) (Cod.cell intC (Arr.f v716)) (litC [SV.int IntKind.i64 (0 : Int)] [[SV.int IntKind.i64 (w64 (v710 + (1 : Int)))]])))
       else
        Option.none
     else
      bif v712 == (1 : Int) then
       bif room (Arr.n v716 + (1 : Nat)) then
        bif v710 == (0 : Int) then
         kr (0 : Int) false (lst intC (Arr.n v716 + (1 : Nat)) (catC (Arr.n v716) (Cod.cell intC (Arr.f v716)) (litC [SV.int IntKind.i64 (0 : Int)] [[SV.int IntKind.i64 v710]])))
        else
         rc v709 v710 (w64 (v711 - (1 : Int))) v712 (w64 (v713 + (1 : Int))) v714 false (lst intC (Arr.n v716 + (1 : Nat)) (catC (Arr.n v716) (Cod.cell intC (Arr.f v716)) (litC [SV.int IntKind.i64 (0 : Int)] [[SV.int IntKind.i64 v710]])))
       else
        Option.none
      else
       bif v712 == (2 : Int) then
        bif room (Arr.n v716 + (1 : Nat)) then
         bif w64 (v710 - (1 : Int)) == (0 : Int) then
          kr (0 : Int) false (lst intC (Arr.n v716 + (1 : Nat)) (catC (Arr.n v716) (Cod.cell intC (Arr.f v716)) (litC [SV.int IntKind.i64 (0 : Int)] [[SV.int IntKind.i64 (w64 (v710 - (1 : Int)))]])))
         else
          rc v709 (w64 (v710 - (1 : Int))) v711 v712 (w64 (v713 + (1 : Int))) v714 false (lst intC (Arr.n v716 + (1 : Nat)) (catC (Arr.n v716) (Cod.cell intC (Arr.f v716)) (litC [SV.int IntKind.i64 (0 : Int)] [[SV.int IntKind.i64 (w64 (v710 - (1 : Int)))]])))
        else
         Option.none
       else
        bif room (Arr.n v716 + (1 : Nat)) then
         bif v710 == (0 : Int) then
          kr (0 : Int) false (lst intC (Arr.n v716 + (1 : Nat)) (catC (Arr.n v716) (Cod.cell intC (Arr.f v716)) (litC [SV.int IntKind.i64 (0 : Int)] [[SV.int IntKind.i64 v710]])))
         else
          rc v709 v710 v711 v712 (w64 (v713 + (1 : Int))) v714 false (lst intC (Arr.n v716 + (1 : Nat)) (catC (Arr.n v716) (Cod.cell intC (Arr.f v716)) (litC [SV.int IntKind.i64 (0 : Int)] [[SV.int IntKind.i64 v710]])))
        else
         Option.none)
  else
   bif v712 == (1 : Int) then
    bif v711 == (0 : Int) then
     bif room (Arr.n v716 + (1 : Nat)) then
      bif w64 (v710 - (1 : Int)) == (0 : Int) then
       kr (0 : Int) false (lst intC (Arr.n v716 + (1 : Nat)) (catC (Arr.n v716) (Cod.cell intC (Arr.f v716)) (litC [SV.int IntKind.i64 (0 : Int)] [[SV.int IntKind.i64 (w64 (v710 - (1 : Int)))]])))
      else
       rc v709 (w64 (v710 - (1 : Int))) v711 (2 : Int) (w64 (v713 + (1 : Int))) v714 false (lst intC (Arr.n v716 + (1 : Nat)) (catC (Arr.n v716) (Cod.cell intC (Arr.f v716)) (litC [SV.int IntKind.i64 (0 : Int)] [[SV.int IntKind.i64 (w64 (v710 - (1 : Int)))]])))
     else
      Option.none
    else
     bif v712 == (0 : Int) then
      bif w64 (v710 + (1 : Int)) == api_Door.Wide v714 then
       bif room (Arr.n v716 + (1 : Nat)) then
        bif w64 (v710 + (1 : Int)) == (0 : Int) then
         kr (0 : Int) false (lst intC (Arr.n v716 + (1 : Nat)) (catC (Arr.n v716) (Cod.cell intC (Arr.f v716)) (litC [SV.int IntKind.i64 (0 : Int)] [[SV.int IntKind.i64 (w64 (v710 + (1 : Int)))]])))
        else
         rc v709 (w64 (v710 + (1 : Int))) (api_Door.Wait v714) (1 : Int) (w64 (v713 + (1 : Int))) v714 false (lst intC (Arr.n v716 + (1 : Nat)) (catC (Arr.n v716) (Cod.cell intC (Arr.f v716)) (litC [SV.int IntKind.i64 (0 : Int)] [[SV.int IntKind.i64 (w64 (v710 + (1 : Int)))]])))
       else
        Option.none
      else
       bif room (Arr.n v716 + (1 : Nat)) then
        bif w64 (v710 + (1 : Int)) == (0 : Int) then
         kr (0 : Int) false (lst intC (Arr.n v716 + (1 : Nat)) (catC (Arr.n v716) (Cod.cell intC (Arr.f v716)) (litC [SV.int IntKind.i64 (0 : Int)] [[SV.int IntKind.i64 (w64 (v710 + (1 : Int)))]])))
        else
         rc v709 (w64 (v710 + (1 : Int))) v711 v712 (w64 (v713 + (1 : Int))) v714 false (lst intC (Arr.n v716 + (1 : Nat)) (catC (Arr.n v716) (Cod.cell intC (Arr.f v716)) (litC [SV.int IntKind.i64 (0 : Int)] [[SV.int IntKind.i64 (w64 (v710 + (1 : Int)))]])))
       else
        Option.none
     else
      bif v712 == (1 : Int) then
       bif room (Arr.n v716 + (1 : Nat)) then
        bif v710 == (0 : Int) then
         kr (0 : Int) false (lst intC (Arr.n v716 + (1 : Nat)) (catC (Arr.n v716) (Cod.cell intC (Arr.f v716)) (litC [SV.int IntKind.i64 (0 : Int)] [[SV.int IntKind.i64 v710]])))
        else
         rc v709 v710 (w64 (v711 - (1 : Int))) v712 (w64 (v713 + (1 : Int))) v714 false (lst intC (Arr.n v716 + (1 : Nat)) (catC (Arr.n v716) (Cod.cell intC (Arr.f v716)) (litC [SV.int IntKind.i64 (0 : Int)] [[SV.int IntKind.i64 v710]])))
       else
        Option.none
      else
       bif v712 == (2 : Int) then
        bif room (Arr.n v716 + (1 : Nat)) then
         bif w64 (v710 - (1 : Int)) == (0 : Int) then
          kr (0 : Int) false (lst intC (Arr.n v716 + (1 : Nat)) (catC (Arr.n v716) (Cod.cell intC (Arr.f v716)) (litC [SV.int IntKind.i64 (0 : Int)] [[SV.int IntKind.i64 (w64 (v710 - (1 : Int)))]])))
         else
          rc v709 (w64 (v710 - (1 : Int))) v711 v712 (w64 (v713 + (1 : Int))) v714 false (lst intC (Arr.n v716 + (1 : Nat)) (catC (Arr.n v716) (Cod.cell intC (Arr.f v716)) (litC [SV.int IntKind.i64 (0 : Int)] [[SV.int IntKind.i64 (w64 (v710 - (1 : Int)))]])))
        else
         Option.none
       else
        bif room (Arr.n v716 + (1 : Nat)) then
         bif v710 == (0 : Int) then
          kr (0 : Int) false (lst intC (Arr.n v716 + (1 : Nat)) (catC (Arr.n v716) (Cod.cell intC (Arr.f v716)) (litC [SV.int IntKind.i64 (0 : Int)] [[SV.int IntKind.i64 v710]])))
         else
          rc v709 v710 v711 v712 (w64 (v713 + (1 : Int))) v714 false (lst intC (Arr.n v716 + (1 : Nat)) (catC (Arr.n v716) (Cod.cell intC (Arr.f v716)) (litC [SV.int IntKind.i64 (0 : Int)] [[SV.int IntKind.i64 v710]])))
        else
         Option.none
   else
    bif v712 == (0 : Int) then
     bif w64 (v710 + (1 : Int)) == api_Door.Wide v714 then
      bif room (Arr.n v716 + (1 : Nat)) then
       bif w64 (v710 + (1 : Int)) == (0 : Int) then
        kr (0 : Int) false (lst intC (Arr.n v716 + (1 : Nat)) (catC (Arr.n v716) (Cod.cell intC (Arr.f v716)) (litC [SV.int IntKind.i64 (0 : Int)] [[SV.int IntKind.i64 (w64 (v710 + (1 : Int)))]])))
       else
        rc v709 (w64 (v710 + (1 : Int))) (api_Door.Wait v714) (1 : Int) (w64 (v713 + (1 : Int))) v714 false (lst intC (Arr.n v716 + (1 : Nat)) (catC (Arr.n v716) (Cod.cell intC (Arr.f v716)) (litC [SV.int IntKind.i64 (0 : Int)] [[SV.int IntKind.i64 (w64 (v710 + (1 : Int)))]])))
      else
       Option.none
     else
      bif room (Arr.n v716 + (1 : Nat)) then
       bif w64 (v710 + (1 : Int)) == (0 : Int) then
        kr (0 : Int) false (lst intC (Arr.n v716 + (1 : Nat)) (catC (Arr.n v716) (Cod.cell intC (Arr.f v716)) (litC [SV.int IntKind.i64 (0 : Int)] [[SV.int IntKind.i64 (w64 (v710 + (1 : Int)))]])))
       else
        rc v709 (w64 (v710 + (1 : Int))) v711 v712 (w64 (v713 + (1 : Int))) v714 false (lst intC (Arr.n v716 + (1 : Nat)) (catC (Arr.n v716) (Cod.cell intC (Arr.f v716)) (litC [SV.int IntKind.i64 (0 : Int)] [[SV.int IntKind.i64 (w64 (v710 + (1 : Int)))]])))
      else
       Option.none
    else
     bif v712 == (1 : Int) then
      bif room (Arr.n v716 + (1 : Nat)) then
       bif v710 == (0 : Int) then
        kr (0 : Int) false (lst intC (Arr.n v716 + (1 : Nat)) (catC (Arr.n v716) (Cod.cell intC (Arr.f v716)) (litC [SV.int IntKind.i64 (0 : Int)] [[SV.int IntKind.i64 v710]])))
       else
        rc v709 v710 (w64 (v711 - (1 : Int))) v712 (w64 (v713 + (1 : Int))) v714 false (lst intC (Arr.n v716 + (1 : Nat)) (catC (Arr.n v716) (Cod.cell intC (Arr.f v716)) (litC [SV.int IntKind.i64 (0 : Int)] [[SV.int IntKind.i64 v710]])))
      else
       Option.none
     else
      bif v712 == (2 : Int) then
       bif room (Arr.n v716 + (1 : Nat)) then
        bif w64 (v710 - (1 : Int)) == (0 : Int) then
         kr (0 : Int) false (lst intC (Arr.n v716 + (1 : Nat)) (catC (Arr.n v716) (Cod.cell intC (Arr.f v716)) (litC [SV.int IntKind.i64 (0 : Int)] [[SV.int IntKind.i64 (w64 (v710 - (1 : Int)))]])))
        else
         rc v709 (w64 (v710 - (1 : Int))) v711 v712 (w64 (v713 + (1 : Int))) v714 false (lst intC (Arr.n v716 + (1 : Nat)) (catC (Arr.n v716) (Cod.cell intC (Arr.f v716)) (litC [SV.int IntKind.i64 (0 : Int)] [[SV.int IntKind.i64 (w64 (v710 - (1 : Int)))]])))
       else
        Option.none
      else
       bif room (Arr.n v716 + (1 : Nat)) then
        bif v710 == (0 : Int) then
         kr (0 : Int) false (lst intC (Arr.n v716 + (1 : Nat)) (catC (Arr.n v716) (Cod.cell intC (Arr.f v716)) (litC [SV.int IntKind.i64 (0 : Int)] [[SV.int IntKind.i64 v710]])))
        else
         rc v709 v710 v711 v712 (w64 (v713 + (1 : Int))) v714 false (lst intC (Arr.n v716 + (1 : Nat)) (catC (Arr.n v716) (Cod.cell intC (Arr.f v716)) (litC [SV.int IntKind.i64 (0 : Int)] [[SV.int IntKind.i64 v710]])))
       else
        Option.none
def newelref05_Doors_l9 {R : Type} (N : Nat) : Nat → Arr Int → Int → Int → Int → Int → api_Door → Bool → Arr Int → (Int → Bool → Arr Int → Option R) → Option R
  | 0, _, _, _, _, _, _, _, _, _ => Option.none
  | n + 1, v709, v710, v711, v712, v713, v714, v715, v716, kr => newelref05_Doors_b9 N (fun v709 v710 v711 v712 v713 v714 v715 v716 => newelref05_Doors_l9 N n v709 v710 v711 v712 v713 v714 v715 v716 kr) v709 v710 v711 v712 v713 v714 v715 v716 kr


def newelref05_Doors_m {R : Type} (N : Nat) (a705 : api_Door) (a706 : Arr Int) (k : Int → Bool → Arr Int → Option R) : Option R :=
  newelref05_CheckDoor N a705 (fun r707 =>
  bif r707 != (0 : Int) then
   k (51 : Int) true (lst intC (0 : Nat) (zeroC [SV.int IntKind.i64 (0 : Int)]))
  else
   newelref05_Breaks N a706 (fun r708 =>
   bif !r708 then
    k (1 : Int) true (lst intC (0 : Nat) (zeroC [SV.int IntKind.i64 (0 : Int)]))
   else
    newelref05_Doors_l9 N N a706 (0 : Int) (0 : Int) (0 : Int) (0 : Int) a705 true (lst intC (0 : Nat) (zeroC [SV.int IntKind.i64 (0 : Int)])) (fun r724 r725 r726 =>
     k r724 r725 r726)))
noncomputable def newelref05_Doors {R : Type} : Nat → api_Door → Arr Int → (Int → Bool → Arr Int → Option R) → Option R := lock (@newelref05_Doors_m R)
theorem newelref05_Doors_def {R : Type} (N : Nat) (a705 : api_Door) (a706 : Arr Int) (k : Int → Bool → Arr Int → Option R) : newelref05_Doors N a705 a706 k = newelref05_Doors_m N a705 a706 k := by unfold newelref05_Doors; rw [lock_eq]
def newelref05_Doors_sp : Sp := ⟨[rAgg api_DoorC, rSl intC], []⟩
theorem newelref05_Doors_sp_ok : newelref05_Doors_sp.Ok := ⟨(allCons (rAgg_ok api_DoorC_ok api_DoorC_len) (allCons (rSl_ok intC_ok) allNil)), eNil⟩
def newelref05_Doors_rs : Sp := ⟨[rTup [rRow 0, rInt .i64]], [(0, eRow intC)]⟩
theorem newelref05_Doors_rs_ok : newelref05_Doors_rs.Ok := ⟨(allCons (rTup_ok (allCons (rRow_ok 0) (allCons (rInt_ok .i64) allNil))) allNil), (eCons (eRow_ok intC_ok) eNil)⟩
def newelref05_Doors_run {R : Type} (N : Nat) (args : List SV) (T : Tab) (kf : SV × Tab → Option R) : Option R :=
  newelref05_Doors_m N (Cod.dec api_DoorC (lget (toCs (lget args 0)))) (lstC intC (lget args 1)) (fun q0 q1 q2 => kf (lget [.tup [.row 0, .int .i64 q0]] 0, [(0, rowE intC q1 q2)]))
def newelref05_Doors_d9 {R : Type} (N : Nat) (S0 : St) (k : Exit → St → Option R) : Option R :=
  newelref05_Doors_l9 N N (lstC intC (lget S0.tmps 1)) (toI (lget S0.tmps 6)) (toI (lget S0.tmps 7)) (toI (lget S0.tmps 8)) (toI (lget S0.tmps 10)) (Cod.dec api_DoorC (lget (entCs (entAt S0.tab 0)))) (entNl (entAt S0.tab 1)) (lst intC (entN (entAt S0.tab 1)) (entC (entAt S0.tab 1))) (fun q0 q1 q2 => k .ret (newelref05_Doors_x9_r q0 q1 q2))
def newelref05_Doors_lp {R : Type} (N : Nat) : Lp R := fun body S k => bif (Go.Sx.keyOf body).getD 0 == 9 then newelref05_Doors_L9.head.raw 0 S (fun S0 => newelref05_Doors_d9 N S0 k) else Option.none
theorem newelref05_Doors_l9_eq {R : Type} (N : Nat) (k : Exit → St → Option R) (n : Nat) : ∀ (v0 : Arr Int) (v1 : Int) (v2 : Int) (v3 : Int) (v4 : Int) (v5 : api_Door) (v6 : Bool) (v7 : Arr Int), loopM E.Θ (newelref05_broken_cal N) (newelref05_Doors_lp N) 0 newelref05_Doors_L9 (bodyAt E 43 9) n (newelref05_Doors_h9 v0 v1 v2 v3 v4 v5 v6 v7) k = newelref05_Doors_l9 N n v0 v1 v2 v3 v4 v5 v6 v7 (fun q0 q1 q2 => k .ret (newelref05_Doors_x9_r q0 q1 q2)) := by
  induction n with
  | zero => intro v0 v1 v2 v3 v4 v5 v6 v7; rfl
  | succ n ih =>
    intro v0 v1 v2 v3 v4 v5 v6 v7
    refine Eq.trans (b := newelref05_Doors_b9 N (fun v0 v1 v2 v3 v4 v5 v6 v7 => loopM E.Θ (newelref05_broken_cal N) (newelref05_Doors_lp N) 0 newelref05_Doors_L9 (bodyAt E 43 9) n (newelref05_Doors_h9 v0 v1 v2 v3 v4 v5 v6 v7) k) v0 v1 v2 v3 v4 v5 v6 v7 (fun q0 q1 q2 => k .ret (newelref05_Doors_x9_r q0 q1 q2))) (by kernel_rfl) ?_
    have h : (fun (v0 : Arr Int) (v1 : Int) (v2 : Int) (v3 : Int) (v4 : Int) (v5 : api_Door) (v6 : Bool) (v7 : Arr Int) => loopM E.Θ (newelref05_broken_cal N) (newelref05_Doors_lp N) 0 newelref05_Doors_L9 (bodyAt E 43 9) n (newelref05_Doors_h9 v0 v1 v2 v3 v4 v5 v6 v7) k) = (fun (v0 : Arr Int) (v1 : Int) (v2 : Int) (v3 : Int) (v4 : Int) (v5 : api_Door) (v6 : Bool) (v7 : Arr Int) => newelref05_Doors_l9 N n v0 v1 v2 v3 v4 v5 v6 v7 (fun q0 q1 q2 => k .ret (newelref05_Doors_x9_r q0 q1 q2))) := funext fun v0 => funext fun v1 => funext fun v2 => funext fun v3 => funext fun v4 => funext fun v5 => funext fun v6 => funext fun v7 => ih v0 v1 v2 v3 v4 v5 v6 v7
    rw [h]
    rfl
theorem newelref05_Doors_k9 {R : Type} (N : Nat) : LpKey (R := R) E 43 0 (newelref05_Doors_lp N) 9 :=
  lpKey_of hE (newelref05_broken_cal_ok N) newelref05_Doors_L9_ok [] kNil (by kernel_rfl) N fun S k =>
    Eq.trans (b := newelref05_Doors_L9.head.raw 0 S (fun S0 => newelref05_Doors_d9 N S0 k)) (by kernel_rfl) (congrArg (newelref05_Doors_L9.head.raw 0 S) (funext fun S0 => Eq.trans (newelref05_Doors_l9_eq N k N (lstC intC (lget S0.tmps 1)) (toI (lget S0.tmps 6)) (toI (lget S0.tmps 7)) (toI (lget S0.tmps 8)) (toI (lget S0.tmps 10)) (Cod.dec api_DoorC (lget (entCs (entAt S0.tab 0)))) (entNl (entAt S0.tab 1)) (lst intC (entN (entAt S0.tab 1)) (entC (entAt S0.tab 1)))).symm (by kernel_rfl)))
noncomputable def newelref05_Doors_go {R : Type} (N : Nat) (args : List SV) (T : Tab) (kf : SV × Tab → Option R) : Option R :=
  newelref05_Doors N (Cod.dec api_DoorC (lget (toCs (lget args 0)))) (lstC intC (lget args 1)) (fun q0 q1 q2 => kf (lget [.tup [.row 0, .int .i64 q0]] 0, [(0, rowE intC q1 q2)]))
noncomputable def newelref05_Doors_cal {R : Type} (N : Nat) : Cal R := callM (newelref05_broken_cal N) 43 0 newelref05_Doors_sp (newelref05_Doors_go N)
theorem newelref05_Doors_cal_ok {R : Type} (N : Nat) : CalOk E.P (newelref05_Doors_cal (R := R) N) :=
  callM_ok hE (newelref05_broken_cal_ok N) (lp := newelref05_Doors_lp N) (keys := [9]) (kCons (newelref05_Doors_k9 N) kNil) (by kernel_rfl) newelref05_Doors_sp_ok newelref05_Doors_rs_ok (fun args T kf => Eq.trans (newelref05_Doors_def N (Cod.dec api_DoorC (lget (toCs (lget args 0)))) (lstC intC (lget args 1)) (fun q0 q1 q2 => kf (lget [.tup [.row 0, .int .i64 q0]] 0, [(0, rowE intC q1 q2)]))) (by kernel_rfl : newelref05_Doors_run N args T kf = fnM E (newelref05_broken_cal N) (newelref05_Doors_lp N) 43 (newelref05_Doors_sp.vs args) (newelref05_Doors_sp.tab T) 0 (resK newelref05_Doors_rs kf)))


def lift_dwell_m {R : Type} (N : Nat) (a727 : api_Door) (a728 : Int) (k : Int → Option R) : Option R :=
  k (w64 (w64 (w64 ((2 : Int) * api_Door.Wide a727) + api_Door.Wait a727) + w64 (a728 * w64 (w64 (w64 ((2 : Int) * api_Door.Wide a727) + api_Door.Wait a727) - (2 : Int)))))
noncomputable def lift_dwell {R : Type} : Nat → api_Door → Int → (Int → Option R) → Option R := lock (@lift_dwell_m R)
theorem lift_dwell_def {R : Type} (N : Nat) (a727 : api_Door) (a728 : Int) (k : Int → Option R) : lift_dwell N a727 a728 k = lift_dwell_m N a727 a728 k := by unfold lift_dwell; rw [lock_eq]
def lift_dwell_sp : Sp := ⟨[rAgg api_DoorC, rInt .i64], []⟩
theorem lift_dwell_sp_ok : lift_dwell_sp.Ok := ⟨(allCons (rAgg_ok api_DoorC_ok api_DoorC_len) (allCons (rInt_ok .i64) allNil)), eNil⟩
def lift_dwell_rs : Sp := ⟨[rInt .i64], []⟩
theorem lift_dwell_rs_ok : lift_dwell_rs.Ok := ⟨(allCons (rInt_ok .i64) allNil), eNil⟩
def lift_dwell_run {R : Type} (N : Nat) (args : List SV) (T : Tab) (kf : SV × Tab → Option R) : Option R :=
  lift_dwell_m N (Cod.dec api_DoorC (lget (toCs (lget args 0)))) (toI (lget args 1)) (fun q0 => kf (lget [.int .i64 q0] 0, []))
def lift_dwell_lp {R : Type} (N : Nat) : Lp R := fun body S k => Option.none
noncomputable def lift_dwell_go {R : Type} (N : Nat) (args : List SV) (T : Tab) (kf : SV × Tab → Option R) : Option R :=
  lift_dwell N (Cod.dec api_DoorC (lget (toCs (lget args 0)))) (toI (lget args 1)) (fun q0 => kf (lget [.int .i64 q0] 0, []))
noncomputable def lift_dwell_cal {R : Type} (N : Nat) : Cal R := callM (newelref05_Doors_cal N) 53 0 lift_dwell_sp (lift_dwell_go N)
theorem lift_dwell_cal_ok {R : Type} (N : Nat) : CalOk E.P (lift_dwell_cal (R := R) N) :=
  callM_ok hE (newelref05_Doors_cal_ok N) (lp := lift_dwell_lp N) (keys := []) kNil (by kernel_rfl) lift_dwell_sp_ok lift_dwell_rs_ok (fun args T kf => Eq.trans (lift_dwell_def N (Cod.dec api_DoorC (lget (toCs (lget args 0)))) (toI (lget args 1)) (fun q0 => kf (lget [.int .i64 q0] 0, []))) (by kernel_rfl : lift_dwell_run N args T kf = fnM E (newelref05_Doors_cal N) (lift_dwell_lp N) 53 (lift_dwell_sp.vs args) (lift_dwell_sp.tab T) 0 (resK lift_dwell_rs kf)))


def lift_Dwell_m {R : Type} (N : Nat) (a729 : api_Door) (a730 : Int) (k : Int → Int → Option R) : Option R :=
  lift_checkDoor N a729 (fun r731 =>
  bif r731 != (0 : Int) then
   k (0 : Int) r731
  else
   lift_between N a730 (0 : Int) (20 : Int) (fun r732 =>
   bif !r732 then
    k (0 : Int) (1 : Int)
   else
    lift_dwell N a729 a730 (fun r733 =>
    k r733 (0 : Int))))
noncomputable def lift_Dwell {R : Type} : Nat → api_Door → Int → (Int → Int → Option R) → Option R := lock (@lift_Dwell_m R)
theorem lift_Dwell_def {R : Type} (N : Nat) (a729 : api_Door) (a730 : Int) (k : Int → Int → Option R) : lift_Dwell N a729 a730 k = lift_Dwell_m N a729 a730 k := by unfold lift_Dwell; rw [lock_eq]
def lift_Dwell_sp : Sp := ⟨[rAgg api_DoorC, rInt .i64], []⟩
theorem lift_Dwell_sp_ok : lift_Dwell_sp.Ok := ⟨(allCons (rAgg_ok api_DoorC_ok api_DoorC_len) (allCons (rInt_ok .i64) allNil)), eNil⟩
def lift_Dwell_rs : Sp := ⟨[rTup [rInt .i64, rInt .i64]], []⟩
theorem lift_Dwell_rs_ok : lift_Dwell_rs.Ok := ⟨(allCons (rTup_ok (allCons (rInt_ok .i64) (allCons (rInt_ok .i64) allNil))) allNil), eNil⟩
def lift_Dwell_run {R : Type} (N : Nat) (args : List SV) (T : Tab) (kf : SV × Tab → Option R) : Option R :=
  lift_Dwell_m N (Cod.dec api_DoorC (lget (toCs (lget args 0)))) (toI (lget args 1)) (fun q0 q1 => kf (lget [.tup [.int .i64 q0, .int .i64 q1]] 0, []))
def lift_Dwell_lp {R : Type} (N : Nat) : Lp R := fun body S k => Option.none
noncomputable def lift_Dwell_go {R : Type} (N : Nat) (args : List SV) (T : Tab) (kf : SV × Tab → Option R) : Option R :=
  lift_Dwell N (Cod.dec api_DoorC (lget (toCs (lget args 0)))) (toI (lget args 1)) (fun q0 q1 => kf (lget [.tup [.int .i64 q0, .int .i64 q1]] 0, []))
noncomputable def lift_Dwell_cal {R : Type} (N : Nat) : Cal R := callM (lift_dwell_cal N) 44 0 lift_Dwell_sp (lift_Dwell_go N)
theorem lift_Dwell_cal_ok {R : Type} (N : Nat) : CalOk E.P (lift_Dwell_cal (R := R) N) :=
  callM_ok hE (lift_dwell_cal_ok N) (lp := lift_Dwell_lp N) (keys := []) kNil (by kernel_rfl) lift_Dwell_sp_ok lift_Dwell_rs_ok (fun args T kf => Eq.trans (lift_Dwell_def N (Cod.dec api_DoorC (lget (toCs (lget args 0)))) (toI (lget args 1)) (fun q0 q1 => kf (lget [.tup [.int .i64 q0, .int .i64 q1]] 0, []))) (by kernel_rfl : lift_Dwell_run N args T kf = fnM E (lift_dwell_cal N) (lift_Dwell_lp N) 44 (lift_Dwell_sp.vs args) (lift_Dwell_sp.tab T) 0 (resK lift_Dwell_rs kf)))


def newelref05_Dwell_m {R : Type} (N : Nat) (a734 : api_Door) (a735 : Int) (k : Int → Int → Option R) : Option R :=
  newelref05_CheckDoor N a734 (fun r736 =>
  bif r736 != (0 : Int) then
   k (0 : Int) (51 : Int)
  else
   newelref05_within N a735 (0 : Int) (20 : Int) (fun r737 =>
   bif !r737 then
    k (0 : Int) (1 : Int)
   else
    k (w64 (w64 (w64 ((2 : Int) * api_Door.Wide a734) + api_Door.Wait a734) + w64 (a735 * w64 (w64 ((2 : Int) * w64 (api_Door.Wide a734 - (1 : Int))) + api_Door.Wait a734)))) (0 : Int)))
noncomputable def newelref05_Dwell {R : Type} : Nat → api_Door → Int → (Int → Int → Option R) → Option R := lock (@newelref05_Dwell_m R)
theorem newelref05_Dwell_def {R : Type} (N : Nat) (a734 : api_Door) (a735 : Int) (k : Int → Int → Option R) : newelref05_Dwell N a734 a735 k = newelref05_Dwell_m N a734 a735 k := by unfold newelref05_Dwell; rw [lock_eq]
def newelref05_Dwell_sp : Sp := ⟨[rAgg api_DoorC, rInt .i64], []⟩
theorem newelref05_Dwell_sp_ok : newelref05_Dwell_sp.Ok := ⟨(allCons (rAgg_ok api_DoorC_ok api_DoorC_len) (allCons (rInt_ok .i64) allNil)), eNil⟩
def newelref05_Dwell_rs : Sp := ⟨[rTup [rInt .i64, rInt .i64]], []⟩
theorem newelref05_Dwell_rs_ok : newelref05_Dwell_rs.Ok := ⟨(allCons (rTup_ok (allCons (rInt_ok .i64) (allCons (rInt_ok .i64) allNil))) allNil), eNil⟩
def newelref05_Dwell_run {R : Type} (N : Nat) (args : List SV) (T : Tab) (kf : SV × Tab → Option R) : Option R :=
  newelref05_Dwell_m N (Cod.dec api_DoorC (lget (toCs (lget args 0)))) (toI (lget args 1)) (fun q0 q1 => kf (lget [.tup [.int .i64 q0, .int .i64 q1]] 0, []))
def newelref05_Dwell_lp {R : Type} (N : Nat) : Lp R := fun body S k => Option.none
noncomputable def newelref05_Dwell_go {R : Type} (N : Nat) (args : List SV) (T : Tab) (kf : SV × Tab → Option R) : Option R :=
  newelref05_Dwell N (Cod.dec api_DoorC (lget (toCs (lget args 0)))) (toI (lget args 1)) (fun q0 q1 => kf (lget [.tup [.int .i64 q0, .int .i64 q1]] 0, []))
noncomputable def newelref05_Dwell_cal {R : Type} (N : Nat) : Cal R := callM (lift_Dwell_cal N) 45 0 newelref05_Dwell_sp (newelref05_Dwell_go N)
theorem newelref05_Dwell_cal_ok {R : Type} (N : Nat) : CalOk E.P (newelref05_Dwell_cal (R := R) N) :=
  callM_ok hE (lift_Dwell_cal_ok N) (lp := newelref05_Dwell_lp N) (keys := []) kNil (by kernel_rfl) newelref05_Dwell_sp_ok newelref05_Dwell_rs_ok (fun args T kf => Eq.trans (newelref05_Dwell_def N (Cod.dec api_DoorC (lget (toCs (lget args 0)))) (toI (lget args 1)) (fun q0 q1 => kf (lget [.tup [.int .i64 q0, .int .i64 q1]] 0, []))) (by kernel_rfl : newelref05_Dwell_run N args T kf = fnM E (lift_Dwell_cal N) (newelref05_Dwell_lp N) 45 (newelref05_Dwell_sp.vs args) (newelref05_Dwell_sp.tab T) 0 (resK newelref05_Dwell_rs kf)))


def lift_Turn_m {R : Type} (N : Nat) (a738 : api_Lift) (a739 : api_Door) (a740 : Int) (a741 : Int) (a742 : Int) (k : Int → Int → Option R) : Option R :=
  lift_Check N a738 (fun r743 =>
  bif r743 != (0 : Int) then
   k (0 : Int) r743
  else
   lift_checkDoor N a739 (fun r744 =>
   bif r744 != (0 : Int) then
    k (0 : Int) r744
   else
    lift_distance N a738 a740 a741 (fun r745 r746 =>
    bif !r746 then
     k (0 : Int) (1 : Int)
    else
     lift_between N a742 (0 : Int) (20 : Int) (fun r747 =>
     bif !r747 then
      k (0 : Int) (1 : Int)
     else
      lift_trip N a738 r745 (fun r748 r749 =>
      lift_dwell N a739 a742 (fun r750 =>
      k (w64 ((↑(Arr.n r749) : Int) + r750)) (0 : Int)))))))
noncomputable def lift_Turn {R : Type} : Nat → api_Lift → api_Door → Int → Int → Int → (Int → Int → Option R) → Option R := lock (@lift_Turn_m R)
theorem lift_Turn_def {R : Type} (N : Nat) (a738 : api_Lift) (a739 : api_Door) (a740 : Int) (a741 : Int) (a742 : Int) (k : Int → Int → Option R) : lift_Turn N a738 a739 a740 a741 a742 k = lift_Turn_m N a738 a739 a740 a741 a742 k := by unfold lift_Turn; rw [lock_eq]
def lift_Turn_sp : Sp := ⟨[rAgg api_LiftC, rAgg api_DoorC, rInt .i64, rInt .i64, rInt .i64], []⟩
theorem lift_Turn_sp_ok : lift_Turn_sp.Ok := ⟨(allCons (rAgg_ok api_LiftC_ok api_LiftC_len) (allCons (rAgg_ok api_DoorC_ok api_DoorC_len) (allCons (rInt_ok .i64) (allCons (rInt_ok .i64) (allCons (rInt_ok .i64) allNil))))), eNil⟩
def lift_Turn_rs : Sp := ⟨[rTup [rInt .i64, rInt .i64]], []⟩
theorem lift_Turn_rs_ok : lift_Turn_rs.Ok := ⟨(allCons (rTup_ok (allCons (rInt_ok .i64) (allCons (rInt_ok .i64) allNil))) allNil), eNil⟩
def lift_Turn_run {R : Type} (N : Nat) (args : List SV) (T : Tab) (kf : SV × Tab → Option R) : Option R :=
  lift_Turn_m N (Cod.dec api_LiftC (lget (toCs (lget args 0)))) (Cod.dec api_DoorC (lget (toCs (lget args 1)))) (toI (lget args 2)) (toI (lget args 3)) (toI (lget args 4)) (fun q0 q1 => kf (lget [.tup [.int .i64 q0, .int .i64 q1]] 0, []))
def lift_Turn_lp {R : Type} (N : Nat) : Lp R := fun body S k => Option.none
noncomputable def lift_Turn_go {R : Type} (N : Nat) (args : List SV) (T : Tab) (kf : SV × Tab → Option R) : Option R :=
  lift_Turn N (Cod.dec api_LiftC (lget (toCs (lget args 0)))) (Cod.dec api_DoorC (lget (toCs (lget args 1)))) (toI (lget args 2)) (toI (lget args 3)) (toI (lget args 4)) (fun q0 q1 => kf (lget [.tup [.int .i64 q0, .int .i64 q1]] 0, []))
noncomputable def lift_Turn_cal {R : Type} (N : Nat) : Cal R := callM (newelref05_Dwell_cal N) 17 0 lift_Turn_sp (lift_Turn_go N)
theorem lift_Turn_cal_ok {R : Type} (N : Nat) : CalOk E.P (lift_Turn_cal (R := R) N) :=
  callM_ok hE (newelref05_Dwell_cal_ok N) (lp := lift_Turn_lp N) (keys := []) kNil (by kernel_rfl) lift_Turn_sp_ok lift_Turn_rs_ok (fun args T kf => Eq.trans (lift_Turn_def N (Cod.dec api_LiftC (lget (toCs (lget args 0)))) (Cod.dec api_DoorC (lget (toCs (lget args 1)))) (toI (lget args 2)) (toI (lget args 3)) (toI (lget args 4)) (fun q0 q1 => kf (lget [.tup [.int .i64 q0, .int .i64 q1]] 0, []))) (by kernel_rfl : lift_Turn_run N args T kf = fnM E (newelref05_Dwell_cal N) (lift_Turn_lp N) 17 (lift_Turn_sp.vs args) (lift_Turn_sp.tab T) 0 (resK lift_Turn_rs kf)))


def newelref05_Turn_m {R : Type} (N : Nat) (a751 : api_Lift) (a752 : api_Door) (a753 : Int) (a754 : Int) (a755 : Int) (k : Int → Int → Option R) : Option R :=
  newelref05_Check N a751 (fun r756 =>
  bif r756 != (0 : Int) then
   k (0 : Int) (50 : Int)
  else
   newelref05_CheckDoor N a752 (fun r757 =>
   bif r757 != (0 : Int) then
    k (0 : Int) (51 : Int)
   else
    newelref05_Trip N a751 a753 a754 (fun r758 r759 r760 =>
    bif r758 != (0 : Int) then
     k (0 : Int) r758
    else
     newelref05_Dwell N a752 a755 (fun r761 r762 =>
     bif r762 != (0 : Int) then
      k (0 : Int) r762
     else
      k (w64 ((↑(Arr.n r760) : Int) + r761)) (0 : Int)))))
noncomputable def newelref05_Turn {R : Type} : Nat → api_Lift → api_Door → Int → Int → Int → (Int → Int → Option R) → Option R := lock (@newelref05_Turn_m R)
theorem newelref05_Turn_def {R : Type} (N : Nat) (a751 : api_Lift) (a752 : api_Door) (a753 : Int) (a754 : Int) (a755 : Int) (k : Int → Int → Option R) : newelref05_Turn N a751 a752 a753 a754 a755 k = newelref05_Turn_m N a751 a752 a753 a754 a755 k := by unfold newelref05_Turn; rw [lock_eq]
def newelref05_Turn_sp : Sp := ⟨[rAgg api_LiftC, rAgg api_DoorC, rInt .i64, rInt .i64, rInt .i64], []⟩
theorem newelref05_Turn_sp_ok : newelref05_Turn_sp.Ok := ⟨(allCons (rAgg_ok api_LiftC_ok api_LiftC_len) (allCons (rAgg_ok api_DoorC_ok api_DoorC_len) (allCons (rInt_ok .i64) (allCons (rInt_ok .i64) (allCons (rInt_ok .i64) allNil))))), eNil⟩
def newelref05_Turn_rs : Sp := ⟨[rTup [rInt .i64, rInt .i64]], []⟩
theorem newelref05_Turn_rs_ok : newelref05_Turn_rs.Ok := ⟨(allCons (rTup_ok (allCons (rInt_ok .i64) (allCons (rInt_ok .i64) allNil))) allNil), eNil⟩
def newelref05_Turn_run {R : Type} (N : Nat) (args : List SV) (T : Tab) (kf : SV × Tab → Option R) : Option R :=
  newelref05_Turn_m N (Cod.dec api_LiftC (lget (toCs (lget args 0)))) (Cod.dec api_DoorC (lget (toCs (lget args 1)))) (toI (lget args 2)) (toI (lget args 3)) (toI (lget args 4)) (fun q0 q1 => kf (lget [.tup [.int .i64 q0, .int .i64 q1]] 0, []))
def newelref05_Turn_lp {R : Type} (N : Nat) : Lp R := fun body S k => Option.none
noncomputable def newelref05_Turn_go {R : Type} (N : Nat) (args : List SV) (T : Tab) (kf : SV × Tab → Option R) : Option R :=
  newelref05_Turn N (Cod.dec api_LiftC (lget (toCs (lget args 0)))) (Cod.dec api_DoorC (lget (toCs (lget args 1)))) (toI (lget args 2)) (toI (lget args 3)) (toI (lget args 4)) (fun q0 q1 => kf (lget [.tup [.int .i64 q0, .int .i64 q1]] 0, []))
noncomputable def newelref05_Turn_cal {R : Type} (N : Nat) : Cal R := callM (lift_Turn_cal N) 18 0 newelref05_Turn_sp (newelref05_Turn_go N)
theorem newelref05_Turn_cal_ok {R : Type} (N : Nat) : CalOk E.P (newelref05_Turn_cal (R := R) N) :=
  callM_ok hE (lift_Turn_cal_ok N) (lp := newelref05_Turn_lp N) (keys := []) kNil (by kernel_rfl) newelref05_Turn_sp_ok newelref05_Turn_rs_ok (fun args T kf => Eq.trans (newelref05_Turn_def N (Cod.dec api_LiftC (lget (toCs (lget args 0)))) (Cod.dec api_DoorC (lget (toCs (lget args 1)))) (toI (lget args 2)) (toI (lget args 3)) (toI (lget args 4)) (fun q0 q1 => kf (lget [.tup [.int .i64 q0, .int .i64 q1]] 0, []))) (by kernel_rfl : newelref05_Turn_run N args T kf = fnM E (lift_Turn_cal N) (newelref05_Turn_lp N) 18 (newelref05_Turn_sp.vs args) (newelref05_Turn_sp.tab T) 0 (resK newelref05_Turn_rs kf)))

def newellaw05_sameInts_L4 : LoopSp := ⟨⟨[0, 1, 5], ⟨((rSl intC) :: (rSl intC) :: (dr 3 ((rInt .i64) :: (dr 20 [])))), []⟩, 0⟩, [(Option.none, ⟨[4], ⟨(dr 4 ((rBool) :: (dr 21 []))), []⟩, 0⟩), (some 0, ⟨[], ⟨(dr 26 []), []⟩, 0⟩)]⟩
theorem newellaw05_sameInts_L4_ok : newellaw05_sameInts_L4.Ok := ⟨⟨(allCons (rSl_ok intC_ok) (allCons (rSl_ok intC_ok) (drCons 3 (allCons (rInt_ok .i64) (drCons 20 allNil))))), eNil⟩, (xCons ⟨(drCons 4 (allCons rBool_ok (drCons 21 allNil))), eNil⟩ (xCons ⟨(drCons 26 allNil), eNil⟩ xNil))⟩
def newellaw05_sameInts_h4 (v765 : Arr Int) (v766 : Arr Int) (v767 : Int) : St := ⟨((slC intC v765) :: (slC intC v766) :: (un 3 ((.int .i64 v767) :: (un 20 [])))), [], 0⟩
def newellaw05_sameInts_x4_r (q0 : Bool) : St := ⟨(un 4 ((.bool q0) :: (un 21 []))), [], 0⟩
def newellaw05_sameInts_x4_0  : St := ⟨(un 26 []), [], 0⟩
def newellaw05_sameInts_b4 {R : Type} (N : Nat) (rc : Arr Int → Arr Int → Int → Option R) (v765 : Arr Int) (v766 : Arr Int) (v767 : Int) (kr : Bool → Option R) (k0 : Unit → Option R) : Option R :=
  bif decide (v767 < (↑(Arr.n v765) : Int)) then
   bif decide ((0 : Int) ≤ v767) && decide (v767 < (↑(Arr.n v765) : Int)) then
    bif decide ((0 : Int) ≤ v767) && decide (v767 < (↑(Arr.n v766) : Int)) then
     bif Arr.f v765 (Int.toNat v767) != Arr.f v766 (Int.toNat v767) then
      kr false
     else
      rc v765 v766 (w64 (v767 + (1 : Int)))
    else
     Option.none
   else
    Option.none
  else
   k0 ()
def newellaw05_sameInts_l4 {R : Type} (N : Nat) : Nat → Arr Int → Arr Int → Int → (Bool → Option R) → (Unit → Option R) → Option R
  | 0, _, _, _, _, _ => Option.none
  | n + 1, v765, v766, v767, kr, k0 => newellaw05_sameInts_b4 N (fun v765 v766 v767 => newellaw05_sameInts_l4 N n v765 v766 v767 kr k0) v765 v766 v767 kr k0


def newellaw05_sameInts_m {R : Type} (N : Nat) (a763 : Arr Int) (a764 : Arr Int) (k : Bool → Option R) : Option R :=
  bif (↑(Arr.n a763) : Int) != (↑(Arr.n a764) : Int) then
   k false
  else
   newellaw05_sameInts_l4 N N a763 a764 (0 : Int) (fun r768 =>
    k r768) (fun (_ : Unit) =>
    k true)
noncomputable def newellaw05_sameInts {R : Type} : Nat → Arr Int → Arr Int → (Bool → Option R) → Option R := lock (@newellaw05_sameInts_m R)
theorem newellaw05_sameInts_def {R : Type} (N : Nat) (a763 : Arr Int) (a764 : Arr Int) (k : Bool → Option R) : newellaw05_sameInts N a763 a764 k = newellaw05_sameInts_m N a763 a764 k := by unfold newellaw05_sameInts; rw [lock_eq]
def newellaw05_sameInts_sp : Sp := ⟨[rSl intC, rSl intC], []⟩
theorem newellaw05_sameInts_sp_ok : newellaw05_sameInts_sp.Ok := ⟨(allCons (rSl_ok intC_ok) (allCons (rSl_ok intC_ok) allNil)), eNil⟩
def newellaw05_sameInts_rs : Sp := ⟨[rBool], []⟩
theorem newellaw05_sameInts_rs_ok : newellaw05_sameInts_rs.Ok := ⟨(allCons rBool_ok allNil), eNil⟩
def newellaw05_sameInts_run {R : Type} (N : Nat) (args : List SV) (T : Tab) (kf : SV × Tab → Option R) : Option R :=
  newellaw05_sameInts_m N (lstC intC (lget args 0)) (lstC intC (lget args 1)) (fun q0 => kf (lget [.bool q0] 0, []))
def newellaw05_sameInts_d4 {R : Type} (N : Nat) (S0 : St) (k : Exit → St → Option R) : Option R :=
  newellaw05_sameInts_l4 N N (lstC intC (lget S0.tmps 0)) (lstC intC (lget S0.tmps 1)) (toI (lget S0.tmps 5)) (fun q0 => k .ret (newellaw05_sameInts_x4_r q0)) (fun (_ : Unit) => k (.exit 0) (newellaw05_sameInts_x4_0 ))
def newellaw05_sameInts_lp {R : Type} (N : Nat) : Lp R := fun body S k => bif (Go.Sx.keyOf body).getD 0 == 4 then newellaw05_sameInts_L4.head.raw 0 S (fun S0 => newellaw05_sameInts_d4 N S0 k) else Option.none
theorem newellaw05_sameInts_l4_eq {R : Type} (N : Nat) (k : Exit → St → Option R) (n : Nat) : ∀ (v0 : Arr Int) (v1 : Arr Int) (v2 : Int), loopM E.Θ (newelref05_Turn_cal N) (newellaw05_sameInts_lp N) 0 newellaw05_sameInts_L4 (bodyAt E 36 4) n (newellaw05_sameInts_h4 v0 v1 v2) k = newellaw05_sameInts_l4 N n v0 v1 v2 (fun q0 => k .ret (newellaw05_sameInts_x4_r q0)) (fun (_ : Unit) => k (.exit 0) (newellaw05_sameInts_x4_0 )) := by
  induction n with
  | zero => intro v0 v1 v2; rfl
  | succ n ih =>
    intro v0 v1 v2
    refine Eq.trans (b := newellaw05_sameInts_b4 N (fun v0 v1 v2 => loopM E.Θ (newelref05_Turn_cal N) (newellaw05_sameInts_lp N) 0 newellaw05_sameInts_L4 (bodyAt E 36 4) n (newellaw05_sameInts_h4 v0 v1 v2) k) v0 v1 v2 (fun q0 => k .ret (newellaw05_sameInts_x4_r q0)) (fun (_ : Unit) => k (.exit 0) (newellaw05_sameInts_x4_0 ))) (by kernel_rfl) ?_
    have h : (fun (v0 : Arr Int) (v1 : Arr Int) (v2 : Int) => loopM E.Θ (newelref05_Turn_cal N) (newellaw05_sameInts_lp N) 0 newellaw05_sameInts_L4 (bodyAt E 36 4) n (newellaw05_sameInts_h4 v0 v1 v2) k) = (fun (v0 : Arr Int) (v1 : Arr Int) (v2 : Int) => newellaw05_sameInts_l4 N n v0 v1 v2 (fun q0 => k .ret (newellaw05_sameInts_x4_r q0)) (fun (_ : Unit) => k (.exit 0) (newellaw05_sameInts_x4_0 ))) := funext fun v0 => funext fun v1 => funext fun v2 => ih v0 v1 v2
    rw [h]
    rfl
theorem newellaw05_sameInts_k4 {R : Type} (N : Nat) : LpKey (R := R) E 36 0 (newellaw05_sameInts_lp N) 4 :=
  lpKey_of hE (newelref05_Turn_cal_ok N) newellaw05_sameInts_L4_ok [] kNil (by kernel_rfl) N fun S k =>
    Eq.trans (b := newellaw05_sameInts_L4.head.raw 0 S (fun S0 => newellaw05_sameInts_d4 N S0 k)) (by kernel_rfl) (congrArg (newellaw05_sameInts_L4.head.raw 0 S) (funext fun S0 => Eq.trans (newellaw05_sameInts_l4_eq N k N (lstC intC (lget S0.tmps 0)) (lstC intC (lget S0.tmps 1)) (toI (lget S0.tmps 5))).symm (by kernel_rfl)))
noncomputable def newellaw05_sameInts_go {R : Type} (N : Nat) (args : List SV) (T : Tab) (kf : SV × Tab → Option R) : Option R :=
  newellaw05_sameInts N (lstC intC (lget args 0)) (lstC intC (lget args 1)) (fun q0 => kf (lget [.bool q0] 0, []))
noncomputable def newellaw05_sameInts_cal {R : Type} (N : Nat) : Cal R := callM (newelref05_Turn_cal N) 36 0 newellaw05_sameInts_sp (newellaw05_sameInts_go N)
theorem newellaw05_sameInts_cal_ok {R : Type} (N : Nat) : CalOk E.P (newellaw05_sameInts_cal (R := R) N) :=
  callM_ok hE (newelref05_Turn_cal_ok N) (lp := newellaw05_sameInts_lp N) (keys := [4]) (kCons (newellaw05_sameInts_k4 N) kNil) (by kernel_rfl) newellaw05_sameInts_sp_ok newellaw05_sameInts_rs_ok (fun args T kf => Eq.trans (newellaw05_sameInts_def N (lstC intC (lget args 0)) (lstC intC (lget args 1)) (fun q0 => kf (lget [.bool q0] 0, []))) (by kernel_rfl : newellaw05_sameInts_run N args T kf = fnM E (newelref05_Turn_cal N) (newellaw05_sameInts_lp N) 36 (newellaw05_sameInts_sp.vs args) (newellaw05_sameInts_sp.tab T) 0 (resK newellaw05_sameInts_rs kf)))


def newellaw05_Example_m {R : Type} (N : Nat)  (k : Int → Int → Int → Int → Int → Int → Int → Int → Int → Int → Int → Bool → Arr Int → Option R) : Option R :=
  k (1000 : Int) (1400 : Int) (800 : Int) (2 : Int) (3 : Int) (2 : Int) (10 : Int) (3 : Int) (10 : Int) (1000 : Int) (20 : Int) false (lst intC (3 : Nat) (litC [SV.int IntKind.i64 (0 : Int)] [[SV.int IntKind.i64 (0 : Int)], [SV.int IntKind.i64 (40 : Int)], [SV.int IntKind.i64 (90 : Int)]]))
noncomputable def newellaw05_Example {R : Type} : Nat → (Int → Int → Int → Int → Int → Int → Int → Int → Int → Int → Int → Bool → Arr Int → Option R) → Option R := lock (@newellaw05_Example_m R)
theorem newellaw05_Example_def {R : Type} (N : Nat)  (k : Int → Int → Int → Int → Int → Int → Int → Int → Int → Int → Int → Bool → Arr Int → Option R) : newellaw05_Example N  k = newellaw05_Example_m N  k := by unfold newellaw05_Example; rw [lock_eq]
def newellaw05_Example_sp : Sp := ⟨[], []⟩
theorem newellaw05_Example_sp_ok : newellaw05_Example_sp.Ok := ⟨allNil, eNil⟩
def newellaw05_Example_rs : Sp := ⟨[rAggs [rInt .i64, rInt .i64, rInt .i64, rInt .i64, rRow 0, rInt .i64, rInt .i64, rInt .i64, rInt .i64, rInt .i64, rInt .i64, rInt .i64]], [(0, eRow intC)]⟩
theorem newellaw05_Example_rs_ok : newellaw05_Example_rs.Ok := ⟨(allCons (rAggs_ok (allCons (rInt_ok .i64) (allCons (rInt_ok .i64) (allCons (rInt_ok .i64) (allCons (rInt_ok .i64) (allCons (rRow_ok 0) (allCons (rInt_ok .i64) (allCons (rInt_ok .i64) (allCons (rInt_ok .i64) (allCons (rInt_ok .i64) (allCons (rInt_ok .i64) (allCons (rInt_ok .i64) (allCons (rInt_ok .i64) allNil))))))))))))) allNil), (eCons (eRow_ok intC_ok) eNil)⟩
def newellaw05_Example_run {R : Type} (N : Nat) (args : List SV) (T : Tab) (kf : SV × Tab → Option R) : Option R :=
  newellaw05_Example_m N  (fun q0 q1 q2 q3 q4 q5 q6 q7 q8 q9 q10 q11 q12 => kf (lget [.agg [.int .i64 q0, .int .i64 q1, .int .i64 q2, .int .i64 q3, .row 0, .int .i64 q4, .int .i64 q5, .int .i64 q6, .int .i64 q7, .int .i64 q8, .int .i64 q9, .int .i64 q10]] 0, [(0, rowE intC q11 q12)]))
def newellaw05_Example_lp {R : Type} (N : Nat) : Lp R := fun body S k => Option.none
noncomputable def newellaw05_Example_go {R : Type} (N : Nat) (args : List SV) (T : Tab) (kf : SV × Tab → Option R) : Option R :=
  newellaw05_Example N  (fun q0 q1 q2 q3 q4 q5 q6 q7 q8 q9 q10 q11 q12 => kf (lget [.agg [.int .i64 q0, .int .i64 q1, .int .i64 q2, .int .i64 q3, .row 0, .int .i64 q4, .int .i64 q5, .int .i64 q6, .int .i64 q7, .int .i64 q8, .int .i64 q9, .int .i64 q10]] 0, [(0, rowE intC q11 q12)]))
noncomputable def newellaw05_Example_cal {R : Type} (N : Nat) : Cal R := callM (newellaw05_sameInts_cal N) 48 0 newellaw05_Example_sp (newellaw05_Example_go N)
theorem newellaw05_Example_cal_ok {R : Type} (N : Nat) : CalOk E.P (newellaw05_Example_cal (R := R) N) :=
  callM_ok hE (newellaw05_sameInts_cal_ok N) (lp := newellaw05_Example_lp N) (keys := []) kNil (by kernel_rfl) newellaw05_Example_sp_ok newellaw05_Example_rs_ok (fun args T kf => Eq.trans (newellaw05_Example_def N  (fun q0 q1 q2 q3 q4 q5 q6 q7 q8 q9 q10 q11 q12 => kf (lget [.agg [.int .i64 q0, .int .i64 q1, .int .i64 q2, .int .i64 q3, .row 0, .int .i64 q4, .int .i64 q5, .int .i64 q6, .int .i64 q7, .int .i64 q8, .int .i64 q9, .int .i64 q10]] 0, [(0, rowE intC q11 q12)]))) (by kernel_rfl : newellaw05_Example_run N args T kf = fnM E (newellaw05_sameInts_cal N) (newellaw05_Example_lp N) 48 (newellaw05_Example_sp.vs args) (newellaw05_Example_sp.tab T) 0 (resK newellaw05_Example_rs kf)))


def newellaw05_works_m {R : Type} (N : Nat)  (k : Bool → Option R) : Option R :=
  newellaw05_Example N  (fun r769 r770 r771 r772 r773 r774 r775 r776 r777 r778 r779 r780 r781 =>
  lift_Turn N (api_Lift.mk r769 r770 r771 r772 r781 r773 r774 r775 r776 r777 r778 r779) (api_Door.mk (3 : Int) (2 : Int)) (0 : Int) (1 : Int) (1 : Int) (fun r782 r783 =>
  newellaw05_Example N  (fun r784 r785 r786 r787 r788 r789 r790 r791 r792 r793 r794 r795 r796 =>
  lift_Grip N (api_Lift.mk r784 r785 r786 r787 r796 r788 r789 r790 r791 r792 r793 r794) (api_Span.mk (0 : Int) (40 : Int)) (api_Span.mk (300 : Int) (600 : Int)) (fun r797 r798 =>
  bif r783 == (0 : Int) then
   bif r798 == (0 : Int) then
    bif r782 == (21 : Int) then
     k (r797 == (82 : Int))
    else
     k false
   else
    k false
  else
   k false))))
noncomputable def newellaw05_works {R : Type} : Nat → (Bool → Option R) → Option R := lock (@newellaw05_works_m R)
theorem newellaw05_works_def {R : Type} (N : Nat)  (k : Bool → Option R) : newellaw05_works N  k = newellaw05_works_m N  k := by unfold newellaw05_works; rw [lock_eq]
def newellaw05_works_sp : Sp := ⟨[], []⟩
theorem newellaw05_works_sp_ok : newellaw05_works_sp.Ok := ⟨allNil, eNil⟩
def newellaw05_works_rs : Sp := ⟨[rBool], []⟩
theorem newellaw05_works_rs_ok : newellaw05_works_rs.Ok := ⟨(allCons rBool_ok allNil), eNil⟩
def newellaw05_works_run {R : Type} (N : Nat) (args : List SV) (T : Tab) (kf : SV × Tab → Option R) : Option R :=
  newellaw05_works_m N  (fun q0 => kf (lget [.bool q0] 0, []))
def newellaw05_works_lp {R : Type} (N : Nat) : Lp R := fun body S k => Option.none
noncomputable def newellaw05_works_go {R : Type} (N : Nat) (args : List SV) (T : Tab) (kf : SV × Tab → Option R) : Option R :=
  newellaw05_works N  (fun q0 => kf (lget [.bool q0] 0, []))
noncomputable def newellaw05_works_cal {R : Type} (N : Nat) : Cal R := callM (newellaw05_Example_cal N) 16 0 newellaw05_works_sp (newellaw05_works_go N)
theorem newellaw05_works_cal_ok {R : Type} (N : Nat) : CalOk E.P (newellaw05_works_cal (R := R) N) :=
  callM_ok hE (newellaw05_Example_cal_ok N) (lp := newellaw05_works_lp N) (keys := []) kNil (by kernel_rfl) newellaw05_works_sp_ok newellaw05_works_rs_ok (fun args T kf => Eq.trans (newellaw05_works_def N  (fun q0 => kf (lget [.bool q0] 0, []))) (by kernel_rfl : newellaw05_works_run N args T kf = fnM E (newellaw05_Example_cal N) (newellaw05_works_lp N) 16 (newellaw05_works_sp.vs args) (newellaw05_works_sp.tab T) 0 (resK newellaw05_works_rs kf)))



end
end Go.Proofs.Ytceeaimmelaenaa
