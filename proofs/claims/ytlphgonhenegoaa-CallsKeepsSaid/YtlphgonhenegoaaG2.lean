import Derived.Test.YtlphgonhenegoaaG1
set_option maxRecDepth 100000
set_option maxHeartbeats 0
set_option linter.unusedVariables false
namespace Go.Proofs.Ytlphgonhenegoaa
open Go.Sx
noncomputable section
def calls_right_m {R : Type} (N : Nat) (a409 : api_Car) (a410 : api_Ride) (k : Bool → Option R) : Option R :=
  bif decide (w64 (api_Car.High a409 + (1 : Int)) < (0 : Int)) then
   Option.none
  else
   bif decide (api_Car.Low a409 < (0 : Int)) then
    Option.none
   else
    calls_within N (api_Ride.Floor a410) (api_Car.Low a409) (api_Car.High a409) (fun r411 =>
    bif !r411 then
     k false
    else
     bif w64 (↑(BitVec.toNat (BitVec.ofInt (IntKind.bits IntKind.i64) (api_Ride.Wants a410) &&& ~~~BitVec.ofInt (IntKind.bits IntKind.i64) (w64 (w64 ((1 : Int) * (2 : Int) ^ min (Int.toNat (w64 (api_Car.High a409 + (1 : Int)))) (IntKind.bits IntKind.i64)) - w64 ((1 : Int) * (2 : Int) ^ min (Int.toNat (api_Car.Low a409)) (IntKind.bits IntKind.i64)))))) : Int) != (0 : Int) then
      k false
     else
      bif api_Ride.Doing a410 == (0 : Int) then
       bif api_Ride.Left a410 == (0 : Int) then
        k (api_Ride.Wants a410 == (0 : Int))
       else
        k false
      else
       bif api_Ride.Doing a410 == (1 : Int) then
        calls_within N (api_Ride.Left a410) (1 : Int) (api_Car.Move a409) (fun r412 =>
        bif r412 then
         calls_cage_ahead N (calls_cage.mk a409 a410) (fun r413 =>
         k (w64 (↑(BitVec.toNat (BitVec.ofInt (IntKind.bits IntKind.i64) (api_Ride.Wants a410) &&& BitVec.ofInt (IntKind.bits IntKind.i64) r413)) : Int) != (0 : Int)))
        else
         k false)
       else
        bif api_Ride.Doing a410 == (2 : Int) then
         calls_within N (api_Ride.Left a410) (1 : Int) (api_Car.Stop a409) (fun r414 =>
         bif r414 then
          bif api_Ride.Stood a410 then
           bif decide (api_Ride.Floor a410 < (0 : Int)) then
            Option.none
           else
            k (w64 (↑(BitVec.toNat (BitVec.ofInt (IntKind.bits IntKind.i64) (Int.fdiv (api_Ride.Wants a410) ((2 : Int) ^ min (Int.toNat (api_Ride.Floor a410)) (IntKind.bits IntKind.i64))) &&& BitVec.ofInt (IntKind.bits IntKind.i64) (1 : Int))) : Int) == (0 : Int))
          else
           k false
         else
          k false)
        else
         k false)
noncomputable def calls_right {R : Type} : Nat → api_Car → api_Ride → (Bool → Option R) → Option R := lock (@calls_right_m R)
theorem calls_right_def {R : Type} (N : Nat) (a409 : api_Car) (a410 : api_Ride) (k : Bool → Option R) : calls_right N a409 a410 k = calls_right_m N a409 a410 k := by unfold calls_right; rw [lock_eq]
def calls_right_sp : Sp := ⟨[rAgg api_CarC, rAgg api_RideC], []⟩
theorem calls_right_sp_ok : calls_right_sp.Ok := ⟨(allCons (rAgg_ok api_CarC_ok api_CarC_len) (allCons (rAgg_ok api_RideC_ok api_RideC_len) allNil)), eNil⟩
def calls_right_rs : Sp := ⟨[rBool], []⟩
theorem calls_right_rs_ok : calls_right_rs.Ok := ⟨(allCons rBool_ok allNil), eNil⟩
def calls_right_run {R : Type} (N : Nat) (args : List SV) (T : Tab) (kf : SV × Tab → Option R) : Option R :=
  calls_right_m N (Cod.dec api_CarC (lget (toCs (lget args 0)))) (Cod.dec api_RideC (lget (toCs (lget args 1)))) (fun q0 => kf (lget [.bool q0] 0, []))
def calls_right_lp {R : Type} (N : Nat) : Lp R := fun body S k => Option.none
noncomputable def calls_right_go {R : Type} (N : Nat) (args : List SV) (T : Tab) (kf : SV × Tab → Option R) : Option R :=
  calls_right N (Cod.dec api_CarC (lget (toCs (lget args 0)))) (Cod.dec api_RideC (lget (toCs (lget args 1)))) (fun q0 => kf (lget [.bool q0] 0, []))
noncomputable def calls_right_cal {R : Type} (N : Nat) : Cal R := callM (newelref07_Right_cal N) 59 0 calls_right_sp (calls_right_go N)
theorem calls_right_cal_ok {R : Type} (N : Nat) : CalOk E.P (calls_right_cal (R := R) N) :=
  callM_ok hE (newelref07_Right_cal_ok N) (lp := calls_right_lp N) (jn := noJn) (keys := []) kNil (by kernel_rfl) (js := []) jNil (by kernel_rfl) calls_right_sp_ok calls_right_rs_ok (fun args T kf => Eq.trans (calls_right_def N (Cod.dec api_CarC (lget (toCs (lget args 0)))) (Cod.dec api_RideC (lget (toCs (lget args 1)))) (fun q0 => kf (lget [.bool q0] 0, []))) (by kernel_rfl : calls_right_run N args T kf = fnM E (newelref07_Right_cal N) (calls_right_lp N) (noJn) 59 (calls_right_sp.vs args) (calls_right_sp.tab T) 0 (resK calls_right_rs kf)))
def calls_Bound_L8 : LoopSp := ⟨⟨[2, 3, 4, 9, 10], ⟨(dr 2 ((rInt .i64) :: (rPtr 0 0) :: (rPtr 1 0) :: (dr 4 ((rRow 2) :: (rInt .i64) :: (dr 46 []))))), [(0, eBlkC api_CarC), (1, eBlkC api_RideC), (2, eRow intC)]⟩, 3⟩, [(some 0, ⟨[2, 3, 4, 9], ⟨(dr 2 ((rInt .i64) :: (rPtr 0 0) :: (rPtr 1 0) :: (dr 4 ((rRow 2) :: (dr 47 []))))), [(0, eBlkC api_CarC), (1, eBlkC api_RideC), (2, eRow intC)]⟩, 3⟩)]⟩
theorem calls_Bound_L8_ok : calls_Bound_L8.Ok := ⟨⟨(drCons 2 (allCons (rInt_ok .i64) (allCons (rPtr_ok 0 0) (allCons (rPtr_ok 1 0) (drCons 4 (allCons (rRow_ok 2) (allCons (rInt_ok .i64) (drCons 46 allNil)))))))), (eCons (eBlkC_ok api_CarC_ok api_CarC_len) (eCons (eBlkC_ok api_RideC_ok api_RideC_len) (eCons (eRow_ok intC_ok) eNil)))⟩, (xCons ⟨(drCons 2 (allCons (rInt_ok .i64) (allCons (rPtr_ok 0 0) (allCons (rPtr_ok 1 0) (drCons 4 (allCons (rRow_ok 2) (drCons 47 allNil))))))), (eCons (eBlkC_ok api_CarC_ok api_CarC_len) (eCons (eBlkC_ok api_RideC_ok api_RideC_len) (eCons (eRow_ok intC_ok) eNil)))⟩ xNil)⟩
def calls_Bound_h8 (v416 : Int) (v417 : Int) (v418 : api_Car) (v419 : api_Ride) (v420 : Bool) (v421 : Arr Int) : St := ⟨(un 2 ((.int .i64 v416) :: (.ptr 0 0) :: (.ptr 1 0) :: (un 4 ((.row 2) :: (.int .i64 v417) :: (un 46 []))))), [(0, .blk (Cod.enc api_CarC v418)), (1, .blk (Cod.enc api_RideC v419)), (2, rowE intC v420 v421)], 3⟩
def calls_Bound_x8_0 (v416 : Int) (v418 : api_Car) (v419 : api_Ride) (q3 : Bool) (q4 : Arr Int) : St := ⟨(un 2 ((.int .i64 v416) :: (.ptr 0 0) :: (.ptr 1 0) :: (un 4 ((.row 2) :: (un 47 []))))), [(0, .blk (Cod.enc api_CarC v418)), (1, .blk (Cod.enc api_RideC v419)), (2, rowE intC q3 q4)], 3⟩
def calls_Bound_b8 {R : Type} (N : Nat) (rc : Int → Int → api_Car → api_Ride → Bool → Arr Int → Option R) (v416 : Int) (v417 : Int) (v418 : api_Car) (v419 : api_Ride) (v420 : Bool) (v421 : Arr Int) (k0 : Bool → Arr Int → Option R) : Option R :=
  bif decide (v417 ≤ api_Car.High v418) then
   bif room (Arr.n v421 + (1 : Nat)) then
    rc v416 (w64 (v417 + (1 : Int))) v418 v419 false (lst intC (Arr.n v421 + (1 : Nat)) (catC (Arr.n v421) (Cod.cell intC (Arr.f v421)) (litC [SV.int IntKind.i64 (0 : Int)] [[SV.int IntKind.i64 v417]])))
   else
    Option.none
  else
   k0 v420 v421
def calls_Bound_l8 {R : Type} (N : Nat) : Nat → Int → Int → api_Car → api_Ride → Bool → Arr Int → (Bool → Arr Int → Option R) → Option R
  | 0, _, _, _, _, _, _, _ => Option.none
  | n + 1, v416, v417, v418, v419, v420, v421, k0 => calls_Bound_b8 N (fun v416 v417 v418 v419 v420 v421 => calls_Bound_l8 N n v416 v417 v418 v419 v420 v421 k0) v416 v417 v418 v419 v420 v421 k0
def calls_Bound_L14 : LoopSp := ⟨⟨[2, 9, 11, 12], ⟨(dr 2 ((rInt .i64) :: (dr 6 ((rRow 0) :: (dr 1 ((rPtr 1 0) :: (rInt .i64) :: (dr 44 []))))))), [(0, eRow intC), (1, eBlkC calls_cageC)]⟩, 2⟩, [(Option.none, ⟨[6, 7], ⟨(dr 6 ((rInt .i64) :: (rInt .i64) :: (dr 49 []))), []⟩, 0⟩)]⟩
theorem calls_Bound_L14_ok : calls_Bound_L14.Ok := ⟨⟨(drCons 2 (allCons (rInt_ok .i64) (drCons 6 (allCons (rRow_ok 0) (drCons 1 (allCons (rPtr_ok 1 0) (allCons (rInt_ok .i64) (drCons 44 allNil)))))))), (eCons (eRow_ok intC_ok) (eCons (eBlkC_ok calls_cageC_ok calls_cageC_len) eNil))⟩, (xCons ⟨(drCons 6 (allCons (rInt_ok .i64) (allCons (rInt_ok .i64) (drCons 49 allNil)))), eNil⟩ xNil)⟩
def calls_Bound_h14 (v424 : Int) (v425 : Int) (v426 : Bool) (v427 : Arr Int) (v428 : calls_cage) : St := ⟨(un 2 ((.int .i64 v424) :: (un 6 ((.row 0) :: (un 1 ((.ptr 1 0) :: (.int .i64 v425) :: (un 44 []))))))), [(0, rowE intC v426 v427), (1, .blk (Cod.enc calls_cageC v428))], 2⟩
def calls_Bound_x14_r (q0 : Int) (q1 : Int) : St := ⟨(un 6 ((.int .i64 q0) :: (.int .i64 q1) :: (un 49 []))), [], 0⟩
def calls_Bound_b14 {R : Type} (N : Nat) (rc : Int → Int → Bool → Arr Int → calls_cage → Option R) (v424 : Int) (v425 : Int) (v426 : Bool) (v427 : Arr Int) (v428 : calls_cage) (kr : Int → Int → Option R) : Option R :=
  calls_cage_tick N v427 v428 (fun r429 r430 =>
  bif decide (v424 < (0 : Int)) then
   Option.none
  else
   bif w64 (↑(BitVec.toNat (BitVec.ofInt (IntKind.bits IntKind.i64) (Int.fdiv r429 ((2 : Int) ^ min (Int.toNat v424) (IntKind.bits IntKind.i64))) &&& BitVec.ofInt (IntKind.bits IntKind.i64) (1 : Int))) : Int) == (1 : Int) then
    kr v425 (0 : Int)
   else
    rc v424 (w64 (v425 + (1 : Int))) v426 v427 r430)
def calls_Bound_l14 {R : Type} (N : Nat) : Nat → Int → Int → Bool → Arr Int → calls_cage → (Int → Int → Option R) → Option R
  | 0, _, _, _, _, _, _ => Option.none
  | n + 1, v424, v425, v426, v427, v428, kr => calls_Bound_b14 N (fun v424 v425 v426 v427 v428 => calls_Bound_l14 N n v424 v425 v426 v427 v428 kr) v424 v425 v426 v427 v428 kr
def calls_Bound_m {R : Type} (N : Nat) (a405 : api_Car) (a406 : api_Ride) (a407 : Int) (k : Int → Int → Option R) : Option R :=
  calls_serves N a405 a407 (fun r408 =>
  bif r408 != (0 : Int) then
   k (0 : Int) r408
  else
   calls_right N a405 a406 (fun r415 =>
   bif !r415 then
    k (0 : Int) (1 : Int)
   else
    bif decide (a407 < (0 : Int)) then
     Option.none
    else
     bif w64 (↑(BitVec.toNat (BitVec.ofInt (IntKind.bits IntKind.i64) (Int.fdiv (api_Ride.Wants a406) ((2 : Int) ^ min (Int.toNat a407) (IntKind.bits IntKind.i64))) &&& BitVec.ofInt (IntKind.bits IntKind.i64) (1 : Int))) : Int) == (0 : Int) then
      k (0 : Int) (1 : Int)
     else
      calls_Bound_l8 N N a407 (api_Car.Low a405) a405 a406 true (lst intC (0 : Nat) (zeroC [SV.int IntKind.i64 (0 : Int)])) (fun r422 r423 =>
       calls_Bound_l14 N N a407 (1 : Int) r422 r423 (calls_cage.mk a405 a406) (fun r431 r432 =>
        k r431 r432))))
noncomputable def calls_Bound {R : Type} : Nat → api_Car → api_Ride → Int → (Int → Int → Option R) → Option R := lock (@calls_Bound_m R)
theorem calls_Bound_def {R : Type} (N : Nat) (a405 : api_Car) (a406 : api_Ride) (a407 : Int) (k : Int → Int → Option R) : calls_Bound N a405 a406 a407 k = calls_Bound_m N a405 a406 a407 k := by unfold calls_Bound; rw [lock_eq]
def calls_Bound_sp : Sp := ⟨[rAgg api_CarC, rAgg api_RideC, rInt .i64], []⟩
theorem calls_Bound_sp_ok : calls_Bound_sp.Ok := ⟨(allCons (rAgg_ok api_CarC_ok api_CarC_len) (allCons (rAgg_ok api_RideC_ok api_RideC_len) (allCons (rInt_ok .i64) allNil))), eNil⟩
def calls_Bound_rs : Sp := ⟨[rTup [rInt .i64, rInt .i64]], []⟩
theorem calls_Bound_rs_ok : calls_Bound_rs.Ok := ⟨(allCons (rTup_ok (allCons (rInt_ok .i64) (allCons (rInt_ok .i64) allNil))) allNil), eNil⟩
def calls_Bound_run {R : Type} (N : Nat) (args : List SV) (T : Tab) (kf : SV × Tab → Option R) : Option R :=
  calls_Bound_m N (Cod.dec api_CarC (lget (toCs (lget args 0)))) (Cod.dec api_RideC (lget (toCs (lget args 1)))) (toI (lget args 2)) (fun q0 q1 => kf (lget [.tup [.int .i64 q0, .int .i64 q1]] 0, []))
def calls_Bound_d14 {R : Type} (N : Nat) (S0 : St) (k : Exit → St → Option R) : Option R :=
  calls_Bound_l14 N N (toI (lget S0.tmps 2)) (toI (lget S0.tmps 12)) (entNl (entAt S0.tab 0)) (lst intC (entN (entAt S0.tab 0)) (entC (entAt S0.tab 0))) (Cod.dec calls_cageC (lget (entCs (entAt S0.tab 1)))) (fun q0 q1 => k .ret (calls_Bound_x14_r q0 q1))
def calls_Bound_d8 {R : Type} (N : Nat) (S0 : St) (k : Exit → St → Option R) : Option R :=
  calls_Bound_l8 N N (toI (lget S0.tmps 2)) (toI (lget S0.tmps 10)) (Cod.dec api_CarC (lget (entCs (entAt S0.tab 0)))) (Cod.dec api_RideC (lget (entCs (entAt S0.tab 1)))) (entNl (entAt S0.tab 2)) (lst intC (entN (entAt S0.tab 2)) (entC (entAt S0.tab 2))) (fun q3 q4 => k (.exit 0) (calls_Bound_x8_0 (toI (lget S0.tmps 2)) (Cod.dec api_CarC (lget (entCs (entAt S0.tab 0)))) (Cod.dec api_RideC (lget (entCs (entAt S0.tab 1)))) q3 q4))
def calls_Bound_lp {R : Type} (N : Nat) : Lp R := fun body S k => bif (Go.Sx.keyOf body).getD 0 == 8 then (calls_Bound_L8.head.raw 0 S (fun S0 => calls_Bound_d8 N S0 k)) else bif (Go.Sx.keyOf body).getD 0 == 14 then (calls_Bound_L14.head.raw 0 S (fun S0 => calls_Bound_d14 N S0 k)) else Option.none
theorem calls_Bound_l8_eq {R : Type} (N : Nat) (k : Exit → St → Option R) (n : Nat) : ∀ (v0 : Int) (v1 : Int) (v2 : api_Car) (v3 : api_Ride) (v4 : Bool) (v5 : Arr Int), loopM E.Θ (calls_right_cal N) (calls_Bound_lp N) (noJn) 0 calls_Bound_L8 (bodyAt E 28 8) n (calls_Bound_h8 v0 v1 v2 v3 v4 v5) k = calls_Bound_l8 N n v0 v1 v2 v3 v4 v5 (fun q3 q4 => k (.exit 0) (calls_Bound_x8_0 v0 v2 v3 q3 q4)) := by
  induction n with
  | zero => intro v0 v1 v2 v3 v4 v5; rfl
  | succ n ih =>
    intro v0 v1 v2 v3 v4 v5
    refine Eq.trans (b := calls_Bound_b8 N (fun v0 v1 v2 v3 v4 v5 => loopM E.Θ (calls_right_cal N) (calls_Bound_lp N) (noJn) 0 calls_Bound_L8 (bodyAt E 28 8) n (calls_Bound_h8 v0 v1 v2 v3 v4 v5) k) v0 v1 v2 v3 v4 v5 (fun q3 q4 => k (.exit 0) (calls_Bound_x8_0 v0 v2 v3 q3 q4))) (by kernel_rfl) ?_
    have h : (fun (v0 : Int) (v1 : Int) (v2 : api_Car) (v3 : api_Ride) (v4 : Bool) (v5 : Arr Int) => loopM E.Θ (calls_right_cal N) (calls_Bound_lp N) (noJn) 0 calls_Bound_L8 (bodyAt E 28 8) n (calls_Bound_h8 v0 v1 v2 v3 v4 v5) k) = (fun (v0 : Int) (v1 : Int) (v2 : api_Car) (v3 : api_Ride) (v4 : Bool) (v5 : Arr Int) => calls_Bound_l8 N n v0 v1 v2 v3 v4 v5 (fun q3 q4 => k (.exit 0) (calls_Bound_x8_0 v0 v2 v3 q3 q4))) := funext fun v0 => funext fun v1 => funext fun v2 => funext fun v3 => funext fun v4 => funext fun v5 => ih v0 v1 v2 v3 v4 v5
    rw [h]
    rfl
theorem calls_Bound_l14_eq {R : Type} (N : Nat) (k : Exit → St → Option R) (n : Nat) : ∀ (v0 : Int) (v1 : Int) (v2 : Bool) (v3 : Arr Int) (v4 : calls_cage), loopM E.Θ (calls_right_cal N) (calls_Bound_lp N) (noJn) 0 calls_Bound_L14 (bodyAt E 28 14) n (calls_Bound_h14 v0 v1 v2 v3 v4) k = calls_Bound_l14 N n v0 v1 v2 v3 v4 (fun q0 q1 => k .ret (calls_Bound_x14_r q0 q1)) := by
  induction n with
  | zero => intro v0 v1 v2 v3 v4; rfl
  | succ n ih =>
    intro v0 v1 v2 v3 v4
    refine Eq.trans (b := calls_Bound_b14 N (fun v0 v1 v2 v3 v4 => loopM E.Θ (calls_right_cal N) (calls_Bound_lp N) (noJn) 0 calls_Bound_L14 (bodyAt E 28 14) n (calls_Bound_h14 v0 v1 v2 v3 v4) k) v0 v1 v2 v3 v4 (fun q0 q1 => k .ret (calls_Bound_x14_r q0 q1))) (by kernel_rfl) ?_
    have h : (fun (v0 : Int) (v1 : Int) (v2 : Bool) (v3 : Arr Int) (v4 : calls_cage) => loopM E.Θ (calls_right_cal N) (calls_Bound_lp N) (noJn) 0 calls_Bound_L14 (bodyAt E 28 14) n (calls_Bound_h14 v0 v1 v2 v3 v4) k) = (fun (v0 : Int) (v1 : Int) (v2 : Bool) (v3 : Arr Int) (v4 : calls_cage) => calls_Bound_l14 N n v0 v1 v2 v3 v4 (fun q0 q1 => k .ret (calls_Bound_x14_r q0 q1))) := funext fun v0 => funext fun v1 => funext fun v2 => funext fun v3 => funext fun v4 => ih v0 v1 v2 v3 v4
    rw [h]
    rfl
theorem calls_Bound_k14 {R : Type} (N : Nat) : LpKey (R := R) E 28 0 (calls_Bound_lp N) 14 :=
  lpKey_of hE (calls_right_cal_ok N) (lp := calls_Bound_lp N) (jn := noJn) calls_Bound_L14_ok [] kNil (by kernel_rfl) [] jNil (by kernel_rfl) N fun S k =>
    Eq.trans (b := calls_Bound_L14.head.raw 0 S (fun S0 => calls_Bound_d14 N S0 k)) (by kernel_rfl) (congrArg (calls_Bound_L14.head.raw 0 S) (funext fun S0 => Eq.trans (calls_Bound_l14_eq N k N (toI (lget S0.tmps 2)) (toI (lget S0.tmps 12)) (entNl (entAt S0.tab 0)) (lst intC (entN (entAt S0.tab 0)) (entC (entAt S0.tab 0))) (Cod.dec calls_cageC (lget (entCs (entAt S0.tab 1))))).symm (by kernel_rfl)))
theorem calls_Bound_k8 {R : Type} (N : Nat) : LpKey (R := R) E 28 0 (calls_Bound_lp N) 8 :=
  lpKey_of hE (calls_right_cal_ok N) (lp := calls_Bound_lp N) (jn := noJn) calls_Bound_L8_ok [] kNil (by kernel_rfl) [] jNil (by kernel_rfl) N fun S k =>
    Eq.trans (b := calls_Bound_L8.head.raw 0 S (fun S0 => calls_Bound_d8 N S0 k)) (by kernel_rfl) (congrArg (calls_Bound_L8.head.raw 0 S) (funext fun S0 => Eq.trans (calls_Bound_l8_eq N k N (toI (lget S0.tmps 2)) (toI (lget S0.tmps 10)) (Cod.dec api_CarC (lget (entCs (entAt S0.tab 0)))) (Cod.dec api_RideC (lget (entCs (entAt S0.tab 1)))) (entNl (entAt S0.tab 2)) (lst intC (entN (entAt S0.tab 2)) (entC (entAt S0.tab 2)))).symm (by kernel_rfl)))
noncomputable def calls_Bound_go {R : Type} (N : Nat) (args : List SV) (T : Tab) (kf : SV × Tab → Option R) : Option R :=
  calls_Bound N (Cod.dec api_CarC (lget (toCs (lget args 0)))) (Cod.dec api_RideC (lget (toCs (lget args 1)))) (toI (lget args 2)) (fun q0 q1 => kf (lget [.tup [.int .i64 q0, .int .i64 q1]] 0, []))
noncomputable def calls_Bound_cal {R : Type} (N : Nat) : Cal R := callM (calls_right_cal N) 28 0 calls_Bound_sp (calls_Bound_go N)
theorem calls_Bound_cal_ok {R : Type} (N : Nat) : CalOk E.P (calls_Bound_cal (R := R) N) :=
  callM_ok hE (calls_right_cal_ok N) (lp := calls_Bound_lp N) (jn := noJn) (keys := [8, 14]) (kCons (calls_Bound_k8 N) (kCons (calls_Bound_k14 N) kNil)) (by kernel_rfl) (js := []) jNil (by kernel_rfl) calls_Bound_sp_ok calls_Bound_rs_ok (fun args T kf => Eq.trans (calls_Bound_def N (Cod.dec api_CarC (lget (toCs (lget args 0)))) (Cod.dec api_RideC (lget (toCs (lget args 1)))) (toI (lget args 2)) (fun q0 q1 => kf (lget [.tup [.int .i64 q0, .int .i64 q1]] 0, []))) (by kernel_rfl : calls_Bound_run N args T kf = fnM E (calls_right_cal N) (calls_Bound_lp N) (noJn) 28 (calls_Bound_sp.vs args) (calls_Bound_sp.tab T) 0 (resK calls_Bound_rs kf)))
def newellaw07_Tall_m {R : Type} (N : Nat) (a475 : api_Car) (k : Bool → Option R) : Option R :=
  newelref07_CheckCar N a475 (fun r476 =>
  bif r476 == (0 : Int) then
   bif decide (api_Car.High a475 > (3 : Int)) then
    k true
   else
    k (decide (w64 (api_Car.Move a475 + api_Car.Stop a475) > (4 : Int)))
  else
   k false)
noncomputable def newellaw07_Tall {R : Type} : Nat → api_Car → (Bool → Option R) → Option R := lock (@newellaw07_Tall_m R)
theorem newellaw07_Tall_def {R : Type} (N : Nat) (a475 : api_Car) (k : Bool → Option R) : newellaw07_Tall N a475 k = newellaw07_Tall_m N a475 k := by unfold newellaw07_Tall; rw [lock_eq]
def newellaw07_Tall_sp : Sp := ⟨[rAgg api_CarC], []⟩
theorem newellaw07_Tall_sp_ok : newellaw07_Tall_sp.Ok := ⟨(allCons (rAgg_ok api_CarC_ok api_CarC_len) allNil), eNil⟩
def newellaw07_Tall_rs : Sp := ⟨[rBool], []⟩
theorem newellaw07_Tall_rs_ok : newellaw07_Tall_rs.Ok := ⟨(allCons rBool_ok allNil), eNil⟩
def newellaw07_Tall_run {R : Type} (N : Nat) (args : List SV) (T : Tab) (kf : SV × Tab → Option R) : Option R :=
  newellaw07_Tall_m N (Cod.dec api_CarC (lget (toCs (lget args 0)))) (fun q0 => kf (lget [.bool q0] 0, []))
def newellaw07_Tall_lp {R : Type} (N : Nat) : Lp R := fun body S k => Option.none
noncomputable def newellaw07_Tall_go {R : Type} (N : Nat) (args : List SV) (T : Tab) (kf : SV × Tab → Option R) : Option R :=
  newellaw07_Tall N (Cod.dec api_CarC (lget (toCs (lget args 0)))) (fun q0 => kf (lget [.bool q0] 0, []))
noncomputable def newellaw07_Tall_cal {R : Type} (N : Nat) : Cal R := callM (calls_Bound_cal N) 25 0 newellaw07_Tall_sp (newellaw07_Tall_go N)
theorem newellaw07_Tall_cal_ok {R : Type} (N : Nat) : CalOk E.P (newellaw07_Tall_cal (R := R) N) :=
  callM_ok hE (calls_Bound_cal_ok N) (lp := newellaw07_Tall_lp N) (jn := noJn) (keys := []) kNil (by kernel_rfl) (js := []) jNil (by kernel_rfl) newellaw07_Tall_sp_ok newellaw07_Tall_rs_ok (fun args T kf => Eq.trans (newellaw07_Tall_def N (Cod.dec api_CarC (lget (toCs (lget args 0)))) (fun q0 => kf (lget [.bool q0] 0, []))) (by kernel_rfl : newellaw07_Tall_run N args T kf = fnM E (calls_Bound_cal N) (newellaw07_Tall_lp N) (noJn) 25 (newellaw07_Tall_sp.vs args) (newellaw07_Tall_sp.tab T) 0 (resK newellaw07_Tall_rs kf)))
def calls_longest_1_m {R : Type} (N : Nat) (a565 : Int) (a566 : Arr Int) (a567 : Int) (k : Bool → Option R) : Option R :=
  bif decide ((0 : Int) ≤ a565) && decide (a565 < (↑(Arr.n a566) : Int)) then
   k (Arr.f a566 (Int.toNat a565) == a567)
  else
   Option.none
noncomputable def calls_longest_1 {R : Type} : Nat → Int → Arr Int → Int → (Bool → Option R) → Option R := lock (@calls_longest_1_m R)
theorem calls_longest_1_def {R : Type} (N : Nat) (a565 : Int) (a566 : Arr Int) (a567 : Int) (k : Bool → Option R) : calls_longest_1 N a565 a566 a567 k = calls_longest_1_m N a565 a566 a567 k := by unfold calls_longest_1; rw [lock_eq]
def calls_longest_1_sp : Sp := ⟨[rInt .i64, rPtr 0 0, rPtr 1 0], [(0, eBlk [rSl intC]), (1, eBlk [rInt .i64])]⟩
theorem calls_longest_1_sp_ok : calls_longest_1_sp.Ok := ⟨(allCons (rInt_ok .i64) (allCons (rPtr_ok 0 0) (allCons (rPtr_ok 1 0) allNil))), (eCons (eBlk_ok (allCons (rSl_ok intC_ok) allNil)) (eCons (eBlk_ok (allCons (rInt_ok .i64) allNil)) eNil))⟩
def calls_longest_1_rs : Sp := ⟨[rBool], [(0, eBlk [rSl intC]), (1, eBlk [rInt .i64])]⟩
theorem calls_longest_1_rs_ok : calls_longest_1_rs.Ok := ⟨(allCons rBool_ok allNil), (eCons (eBlk_ok (allCons (rSl_ok intC_ok) allNil)) (eCons (eBlk_ok (allCons (rInt_ok .i64) allNil)) eNil))⟩
def calls_longest_1_run {R : Type} (N : Nat) (args : List SV) (T : Tab) (kf : SV × Tab → Option R) : Option R :=
  calls_longest_1_m N (toI (lget args 0)) (lstC intC (lget (entCs (entAt T 0)) 0)) (toI (lget (entCs (entAt T 1)) 0)) (fun q0 => kf (lget [.bool q0] 0, [(0, .blk [slC intC (lstC intC (lget (entCs (entAt T 0)) 0))]), (1, .blk [.int .i64 (toI (lget (entCs (entAt T 1)) 0))])]))
def calls_longest_1_lp {R : Type} (N : Nat) : Lp R := fun body S k => Option.none
noncomputable def calls_longest_1_go {R : Type} (N : Nat) (args : List SV) (T : Tab) (kf : SV × Tab → Option R) : Option R :=
  calls_longest_1 N (toI (lget args 0)) (lstC intC (lget (entCs (entAt T 0)) 0)) (toI (lget (entCs (entAt T 1)) 0)) (fun q0 => kf (lget [.bool q0] 0, [(0, .blk [slC intC (lstC intC (lget (entCs (entAt T 0)) 0))]), (1, .blk [.int .i64 (toI (lget (entCs (entAt T 1)) 0))])]))
noncomputable def calls_longest_1_cal {R : Type} (N : Nat) : Cal R := callM (newellaw07_Tall_cal N) 80 2 calls_longest_1_sp (calls_longest_1_go N)
theorem calls_longest_1_cal_ok {R : Type} (N : Nat) : CalOk E.P (calls_longest_1_cal (R := R) N) :=
  callM_ok hE (newellaw07_Tall_cal_ok N) (lp := calls_longest_1_lp N) (jn := noJn) (keys := []) kNil (by kernel_rfl) (js := []) jNil (by kernel_rfl) calls_longest_1_sp_ok calls_longest_1_rs_ok (fun args T kf => Eq.trans (calls_longest_1_def N (toI (lget args 0)) (lstC intC (lget (entCs (entAt T 0)) 0)) (toI (lget (entCs (entAt T 1)) 0)) (fun q0 => kf (lget [.bool q0] 0, [(0, .blk [slC intC (lstC intC (lget (entCs (entAt T 0)) 0))]), (1, .blk [.int .i64 (toI (lget (entCs (entAt T 1)) 0))])]))) (by kernel_rfl : calls_longest_1_run N args T kf = fnM E (newellaw07_Tall_cal N) (calls_longest_1_lp N) (noJn) 80 (calls_longest_1_sp.vs args) (calls_longest_1_sp.tab T) 2 (resK calls_longest_1_rs kf)))
def calls_waits_v2_L9 : LoopSp := ⟨⟨[1, 2, 7, 8, 9, 10, 11, 12], ⟨(dr 1 ((rSl api_PressC) :: (rFunc 80 0 [rPtr 0 0, rPtr 1 0]) :: (dr 4 ((rRow 2) :: (rRow 3) :: (rPtr 4 0) :: (rInt .i64) :: (rInt .i64) :: (rRow 5) :: (dr 102 []))))), [(0, eBlk [rSl intC]), (1, eBlk [rInt .i64]), (2, eRow intC), (3, eFm .i64 intC), (4, eBlkC calls_cageC), (5, eRow intC)]⟩, 6⟩, [(some 2, ⟨[1, 2, 7, 8, 9, 10, 11, 12], ⟨(dr 1 ((rSl api_PressC) :: (rFunc 80 0 [rPtr 0 0, rPtr 1 0]) :: (dr 4 ((rRow 2) :: (rRow 3) :: (rPtr 4 0) :: (rInt .i64) :: (rInt .i64) :: (rRow 5) :: (dr 102 []))))), [(0, eBlk [rSl intC]), (1, eBlk [rInt .i64]), (2, eRow intC), (3, eFm .i64 intC), (4, eBlkC calls_cageC), (5, eRow intC)]⟩, 6⟩)]⟩
theorem calls_waits_v2_L9_ok : calls_waits_v2_L9.Ok := ⟨⟨(drCons 1 (allCons (rSl_ok api_PressC_ok) (allCons (rFunc_ok 80 0 (allCons (rPtr_ok 0 0) (allCons (rPtr_ok 1 0) allNil))) (drCons 4 (allCons (rRow_ok 2) (allCons (rRow_ok 3) (allCons (rPtr_ok 4 0) (allCons (rInt_ok .i64) (allCons (rInt_ok .i64) (allCons (rRow_ok 5) (drCons 102 allNil))))))))))), (eCons (eBlk_ok (allCons (rSl_ok intC_ok) allNil)) (eCons (eBlk_ok (allCons (rInt_ok .i64) allNil)) (eCons (eRow_ok intC_ok) (eCons (eFm_ok intC_ok) (eCons (eBlkC_ok calls_cageC_ok calls_cageC_len) (eCons (eRow_ok intC_ok) eNil))))))⟩, (xCons ⟨(drCons 1 (allCons (rSl_ok api_PressC_ok) (allCons (rFunc_ok 80 0 (allCons (rPtr_ok 0 0) (allCons (rPtr_ok 1 0) allNil))) (drCons 4 (allCons (rRow_ok 2) (allCons (rRow_ok 3) (allCons (rPtr_ok 4 0) (allCons (rInt_ok .i64) (allCons (rInt_ok .i64) (allCons (rRow_ok 5) (drCons 102 allNil))))))))))), (eCons (eBlk_ok (allCons (rSl_ok intC_ok) allNil)) (eCons (eBlk_ok (allCons (rInt_ok .i64) allNil)) (eCons (eRow_ok intC_ok) (eCons (eFm_ok intC_ok) (eCons (eBlkC_ok calls_cageC_ok calls_cageC_len) (eCons (eRow_ok intC_ok) eNil))))))⟩ xNil)⟩
def calls_waits_v2_h9 (v554 : Arr api_Press) (v555 : Int) (v556 : Int) (v557 : Arr Int) (v558 : Int) (v559 : Bool) (v560 : Arr Int) (v561 : Fm Int) (v562 : calls_cage) (v563 : Bool) (v564 : Arr Int) : St := ⟨(un 1 ((slC api_PressC v554) :: (.func 80 0 [.ptr 0 0, .ptr 1 0]) :: (un 4 ((.row 2) :: (.row 3) :: (.ptr 4 0) :: (.int .i64 v555) :: (.int .i64 v556) :: (.row 5) :: (un 102 []))))), [(0, .blk [slC intC v557]), (1, .blk [.int .i64 v558]), (2, rowE intC v559 v560), (3, fmE .i64 intC v561), (4, .blk (Cod.enc calls_cageC v562)), (5, rowE intC v563 v564)], 6⟩
def calls_waits_v2_x9_2 (v554 : Arr api_Press) (v556 : Int) (v557 : Arr Int) (v558 : Int) (v559 : Bool) (v560 : Arr Int) (v562 : calls_cage) (q1 : Int) (q7 : Fm Int) (q9 : Bool) (q10 : Arr Int) : St := ⟨(un 1 ((slC api_PressC v554) :: (.func 80 0 [.ptr 0 0, .ptr 1 0]) :: (un 4 ((.row 2) :: (.row 3) :: (.ptr 4 0) :: (.int .i64 q1) :: (.int .i64 v556) :: (.row 5) :: (un 102 []))))), [(0, .blk [slC intC v557]), (1, .blk [.int .i64 v558]), (2, rowE intC v559 v560), (3, fmE .i64 intC q7), (4, .blk (Cod.enc calls_cageC v562)), (5, rowE intC q9 q10)], 6⟩
def calls_waits_v2_b9 {R : Type} (N : Nat) (rc : Arr api_Press → Int → Int → Arr Int → Int → Bool → Arr Int → Fm Int → calls_cage → Bool → Arr Int → Option R) (v554 : Arr api_Press) (v555 : Int) (v556 : Int) (v557 : Arr Int) (v558 : Int) (v559 : Bool) (v560 : Arr Int) (v561 : Fm Int) (v562 : calls_cage) (v563 : Bool) (v564 : Arr Int) (k2 : Int → Fm Int → Bool → Arr Int → Option R) : Option R :=
  bif decide (v555 < (↑(Arr.n v554) : Int)) then
   bif decide ((0 : Int) ≤ v555) && decide (v555 < (↑(Arr.n v554) : Int)) then
    bif api_Press.At (Arr.f v554 (Int.toNat v555)) == v556 then
     calls_longest_1 N v555 v557 v558 (fun r568 =>
     bif r568 then
      bif decide ((0 : Int) ≤ v555) && decide (v555 < (↑(Arr.n v554) : Int)) then
       bif decide ((0 : Int) ≤ v555) && decide (v555 < (↑(Arr.n v554) : Int)) then
        bif room (fmL v561 (api_Press.Floor (Arr.f v554 (Int.toNat v555))) + (1 : Nat)) then
         bif decide (api_Press.Floor (Arr.f v554 (Int.toNat v555)) = api_Press.Floor (Arr.f v554 (Int.toNat v555))) then
          bif decide ((0 : Int) ≤ v555) && decide (v555 < (↑(Arr.n v554) : Int)) then
           bif room (Arr.n v564 + (1 : Nat)) then
            rc v554 (w64 (v555 + (1 : Int))) v556 v557 v558 v559 v560 (fmD intC (fHs (api_Press.Floor (Arr.f v554 (Int.toNat v555))) (Fm.has v561)) (fLn (api_Press.Floor (Arr.f v554 (Int.toNat v555))) (fmL v561 (api_Press.Floor (Arr.f v554 (Int.toNat v555))) + (1 : Nat)) (fmL v561)) (fGt (api_Press.Floor (Arr.f v554 (Int.toNat v555))) (catC (fmL v561 (api_Press.Floor (Arr.f v554 (Int.toNat v555)))) (fmG intC v561 (api_Press.Floor (Arr.f v554 (Int.toNat v555)))) (litC [SV.int IntKind.i64 (0 : Int)] [[SV.int IntKind.i64 v555]])) (fmG intC v561))) v562 false (lst intC (Arr.n v564 + (1 : Nat)) (catC (Arr.n v564) (Cod.cell intC (Arr.f v564)) (litC [SV.int IntKind.i64 (0 : Int)] [[SV.int IntKind.i64 (api_Press.Floor (Arr.f v554 (Int.toNat v555)))]])))
           else
            Option.none
          else
           Option.none
         else
          Option.none
        else
         Option.none
       else
        Option.none
      else
       Option.none
     else
      rc v554 (w64 (v555 + (1 : Int))) v556 v557 v558 v559 v560 v561 v562 v563 v564)
    else
     k2 v555 v561 v563 v564
   else
    Option.none
  else
   k2 v555 v561 v563 v564
def calls_waits_v2_l9 {R : Type} (N : Nat) : Nat → Arr api_Press → Int → Int → Arr Int → Int → Bool → Arr Int → Fm Int → calls_cage → Bool → Arr Int → (Int → Fm Int → Bool → Arr Int → Option R) → Option R
  | 0, _, _, _, _, _, _, _, _, _, _, _, _ => Option.none
  | n + 1, v554, v555, v556, v557, v558, v559, v560, v561, v562, v563, v564, k2 => calls_waits_v2_b9 N (fun v554 v555 v556 v557 v558 v559 v560 v561 v562 v563 v564 => calls_waits_v2_l9 N n v554 v555 v556 v557 v558 v559 v560 v561 v562 v563 v564 k2) v554 v555 v556 v557 v558 v559 v560 v561 v562 v563 v564 k2
def calls_waits_v2_L100000 : LoopSp := ⟨⟨[1, 2, 7, 8, 9, 10, 11, 13], ⟨(dr 1 ((rSl api_PressC) :: (rFunc 80 0 [rPtr 0 0, rPtr 1 0]) :: (dr 4 ((rRow 2) :: (rRow 3) :: (rPtr 4 0) :: (rInt .i64) :: (rInt .i64) :: (dr 1 ((rInt .i64) :: (dr 101 []))))))), [(0, eBlk [rSl intC]), (1, eBlk [rInt .i64]), (2, eRow intC), (3, eFm .i64 intC), (4, eBlkC calls_cageC)]⟩, 5⟩, [(some 1000000, ⟨[1, 2, 7, 8, 9, 10, 11], ⟨(dr 1 ((rSl api_PressC) :: (rFunc 80 0 [rPtr 0 0, rPtr 1 0]) :: (dr 4 ((rRow 2) :: (rRow 3) :: (rPtr 4 0) :: (rInt .i64) :: (rInt .i64) :: (dr 103 []))))), [(0, eBlk [rSl intC]), (1, eBlk [rInt .i64]), (2, eRow intC), (3, eFm .i64 intC), (4, eBlkC calls_cageC)]⟩, 7⟩)]⟩
theorem calls_waits_v2_L100000_ok : calls_waits_v2_L100000.Ok := ⟨⟨(drCons 1 (allCons (rSl_ok api_PressC_ok) (allCons (rFunc_ok 80 0 (allCons (rPtr_ok 0 0) (allCons (rPtr_ok 1 0) allNil))) (drCons 4 (allCons (rRow_ok 2) (allCons (rRow_ok 3) (allCons (rPtr_ok 4 0) (allCons (rInt_ok .i64) (allCons (rInt_ok .i64) (drCons 1 (allCons (rInt_ok .i64) (drCons 101 allNil)))))))))))), (eCons (eBlk_ok (allCons (rSl_ok intC_ok) allNil)) (eCons (eBlk_ok (allCons (rInt_ok .i64) allNil)) (eCons (eRow_ok intC_ok) (eCons (eFm_ok intC_ok) (eCons (eBlkC_ok calls_cageC_ok calls_cageC_len) eNil)))))⟩, (xCons ⟨(drCons 1 (allCons (rSl_ok api_PressC_ok) (allCons (rFunc_ok 80 0 (allCons (rPtr_ok 0 0) (allCons (rPtr_ok 1 0) allNil))) (drCons 4 (allCons (rRow_ok 2) (allCons (rRow_ok 3) (allCons (rPtr_ok 4 0) (allCons (rInt_ok .i64) (allCons (rInt_ok .i64) (drCons 103 allNil)))))))))), (eCons (eBlk_ok (allCons (rSl_ok intC_ok) allNil)) (eCons (eBlk_ok (allCons (rInt_ok .i64) allNil)) (eCons (eRow_ok intC_ok) (eCons (eFm_ok intC_ok) (eCons (eBlkC_ok calls_cageC_ok calls_cageC_len) eNil)))))⟩ xNil)⟩
def calls_waits_v2_x100000_n (v575 : Arr api_Press) (v576 : Int) (v577 : Int) (v579 : Arr Int) (v580 : Int) (v581 : Bool) (v584 : calls_cage) (q6 : Arr Int) (q7 : Fm Int) : St := ⟨(un 1 ((slC api_PressC v575) :: (.func 80 0 [.ptr 0 0, .ptr 1 0]) :: (un 4 ((.row 2) :: (.row 3) :: (.ptr 4 0) :: (.int .i64 v576) :: (.int .i64 v577) :: (un 103 []))))), [(0, .blk [slC intC v579]), (1, .blk [.int .i64 v580]), (2, rowE intC v581 q6), (3, fmE .i64 intC q7), (4, .blk (Cod.enc calls_cageC v584))], 7⟩
def calls_waits_v2_j0_m {R : Type} (N : Nat) (v575 : Arr api_Press) (v576 : Int) (v577 : Int) (v578 : Int) (v579 : Arr Int) (v580 : Int) (v581 : Bool) (v582 : Arr Int) (v583 : Fm Int) (v584 : calls_cage) (kn : Arr Int → Fm Int → Option R) : Option R :=
  waitsRound v575 v577 v578 v581 v582 v583 kn
noncomputable def calls_waits_v2_j0 {R : Type} : Nat → Arr api_Press → Int → Int → Int → Arr Int → Int → Bool → Arr Int → Fm Int → calls_cage → (Arr Int → Fm Int → Option R) → Option R := lock (@calls_waits_v2_j0_m R)
theorem calls_waits_v2_j0_def {R : Type} (N : Nat) (v575 : Arr api_Press) (v576 : Int) (v577 : Int) (v578 : Int) (v579 : Arr Int) (v580 : Int) (v581 : Bool) (v582 : Arr Int) (v583 : Fm Int) (v584 : calls_cage) (kn : Arr Int → Fm Int → Option R) : calls_waits_v2_j0 N v575 v576 v577 v578 v579 v580 v581 v582 v583 v584 kn = calls_waits_v2_j0_m N v575 v576 v577 v578 v579 v580 v581 v582 v583 v584 kn := by unfold calls_waits_v2_j0; rw [lock_eq]
def calls_waits_v2_L6 : LoopSp := ⟨⟨[1, 2, 7, 8, 9, 10, 11], ⟨(dr 1 ((rSl api_PressC) :: (rFunc 80 0 [rPtr 0 0, rPtr 1 0]) :: (dr 4 ((rRow 2) :: (rRow 3) :: (rPtr 4 0) :: (rInt .i64) :: (rInt .i64) :: (dr 103 []))))), [(0, eBlk [rSl intC]), (1, eBlk [rInt .i64]), (2, eRow intC), (3, eFm .i64 intC), (4, eBlkC calls_cageC)]⟩, 5⟩, [(some 0, ⟨[7], ⟨(dr 7 ((rRow 2) :: (dr 107 []))), [(0, eBlk [rSl intC]), (1, eBlk [rInt .i64]), (2, eRow intC)]⟩, 3⟩)]⟩
theorem calls_waits_v2_L6_ok : calls_waits_v2_L6.Ok := ⟨⟨(drCons 1 (allCons (rSl_ok api_PressC_ok) (allCons (rFunc_ok 80 0 (allCons (rPtr_ok 0 0) (allCons (rPtr_ok 1 0) allNil))) (drCons 4 (allCons (rRow_ok 2) (allCons (rRow_ok 3) (allCons (rPtr_ok 4 0) (allCons (rInt_ok .i64) (allCons (rInt_ok .i64) (drCons 103 allNil)))))))))), (eCons (eBlk_ok (allCons (rSl_ok intC_ok) allNil)) (eCons (eBlk_ok (allCons (rInt_ok .i64) allNil)) (eCons (eRow_ok intC_ok) (eCons (eFm_ok intC_ok) (eCons (eBlkC_ok calls_cageC_ok calls_cageC_len) eNil)))))⟩, (xCons ⟨(drCons 7 (allCons (rRow_ok 2) (drCons 107 allNil))), (eCons (eBlk_ok (allCons (rSl_ok intC_ok) allNil)) (eCons (eBlk_ok (allCons (rInt_ok .i64) allNil)) (eCons (eRow_ok intC_ok) eNil)))⟩ xNil)⟩
def calls_waits_v2_h6 (v545 : Arr api_Press) (v546 : Int) (v547 : Int) (v548 : Arr Int) (v549 : Int) (v550 : Bool) (v551 : Arr Int) (v552 : Fm Int) (v553 : calls_cage) : St := ⟨(un 1 ((slC api_PressC v545) :: (.func 80 0 [.ptr 0 0, .ptr 1 0]) :: (un 4 ((.row 2) :: (.row 3) :: (.ptr 4 0) :: (.int .i64 v546) :: (.int .i64 v547) :: (un 103 []))))), [(0, .blk [slC intC v548]), (1, .blk [.int .i64 v549]), (2, rowE intC v550 v551), (3, fmE .i64 intC v552), (4, .blk (Cod.enc calls_cageC v553))], 5⟩
def calls_waits_v2_x6_0 (v548 : Arr Int) (v549 : Int) (v550 : Bool) (q3 : Arr Int) : St := ⟨(un 7 ((.row 2) :: (un 107 []))), [(0, .blk [slC intC v548]), (1, .blk [.int .i64 v549]), (2, rowE intC v550 q3)], 3⟩
def calls_waits_v2_b6 {R : Type} (N : Nat) (rc : Arr api_Press → Int → Int → Arr Int → Int → Bool → Arr Int → Fm Int → calls_cage → Option R) (v545 : Arr api_Press) (v546 : Int) (v547 : Int) (v548 : Arr Int) (v549 : Int) (v550 : Bool) (v551 : Arr Int) (v552 : Fm Int) (v553 : calls_cage) (k0 : Arr Int → Option R) : Option R :=
  bif decide (v546 < (↑(Arr.n v545) : Int)) then
   calls_waits_v2_l9 N N v545 v546 v547 v548 v549 v550 v551 v552 v553 true (lst intC (0 : Nat) (zeroC [SV.int IntKind.i64 (0 : Int)])) (fun r569 r570 r571 r572 =>
    calls_cage_tick N r572 v553 (fun r573 r574 =>
    calls_waits_v2_j0 N v545 r569 v547 r573 v548 v549 v550 v551 r570 r574 (fun r585 r586 =>
     rc v545 r569 (w64 (v547 + (1 : Int))) v548 v549 v550 r585 r586 r574)))
  else
   bif api_Ride.Wants (calls_cage.Ride v553) != (0 : Int) then
    calls_waits_v2_l9 N N v545 v546 v547 v548 v549 v550 v551 v552 v553 true (lst intC (0 : Nat) (zeroC [SV.int IntKind.i64 (0 : Int)])) (fun r587 r588 r589 r590 =>
     calls_cage_tick N r590 v553 (fun r591 r592 =>
     calls_waits_v2_j0 N v545 r587 v547 r591 v548 v549 v550 v551 r588 r592 (fun r593 r594 =>
      rc v545 r587 (w64 (v547 + (1 : Int))) v548 v549 v550 r593 r594 r592)))
   else
    k0 v551
def calls_waits_v2_l6 {R : Type} (N : Nat) : Nat → Arr api_Press → Int → Int → Arr Int → Int → Bool → Arr Int → Fm Int → calls_cage → (Arr Int → Option R) → Option R
  | 0, _, _, _, _, _, _, _, _, _, _ => Option.none
  | n + 1, v545, v546, v547, v548, v549, v550, v551, v552, v553, k0 => calls_waits_v2_b6 N (fun v545 v546 v547 v548 v549 v550 v551 v552 v553 => calls_waits_v2_l6 N n v545 v546 v547 v548 v549 v550 v551 v552 v553 k0) v545 v546 v547 v548 v549 v550 v551 v552 v553 k0
def calls_waits_v2_m {R : Type} (N : Nat) (a540 : api_Car) (a541 : Arr api_Press) (a542 : Arr Int) (a543 : Int) (k : Bool → Arr Int → Option R) : Option R :=
  bif decide ((↑(Arr.n a541) : Int) ≤ (↑(Arr.n a541) : Int)) && decide ((↑(Arr.n a541) : Int) ≤ (1073741824 : Int)) then
   calls_begin N a540 (fun r544 =>
   calls_waits_v2_l6 N N a541 (0 : Int) (0 : Int) a542 a543 false (lst intC (Int.toNat (↑(Arr.n a541) : Int)) (zeroC [SV.int IntKind.i64 (0 : Int)])) (fmD intC noHs noLn (noGt [SV.int IntKind.i64 (0 : Int)])) r544 (fun r595 =>
    k false r595))
  else
   Option.none
noncomputable def calls_waits_v2 {R : Type} : Nat → api_Car → Arr api_Press → Arr Int → Int → (Bool → Arr Int → Option R) → Option R := lock (@calls_waits_v2_m R)
theorem calls_waits_v2_def {R : Type} (N : Nat) (a540 : api_Car) (a541 : Arr api_Press) (a542 : Arr Int) (a543 : Int) (k : Bool → Arr Int → Option R) : calls_waits_v2 N a540 a541 a542 a543 k = calls_waits_v2_m N a540 a541 a542 a543 k := by unfold calls_waits_v2; rw [lock_eq]
def calls_waits_v2_sp : Sp := ⟨[rAgg api_CarC, rSl api_PressC, rFunc 80 0 [rPtr 0 0, rPtr 1 0]], [(0, eBlk [rSl intC]), (1, eBlk [rInt .i64])]⟩
theorem calls_waits_v2_sp_ok : calls_waits_v2_sp.Ok := ⟨(allCons (rAgg_ok api_CarC_ok api_CarC_len) (allCons (rSl_ok api_PressC_ok) (allCons (rFunc_ok 80 0 (allCons (rPtr_ok 0 0) (allCons (rPtr_ok 1 0) allNil))) allNil))), (eCons (eBlk_ok (allCons (rSl_ok intC_ok) allNil)) (eCons (eBlk_ok (allCons (rInt_ok .i64) allNil)) eNil))⟩
def calls_waits_v2_rs : Sp := ⟨[rRow 2], [(0, eBlk [rSl intC]), (1, eBlk [rInt .i64]), (2, eRow intC)]⟩
theorem calls_waits_v2_rs_ok : calls_waits_v2_rs.Ok := ⟨(allCons (rRow_ok 2) allNil), (eCons (eBlk_ok (allCons (rSl_ok intC_ok) allNil)) (eCons (eBlk_ok (allCons (rInt_ok .i64) allNil)) (eCons (eRow_ok intC_ok) eNil)))⟩
def calls_waits_v2_run {R : Type} (N : Nat) (args : List SV) (T : Tab) (kf : SV × Tab → Option R) : Option R :=
  calls_waits_v2_m N (Cod.dec api_CarC (lget (toCs (lget args 0)))) (lstC api_PressC (lget args 1)) (lstC intC (lget (entCs (entAt T 0)) 0)) (toI (lget (entCs (entAt T 1)) 0)) (fun q2 q3 => kf (lget [.row 2] 0, [(0, .blk [slC intC (lstC intC (lget (entCs (entAt T 0)) 0))]), (1, .blk [.int .i64 (toI (lget (entCs (entAt T 1)) 0))]), (2, rowE intC q2 q3)]))
def calls_waits_v2_d100000 {R : Type} (N : Nat) (S0 : St) (k : Exit → St → Option R) : Option R :=
  calls_waits_v2_j0 N (lstC api_PressC (lget S0.tmps 1)) (toI (lget S0.tmps 10)) (toI (lget S0.tmps 11)) (toI (lget S0.tmps 13)) (lstC intC (lget (entCs (entAt S0.tab 0)) 0)) (toI (lget (entCs (entAt S0.tab 1)) 0)) (entNl (entAt S0.tab 2)) (lst intC (entN (entAt S0.tab 2)) (entC (entAt S0.tab 2))) (fmD intC (entFh (entAt S0.tab 3)) (entFl (entAt S0.tab 3)) (entFg (entAt S0.tab 3))) (Cod.dec calls_cageC (lget (entCs (entAt S0.tab 4)))) (fun q6 q7 => k .normal (calls_waits_v2_x100000_n (lstC api_PressC (lget S0.tmps 1)) (toI (lget S0.tmps 10)) (toI (lget S0.tmps 11)) (lstC intC (lget (entCs (entAt S0.tab 0)) 0)) (toI (lget (entCs (entAt S0.tab 1)) 0)) (entNl (entAt S0.tab 2)) (Cod.dec calls_cageC (lget (entCs (entAt S0.tab 4)))) q6 q7))
def calls_waits_v2_d9 {R : Type} (N : Nat) (S0 : St) (k : Exit → St → Option R) : Option R :=
  calls_waits_v2_l9 N N (lstC api_PressC (lget S0.tmps 1)) (toI (lget S0.tmps 10)) (toI (lget S0.tmps 11)) (lstC intC (lget (entCs (entAt S0.tab 0)) 0)) (toI (lget (entCs (entAt S0.tab 1)) 0)) (entNl (entAt S0.tab 2)) (lst intC (entN (entAt S0.tab 2)) (entC (entAt S0.tab 2))) (fmD intC (entFh (entAt S0.tab 3)) (entFl (entAt S0.tab 3)) (entFg (entAt S0.tab 3))) (Cod.dec calls_cageC (lget (entCs (entAt S0.tab 4)))) (entNl (entAt S0.tab 5)) (lst intC (entN (entAt S0.tab 5)) (entC (entAt S0.tab 5))) (fun q1 q7 q9 q10 => k (.exit 2) (calls_waits_v2_x9_2 (lstC api_PressC (lget S0.tmps 1)) (toI (lget S0.tmps 11)) (lstC intC (lget (entCs (entAt S0.tab 0)) 0)) (toI (lget (entCs (entAt S0.tab 1)) 0)) (entNl (entAt S0.tab 2)) (lst intC (entN (entAt S0.tab 2)) (entC (entAt S0.tab 2))) (Cod.dec calls_cageC (lget (entCs (entAt S0.tab 4)))) q1 q7 q9 q10))
def calls_waits_v2_d6 {R : Type} (N : Nat) (S0 : St) (k : Exit → St → Option R) : Option R :=
  calls_waits_v2_l6 N N (lstC api_PressC (lget S0.tmps 1)) (toI (lget S0.tmps 10)) (toI (lget S0.tmps 11)) (lstC intC (lget (entCs (entAt S0.tab 0)) 0)) (toI (lget (entCs (entAt S0.tab 1)) 0)) (entNl (entAt S0.tab 2)) (lst intC (entN (entAt S0.tab 2)) (entC (entAt S0.tab 2))) (fmD intC (entFh (entAt S0.tab 3)) (entFl (entAt S0.tab 3)) (entFg (entAt S0.tab 3))) (Cod.dec calls_cageC (lget (entCs (entAt S0.tab 4)))) (fun q3 => k (.exit 0) (calls_waits_v2_x6_0 (lstC intC (lget (entCs (entAt S0.tab 0)) 0)) (toI (lget (entCs (entAt S0.tab 1)) 0)) (entNl (entAt S0.tab 2)) q3))
def calls_waits_v2_lp {R : Type} (N : Nat) : Lp R := fun body S k => bif (Go.Sx.keyOf body).getD 0 == 6 then (calls_waits_v2_L6.head.raw 2 S (fun S0 => calls_waits_v2_d6 N S0 k)) else bif (Go.Sx.keyOf body).getD 0 == 9 then (calls_waits_v2_L9.head.raw 2 S (fun S0 => calls_waits_v2_d9 N S0 k)) else Option.none
def calls_waits_v2_jn {R : Type} (N : Nat) : Jn R := fun b => bif isJ 15 37 b then some (fun S k => calls_waits_v2_L100000.head.raw 2 S (fun S0 => calls_waits_v2_d100000 N S0 k)) else Option.none
theorem calls_waits_v2_l6_eq {R : Type} (N : Nat) (k : Exit → St → Option R) (n : Nat) : ∀ (v0 : Arr api_Press) (v1 : Int) (v2 : Int) (v3 : Arr Int) (v4 : Int) (v5 : Bool) (v6 : Arr Int) (v7 : Fm Int) (v8 : calls_cage), loopM E.Θ (calls_longest_1_cal N) (calls_waits_v2_lp N) (calls_waits_v2_jn N) 2 calls_waits_v2_L6 (bodyAt E 51 6) n (calls_waits_v2_h6 v0 v1 v2 v3 v4 v5 v6 v7 v8) k = calls_waits_v2_l6 N n v0 v1 v2 v3 v4 v5 v6 v7 v8 (fun q3 => k (.exit 0) (calls_waits_v2_x6_0 v3 v4 v5 q3)) := by
  induction n with
  | zero => intro v0 v1 v2 v3 v4 v5 v6 v7 v8; rfl
  | succ n ih =>
    intro v0 v1 v2 v3 v4 v5 v6 v7 v8
    refine Eq.trans (b := calls_waits_v2_b6 N (fun v0 v1 v2 v3 v4 v5 v6 v7 v8 => loopM E.Θ (calls_longest_1_cal N) (calls_waits_v2_lp N) (calls_waits_v2_jn N) 2 calls_waits_v2_L6 (bodyAt E 51 6) n (calls_waits_v2_h6 v0 v1 v2 v3 v4 v5 v6 v7 v8) k) v0 v1 v2 v3 v4 v5 v6 v7 v8 (fun q3 => k (.exit 0) (calls_waits_v2_x6_0 v3 v4 v5 q3))) (by kernel_rfl) ?_
    have h : (fun (v0 : Arr api_Press) (v1 : Int) (v2 : Int) (v3 : Arr Int) (v4 : Int) (v5 : Bool) (v6 : Arr Int) (v7 : Fm Int) (v8 : calls_cage) => loopM E.Θ (calls_longest_1_cal N) (calls_waits_v2_lp N) (calls_waits_v2_jn N) 2 calls_waits_v2_L6 (bodyAt E 51 6) n (calls_waits_v2_h6 v0 v1 v2 v3 v4 v5 v6 v7 v8) k) = (fun (v0 : Arr api_Press) (v1 : Int) (v2 : Int) (v3 : Arr Int) (v4 : Int) (v5 : Bool) (v6 : Arr Int) (v7 : Fm Int) (v8 : calls_cage) => calls_waits_v2_l6 N n v0 v1 v2 v3 v4 v5 v6 v7 v8 (fun q3 => k (.exit 0) (calls_waits_v2_x6_0 v3 v4 v5 q3))) := funext fun v0 => funext fun v1 => funext fun v2 => funext fun v3 => funext fun v4 => funext fun v5 => funext fun v6 => funext fun v7 => funext fun v8 => ih v0 v1 v2 v3 v4 v5 v6 v7 v8
    rw [h]
    rfl
theorem calls_waits_v2_l9_eq {R : Type} (N : Nat) (k : Exit → St → Option R) (n : Nat) : ∀ (v0 : Arr api_Press) (v1 : Int) (v2 : Int) (v3 : Arr Int) (v4 : Int) (v5 : Bool) (v6 : Arr Int) (v7 : Fm Int) (v8 : calls_cage) (v9 : Bool) (v10 : Arr Int), loopM E.Θ (calls_longest_1_cal N) (calls_waits_v2_lp N) (calls_waits_v2_jn N) 2 calls_waits_v2_L9 (bodyAt E 51 9) n (calls_waits_v2_h9 v0 v1 v2 v3 v4 v5 v6 v7 v8 v9 v10) k = calls_waits_v2_l9 N n v0 v1 v2 v3 v4 v5 v6 v7 v8 v9 v10 (fun q1 q7 q9 q10 => k (.exit 2) (calls_waits_v2_x9_2 v0 v2 v3 v4 v5 v6 v8 q1 q7 q9 q10)) := by
  induction n with
  | zero => intro v0 v1 v2 v3 v4 v5 v6 v7 v8 v9 v10; rfl
  | succ n ih =>
    intro v0 v1 v2 v3 v4 v5 v6 v7 v8 v9 v10
    refine Eq.trans (b := calls_waits_v2_b9 N (fun v0 v1 v2 v3 v4 v5 v6 v7 v8 v9 v10 => loopM E.Θ (calls_longest_1_cal N) (calls_waits_v2_lp N) (calls_waits_v2_jn N) 2 calls_waits_v2_L9 (bodyAt E 51 9) n (calls_waits_v2_h9 v0 v1 v2 v3 v4 v5 v6 v7 v8 v9 v10) k) v0 v1 v2 v3 v4 v5 v6 v7 v8 v9 v10 (fun q1 q7 q9 q10 => k (.exit 2) (calls_waits_v2_x9_2 v0 v2 v3 v4 v5 v6 v8 q1 q7 q9 q10))) (by kernel_rfl) ?_
    have h : (fun (v0 : Arr api_Press) (v1 : Int) (v2 : Int) (v3 : Arr Int) (v4 : Int) (v5 : Bool) (v6 : Arr Int) (v7 : Fm Int) (v8 : calls_cage) (v9 : Bool) (v10 : Arr Int) => loopM E.Θ (calls_longest_1_cal N) (calls_waits_v2_lp N) (calls_waits_v2_jn N) 2 calls_waits_v2_L9 (bodyAt E 51 9) n (calls_waits_v2_h9 v0 v1 v2 v3 v4 v5 v6 v7 v8 v9 v10) k) = (fun (v0 : Arr api_Press) (v1 : Int) (v2 : Int) (v3 : Arr Int) (v4 : Int) (v5 : Bool) (v6 : Arr Int) (v7 : Fm Int) (v8 : calls_cage) (v9 : Bool) (v10 : Arr Int) => calls_waits_v2_l9 N n v0 v1 v2 v3 v4 v5 v6 v7 v8 v9 v10 (fun q1 q7 q9 q10 => k (.exit 2) (calls_waits_v2_x9_2 v0 v2 v3 v4 v5 v6 v8 q1 q7 q9 q10))) := funext fun v0 => funext fun v1 => funext fun v2 => funext fun v3 => funext fun v4 => funext fun v5 => funext fun v6 => funext fun v7 => funext fun v8 => funext fun v9 => funext fun v10 => ih v0 v1 v2 v3 v4 v5 v6 v7 v8 v9 v10
    rw [h]
    rfl
theorem calls_waits_v2_k16 {R : Type} (N : Nat) : LpKey (R := R) E 51 2 (calls_waits_v2_lp N) 16 := lpKey_none fun S k => by kernel_rfl
theorem calls_waits_v2_k20 {R : Type} (N : Nat) : LpKey (R := R) E 51 2 (calls_waits_v2_lp N) 20 := lpKey_none fun S k => by kernel_rfl
theorem calls_waits_v2_k9 {R : Type} (N : Nat) : LpKey (R := R) E 51 2 (calls_waits_v2_lp N) 9 :=
  lpKey_of hE (calls_longest_1_cal_ok N) (lp := calls_waits_v2_lp N) (jn := calls_waits_v2_jn N) calls_waits_v2_L9_ok [] kNil (by kernel_rfl) [] jNil (by kernel_rfl) N fun S k =>
    Eq.trans (b := calls_waits_v2_L9.head.raw 2 S (fun S0 => calls_waits_v2_d9 N S0 k)) (by kernel_rfl) (congrArg (calls_waits_v2_L9.head.raw 2 S) (funext fun S0 => Eq.trans (calls_waits_v2_l9_eq N k N (lstC api_PressC (lget S0.tmps 1)) (toI (lget S0.tmps 10)) (toI (lget S0.tmps 11)) (lstC intC (lget (entCs (entAt S0.tab 0)) 0)) (toI (lget (entCs (entAt S0.tab 1)) 0)) (entNl (entAt S0.tab 2)) (lst intC (entN (entAt S0.tab 2)) (entC (entAt S0.tab 2))) (fmD intC (entFh (entAt S0.tab 3)) (entFl (entAt S0.tab 3)) (entFg (entAt S0.tab 3))) (Cod.dec calls_cageC (lget (entCs (entAt S0.tab 4)))) (entNl (entAt S0.tab 5)) (lst intC (entN (entAt S0.tab 5)) (entC (entAt S0.tab 5)))).symm (by kernel_rfl)))
theorem calls_waits_v2_q0 {R : Type} (N : Nat) : JnKey (R := R) E 51 2 (calls_waits_v2_jn N) (15, 37) :=
  jnKey_hand calls_waits_v2_L100000_ok.head (fun S k => calls_waits_v2_L100000.head.raw 2 S (fun S0 => calls_waits_v2_d100000 N S0 k)) (by kernel_rfl) (fun S0 k => calls_waits_v2_d100000 N S0 k) (fun S k => rfl) fun S0 k r h =>
    waitsRound_ok2 (lstC api_PressC (lget S0.tmps 1)) (toI (lget S0.tmps 10)) (toI (lget S0.tmps 11)) (toI (lget S0.tmps 13)) (lstC intC (lget (entCs (entAt S0.tab 0)) 0)) (toI (lget (entCs (entAt S0.tab 1)) 0)) (entNl (entAt S0.tab 2)) (lst intC (entN (entAt S0.tab 2)) (entC (entAt S0.tab 2))) (fmD intC (entFh (entAt S0.tab 3)) (entFl (entAt S0.tab 3)) (entFg (entAt S0.tab 3))) (Cod.dec calls_cageC (lget (entCs (entAt S0.tab 4)))) h (Eq.trans (calls_waits_v2_j0_def N (lstC api_PressC (lget S0.tmps 1)) (toI (lget S0.tmps 10)) (toI (lget S0.tmps 11)) (toI (lget S0.tmps 13)) (lstC intC (lget (entCs (entAt S0.tab 0)) 0)) (toI (lget (entCs (entAt S0.tab 1)) 0)) (entNl (entAt S0.tab 2)) (lst intC (entN (entAt S0.tab 2)) (entC (entAt S0.tab 2))) (fmD intC (entFh (entAt S0.tab 3)) (entFl (entAt S0.tab 3)) (entFg (entAt S0.tab 3))) (Cod.dec calls_cageC (lget (entCs (entAt S0.tab 4)))) (fun q6 q7 => k .normal (calls_waits_v2_x100000_n (lstC api_PressC (lget S0.tmps 1)) (toI (lget S0.tmps 10)) (toI (lget S0.tmps 11)) (lstC intC (lget (entCs (entAt S0.tab 0)) 0)) (toI (lget (entCs (entAt S0.tab 1)) 0)) (entNl (entAt S0.tab 2)) (Cod.dec calls_cageC (lget (entCs (entAt S0.tab 4)))) q6 q7))) (by kernel_rfl)) (by kernel_rfl)
theorem calls_waits_v2_k6 {R : Type} (N : Nat) : LpKey (R := R) E 51 2 (calls_waits_v2_lp N) 6 :=
  lpKey_of hE (calls_longest_1_cal_ok N) (lp := calls_waits_v2_lp N) (jn := calls_waits_v2_jn N) calls_waits_v2_L6_ok [9, 16, 20] (kCons (calls_waits_v2_k9 N) (kCons (calls_waits_v2_k16 N) (kCons (calls_waits_v2_k20 N) kNil))) (by kernel_rfl) [(15, 37)] (jCons (calls_waits_v2_q0 N) jNil) (by kernel_rfl) N fun S k =>
    Eq.trans (b := calls_waits_v2_L6.head.raw 2 S (fun S0 => calls_waits_v2_d6 N S0 k)) (by kernel_rfl) (congrArg (calls_waits_v2_L6.head.raw 2 S) (funext fun S0 => Eq.trans (calls_waits_v2_l6_eq N k N (lstC api_PressC (lget S0.tmps 1)) (toI (lget S0.tmps 10)) (toI (lget S0.tmps 11)) (lstC intC (lget (entCs (entAt S0.tab 0)) 0)) (toI (lget (entCs (entAt S0.tab 1)) 0)) (entNl (entAt S0.tab 2)) (lst intC (entN (entAt S0.tab 2)) (entC (entAt S0.tab 2))) (fmD intC (entFh (entAt S0.tab 3)) (entFl (entAt S0.tab 3)) (entFg (entAt S0.tab 3))) (Cod.dec calls_cageC (lget (entCs (entAt S0.tab 4))))).symm (by kernel_rfl)))
noncomputable def calls_waits_v2_go {R : Type} (N : Nat) (args : List SV) (T : Tab) (kf : SV × Tab → Option R) : Option R :=
  calls_waits_v2 N (Cod.dec api_CarC (lget (toCs (lget args 0)))) (lstC api_PressC (lget args 1)) (lstC intC (lget (entCs (entAt T 0)) 0)) (toI (lget (entCs (entAt T 1)) 0)) (fun q2 q3 => kf (lget [.row 2] 0, [(0, .blk [slC intC (lstC intC (lget (entCs (entAt T 0)) 0))]), (1, .blk [.int .i64 (toI (lget (entCs (entAt T 1)) 0))]), (2, rowE intC q2 q3)]))
noncomputable def calls_waits_v2_cal {R : Type} (N : Nat) : Cal R := callM (calls_longest_1_cal N) 51 2 calls_waits_v2_sp (calls_waits_v2_go N)
theorem calls_waits_v2_cal_ok {R : Type} (N : Nat) : CalOk E.P (calls_waits_v2_cal (R := R) N) :=
  callM_ok hE (calls_longest_1_cal_ok N) (lp := calls_waits_v2_lp N) (jn := calls_waits_v2_jn N) (keys := [6, 9, 16, 20]) (kCons (calls_waits_v2_k6 N) (kCons (calls_waits_v2_k9 N) (kCons (calls_waits_v2_k16 N) (kCons (calls_waits_v2_k20 N) kNil)))) (by kernel_rfl) (js := [(15, 37)]) (jCons (calls_waits_v2_q0 N) jNil) (by kernel_rfl) calls_waits_v2_sp_ok calls_waits_v2_rs_ok (fun args T kf => Eq.trans (calls_waits_v2_def N (Cod.dec api_CarC (lget (toCs (lget args 0)))) (lstC api_PressC (lget args 1)) (lstC intC (lget (entCs (entAt T 0)) 0)) (toI (lget (entCs (entAt T 1)) 0)) (fun q2 q3 => kf (lget [.row 2] 0, [(0, .blk [slC intC (lstC intC (lget (entCs (entAt T 0)) 0))]), (1, .blk [.int .i64 (toI (lget (entCs (entAt T 1)) 0))]), (2, rowE intC q2 q3)]))) (by kernel_rfl : calls_waits_v2_run N args T kf = fnM E (calls_longest_1_cal N) (calls_waits_v2_lp N) (calls_waits_v2_jn N) 51 (calls_waits_v2_sp.vs args) (calls_waits_v2_sp.tab T) 2 (resK calls_waits_v2_rs kf)))
end
end Go.Proofs.Ytlphgonhenegoaa
