import Derived.Test.YtlphgonhenegoaaG1
set_option maxRecDepth 100000
set_option maxHeartbeats 0
set_option linter.unusedVariables false
namespace Go.Proofs.Ytlphgonhenegoaa
open Go.Sx
noncomputable section
def r7reach_L8 : LoopSp := ⟨⟨[2, 5, 6, 7, 8], ⟨(dr 2 ((rPtr 0 0) :: (dr 2 ((rRow 1) :: (rRow 2) :: (rInt .i64) :: (rInt .i64) :: (dr 62 []))))), [(0, eBlkC api_CarC), (1, eRow boolC), (2, eRow r7knotC)]⟩, 3⟩, [(some 2, ⟨[2, 5, 6, 7], ⟨(dr 2 ((rPtr 0 0) :: (dr 2 ((rRow 1) :: (rRow 2) :: (rInt .i64) :: (dr 63 []))))), [(0, eBlkC api_CarC), (1, eRow boolC), (2, eRow r7knotC)]⟩, 3⟩)]⟩
theorem r7reach_L8_ok : r7reach_L8.Ok := ⟨⟨(drCons 2 (allCons (rPtr_ok 0 0) (drCons 2 (allCons (rRow_ok 1) (allCons (rRow_ok 2) (allCons (rInt_ok .i64) (allCons (rInt_ok .i64) (drCons 62 allNil)))))))), (eCons (eBlkC_ok api_CarC_ok api_CarC_len) (eCons (eRow_ok boolC_ok) (eCons (eRow_ok r7knotC_ok) eNil)))⟩, (xCons ⟨(drCons 2 (allCons (rPtr_ok 0 0) (drCons 2 (allCons (rRow_ok 1) (allCons (rRow_ok 2) (allCons (rInt_ok .i64) (drCons 63 allNil))))))), (eCons (eBlkC_ok api_CarC_ok api_CarC_len) (eCons (eRow_ok boolC_ok) (eCons (eRow_ok r7knotC_ok) eNil)))⟩ xNil)⟩
def r7reach_h8 (v349 : Int) (v350 : Int) (v351 : api_Car) (v352 : Bool) (v353 : Arr Bool) (v354 : Bool) (v355 : Arr r7knot) : St := ⟨(un 2 ((.ptr 0 0) :: (un 2 ((.row 1) :: (.row 2) :: (.int .i64 v349) :: (.int .i64 v350) :: (un 62 []))))), [(0, .blk (Cod.enc api_CarC v351)), (1, rowE boolC v352 v353), (2, rowE r7knotC v354 v355)], 3⟩
def r7reach_x8_2 (v349 : Int) (v351 : api_Car) (v352 : Bool) (q3 : Arr Bool) (q4 : Bool) (q5 : Arr r7knot) : St := ⟨(un 2 ((.ptr 0 0) :: (un 2 ((.row 1) :: (.row 2) :: (.int .i64 v349) :: (un 63 []))))), [(0, .blk (Cod.enc api_CarC v351)), (1, rowE boolC v352 q3), (2, rowE r7knotC q4 q5)], 3⟩
def r7reach_b8 {R : Type} (N : Nat) (rc : Int → Int → api_Car → Bool → Arr Bool → Bool → Arr r7knot → Option R) (v349 : Int) (v350 : Int) (v351 : api_Car) (v352 : Bool) (v353 : Arr Bool) (v354 : Bool) (v355 : Arr r7knot) (k2 : Arr Bool → Bool → Arr r7knot → Option R) : Option R :=
 bif decide (IntKind.wrap IntKind.u64 (w64 (api_Car.High v351 + (1 : Int))) < (0 : Int)) then
 Option.none
 else
 bif decide (v350 < w64 ((1 : Int) * (2 : Int) ^ min (Int.toNat (IntKind.wrap IntKind.u64 (w64 (api_Car.High v351 + (1 : Int))))) (IntKind.bits IntKind.i64))) then
 bif decide (IntKind.wrap IntKind.u64 (api_Car.Low v351) < (0 : Int)) then
 Option.none
 else
 bif w64 (↑(BitVec.toNat (BitVec.ofInt (IntKind.bits IntKind.i64) v350 &&& BitVec.ofInt (IntKind.bits IntKind.i64) (w64 (w64 ((1 : Int) * (2 : Int) ^ min (Int.toNat (IntKind.wrap IntKind.u64 (api_Car.Low v351))) (IntKind.bits IntKind.i64)) - (1 : Int))))) : Int) != (0 : Int) then
 rc v349 (w64 (v350 + (1 : Int))) v351 v352 v353 v354 v355
 else
 bif decide ((0 : Int) ≤ v349) && decide (v349 < (↑(Arr.n v355) : Int)) then
 r7Tick N v351 (r7knot.f_ride (Arr.f v355 (Int.toNat v349))) v350 (fun r356 r357 =>
 r7code N r356 (fun r358 =>
 bif decide ((0 : Int) ≤ r358) && decide (r358 < (↑(Arr.n v353) : Int)) then
 bif !Arr.f v353 (Int.toNat r358) then
 r7code N r356 (fun r359 =>
 bif decide ((0 : Int) ≤ r359) && decide (r359 < (↑(Arr.n v353) : Int)) then
 bif room (Arr.n v355 + (1 : Nat)) then
 rc v349 (w64 (v350 + (1 : Int))) v351 v352 (lst boolC (Arr.n v353) (setCs (Int.toNat r359) (0 : Nat) (Cod.cell boolC (Arr.f v353)) [SV.bool true])) false (lst r7knotC (Arr.n v355 + (1 : Nat)) (catC (Arr.n v355) (Cod.cell r7knotC (Arr.f v355)) (litC [SV.int .i64 0, SV.bool false, SV.bool false, SV.int .i64 0, SV.int .i64 0, SV.int .i64 0, SV.int .i64 0, SV.int .i64 0] [[SV.int IntKind.i64 (api_Ride.Floor r356), SV.bool (api_Ride.Up r356), SV.bool (api_Ride.Stood r356), SV.int IntKind.i64 (api_Ride.Doing r356), SV.int IntKind.i64 (api_Ride.Left r356), SV.int IntKind.i64 (api_Ride.Wants r356), SV.int IntKind.i64 v349, SV.int IntKind.i64 v350]])))
 else
 Option.none
 else
 Option.none)
 else
 rc v349 (w64 (v350 + (1 : Int))) v351 v352 v353 v354 v355
 else
 Option.none))
 else
 Option.none
 else
 k2 v353 v354 v355
def r7reach_l8 {R : Type} (N : Nat) : Nat → Int → Int → api_Car → Bool → Arr Bool → Bool → Arr r7knot → (Arr Bool → Bool → Arr r7knot → Option R) → Option R
  | 0, _, _, _, _, _, _, _, _ => Option.none
  | n + 1, v349, v350, v351, v352, v353, v354, v355, k2 => r7reach_b8 N (fun v349 v350 v351 v352 v353 v354 v355 => r7reach_l8 N n v349 v350 v351 v352 v353 v354 v355 k2) v349 v350 v351 v352 v353 v354 v355 k2
def r7reach_L5 : LoopSp := ⟨⟨[2, 5, 6, 7], ⟨(dr 2 ((rPtr 0 0) :: (dr 2 ((rRow 1) :: (rRow 2) :: (rInt .i64) :: (dr 63 []))))), [(0, eBlkC api_CarC), (1, eRow boolC), (2, eRow r7knotC)]⟩, 3⟩, [(some 0, ⟨[6], ⟨(dr 6 ((rRow 0) :: (dr 64 []))), [(0, eRow r7knotC)]⟩, 1⟩)]⟩
theorem r7reach_L5_ok : r7reach_L5.Ok := ⟨⟨(drCons 2 (allCons (rPtr_ok 0 0) (drCons 2 (allCons (rRow_ok 1) (allCons (rRow_ok 2) (allCons (rInt_ok .i64) (drCons 63 allNil))))))), (eCons (eBlkC_ok api_CarC_ok api_CarC_len) (eCons (eRow_ok boolC_ok) (eCons (eRow_ok r7knotC_ok) eNil)))⟩, (xCons ⟨(drCons 6 (allCons (rRow_ok 0) (drCons 64 allNil))), (eCons (eRow_ok r7knotC_ok) eNil)⟩ xNil)⟩
def r7reach_h5 (v343 : Int) (v344 : api_Car) (v345 : Bool) (v346 : Arr Bool) (v347 : Bool) (v348 : Arr r7knot) : St := ⟨(un 2 ((.ptr 0 0) :: (un 2 ((.row 1) :: (.row 2) :: (.int .i64 v343) :: (un 63 []))))), [(0, .blk (Cod.enc api_CarC v344)), (1, rowE boolC v345 v346), (2, rowE r7knotC v347 v348)], 3⟩
def r7reach_x5_0 (q0 : Bool) (q1 : Arr r7knot) : St := ⟨(un 6 ((.row 0) :: (un 64 []))), [(0, rowE r7knotC q0 q1)], 1⟩
def r7reach_b5 {R : Type} (N : Nat) (rc : Int → api_Car → Bool → Arr Bool → Bool → Arr r7knot → Option R) (v343 : Int) (v344 : api_Car) (v345 : Bool) (v346 : Arr Bool) (v347 : Bool) (v348 : Arr r7knot) (k0 : Bool → Arr r7knot → Option R) : Option R :=
 bif decide (v343 < (↑(Arr.n v348) : Int)) then
 r7reach_l8 N N v343 (0 : Int) v344 v345 v346 v347 v348 (fun r360 r361 r362 =>
 rc (w64 (v343 + (1 : Int))) v344 v345 r360 r361 r362)
 else
 k0 v347 v348
def r7reach_l5 {R : Type} (N : Nat) : Nat → Int → api_Car → Bool → Arr Bool → Bool → Arr r7knot → (Bool → Arr r7knot → Option R) → Option R
  | 0, _, _, _, _, _, _, _ => Option.none
  | n + 1, v343, v344, v345, v346, v347, v348, k0 => r7reach_b5 N (fun v343 v344 v345 v346 v347 v348 => r7reach_l5 N n v343 v344 v345 v346 v347 v348 k0) v343 v344 v345 v346 v347 v348 k0
def r7reach_m {R : Type} (N : Nat) (a340 : api_Car) (a341 : api_Ride) (k : Bool → Arr r7knot → Option R) : Option R :=
 r7code N a341 (fun r342 =>
 bif decide ((0 : Int) ≤ r342) && decide (r342 < (↑(Int.toNat (65536 : Int)) : Int)) then
 r7reach_l5 N N (0 : Int) a340 false (lst boolC (65536 : Nat) (setCs (Int.toNat r342) (0 : Nat) (zeroC [SV.bool false]) [SV.bool true])) false (lst r7knotC (1 : Nat) (litC [SV.int .i64 0, SV.bool false, SV.bool false, SV.int .i64 0, SV.int .i64 0, SV.int .i64 0, SV.int .i64 0, SV.int .i64 0] [[SV.int IntKind.i64 (api_Ride.Floor a341), SV.bool (api_Ride.Up a341), SV.bool (api_Ride.Stood a341), SV.int IntKind.i64 (api_Ride.Doing a341), SV.int IntKind.i64 (api_Ride.Left a341), SV.int IntKind.i64 (api_Ride.Wants a341), SV.int IntKind.i64 (-1 : Int), SV.int .i64 0]])) (fun r363 r364 =>
 k r363 r364)
 else
 Option.none)
noncomputable def r7reach {R : Type} : Nat → api_Car → api_Ride → (Bool → Arr r7knot → Option R) → Option R := lock (@r7reach_m R)
theorem r7reach_def {R : Type} (N : Nat) (a340 : api_Car) (a341 : api_Ride) (k : Bool → Arr r7knot → Option R) : r7reach N a340 a341 k = r7reach_m N a340 a341 k := by unfold r7reach; rw [lock_eq]
def r7reach_sp : Sp := ⟨[rAgg api_CarC, rAgg api_RideC], []⟩
theorem r7reach_sp_ok : r7reach_sp.Ok := ⟨(allCons (rAgg_ok api_CarC_ok api_CarC_len) (allCons (rAgg_ok api_RideC_ok api_RideC_len) allNil)), eNil⟩
def r7reach_rs : Sp := ⟨[rRow 0], [(0, eRow r7knotC)]⟩
theorem r7reach_rs_ok : r7reach_rs.Ok := ⟨(allCons (rRow_ok 0) allNil), (eCons (eRow_ok r7knotC_ok) eNil)⟩
def r7reach_run {R : Type} (N : Nat) (args : List SV) (T : Tab) (kf : SV × Tab → Option R) : Option R :=
  r7reach_m N (Cod.dec api_CarC (lget (toCs (lget args 0)))) (Cod.dec api_RideC (lget (toCs (lget args 1)))) (fun q0 q1 => kf (lget [.row 0] 0, [(0, rowE r7knotC q0 q1)]))
def r7reach_d8 {R : Type} (N : Nat) (S0 : St) (k : Exit → St → Option R) : Option R :=
  r7reach_l8 N N (toI (lget S0.tmps 7)) (toI (lget S0.tmps 8)) (Cod.dec api_CarC (lget (entCs (entAt S0.tab 0)))) (entNl (entAt S0.tab 1)) (lst boolC (entN (entAt S0.tab 1)) (entC (entAt S0.tab 1))) (entNl (entAt S0.tab 2)) (lst r7knotC (entN (entAt S0.tab 2)) (entC (entAt S0.tab 2))) (fun q3 q4 q5 => k (.exit 2) (r7reach_x8_2 (toI (lget S0.tmps 7)) (Cod.dec api_CarC (lget (entCs (entAt S0.tab 0)))) (entNl (entAt S0.tab 1)) q3 q4 q5))
def r7reach_d5 {R : Type} (N : Nat) (S0 : St) (k : Exit → St → Option R) : Option R :=
  r7reach_l5 N N (toI (lget S0.tmps 7)) (Cod.dec api_CarC (lget (entCs (entAt S0.tab 0)))) (entNl (entAt S0.tab 1)) (lst boolC (entN (entAt S0.tab 1)) (entC (entAt S0.tab 1))) (entNl (entAt S0.tab 2)) (lst r7knotC (entN (entAt S0.tab 2)) (entC (entAt S0.tab 2))) (fun q0 q1 => k (.exit 0) (r7reach_x5_0 q0 q1))
def r7reach_lp {R : Type} (N : Nat) : Lp R := fun body S k => bif (Go.Sx.keyOf body).getD 0 == 5 then (r7reach_L5.head.raw 0 S (fun S0 => r7reach_d5 N S0 k)) else bif (Go.Sx.keyOf body).getD 0 == 8 then (r7reach_L8.head.raw 0 S (fun S0 => r7reach_d8 N S0 k)) else Option.none
theorem r7reach_l5_eq {R : Type} (N : Nat) (k : Exit → St → Option R) (n : Nat) : ∀ (v0 : Int) (v1 : api_Car) (v2 : Bool) (v3 : Arr Bool) (v4 : Bool) (v5 : Arr r7knot), loopM E.Θ (r7checkFloor_cal N) (r7reach_lp N) (noJn) 0 r7reach_L5 (bodyAt E 56 5) n (r7reach_h5 v0 v1 v2 v3 v4 v5) k = r7reach_l5 N n v0 v1 v2 v3 v4 v5 (fun q0 q1 => k (.exit 0) (r7reach_x5_0 q0 q1)) := by
  induction n with
  | zero => intro v0 v1 v2 v3 v4 v5; rfl
  | succ n ih =>
    intro v0 v1 v2 v3 v4 v5
    refine Eq.trans (b := r7reach_b5 N (fun v0 v1 v2 v3 v4 v5 => loopM E.Θ (r7checkFloor_cal N) (r7reach_lp N) (noJn) 0 r7reach_L5 (bodyAt E 56 5) n (r7reach_h5 v0 v1 v2 v3 v4 v5) k) v0 v1 v2 v3 v4 v5 (fun q0 q1 => k (.exit 0) (r7reach_x5_0 q0 q1))) (by kernel_rfl) ?_
    have h : (fun (v0 : Int) (v1 : api_Car) (v2 : Bool) (v3 : Arr Bool) (v4 : Bool) (v5 : Arr r7knot) => loopM E.Θ (r7checkFloor_cal N) (r7reach_lp N) (noJn) 0 r7reach_L5 (bodyAt E 56 5) n (r7reach_h5 v0 v1 v2 v3 v4 v5) k) = (fun (v0 : Int) (v1 : api_Car) (v2 : Bool) (v3 : Arr Bool) (v4 : Bool) (v5 : Arr r7knot) => r7reach_l5 N n v0 v1 v2 v3 v4 v5 (fun q0 q1 => k (.exit 0) (r7reach_x5_0 q0 q1))) := funext fun v0 => funext fun v1 => funext fun v2 => funext fun v3 => funext fun v4 => funext fun v5 => ih v0 v1 v2 v3 v4 v5
    rw [h]
    rfl
theorem r7reach_l8_eq {R : Type} (N : Nat) (k : Exit → St → Option R) (n : Nat) : ∀ (v0 : Int) (v1 : Int) (v2 : api_Car) (v3 : Bool) (v4 : Arr Bool) (v5 : Bool) (v6 : Arr r7knot), loopM E.Θ (r7checkFloor_cal N) (r7reach_lp N) (noJn) 0 r7reach_L8 (bodyAt E 56 8) n (r7reach_h8 v0 v1 v2 v3 v4 v5 v6) k = r7reach_l8 N n v0 v1 v2 v3 v4 v5 v6 (fun q3 q4 q5 => k (.exit 2) (r7reach_x8_2 v0 v2 v3 q3 q4 q5)) := by
  induction n with
  | zero => intro v0 v1 v2 v3 v4 v5 v6; rfl
  | succ n ih =>
    intro v0 v1 v2 v3 v4 v5 v6
    refine Eq.trans (b := r7reach_b8 N (fun v0 v1 v2 v3 v4 v5 v6 => loopM E.Θ (r7checkFloor_cal N) (r7reach_lp N) (noJn) 0 r7reach_L8 (bodyAt E 56 8) n (r7reach_h8 v0 v1 v2 v3 v4 v5 v6) k) v0 v1 v2 v3 v4 v5 v6 (fun q3 q4 q5 => k (.exit 2) (r7reach_x8_2 v0 v2 v3 q3 q4 q5))) (by kernel_rfl) ?_
    have h : (fun (v0 : Int) (v1 : Int) (v2 : api_Car) (v3 : Bool) (v4 : Arr Bool) (v5 : Bool) (v6 : Arr r7knot) => loopM E.Θ (r7checkFloor_cal N) (r7reach_lp N) (noJn) 0 r7reach_L8 (bodyAt E 56 8) n (r7reach_h8 v0 v1 v2 v3 v4 v5 v6) k) = (fun (v0 : Int) (v1 : Int) (v2 : api_Car) (v3 : Bool) (v4 : Arr Bool) (v5 : Bool) (v6 : Arr r7knot) => r7reach_l8 N n v0 v1 v2 v3 v4 v5 v6 (fun q3 q4 q5 => k (.exit 2) (r7reach_x8_2 v0 v2 v3 q3 q4 q5))) := funext fun v0 => funext fun v1 => funext fun v2 => funext fun v3 => funext fun v4 => funext fun v5 => funext fun v6 => ih v0 v1 v2 v3 v4 v5 v6
    rw [h]
    rfl
theorem r7reach_k8 {R : Type} (N : Nat) : LpKey (R := R) E 56 0 (r7reach_lp N) 8 :=
  lpKey_of hE (r7checkFloor_cal_ok N) (lp := r7reach_lp N) (jn := noJn) r7reach_L8_ok [] kNil (by kernel_rfl) [] jNil (by kernel_rfl) N fun S k =>
    Eq.trans (b := r7reach_L8.head.raw 0 S (fun S0 => r7reach_d8 N S0 k)) (by kernel_rfl) (congrArg (r7reach_L8.head.raw 0 S) (funext fun S0 => Eq.trans (r7reach_l8_eq N k N (toI (lget S0.tmps 7)) (toI (lget S0.tmps 8)) (Cod.dec api_CarC (lget (entCs (entAt S0.tab 0)))) (entNl (entAt S0.tab 1)) (lst boolC (entN (entAt S0.tab 1)) (entC (entAt S0.tab 1))) (entNl (entAt S0.tab 2)) (lst r7knotC (entN (entAt S0.tab 2)) (entC (entAt S0.tab 2)))).symm (by kernel_rfl)))
theorem r7reach_k5 {R : Type} (N : Nat) : LpKey (R := R) E 56 0 (r7reach_lp N) 5 :=
  lpKey_of hE (r7checkFloor_cal_ok N) (lp := r7reach_lp N) (jn := noJn) r7reach_L5_ok [8] (kCons (r7reach_k8 N) kNil) (by kernel_rfl) [] jNil (by kernel_rfl) N fun S k =>
    Eq.trans (b := r7reach_L5.head.raw 0 S (fun S0 => r7reach_d5 N S0 k)) (by kernel_rfl) (congrArg (r7reach_L5.head.raw 0 S) (funext fun S0 => Eq.trans (r7reach_l5_eq N k N (toI (lget S0.tmps 7)) (Cod.dec api_CarC (lget (entCs (entAt S0.tab 0)))) (entNl (entAt S0.tab 1)) (lst boolC (entN (entAt S0.tab 1)) (entC (entAt S0.tab 1))) (entNl (entAt S0.tab 2)) (lst r7knotC (entN (entAt S0.tab 2)) (entC (entAt S0.tab 2)))).symm (by kernel_rfl)))
noncomputable def r7reach_go {R : Type} (N : Nat) (args : List SV) (T : Tab) (kf : SV × Tab → Option R) : Option R :=
  r7reach N (Cod.dec api_CarC (lget (toCs (lget args 0)))) (Cod.dec api_RideC (lget (toCs (lget args 1)))) (fun q0 q1 => kf (lget [.row 0] 0, [(0, rowE r7knotC q0 q1)]))
noncomputable def r7reach_cal {R : Type} (N : Nat) : Cal R := callM (r7checkFloor_cal N) 56 0 r7reach_sp (r7reach_go N)
theorem r7reach_cal_ok {R : Type} (N : Nat) : CalOk E.P (r7reach_cal (R := R) N) :=
  callM_ok hE (r7checkFloor_cal_ok N) (lp := r7reach_lp N) (jn := noJn) (keys := [5, 8]) (kCons (r7reach_k5 N) (kCons (r7reach_k8 N) kNil)) (by kernel_rfl) (js := []) jNil (by kernel_rfl) r7reach_sp_ok r7reach_rs_ok (fun args T kf => Eq.trans (r7reach_def N (Cod.dec api_CarC (lget (toCs (lget args 0)))) (Cod.dec api_RideC (lget (toCs (lget args 1)))) (fun q0 q1 => kf (lget [.row 0] 0, [(0, rowE r7knotC q0 q1)]))) (by kernel_rfl : r7reach_run N args T kf = fnM E (r7checkFloor_cal N) (r7reach_lp N) (noJn) 56 (r7reach_sp.vs args) (r7reach_sp.tab T) 0 (resK r7reach_rs kf)))
def r7bounds_L11 : LoopSp := ⟨⟨[1, 2, 3, 7, 8, 9, 10, 11], ⟨(dr 1 ((rSl r7knotC) :: (rInt .i64) :: (rPtr 0 0) :: (dr 3 ((rRow 1) :: (rBool) :: (rInt .i64) :: (rInt .i64) :: (rInt .i64) :: (dr 83 []))))), [(0, eBlkC api_CarC), (1, eRow intC)]⟩, 2⟩, [(some 4, ⟨[1, 2, 3, 7, 8, 9, 10], ⟨(dr 1 ((rSl r7knotC) :: (rInt .i64) :: (rPtr 0 0) :: (dr 3 ((rRow 1) :: (rBool) :: (rInt .i64) :: (rInt .i64) :: (dr 84 []))))), [(0, eBlkC api_CarC), (1, eRow intC)]⟩, 2⟩)]⟩
theorem r7bounds_L11_ok : r7bounds_L11.Ok := ⟨⟨(drCons 1 (allCons (rSl_ok r7knotC_ok) (allCons (rInt_ok .i64) (allCons (rPtr_ok 0 0) (drCons 3 (allCons (rRow_ok 1) (allCons rBool_ok (allCons (rInt_ok .i64) (allCons (rInt_ok .i64) (allCons (rInt_ok .i64) (drCons 83 allNil))))))))))), (eCons (eBlkC_ok api_CarC_ok api_CarC_len) (eCons (eRow_ok intC_ok) eNil))⟩, (xCons ⟨(drCons 1 (allCons (rSl_ok r7knotC_ok) (allCons (rInt_ok .i64) (allCons (rPtr_ok 0 0) (drCons 3 (allCons (rRow_ok 1) (allCons rBool_ok (allCons (rInt_ok .i64) (allCons (rInt_ok .i64) (drCons 84 allNil)))))))))), (eCons (eBlkC_ok api_CarC_ok api_CarC_len) (eCons (eRow_ok intC_ok) eNil))⟩ xNil)⟩
def r7bounds_h11 (v384 : Arr r7knot) (v385 : Int) (v386 : Bool) (v387 : Int) (v388 : Int) (v389 : Int) (v390 : api_Car) (v391 : Bool) (v392 : Arr Int) : St := ⟨(un 1 ((slC r7knotC v384) :: (.int .i64 v385) :: (.ptr 0 0) :: (un 3 ((.row 1) :: (.bool v386) :: (.int .i64 v387) :: (.int .i64 v388) :: (.int .i64 v389) :: (un 83 []))))), [(0, .blk (Cod.enc api_CarC v390)), (1, rowE intC v391 v392)], 2⟩
def r7bounds_x11_4 (v384 : Arr r7knot) (v385 : Int) (v386 : Bool) (v387 : Int) (v390 : api_Car) (v391 : Bool) (v392 : Arr Int) (q4 : Int) : St := ⟨(un 1 ((slC r7knotC v384) :: (.int .i64 v385) :: (.ptr 0 0) :: (un 3 ((.row 1) :: (.bool v386) :: (.int .i64 v387) :: (.int .i64 q4) :: (un 84 []))))), [(0, .blk (Cod.enc api_CarC v390)), (1, rowE intC v391 v392)], 2⟩
def r7bounds_b11 {R : Type} (N : Nat) (rc : Arr r7knot → Int → Bool → Int → Int → Int → api_Car → Bool → Arr Int → Option R) (v384 : Arr r7knot) (v385 : Int) (v386 : Bool) (v387 : Int) (v388 : Int) (v389 : Int) (v390 : api_Car) (v391 : Bool) (v392 : Arr Int) (k4 : Int → Option R) : Option R :=
 bif decide (IntKind.wrap IntKind.u64 (w64 (api_Car.High v390 + (1 : Int))) < (0 : Int)) then
 Option.none
 else
 bif decide (v389 < w64 ((1 : Int) * (2 : Int) ^ min (Int.toNat (IntKind.wrap IntKind.u64 (w64 (api_Car.High v390 + (1 : Int))))) (IntKind.bits IntKind.i64))) then
 bif decide (IntKind.wrap IntKind.u64 (api_Car.Low v390) < (0 : Int)) then
 Option.none
 else
 bif w64 (↑(BitVec.toNat (BitVec.ofInt (IntKind.bits IntKind.i64) v389 &&& BitVec.ofInt (IntKind.bits IntKind.i64) (w64 (w64 ((1 : Int) * (2 : Int) ^ min (Int.toNat (IntKind.wrap IntKind.u64 (api_Car.Low v390))) (IntKind.bits IntKind.i64)) - (1 : Int))))) : Int) != (0 : Int) then
 rc v384 v385 v386 v387 v388 (w64 (v389 + (1 : Int))) v390 v391 v392
 else
 bif decide ((0 : Int) ≤ v387) && decide (v387 < (↑(Arr.n v384) : Int)) then
 r7Tick N v390 (r7knot.f_ride (Arr.f v384 (Int.toNat v387))) v389 (fun r393 r394 =>
 bif decide (IntKind.wrap IntKind.u64 v385 < (0 : Int)) then
 Option.none
 else
 bif w64 (↑(BitVec.toNat (BitVec.ofInt (IntKind.bits IntKind.i64) (Int.fdiv r394 ((2 : Int) ^ min (Int.toNat (IntKind.wrap IntKind.u64 v385)) (IntKind.bits IntKind.i64))) &&& BitVec.ofInt (IntKind.bits IntKind.i64) (1 : Int))) : Int) == (1 : Int) then
 rc v384 v385 v386 v387 (mxI v388 (1 : Int)) (w64 (v389 + (1 : Int))) v390 v391 v392
 else
 r7code N r393 (fun r395 =>
 bif decide ((0 : Int) ≤ r395) && decide (r395 < (↑(Arr.n v392) : Int)) then
 rc v384 v385 v386 v387 (mxI v388 (w64 ((1 : Int) + Arr.f v392 (Int.toNat r395)))) (w64 (v389 + (1 : Int))) v390 v391 v392
 else
 Option.none))
 else
 Option.none
 else
 k4 v388
def r7bounds_l11 {R : Type} (N : Nat) : Nat → Arr r7knot → Int → Bool → Int → Int → Int → api_Car → Bool → Arr Int → (Int → Option R) → Option R
  | 0, _, _, _, _, _, _, _, _, _, _ => Option.none
  | n + 1, v384, v385, v386, v387, v388, v389, v390, v391, v392, k4 => r7bounds_b11 N (fun v384 v385 v386 v387 v388 v389 v390 v391 v392 => r7bounds_l11 N n v384 v385 v386 v387 v388 v389 v390 v391 v392 k4) v384 v385 v386 v387 v388 v389 v390 v391 v392 k4
def r7bounds_L6 : LoopSp := ⟨⟨[1, 2, 3, 7, 8, 9], ⟨(dr 1 ((rSl r7knotC) :: (rInt .i64) :: (rPtr 0 0) :: (dr 3 ((rRow 1) :: (rBool) :: (rInt .i64) :: (dr 85 []))))), [(0, eBlkC api_CarC), (1, eRow intC)]⟩, 2⟩, [(some 2, ⟨[1, 2, 3, 7, 8], ⟨(dr 1 ((rSl r7knotC) :: (rInt .i64) :: (rPtr 0 0) :: (dr 3 ((rRow 1) :: (rBool) :: (dr 86 []))))), [(0, eBlkC api_CarC), (1, eRow intC)]⟩, 2⟩)]⟩
theorem r7bounds_L6_ok : r7bounds_L6.Ok := ⟨⟨(drCons 1 (allCons (rSl_ok r7knotC_ok) (allCons (rInt_ok .i64) (allCons (rPtr_ok 0 0) (drCons 3 (allCons (rRow_ok 1) (allCons rBool_ok (allCons (rInt_ok .i64) (drCons 85 allNil))))))))), (eCons (eBlkC_ok api_CarC_ok api_CarC_len) (eCons (eRow_ok intC_ok) eNil))⟩, (xCons ⟨(drCons 1 (allCons (rSl_ok r7knotC_ok) (allCons (rInt_ok .i64) (allCons (rPtr_ok 0 0) (drCons 3 (allCons (rRow_ok 1) (allCons rBool_ok (drCons 86 allNil)))))))), (eCons (eBlkC_ok api_CarC_ok api_CarC_len) (eCons (eRow_ok intC_ok) eNil))⟩ xNil)⟩
def r7bounds_h6 (v376 : Arr r7knot) (v377 : Int) (v378 : Bool) (v379 : Int) (v380 : api_Car) (v381 : Bool) (v382 : Arr Int) : St := ⟨(un 1 ((slC r7knotC v376) :: (.int .i64 v377) :: (.ptr 0 0) :: (un 3 ((.row 1) :: (.bool v378) :: (.int .i64 v379) :: (un 85 []))))), [(0, .blk (Cod.enc api_CarC v380)), (1, rowE intC v381 v382)], 2⟩
def r7bounds_x6_2 (v376 : Arr r7knot) (v377 : Int) (v380 : api_Car) (v381 : Bool) (q2 : Bool) (q5 : Arr Int) : St := ⟨(un 1 ((slC r7knotC v376) :: (.int .i64 v377) :: (.ptr 0 0) :: (un 3 ((.row 1) :: (.bool q2) :: (un 86 []))))), [(0, .blk (Cod.enc api_CarC v380)), (1, rowE intC v381 q5)], 2⟩
def r7bounds_b6 {R : Type} (N : Nat) (rc : Arr r7knot → Int → Bool → Int → api_Car → Bool → Arr Int → Option R) (v376 : Arr r7knot) (v377 : Int) (v378 : Bool) (v379 : Int) (v380 : api_Car) (v381 : Bool) (v382 : Arr Int) (k2 : Bool → Arr Int → Option R) : Option R :=
 bif decide (v379 < (↑(Arr.n v376) : Int)) then
 bif decide ((0 : Int) ≤ v379) && decide (v379 < (↑(Arr.n v376) : Int)) then
 r7wanted N (r7knot.f_ride (Arr.f v376 (Int.toNat v379))) v377 (fun r383 =>
 bif !r383 then
 rc v376 v377 v378 (w64 (v379 + (1 : Int))) v380 v381 v382
 else
 r7bounds_l11 N N v376 v377 v378 v379 (0 : Int) (0 : Int) v380 v381 v382 (fun r396 =>
 bif decide ((0 : Int) ≤ v379) && decide (v379 < (↑(Arr.n v376) : Int)) then
 r7code N (r7knot.f_ride (Arr.f v376 (Int.toNat v379))) (fun r397 =>
 bif decide ((0 : Int) ≤ r397) && decide (r397 < (↑(Arr.n v382) : Int)) then
 bif decide (r396 > Arr.f v382 (Int.toNat r397)) then
 bif decide ((0 : Int) ≤ v379) && decide (v379 < (↑(Arr.n v376) : Int)) then
 r7code N (r7knot.f_ride (Arr.f v376 (Int.toNat v379))) (fun r398 =>
 bif decide ((0 : Int) ≤ r398) && decide (r398 < (↑(Arr.n v382) : Int)) then
 rc v376 v377 true (w64 (v379 + (1 : Int))) v380 v381 (lst intC (Arr.n v382) (setCs (Int.toNat r398) (0 : Nat) (Cod.cell intC (Arr.f v382)) [SV.int IntKind.i64 r396]))
 else
 Option.none)
 else
 Option.none
 else
 rc v376 v377 v378 (w64 (v379 + (1 : Int))) v380 v381 v382
 else
 Option.none)
 else
 Option.none))
 else
 Option.none
 else
 k2 v378 v382
def r7bounds_l6 {R : Type} (N : Nat) : Nat → Arr r7knot → Int → Bool → Int → api_Car → Bool → Arr Int → (Bool → Arr Int → Option R) → Option R
  | 0, _, _, _, _, _, _, _, _ => Option.none
  | n + 1, v376, v377, v378, v379, v380, v381, v382, k2 => r7bounds_b6 N (fun v376 v377 v378 v379 v380 v381 v382 => r7bounds_l6 N n v376 v377 v378 v379 v380 v381 v382 k2) v376 v377 v378 v379 v380 v381 v382 k2
def r7bounds_L3 : LoopSp := ⟨⟨[1, 2, 3, 7, 8], ⟨(dr 1 ((rSl r7knotC) :: (rInt .i64) :: (rPtr 0 0) :: (dr 3 ((rRow 1) :: (rBool) :: (dr 86 []))))), [(0, eBlkC api_CarC), (1, eRow intC)]⟩, 2⟩, [(some 0, ⟨[7], ⟨(dr 7 ((rRow 0) :: (dr 87 []))), [(0, eRow intC)]⟩, 1⟩)]⟩
theorem r7bounds_L3_ok : r7bounds_L3.Ok := ⟨⟨(drCons 1 (allCons (rSl_ok r7knotC_ok) (allCons (rInt_ok .i64) (allCons (rPtr_ok 0 0) (drCons 3 (allCons (rRow_ok 1) (allCons rBool_ok (drCons 86 allNil)))))))), (eCons (eBlkC_ok api_CarC_ok api_CarC_len) (eCons (eRow_ok intC_ok) eNil))⟩, (xCons ⟨(drCons 7 (allCons (rRow_ok 0) (drCons 87 allNil))), (eCons (eRow_ok intC_ok) eNil)⟩ xNil)⟩
def r7bounds_h3 (v370 : Arr r7knot) (v371 : Int) (v372 : Bool) (v373 : api_Car) (v374 : Bool) (v375 : Arr Int) : St := ⟨(un 1 ((slC r7knotC v370) :: (.int .i64 v371) :: (.ptr 0 0) :: (un 3 ((.row 1) :: (.bool v372) :: (un 86 []))))), [(0, .blk (Cod.enc api_CarC v373)), (1, rowE intC v374 v375)], 2⟩
def r7bounds_x3_0 (v374 : Bool) (q1 : Arr Int) : St := ⟨(un 7 ((.row 0) :: (un 87 []))), [(0, rowE intC v374 q1)], 1⟩
def r7bounds_b3 {R : Type} (N : Nat) (rc : Arr r7knot → Int → Bool → api_Car → Bool → Arr Int → Option R) (v370 : Arr r7knot) (v371 : Int) (v372 : Bool) (v373 : api_Car) (v374 : Bool) (v375 : Arr Int) (k0 : Arr Int → Option R) : Option R :=
 bif v372 then
 r7bounds_l6 N N v370 v371 false (0 : Int) v373 v374 v375 (fun r399 r400 =>
 rc v370 v371 r399 v373 v374 r400)
 else
 k0 v375
def r7bounds_l3 {R : Type} (N : Nat) : Nat → Arr r7knot → Int → Bool → api_Car → Bool → Arr Int → (Arr Int → Option R) → Option R
  | 0, _, _, _, _, _, _, _ => Option.none
  | n + 1, v370, v371, v372, v373, v374, v375, k0 => r7bounds_b3 N (fun v370 v371 v372 v373 v374 v375 => r7bounds_l3 N n v370 v371 v372 v373 v374 v375 k0) v370 v371 v372 v373 v374 v375 k0
def r7bounds_m {R : Type} (N : Nat) (a367 : api_Car) (a368 : Arr r7knot) (a369 : Int) (k : Bool → Arr Int → Option R) : Option R :=
 r7bounds_l3 N N a368 a369 true a367 false (lst intC (65536 : Nat) (zeroC [SV.int .i64 0])) (fun r401 =>
 k false r401)
noncomputable def r7bounds {R : Type} : Nat → api_Car → Arr r7knot → Int → (Bool → Arr Int → Option R) → Option R := lock (@r7bounds_m R)
theorem r7bounds_def {R : Type} (N : Nat) (a367 : api_Car) (a368 : Arr r7knot) (a369 : Int) (k : Bool → Arr Int → Option R) : r7bounds N a367 a368 a369 k = r7bounds_m N a367 a368 a369 k := by unfold r7bounds; rw [lock_eq]
def r7bounds_sp : Sp := ⟨[rAgg api_CarC, rSl r7knotC, rInt .i64], []⟩
theorem r7bounds_sp_ok : r7bounds_sp.Ok := ⟨(allCons (rAgg_ok api_CarC_ok api_CarC_len) (allCons (rSl_ok r7knotC_ok) (allCons (rInt_ok .i64) allNil))), eNil⟩
def r7bounds_rs : Sp := ⟨[rRow 0], [(0, eRow intC)]⟩
theorem r7bounds_rs_ok : r7bounds_rs.Ok := ⟨(allCons (rRow_ok 0) allNil), (eCons (eRow_ok intC_ok) eNil)⟩
def r7bounds_run {R : Type} (N : Nat) (args : List SV) (T : Tab) (kf : SV × Tab → Option R) : Option R :=
  r7bounds_m N (Cod.dec api_CarC (lget (toCs (lget args 0)))) (lstC r7knotC (lget args 1)) (toI (lget args 2)) (fun q0 q1 => kf (lget [.row 0] 0, [(0, rowE intC q0 q1)]))
def r7bounds_d11 {R : Type} (N : Nat) (S0 : St) (k : Exit → St → Option R) : Option R :=
  r7bounds_l11 N N (lstC r7knotC (lget S0.tmps 1)) (toI (lget S0.tmps 2)) (toB (lget S0.tmps 8)) (toI (lget S0.tmps 9)) (toI (lget S0.tmps 10)) (toI (lget S0.tmps 11)) (Cod.dec api_CarC (lget (entCs (entAt S0.tab 0)))) (entNl (entAt S0.tab 1)) (lst intC (entN (entAt S0.tab 1)) (entC (entAt S0.tab 1))) (fun q4 => k (.exit 4) (r7bounds_x11_4 (lstC r7knotC (lget S0.tmps 1)) (toI (lget S0.tmps 2)) (toB (lget S0.tmps 8)) (toI (lget S0.tmps 9)) (Cod.dec api_CarC (lget (entCs (entAt S0.tab 0)))) (entNl (entAt S0.tab 1)) (lst intC (entN (entAt S0.tab 1)) (entC (entAt S0.tab 1))) q4))
def r7bounds_d6 {R : Type} (N : Nat) (S0 : St) (k : Exit → St → Option R) : Option R :=
  r7bounds_l6 N N (lstC r7knotC (lget S0.tmps 1)) (toI (lget S0.tmps 2)) (toB (lget S0.tmps 8)) (toI (lget S0.tmps 9)) (Cod.dec api_CarC (lget (entCs (entAt S0.tab 0)))) (entNl (entAt S0.tab 1)) (lst intC (entN (entAt S0.tab 1)) (entC (entAt S0.tab 1))) (fun q2 q5 => k (.exit 2) (r7bounds_x6_2 (lstC r7knotC (lget S0.tmps 1)) (toI (lget S0.tmps 2)) (Cod.dec api_CarC (lget (entCs (entAt S0.tab 0)))) (entNl (entAt S0.tab 1)) q2 q5))
def r7bounds_d3 {R : Type} (N : Nat) (S0 : St) (k : Exit → St → Option R) : Option R :=
  r7bounds_l3 N N (lstC r7knotC (lget S0.tmps 1)) (toI (lget S0.tmps 2)) (toB (lget S0.tmps 8)) (Cod.dec api_CarC (lget (entCs (entAt S0.tab 0)))) (entNl (entAt S0.tab 1)) (lst intC (entN (entAt S0.tab 1)) (entC (entAt S0.tab 1))) (fun q1 => k (.exit 0) (r7bounds_x3_0 (entNl (entAt S0.tab 1)) q1))
def r7bounds_lp {R : Type} (N : Nat) : Lp R := fun body S k => bif (Go.Sx.keyOf body).getD 0 == 3 then (r7bounds_L3.head.raw 0 S (fun S0 => r7bounds_d3 N S0 k)) else bif (Go.Sx.keyOf body).getD 0 == 6 then (r7bounds_L6.head.raw 0 S (fun S0 => r7bounds_d6 N S0 k)) else bif (Go.Sx.keyOf body).getD 0 == 11 then (r7bounds_L11.head.raw 0 S (fun S0 => r7bounds_d11 N S0 k)) else Option.none
theorem r7bounds_l3_eq {R : Type} (N : Nat) (k : Exit → St → Option R) (n : Nat) : ∀ (v0 : Arr r7knot) (v1 : Int) (v2 : Bool) (v3 : api_Car) (v4 : Bool) (v5 : Arr Int), loopM E.Θ (r7reach_cal N) (r7bounds_lp N) (noJn) 0 r7bounds_L3 (bodyAt E 58 3) n (r7bounds_h3 v0 v1 v2 v3 v4 v5) k = r7bounds_l3 N n v0 v1 v2 v3 v4 v5 (fun q1 => k (.exit 0) (r7bounds_x3_0 v4 q1)) := by
  induction n with
  | zero => intro v0 v1 v2 v3 v4 v5; rfl
  | succ n ih =>
    intro v0 v1 v2 v3 v4 v5
    refine Eq.trans (b := r7bounds_b3 N (fun v0 v1 v2 v3 v4 v5 => loopM E.Θ (r7reach_cal N) (r7bounds_lp N) (noJn) 0 r7bounds_L3 (bodyAt E 58 3) n (r7bounds_h3 v0 v1 v2 v3 v4 v5) k) v0 v1 v2 v3 v4 v5 (fun q1 => k (.exit 0) (r7bounds_x3_0 v4 q1))) (by kernel_rfl) ?_
    have h : (fun (v0 : Arr r7knot) (v1 : Int) (v2 : Bool) (v3 : api_Car) (v4 : Bool) (v5 : Arr Int) => loopM E.Θ (r7reach_cal N) (r7bounds_lp N) (noJn) 0 r7bounds_L3 (bodyAt E 58 3) n (r7bounds_h3 v0 v1 v2 v3 v4 v5) k) = (fun (v0 : Arr r7knot) (v1 : Int) (v2 : Bool) (v3 : api_Car) (v4 : Bool) (v5 : Arr Int) => r7bounds_l3 N n v0 v1 v2 v3 v4 v5 (fun q1 => k (.exit 0) (r7bounds_x3_0 v4 q1))) := funext fun v0 => funext fun v1 => funext fun v2 => funext fun v3 => funext fun v4 => funext fun v5 => ih v0 v1 v2 v3 v4 v5
    rw [h]
    rfl
theorem r7bounds_l6_eq {R : Type} (N : Nat) (k : Exit → St → Option R) (n : Nat) : ∀ (v0 : Arr r7knot) (v1 : Int) (v2 : Bool) (v3 : Int) (v4 : api_Car) (v5 : Bool) (v6 : Arr Int), loopM E.Θ (r7reach_cal N) (r7bounds_lp N) (noJn) 0 r7bounds_L6 (bodyAt E 58 6) n (r7bounds_h6 v0 v1 v2 v3 v4 v5 v6) k = r7bounds_l6 N n v0 v1 v2 v3 v4 v5 v6 (fun q2 q5 => k (.exit 2) (r7bounds_x6_2 v0 v1 v4 v5 q2 q5)) := by
  induction n with
  | zero => intro v0 v1 v2 v3 v4 v5 v6; rfl
  | succ n ih =>
    intro v0 v1 v2 v3 v4 v5 v6
    refine Eq.trans (b := r7bounds_b6 N (fun v0 v1 v2 v3 v4 v5 v6 => loopM E.Θ (r7reach_cal N) (r7bounds_lp N) (noJn) 0 r7bounds_L6 (bodyAt E 58 6) n (r7bounds_h6 v0 v1 v2 v3 v4 v5 v6) k) v0 v1 v2 v3 v4 v5 v6 (fun q2 q5 => k (.exit 2) (r7bounds_x6_2 v0 v1 v4 v5 q2 q5))) (by kernel_rfl) ?_
    have h : (fun (v0 : Arr r7knot) (v1 : Int) (v2 : Bool) (v3 : Int) (v4 : api_Car) (v5 : Bool) (v6 : Arr Int) => loopM E.Θ (r7reach_cal N) (r7bounds_lp N) (noJn) 0 r7bounds_L6 (bodyAt E 58 6) n (r7bounds_h6 v0 v1 v2 v3 v4 v5 v6) k) = (fun (v0 : Arr r7knot) (v1 : Int) (v2 : Bool) (v3 : Int) (v4 : api_Car) (v5 : Bool) (v6 : Arr Int) => r7bounds_l6 N n v0 v1 v2 v3 v4 v5 v6 (fun q2 q5 => k (.exit 2) (r7bounds_x6_2 v0 v1 v4 v5 q2 q5))) := funext fun v0 => funext fun v1 => funext fun v2 => funext fun v3 => funext fun v4 => funext fun v5 => funext fun v6 => ih v0 v1 v2 v3 v4 v5 v6
    rw [h]
    rfl
theorem r7bounds_l11_eq {R : Type} (N : Nat) (k : Exit → St → Option R) (n : Nat) : ∀ (v0 : Arr r7knot) (v1 : Int) (v2 : Bool) (v3 : Int) (v4 : Int) (v5 : Int) (v6 : api_Car) (v7 : Bool) (v8 : Arr Int), loopM E.Θ (r7reach_cal N) (r7bounds_lp N) (noJn) 0 r7bounds_L11 (bodyAt E 58 11) n (r7bounds_h11 v0 v1 v2 v3 v4 v5 v6 v7 v8) k = r7bounds_l11 N n v0 v1 v2 v3 v4 v5 v6 v7 v8 (fun q4 => k (.exit 4) (r7bounds_x11_4 v0 v1 v2 v3 v6 v7 v8 q4)) := by
  induction n with
  | zero => intro v0 v1 v2 v3 v4 v5 v6 v7 v8; rfl
  | succ n ih =>
    intro v0 v1 v2 v3 v4 v5 v6 v7 v8
    refine Eq.trans (b := r7bounds_b11 N (fun v0 v1 v2 v3 v4 v5 v6 v7 v8 => loopM E.Θ (r7reach_cal N) (r7bounds_lp N) (noJn) 0 r7bounds_L11 (bodyAt E 58 11) n (r7bounds_h11 v0 v1 v2 v3 v4 v5 v6 v7 v8) k) v0 v1 v2 v3 v4 v5 v6 v7 v8 (fun q4 => k (.exit 4) (r7bounds_x11_4 v0 v1 v2 v3 v6 v7 v8 q4))) (by kernel_rfl) ?_
    have h : (fun (v0 : Arr r7knot) (v1 : Int) (v2 : Bool) (v3 : Int) (v4 : Int) (v5 : Int) (v6 : api_Car) (v7 : Bool) (v8 : Arr Int) => loopM E.Θ (r7reach_cal N) (r7bounds_lp N) (noJn) 0 r7bounds_L11 (bodyAt E 58 11) n (r7bounds_h11 v0 v1 v2 v3 v4 v5 v6 v7 v8) k) = (fun (v0 : Arr r7knot) (v1 : Int) (v2 : Bool) (v3 : Int) (v4 : Int) (v5 : Int) (v6 : api_Car) (v7 : Bool) (v8 : Arr Int) => r7bounds_l11 N n v0 v1 v2 v3 v4 v5 v6 v7 v8 (fun q4 => k (.exit 4) (r7bounds_x11_4 v0 v1 v2 v3 v6 v7 v8 q4))) := funext fun v0 => funext fun v1 => funext fun v2 => funext fun v3 => funext fun v4 => funext fun v5 => funext fun v6 => funext fun v7 => funext fun v8 => ih v0 v1 v2 v3 v4 v5 v6 v7 v8
    rw [h]
    rfl
theorem r7bounds_k11 {R : Type} (N : Nat) : LpKey (R := R) E 58 0 (r7bounds_lp N) 11 :=
  lpKey_of hE (r7reach_cal_ok N) (lp := r7bounds_lp N) (jn := noJn) r7bounds_L11_ok [] kNil (by kernel_rfl) [] jNil (by kernel_rfl) N fun S k =>
    Eq.trans (b := r7bounds_L11.head.raw 0 S (fun S0 => r7bounds_d11 N S0 k)) (by kernel_rfl) (congrArg (r7bounds_L11.head.raw 0 S) (funext fun S0 => Eq.trans (r7bounds_l11_eq N k N (lstC r7knotC (lget S0.tmps 1)) (toI (lget S0.tmps 2)) (toB (lget S0.tmps 8)) (toI (lget S0.tmps 9)) (toI (lget S0.tmps 10)) (toI (lget S0.tmps 11)) (Cod.dec api_CarC (lget (entCs (entAt S0.tab 0)))) (entNl (entAt S0.tab 1)) (lst intC (entN (entAt S0.tab 1)) (entC (entAt S0.tab 1)))).symm (by kernel_rfl)))
theorem r7bounds_k6 {R : Type} (N : Nat) : LpKey (R := R) E 58 0 (r7bounds_lp N) 6 :=
  lpKey_of hE (r7reach_cal_ok N) (lp := r7bounds_lp N) (jn := noJn) r7bounds_L6_ok [11] (kCons (r7bounds_k11 N) kNil) (by kernel_rfl) [] jNil (by kernel_rfl) N fun S k =>
    Eq.trans (b := r7bounds_L6.head.raw 0 S (fun S0 => r7bounds_d6 N S0 k)) (by kernel_rfl) (congrArg (r7bounds_L6.head.raw 0 S) (funext fun S0 => Eq.trans (r7bounds_l6_eq N k N (lstC r7knotC (lget S0.tmps 1)) (toI (lget S0.tmps 2)) (toB (lget S0.tmps 8)) (toI (lget S0.tmps 9)) (Cod.dec api_CarC (lget (entCs (entAt S0.tab 0)))) (entNl (entAt S0.tab 1)) (lst intC (entN (entAt S0.tab 1)) (entC (entAt S0.tab 1)))).symm (by kernel_rfl)))
theorem r7bounds_k3 {R : Type} (N : Nat) : LpKey (R := R) E 58 0 (r7bounds_lp N) 3 :=
  lpKey_of hE (r7reach_cal_ok N) (lp := r7bounds_lp N) (jn := noJn) r7bounds_L3_ok [6, 11] (kCons (r7bounds_k6 N) (kCons (r7bounds_k11 N) kNil)) (by kernel_rfl) [] jNil (by kernel_rfl) N fun S k =>
    Eq.trans (b := r7bounds_L3.head.raw 0 S (fun S0 => r7bounds_d3 N S0 k)) (by kernel_rfl) (congrArg (r7bounds_L3.head.raw 0 S) (funext fun S0 => Eq.trans (r7bounds_l3_eq N k N (lstC r7knotC (lget S0.tmps 1)) (toI (lget S0.tmps 2)) (toB (lget S0.tmps 8)) (Cod.dec api_CarC (lget (entCs (entAt S0.tab 0)))) (entNl (entAt S0.tab 1)) (lst intC (entN (entAt S0.tab 1)) (entC (entAt S0.tab 1)))).symm (by kernel_rfl)))
noncomputable def r7bounds_go {R : Type} (N : Nat) (args : List SV) (T : Tab) (kf : SV × Tab → Option R) : Option R :=
  r7bounds N (Cod.dec api_CarC (lget (toCs (lget args 0)))) (lstC r7knotC (lget args 1)) (toI (lget args 2)) (fun q0 q1 => kf (lget [.row 0] 0, [(0, rowE intC q0 q1)]))
noncomputable def r7bounds_cal {R : Type} (N : Nat) : Cal R := callM (r7reach_cal N) 58 0 r7bounds_sp (r7bounds_go N)
theorem r7bounds_cal_ok {R : Type} (N : Nat) : CalOk E.P (r7bounds_cal (R := R) N) :=
  callM_ok hE (r7reach_cal_ok N) (lp := r7bounds_lp N) (jn := noJn) (keys := [3, 6, 11]) (kCons (r7bounds_k3 N) (kCons (r7bounds_k6 N) (kCons (r7bounds_k11 N) kNil))) (by kernel_rfl) (js := []) jNil (by kernel_rfl) r7bounds_sp_ok r7bounds_rs_ok (fun args T kf => Eq.trans (r7bounds_def N (Cod.dec api_CarC (lget (toCs (lget args 0)))) (lstC r7knotC (lget args 1)) (toI (lget args 2)) (fun q0 q1 => kf (lget [.row 0] 0, [(0, rowE intC q0 q1)]))) (by kernel_rfl : r7bounds_run N args T kf = fnM E (r7reach_cal N) (r7bounds_lp N) (noJn) 58 (r7bounds_sp.vs args) (r7bounds_sp.tab T) 0 (resK r7bounds_rs kf)))
def r7worst_L6 : LoopSp := ⟨⟨[1, 2, 3, 4, 11, 12, 13, 14, 15], ⟨(dr 1 ((rSl r7knotC) :: (rSl intC) :: (rInt .i64) :: (rPtr 0 0) :: (dr 6 ((rInt .i64) :: (rInt .i64) :: (rInt .i64) :: (rInt .i64) :: (rInt .i64) :: (dr 74 []))))), [(0, eBlkC api_CarC)]⟩, 1⟩, [(some 2, ⟨[1, 2, 3, 4, 11, 12, 13, 14], ⟨(dr 1 ((rSl r7knotC) :: (rSl intC) :: (rInt .i64) :: (rPtr 0 0) :: (dr 6 ((rInt .i64) :: (rInt .i64) :: (rInt .i64) :: (rInt .i64) :: (dr 75 []))))), [(0, eBlkC api_CarC)]⟩, 1⟩)]⟩
theorem r7worst_L6_ok : r7worst_L6.Ok := ⟨⟨(drCons 1 (allCons (rSl_ok r7knotC_ok) (allCons (rSl_ok intC_ok) (allCons (rInt_ok .i64) (allCons (rPtr_ok 0 0) (drCons 6 (allCons (rInt_ok .i64) (allCons (rInt_ok .i64) (allCons (rInt_ok .i64) (allCons (rInt_ok .i64) (allCons (rInt_ok .i64) (drCons 74 allNil)))))))))))), (eCons (eBlkC_ok api_CarC_ok api_CarC_len) eNil)⟩, (xCons ⟨(drCons 1 (allCons (rSl_ok r7knotC_ok) (allCons (rSl_ok intC_ok) (allCons (rInt_ok .i64) (allCons (rPtr_ok 0 0) (drCons 6 (allCons (rInt_ok .i64) (allCons (rInt_ok .i64) (allCons (rInt_ok .i64) (allCons (rInt_ok .i64) (drCons 75 allNil))))))))))), (eCons (eBlkC_ok api_CarC_ok api_CarC_len) eNil)⟩ xNil)⟩
def r7worst_h6 (v453 : Arr r7knot) (v454 : Arr Int) (v455 : Int) (v456 : Int) (v457 : Int) (v458 : Int) (v459 : Int) (v460 : Int) (v461 : api_Car) : St := ⟨(un 1 ((slC r7knotC v453) :: (slC intC v454) :: (.int .i64 v455) :: (.ptr 0 0) :: (un 6 ((.int .i64 v456) :: (.int .i64 v457) :: (.int .i64 v458) :: (.int .i64 v459) :: (.int .i64 v460) :: (un 74 []))))), [(0, .blk (Cod.enc api_CarC v461))], 1⟩
def r7worst_x6_2 (v453 : Arr r7knot) (v454 : Arr Int) (v455 : Int) (v459 : Int) (v461 : api_Car) (q3 : Int) (q4 : Int) (q5 : Int) : St := ⟨(un 1 ((slC r7knotC v453) :: (slC intC v454) :: (.int .i64 v455) :: (.ptr 0 0) :: (un 6 ((.int .i64 q3) :: (.int .i64 q4) :: (.int .i64 q5) :: (.int .i64 v459) :: (un 75 []))))), [(0, .blk (Cod.enc api_CarC v461))], 1⟩
def r7worst_b6 {R : Type} (N : Nat) (rc : Arr r7knot → Arr Int → Int → Int → Int → Int → Int → Int → api_Car → Option R) (v453 : Arr r7knot) (v454 : Arr Int) (v455 : Int) (v456 : Int) (v457 : Int) (v458 : Int) (v459 : Int) (v460 : Int) (v461 : api_Car) (k2 : Int → Int → Int → Option R) : Option R :=
 bif decide (IntKind.wrap IntKind.u64 (w64 (api_Car.High v461 + (1 : Int))) < (0 : Int)) then
 Option.none
 else
 bif decide (v460 < w64 ((1 : Int) * (2 : Int) ^ min (Int.toNat (IntKind.wrap IntKind.u64 (w64 (api_Car.High v461 + (1 : Int))))) (IntKind.bits IntKind.i64))) then
 bif decide (IntKind.wrap IntKind.u64 (api_Car.Low v461) < (0 : Int)) then
 Option.none
 else
 bif w64 (↑(BitVec.toNat (BitVec.ofInt (IntKind.bits IntKind.i64) v460 &&& BitVec.ofInt (IntKind.bits IntKind.i64) (w64 (w64 ((1 : Int) * (2 : Int) ^ min (Int.toNat (IntKind.wrap IntKind.u64 (api_Car.Low v461))) (IntKind.bits IntKind.i64)) - (1 : Int))))) : Int) != (0 : Int) then
 rc v453 v454 v455 v456 v457 v458 v459 (w64 (v460 + (1 : Int))) v461
 else
 bif decide (IntKind.wrap IntKind.u64 v455 < (0 : Int)) then
 Option.none
 else
 bif w64 (↑(BitVec.toNat (BitVec.ofInt (IntKind.bits IntKind.i64) (Int.fdiv v460 ((2 : Int) ^ min (Int.toNat (IntKind.wrap IntKind.u64 v455)) (IntKind.bits IntKind.i64))) &&& BitVec.ofInt (IntKind.bits IntKind.i64) (1 : Int))) : Int) == (0 : Int) then
 rc v453 v454 v455 v456 v457 v458 v459 (w64 (v460 + (1 : Int))) v461
 else
 bif decide ((0 : Int) ≤ v459) && decide (v459 < (↑(Arr.n v453) : Int)) then
 r7wanted N (r7knot.f_ride (Arr.f v453 (Int.toNat v459))) v455 (fun r462 =>
 bif r462 then
 rc v453 v454 v455 v456 v457 v458 v459 (w64 (v460 + (1 : Int))) v461
 else
 bif decide ((0 : Int) ≤ v459) && decide (v459 < (↑(Arr.n v453) : Int)) then
 r7Tick N v461 (r7knot.f_ride (Arr.f v453 (Int.toNat v459))) v460 (fun r463 r464 =>
 bif decide (IntKind.wrap IntKind.u64 v455 < (0 : Int)) then
 Option.none
 else
 bif w64 (↑(BitVec.toNat (BitVec.ofInt (IntKind.bits IntKind.i64) (Int.fdiv r464 ((2 : Int) ^ min (Int.toNat (IntKind.wrap IntKind.u64 v455)) (IntKind.bits IntKind.i64))) &&& BitVec.ofInt (IntKind.bits IntKind.i64) (1 : Int))) : Int) == (0 : Int) then
 r7code N r463 (fun r465 =>
 bif decide ((0 : Int) ≤ r465) && decide (r465 < (↑(Arr.n v454) : Int)) then
 bif decide (Arr.f v454 (Int.toNat r465) > v456) then
 rc v453 v454 v455 (Arr.f v454 (Int.toNat r465)) v459 v460 v459 (w64 (v460 + (1 : Int))) v461
 else
 rc v453 v454 v455 v456 v457 v458 v459 (w64 (v460 + (1 : Int))) v461
 else
 Option.none)
 else
 bif decide ((0 : Int) > v456) then
 rc v453 v454 v455 (0 : Int) v459 v460 v459 (w64 (v460 + (1 : Int))) v461
 else
 rc v453 v454 v455 v456 v457 v458 v459 (w64 (v460 + (1 : Int))) v461)
 else
 Option.none)
 else
 Option.none
 else
 k2 v456 v457 v458
def r7worst_l6 {R : Type} (N : Nat) : Nat → Arr r7knot → Arr Int → Int → Int → Int → Int → Int → Int → api_Car → (Int → Int → Int → Option R) → Option R
  | 0, _, _, _, _, _, _, _, _, _, _ => Option.none
  | n + 1, v453, v454, v455, v456, v457, v458, v459, v460, v461, k2 => r7worst_b6 N (fun v453 v454 v455 v456 v457 v458 v459 v460 v461 => r7worst_l6 N n v453 v454 v455 v456 v457 v458 v459 v460 v461 k2) v453 v454 v455 v456 v457 v458 v459 v460 v461 k2
def r7worst_L3 : LoopSp := ⟨⟨[1, 2, 3, 4, 11, 12, 13, 14], ⟨(dr 1 ((rSl r7knotC) :: (rSl intC) :: (rInt .i64) :: (rPtr 0 0) :: (dr 6 ((rInt .i64) :: (rInt .i64) :: (rInt .i64) :: (rInt .i64) :: (dr 75 []))))), [(0, eBlkC api_CarC)]⟩, 1⟩, [(some 0, ⟨[11, 12, 13], ⟨(dr 11 ((rInt .i64) :: (rInt .i64) :: (rInt .i64) :: (dr 76 []))), []⟩, 0⟩)]⟩
theorem r7worst_L3_ok : r7worst_L3.Ok := ⟨⟨(drCons 1 (allCons (rSl_ok r7knotC_ok) (allCons (rSl_ok intC_ok) (allCons (rInt_ok .i64) (allCons (rPtr_ok 0 0) (drCons 6 (allCons (rInt_ok .i64) (allCons (rInt_ok .i64) (allCons (rInt_ok .i64) (allCons (rInt_ok .i64) (drCons 75 allNil))))))))))), (eCons (eBlkC_ok api_CarC_ok api_CarC_len) eNil)⟩, (xCons ⟨(drCons 11 (allCons (rInt_ok .i64) (allCons (rInt_ok .i64) (allCons (rInt_ok .i64) (drCons 76 allNil))))), eNil⟩ xNil)⟩
def r7worst_h3 (v445 : Arr r7knot) (v446 : Arr Int) (v447 : Int) (v448 : Int) (v449 : Int) (v450 : Int) (v451 : Int) (v452 : api_Car) : St := ⟨(un 1 ((slC r7knotC v445) :: (slC intC v446) :: (.int .i64 v447) :: (.ptr 0 0) :: (un 6 ((.int .i64 v448) :: (.int .i64 v449) :: (.int .i64 v450) :: (.int .i64 v451) :: (un 75 []))))), [(0, .blk (Cod.enc api_CarC v452))], 1⟩
def r7worst_x3_0 (q0 : Int) (q1 : Int) (q2 : Int) : St := ⟨(un 11 ((.int .i64 q0) :: (.int .i64 q1) :: (.int .i64 q2) :: (un 76 []))), [], 0⟩
def r7worst_b3 {R : Type} (N : Nat) (rc : Arr r7knot → Arr Int → Int → Int → Int → Int → Int → api_Car → Option R) (v445 : Arr r7knot) (v446 : Arr Int) (v447 : Int) (v448 : Int) (v449 : Int) (v450 : Int) (v451 : Int) (v452 : api_Car) (k0 : Int → Int → Int → Option R) : Option R :=
 bif decide (v451 < (↑(Arr.n v445) : Int)) then
 r7worst_l6 N N v445 v446 v447 v448 v449 v450 v451 (0 : Int) v452 (fun r466 r467 r468 =>
 rc v445 v446 v447 r466 r467 r468 (w64 (v451 + (1 : Int))) v452)
 else
 k0 v448 v449 v450
def r7worst_l3 {R : Type} (N : Nat) : Nat → Arr r7knot → Arr Int → Int → Int → Int → Int → Int → api_Car → (Int → Int → Int → Option R) → Option R
  | 0, _, _, _, _, _, _, _, _, _ => Option.none
  | n + 1, v445, v446, v447, v448, v449, v450, v451, v452, k0 => r7worst_b3 N (fun v445 v446 v447 v448 v449 v450 v451 v452 => r7worst_l3 N n v445 v446 v447 v448 v449 v450 v451 v452 k0) v445 v446 v447 v448 v449 v450 v451 v452 k0
def r7worst_m {R : Type} (N : Nat) (a441 : api_Car) (a442 : Arr r7knot) (a443 : Arr Int) (a444 : Int) (k : Int → Int → Int → Option R) : Option R :=
 r7worst_l3 N N a442 a443 a444 (-1 : Int) (0 : Int) (0 : Int) (0 : Int) a441 (fun r469 r470 r471 =>
 k r469 r470 r471)
noncomputable def r7worst {R : Type} : Nat → api_Car → Arr r7knot → Arr Int → Int → (Int → Int → Int → Option R) → Option R := lock (@r7worst_m R)
theorem r7worst_def {R : Type} (N : Nat) (a441 : api_Car) (a442 : Arr r7knot) (a443 : Arr Int) (a444 : Int) (k : Int → Int → Int → Option R) : r7worst N a441 a442 a443 a444 k = r7worst_m N a441 a442 a443 a444 k := by unfold r7worst; rw [lock_eq]
def r7worst_sp : Sp := ⟨[rAgg api_CarC, rSl r7knotC, rSl intC, rInt .i64], []⟩
theorem r7worst_sp_ok : r7worst_sp.Ok := ⟨(allCons (rAgg_ok api_CarC_ok api_CarC_len) (allCons (rSl_ok r7knotC_ok) (allCons (rSl_ok intC_ok) (allCons (rInt_ok .i64) allNil)))), eNil⟩
def r7worst_rs : Sp := ⟨[rTup [rInt .i64, rInt .i64, rInt .i64]], []⟩
theorem r7worst_rs_ok : r7worst_rs.Ok := ⟨(allCons (rTup_ok (allCons (rInt_ok .i64) (allCons (rInt_ok .i64) (allCons (rInt_ok .i64) allNil)))) allNil), eNil⟩
def r7worst_run {R : Type} (N : Nat) (args : List SV) (T : Tab) (kf : SV × Tab → Option R) : Option R :=
  r7worst_m N (Cod.dec api_CarC (lget (toCs (lget args 0)))) (lstC r7knotC (lget args 1)) (lstC intC (lget args 2)) (toI (lget args 3)) (fun q0 q1 q2 => kf (lget [.tup [.int .i64 q0, .int .i64 q1, .int .i64 q2]] 0, []))
def r7worst_d6 {R : Type} (N : Nat) (S0 : St) (k : Exit → St → Option R) : Option R :=
  r7worst_l6 N N (lstC r7knotC (lget S0.tmps 1)) (lstC intC (lget S0.tmps 2)) (toI (lget S0.tmps 3)) (toI (lget S0.tmps 11)) (toI (lget S0.tmps 12)) (toI (lget S0.tmps 13)) (toI (lget S0.tmps 14)) (toI (lget S0.tmps 15)) (Cod.dec api_CarC (lget (entCs (entAt S0.tab 0)))) (fun q3 q4 q5 => k (.exit 2) (r7worst_x6_2 (lstC r7knotC (lget S0.tmps 1)) (lstC intC (lget S0.tmps 2)) (toI (lget S0.tmps 3)) (toI (lget S0.tmps 14)) (Cod.dec api_CarC (lget (entCs (entAt S0.tab 0)))) q3 q4 q5))
def r7worst_d3 {R : Type} (N : Nat) (S0 : St) (k : Exit → St → Option R) : Option R :=
  r7worst_l3 N N (lstC r7knotC (lget S0.tmps 1)) (lstC intC (lget S0.tmps 2)) (toI (lget S0.tmps 3)) (toI (lget S0.tmps 11)) (toI (lget S0.tmps 12)) (toI (lget S0.tmps 13)) (toI (lget S0.tmps 14)) (Cod.dec api_CarC (lget (entCs (entAt S0.tab 0)))) (fun q0 q1 q2 => k (.exit 0) (r7worst_x3_0 q0 q1 q2))
def r7worst_lp {R : Type} (N : Nat) : Lp R := fun body S k => bif (Go.Sx.keyOf body).getD 0 == 3 then (r7worst_L3.head.raw 0 S (fun S0 => r7worst_d3 N S0 k)) else bif (Go.Sx.keyOf body).getD 0 == 6 then (r7worst_L6.head.raw 0 S (fun S0 => r7worst_d6 N S0 k)) else Option.none
theorem r7worst_l3_eq {R : Type} (N : Nat) (k : Exit → St → Option R) (n : Nat) : ∀ (v0 : Arr r7knot) (v1 : Arr Int) (v2 : Int) (v3 : Int) (v4 : Int) (v5 : Int) (v6 : Int) (v7 : api_Car), loopM E.Θ (r7bounds_cal N) (r7worst_lp N) (noJn) 0 r7worst_L3 (bodyAt E 57 3) n (r7worst_h3 v0 v1 v2 v3 v4 v5 v6 v7) k = r7worst_l3 N n v0 v1 v2 v3 v4 v5 v6 v7 (fun q0 q1 q2 => k (.exit 0) (r7worst_x3_0 q0 q1 q2)) := by
  induction n with
  | zero => intro v0 v1 v2 v3 v4 v5 v6 v7; rfl
  | succ n ih =>
    intro v0 v1 v2 v3 v4 v5 v6 v7
    refine Eq.trans (b := r7worst_b3 N (fun v0 v1 v2 v3 v4 v5 v6 v7 => loopM E.Θ (r7bounds_cal N) (r7worst_lp N) (noJn) 0 r7worst_L3 (bodyAt E 57 3) n (r7worst_h3 v0 v1 v2 v3 v4 v5 v6 v7) k) v0 v1 v2 v3 v4 v5 v6 v7 (fun q0 q1 q2 => k (.exit 0) (r7worst_x3_0 q0 q1 q2))) (by kernel_rfl) ?_
    have h : (fun (v0 : Arr r7knot) (v1 : Arr Int) (v2 : Int) (v3 : Int) (v4 : Int) (v5 : Int) (v6 : Int) (v7 : api_Car) => loopM E.Θ (r7bounds_cal N) (r7worst_lp N) (noJn) 0 r7worst_L3 (bodyAt E 57 3) n (r7worst_h3 v0 v1 v2 v3 v4 v5 v6 v7) k) = (fun (v0 : Arr r7knot) (v1 : Arr Int) (v2 : Int) (v3 : Int) (v4 : Int) (v5 : Int) (v6 : Int) (v7 : api_Car) => r7worst_l3 N n v0 v1 v2 v3 v4 v5 v6 v7 (fun q0 q1 q2 => k (.exit 0) (r7worst_x3_0 q0 q1 q2))) := funext fun v0 => funext fun v1 => funext fun v2 => funext fun v3 => funext fun v4 => funext fun v5 => funext fun v6 => funext fun v7 => ih v0 v1 v2 v3 v4 v5 v6 v7
    rw [h]
    rfl
theorem r7worst_l6_eq {R : Type} (N : Nat) (k : Exit → St → Option R) (n : Nat) : ∀ (v0 : Arr r7knot) (v1 : Arr Int) (v2 : Int) (v3 : Int) (v4 : Int) (v5 : Int) (v6 : Int) (v7 : Int) (v8 : api_Car), loopM E.Θ (r7bounds_cal N) (r7worst_lp N) (noJn) 0 r7worst_L6 (bodyAt E 57 6) n (r7worst_h6 v0 v1 v2 v3 v4 v5 v6 v7 v8) k = r7worst_l6 N n v0 v1 v2 v3 v4 v5 v6 v7 v8 (fun q3 q4 q5 => k (.exit 2) (r7worst_x6_2 v0 v1 v2 v6 v8 q3 q4 q5)) := by
  induction n with
  | zero => intro v0 v1 v2 v3 v4 v5 v6 v7 v8; rfl
  | succ n ih =>
    intro v0 v1 v2 v3 v4 v5 v6 v7 v8
    refine Eq.trans (b := r7worst_b6 N (fun v0 v1 v2 v3 v4 v5 v6 v7 v8 => loopM E.Θ (r7bounds_cal N) (r7worst_lp N) (noJn) 0 r7worst_L6 (bodyAt E 57 6) n (r7worst_h6 v0 v1 v2 v3 v4 v5 v6 v7 v8) k) v0 v1 v2 v3 v4 v5 v6 v7 v8 (fun q3 q4 q5 => k (.exit 2) (r7worst_x6_2 v0 v1 v2 v6 v8 q3 q4 q5))) (by kernel_rfl) ?_
    have h : (fun (v0 : Arr r7knot) (v1 : Arr Int) (v2 : Int) (v3 : Int) (v4 : Int) (v5 : Int) (v6 : Int) (v7 : Int) (v8 : api_Car) => loopM E.Θ (r7bounds_cal N) (r7worst_lp N) (noJn) 0 r7worst_L6 (bodyAt E 57 6) n (r7worst_h6 v0 v1 v2 v3 v4 v5 v6 v7 v8) k) = (fun (v0 : Arr r7knot) (v1 : Arr Int) (v2 : Int) (v3 : Int) (v4 : Int) (v5 : Int) (v6 : Int) (v7 : Int) (v8 : api_Car) => r7worst_l6 N n v0 v1 v2 v3 v4 v5 v6 v7 v8 (fun q3 q4 q5 => k (.exit 2) (r7worst_x6_2 v0 v1 v2 v6 v8 q3 q4 q5))) := funext fun v0 => funext fun v1 => funext fun v2 => funext fun v3 => funext fun v4 => funext fun v5 => funext fun v6 => funext fun v7 => funext fun v8 => ih v0 v1 v2 v3 v4 v5 v6 v7 v8
    rw [h]
    rfl
theorem r7worst_k6 {R : Type} (N : Nat) : LpKey (R := R) E 57 0 (r7worst_lp N) 6 :=
  lpKey_of hE (r7bounds_cal_ok N) (lp := r7worst_lp N) (jn := noJn) r7worst_L6_ok [] kNil (by kernel_rfl) [] jNil (by kernel_rfl) N fun S k =>
    Eq.trans (b := r7worst_L6.head.raw 0 S (fun S0 => r7worst_d6 N S0 k)) (by kernel_rfl) (congrArg (r7worst_L6.head.raw 0 S) (funext fun S0 => Eq.trans (r7worst_l6_eq N k N (lstC r7knotC (lget S0.tmps 1)) (lstC intC (lget S0.tmps 2)) (toI (lget S0.tmps 3)) (toI (lget S0.tmps 11)) (toI (lget S0.tmps 12)) (toI (lget S0.tmps 13)) (toI (lget S0.tmps 14)) (toI (lget S0.tmps 15)) (Cod.dec api_CarC (lget (entCs (entAt S0.tab 0))))).symm (by kernel_rfl)))
theorem r7worst_k3 {R : Type} (N : Nat) : LpKey (R := R) E 57 0 (r7worst_lp N) 3 :=
  lpKey_of hE (r7bounds_cal_ok N) (lp := r7worst_lp N) (jn := noJn) r7worst_L3_ok [6] (kCons (r7worst_k6 N) kNil) (by kernel_rfl) [] jNil (by kernel_rfl) N fun S k =>
    Eq.trans (b := r7worst_L3.head.raw 0 S (fun S0 => r7worst_d3 N S0 k)) (by kernel_rfl) (congrArg (r7worst_L3.head.raw 0 S) (funext fun S0 => Eq.trans (r7worst_l3_eq N k N (lstC r7knotC (lget S0.tmps 1)) (lstC intC (lget S0.tmps 2)) (toI (lget S0.tmps 3)) (toI (lget S0.tmps 11)) (toI (lget S0.tmps 12)) (toI (lget S0.tmps 13)) (toI (lget S0.tmps 14)) (Cod.dec api_CarC (lget (entCs (entAt S0.tab 0))))).symm (by kernel_rfl)))
noncomputable def r7worst_go {R : Type} (N : Nat) (args : List SV) (T : Tab) (kf : SV × Tab → Option R) : Option R :=
  r7worst N (Cod.dec api_CarC (lget (toCs (lget args 0)))) (lstC r7knotC (lget args 1)) (lstC intC (lget args 2)) (toI (lget args 3)) (fun q0 q1 q2 => kf (lget [.tup [.int .i64 q0, .int .i64 q1, .int .i64 q2]] 0, []))
noncomputable def r7worst_cal {R : Type} (N : Nat) : Cal R := callM (r7bounds_cal N) 57 0 r7worst_sp (r7worst_go N)
theorem r7worst_cal_ok {R : Type} (N : Nat) : CalOk E.P (r7worst_cal (R := R) N) :=
  callM_ok hE (r7bounds_cal_ok N) (lp := r7worst_lp N) (jn := noJn) (keys := [3, 6]) (kCons (r7worst_k3 N) (kCons (r7worst_k6 N) kNil)) (by kernel_rfl) (js := []) jNil (by kernel_rfl) r7worst_sp_ok r7worst_rs_ok (fun args T kf => Eq.trans (r7worst_def N (Cod.dec api_CarC (lget (toCs (lget args 0)))) (lstC r7knotC (lget args 1)) (lstC intC (lget args 2)) (toI (lget args 3)) (fun q0 q1 q2 => kf (lget [.tup [.int .i64 q0, .int .i64 q1, .int .i64 q2]] 0, []))) (by kernel_rfl : r7worst_run N args T kf = fnM E (r7bounds_cal N) (r7worst_lp N) (noJn) 57 (r7worst_sp.vs args) (r7worst_sp.tab T) 0 (resK r7worst_rs kf)))
def r7Worst_m {R : Type} (N : Nat) (a433 : api_Car) (a434 : Int) (k : Int → Int → Option R) : Option R :=
 r7checkFloor N a433 a434 (fun r435 =>
 bif r435 != (0 : Int) then
 k (0 : Int) r435
 else
 r7Begin N a433 (fun r436 =>
 r7reach N a433 r436 (fun r437 r438 =>
 r7bounds N a433 r438 a434 (fun r439 r440 =>
 r7worst N a433 r438 r440 a434 (fun r472 r473 r474 =>
 k r472 (0 : Int))))))
noncomputable def r7Worst {R : Type} : Nat → api_Car → Int → (Int → Int → Option R) → Option R := lock (@r7Worst_m R)
theorem r7Worst_def {R : Type} (N : Nat) (a433 : api_Car) (a434 : Int) (k : Int → Int → Option R) : r7Worst N a433 a434 k = r7Worst_m N a433 a434 k := by unfold r7Worst; rw [lock_eq]
def r7Worst_sp : Sp := ⟨[rAgg api_CarC, rInt .i64], []⟩
theorem r7Worst_sp_ok : r7Worst_sp.Ok := ⟨(allCons (rAgg_ok api_CarC_ok api_CarC_len) (allCons (rInt_ok .i64) allNil)), eNil⟩
def r7Worst_rs : Sp := ⟨[rTup [rInt .i64, rInt .i64]], []⟩
theorem r7Worst_rs_ok : r7Worst_rs.Ok := ⟨(allCons (rTup_ok (allCons (rInt_ok .i64) (allCons (rInt_ok .i64) allNil))) allNil), eNil⟩
def r7Worst_run {R : Type} (N : Nat) (args : List SV) (T : Tab) (kf : SV × Tab → Option R) : Option R :=
  r7Worst_m N (Cod.dec api_CarC (lget (toCs (lget args 0)))) (toI (lget args 1)) (fun q0 q1 => kf (lget [.tup [.int .i64 q0, .int .i64 q1]] 0, []))
def r7Worst_lp {R : Type} (N : Nat) : Lp R := fun body S k => Option.none
noncomputable def r7Worst_go {R : Type} (N : Nat) (args : List SV) (T : Tab) (kf : SV × Tab → Option R) : Option R :=
  r7Worst N (Cod.dec api_CarC (lget (toCs (lget args 0)))) (toI (lget args 1)) (fun q0 q1 => kf (lget [.tup [.int .i64 q0, .int .i64 q1]] 0, []))
noncomputable def r7Worst_cal {R : Type} (N : Nat) : Cal R := callM (r7worst_cal N) 27 0 r7Worst_sp (r7Worst_go N)
theorem r7Worst_cal_ok {R : Type} (N : Nat) : CalOk E.P (r7Worst_cal (R := R) N) :=
  callM_ok hE (r7worst_cal_ok N) (lp := r7Worst_lp N) (jn := noJn) (keys := []) kNil (by kernel_rfl) (js := []) jNil (by kernel_rfl) r7Worst_sp_ok r7Worst_rs_ok (fun args T kf => Eq.trans (r7Worst_def N (Cod.dec api_CarC (lget (toCs (lget args 0)))) (toI (lget args 1)) (fun q0 q1 => kf (lget [.tup [.int .i64 q0, .int .i64 q1]] 0, []))) (by kernel_rfl : r7Worst_run N args T kf = fnM E (r7worst_cal N) (r7Worst_lp N) (noJn) 27 (r7Worst_sp.vs args) (r7Worst_sp.tab T) 0 (resK r7Worst_rs kf)))
def calls_group_1_m {R : Type} (N : Nat) (a489 : api_Car) (k : Bool → Option R) : Option R :=
 calls_valid N a489 (fun r490 =>
 k (!r490))
noncomputable def calls_group_1 {R : Type} : Nat → api_Car → (Bool → Option R) → Option R := lock (@calls_group_1_m R)
theorem calls_group_1_def {R : Type} (N : Nat) (a489 : api_Car) (k : Bool → Option R) : calls_group_1 N a489 k = calls_group_1_m N a489 k := by unfold calls_group_1; rw [lock_eq]
def calls_group_1_sp : Sp := ⟨[rAgg api_CarC], []⟩
theorem calls_group_1_sp_ok : calls_group_1_sp.Ok := ⟨(allCons (rAgg_ok api_CarC_ok api_CarC_len) allNil), eNil⟩
def calls_group_1_rs : Sp := ⟨[rBool], []⟩
theorem calls_group_1_rs_ok : calls_group_1_rs.Ok := ⟨(allCons rBool_ok allNil), eNil⟩
def calls_group_1_run {R : Type} (N : Nat) (args : List SV) (T : Tab) (kf : SV × Tab → Option R) : Option R :=
  calls_group_1_m N (Cod.dec api_CarC (lget (toCs (lget args 0)))) (fun q0 => kf (lget [.bool q0] 0, []))
def calls_group_1_lp {R : Type} (N : Nat) : Lp R := fun body S k => Option.none
noncomputable def calls_group_1_go {R : Type} (N : Nat) (args : List SV) (T : Tab) (kf : SV × Tab → Option R) : Option R :=
  calls_group_1 N (Cod.dec api_CarC (lget (toCs (lget args 0)))) (fun q0 => kf (lget [.bool q0] 0, []))
noncomputable def calls_group_1_cal {R : Type} (N : Nat) : Cal R := callM (r7Worst_cal N) 75 0 calls_group_1_sp (calls_group_1_go N)
theorem calls_group_1_cal_ok {R : Type} (N : Nat) : CalOk E.P (calls_group_1_cal (R := R) N) :=
  callM_ok hE (r7Worst_cal_ok N) (lp := calls_group_1_lp N) (jn := noJn) (keys := []) kNil (by kernel_rfl) (js := []) jNil (by kernel_rfl) calls_group_1_sp_ok calls_group_1_rs_ok (fun args T kf => Eq.trans (calls_group_1_def N (Cod.dec api_CarC (lget (toCs (lget args 0)))) (fun q0 => kf (lget [.bool q0] 0, []))) (by kernel_rfl : calls_group_1_run N args T kf = fnM E (r7Worst_cal N) (calls_group_1_lp N) (noJn) 75 (calls_group_1_sp.vs args) (calls_group_1_sp.tab T) 0 (resK calls_group_1_rs kf)))
def sIF_L2 : LoopSp := ⟨⟨[0, 1, 7, 8], ⟨((rSl api_CarC) :: (rFunc 75 0 []) :: (dr 5 ((rInt .i64) :: (rInt .i64) :: (dr 10 [])))), []⟩, 0⟩, [(Option.none, ⟨[4], ⟨(dr 4 ((rInt .i64) :: (dr 14 []))), []⟩, 0⟩), (some 0, ⟨[], ⟨(dr 19 []), []⟩, 0⟩)]⟩
theorem sIF_L2_ok : sIF_L2.Ok := ⟨⟨(allCons (rSl_ok api_CarC_ok) (allCons (rFunc_ok 75 0 allNil) (drCons 5 (allCons (rInt_ok .i64) (allCons (rInt_ok .i64) (drCons 10 allNil)))))), eNil⟩, (xCons ⟨(drCons 4 (allCons (rInt_ok .i64) (drCons 14 allNil))), eNil⟩ (xCons ⟨(drCons 19 allNil), eNil⟩ xNil))⟩
def sIF_h2 (v486 : Arr api_Car) (v487 : Int) (v488 : Int) : St := ⟨((slC api_CarC v486) :: (.func 75 0 []) :: (un 5 ((.int .i64 v487) :: (.int .i64 v488) :: (un 10 [])))), [], 0⟩
def sIF_x2_r (q0 : Int) : St := ⟨(un 4 ((.int .i64 q0) :: (un 14 []))), [], 0⟩
def sIF_x2_0  : St := ⟨(un 19 []), [], 0⟩
def sIF_b2 {R : Type} (N : Nat) (rc : Arr api_Car → Int → Int → Option R) (v486 : Arr api_Car) (v487 : Int) (v488 : Int) (kr : Int → Option R) (k0 : Unit → Option R) : Option R :=
 bif decide (v488 < v487) then
 bif decide ((0 : Int) ≤ v488) && decide (v488 < (↑(Arr.n v486) : Int)) then
 calls_group_1 N (Arr.f v486 (Int.toNat v488)) (fun r491 =>
 bif r491 then
 kr v488
 else
 rc v486 v487 (w64 (v488 + (1 : Int))))
 else
 Option.none
 else
 k0 ()
def sIF_l2 {R : Type} (N : Nat) : Nat → Arr api_Car → Int → Int → (Int → Option R) → (Unit → Option R) → Option R
  | 0, _, _, _, _, _ => Option.none
  | n + 1, v486, v487, v488, kr, k0 => sIF_b2 N (fun v486 v487 v488 => sIF_l2 N n v486 v487 v488 kr k0) v486 v487 v488 kr k0
def sIF_m {R : Type} (N : Nat) (a485 : Arr api_Car) (k : Int → Option R) : Option R :=
 sIF_l2 N N a485 ((↑(Arr.n a485) : Int)) (0 : Int) (fun r492 =>
 k r492) (fun (_ : Unit) =>
 k (-1 : Int))
noncomputable def sIF {R : Type} : Nat → Arr api_Car → (Int → Option R) → Option R := lock (@sIF_m R)
theorem sIF_def {R : Type} (N : Nat) (a485 : Arr api_Car) (k : Int → Option R) : sIF N a485 k = sIF_m N a485 k := by unfold sIF; rw [lock_eq]
def sIF_sp : Sp := ⟨[rSl api_CarC, rFunc 75 0 []], []⟩
theorem sIF_sp_ok : sIF_sp.Ok := ⟨(allCons (rSl_ok api_CarC_ok) (allCons (rFunc_ok 75 0 allNil) allNil)), eNil⟩
def sIF_rs : Sp := ⟨[rInt .i64], []⟩
theorem sIF_rs_ok : sIF_rs.Ok := ⟨(allCons (rInt_ok .i64) allNil), eNil⟩
def sIF_run {R : Type} (N : Nat) (args : List SV) (T : Tab) (kf : SV × Tab → Option R) : Option R :=
  sIF_m N (lstC api_CarC (lget args 0)) (fun q0 => kf (lget [.int .i64 q0] 0, []))
def sIF_d2 {R : Type} (N : Nat) (S0 : St) (k : Exit → St → Option R) : Option R :=
  sIF_l2 N N (lstC api_CarC (lget S0.tmps 0)) (toI (lget S0.tmps 7)) (toI (lget S0.tmps 8)) (fun q0 => k .ret (sIF_x2_r q0)) (fun (_ : Unit) => k (.exit 0) (sIF_x2_0 ))
def sIF_lp {R : Type} (N : Nat) : Lp R := fun body S k => bif (Go.Sx.keyOf body).getD 0 == 2 then (sIF_L2.head.raw 0 S (fun S0 => sIF_d2 N S0 k)) else Option.none
theorem sIF_l2_eq {R : Type} (N : Nat) (k : Exit → St → Option R) (n : Nat) : ∀ (v0 : Arr api_Car) (v1 : Int) (v2 : Int), loopM E.Θ (calls_group_1_cal N) (sIF_lp N) (noJn) 0 sIF_L2 (bodyAt E 81 2) n (sIF_h2 v0 v1 v2) k = sIF_l2 N n v0 v1 v2 (fun q0 => k .ret (sIF_x2_r q0)) (fun (_ : Unit) => k (.exit 0) (sIF_x2_0 )) := by
  induction n with
  | zero => intro v0 v1 v2; rfl
  | succ n ih =>
    intro v0 v1 v2
    refine Eq.trans (b := sIF_b2 N (fun v0 v1 v2 => loopM E.Θ (calls_group_1_cal N) (sIF_lp N) (noJn) 0 sIF_L2 (bodyAt E 81 2) n (sIF_h2 v0 v1 v2) k) v0 v1 v2 (fun q0 => k .ret (sIF_x2_r q0)) (fun (_ : Unit) => k (.exit 0) (sIF_x2_0 ))) (by kernel_rfl) ?_
    have h : (fun (v0 : Arr api_Car) (v1 : Int) (v2 : Int) => loopM E.Θ (calls_group_1_cal N) (sIF_lp N) (noJn) 0 sIF_L2 (bodyAt E 81 2) n (sIF_h2 v0 v1 v2) k) = (fun (v0 : Arr api_Car) (v1 : Int) (v2 : Int) => sIF_l2 N n v0 v1 v2 (fun q0 => k .ret (sIF_x2_r q0)) (fun (_ : Unit) => k (.exit 0) (sIF_x2_0 ))) := funext fun v0 => funext fun v1 => funext fun v2 => ih v0 v1 v2
    rw [h]
    rfl
theorem sIF_k2 {R : Type} (N : Nat) : LpKey (R := R) E 81 0 (sIF_lp N) 2 :=
  lpKey_of hE (calls_group_1_cal_ok N) (lp := sIF_lp N) (jn := noJn) sIF_L2_ok [] kNil (by kernel_rfl) [] jNil (by kernel_rfl) N fun S k =>
    Eq.trans (b := sIF_L2.head.raw 0 S (fun S0 => sIF_d2 N S0 k)) (by kernel_rfl) (congrArg (sIF_L2.head.raw 0 S) (funext fun S0 => Eq.trans (sIF_l2_eq N k N (lstC api_CarC (lget S0.tmps 0)) (toI (lget S0.tmps 7)) (toI (lget S0.tmps 8))).symm (by kernel_rfl)))
noncomputable def sIF_go {R : Type} (N : Nat) (args : List SV) (T : Tab) (kf : SV × Tab → Option R) : Option R :=
  sIF N (lstC api_CarC (lget args 0)) (fun q0 => kf (lget [.int .i64 q0] 0, []))
noncomputable def sIF_cal {R : Type} (N : Nat) : Cal R := callM (calls_group_1_cal N) 81 0 sIF_sp (sIF_go N)
theorem sIF_cal_ok {R : Type} (N : Nat) : CalOk E.P (sIF_cal (R := R) N) :=
  callM_ok hE (calls_group_1_cal_ok N) (lp := sIF_lp N) (jn := noJn) (keys := [2]) (kCons (sIF_k2 N) kNil) (by kernel_rfl) (js := []) jNil (by kernel_rfl) sIF_sp_ok sIF_rs_ok (fun args T kf => Eq.trans (sIF_def N (lstC api_CarC (lget args 0)) (fun q0 => kf (lget [.int .i64 q0] 0, []))) (by kernel_rfl : sIF_run N args T kf = fnM E (calls_group_1_cal N) (sIF_lp N) (noJn) 81 (sIF_sp.vs args) (sIF_sp.tab T) 0 (resK sIF_rs kf)))
def sCF_m {R : Type} (N : Nat) (a484 : Arr api_Car) (k : Bool → Option R) : Option R :=
 sIF N a484 (fun r493 =>
 k (decide (r493 ≥ (0 : Int))))
noncomputable def sCF {R : Type} : Nat → Arr api_Car → (Bool → Option R) → Option R := lock (@sCF_m R)
theorem sCF_def {R : Type} (N : Nat) (a484 : Arr api_Car) (k : Bool → Option R) : sCF N a484 k = sCF_m N a484 k := by unfold sCF; rw [lock_eq]
def sCF_sp : Sp := ⟨[rSl api_CarC, rFunc 75 0 []], []⟩
theorem sCF_sp_ok : sCF_sp.Ok := ⟨(allCons (rSl_ok api_CarC_ok) (allCons (rFunc_ok 75 0 allNil) allNil)), eNil⟩
def sCF_rs : Sp := ⟨[rBool], []⟩
theorem sCF_rs_ok : sCF_rs.Ok := ⟨(allCons rBool_ok allNil), eNil⟩
def sCF_run {R : Type} (N : Nat) (args : List SV) (T : Tab) (kf : SV × Tab → Option R) : Option R :=
  sCF_m N (lstC api_CarC (lget args 0)) (fun q0 => kf (lget [.bool q0] 0, []))
def sCF_lp {R : Type} (N : Nat) : Lp R := fun body S k => Option.none
noncomputable def sCF_go {R : Type} (N : Nat) (args : List SV) (T : Tab) (kf : SV × Tab → Option R) : Option R :=
  sCF N (lstC api_CarC (lget args 0)) (fun q0 => kf (lget [.bool q0] 0, []))
noncomputable def sCF_cal {R : Type} (N : Nat) : Cal R := callM (sIF_cal N) 74 0 sCF_sp (sCF_go N)
theorem sCF_cal_ok {R : Type} (N : Nat) : CalOk E.P (sCF_cal (R := R) N) :=
  callM_ok hE (sIF_cal_ok N) (lp := sCF_lp N) (jn := noJn) (keys := []) kNil (by kernel_rfl) (js := []) jNil (by kernel_rfl) sCF_sp_ok sCF_rs_ok (fun args T kf => Eq.trans (sCF_def N (lstC api_CarC (lget args 0)) (fun q0 => kf (lget [.bool q0] 0, []))) (by kernel_rfl : sCF_run N args T kf = fnM E (sIF_cal N) (sCF_lp N) (noJn) 74 (sCF_sp.vs args) (sCF_sp.tab T) 0 (resK sCF_rs kf)))
def calls_group_2_m {R : Type} (N : Nat) (a508 : api_Car) (a509 : api_Press) (k : Bool → Option R) : Option R :=
 calls_within N (api_Press.Floor a509) (api_Car.Low a508) (api_Car.High a508) (fun r510 =>
 k r510)
noncomputable def calls_group_2 {R : Type} : Nat → api_Car → api_Press → (Bool → Option R) → Option R := lock (@calls_group_2_m R)
theorem calls_group_2_def {R : Type} (N : Nat) (a508 : api_Car) (a509 : api_Press) (k : Bool → Option R) : calls_group_2 N a508 a509 k = calls_group_2_m N a508 a509 k := by unfold calls_group_2; rw [lock_eq]
def calls_group_2_sp : Sp := ⟨[rAgg api_CarC, rPtr 0 0], [(0, eBlkC api_PressC)]⟩
theorem calls_group_2_sp_ok : calls_group_2_sp.Ok := ⟨(allCons (rAgg_ok api_CarC_ok api_CarC_len) (allCons (rPtr_ok 0 0) allNil)), (eCons (eBlkC_ok api_PressC_ok api_PressC_len) eNil)⟩
def calls_group_2_rs : Sp := ⟨[rBool], [(0, eBlkC api_PressC)]⟩
theorem calls_group_2_rs_ok : calls_group_2_rs.Ok := ⟨(allCons rBool_ok allNil), (eCons (eBlkC_ok api_PressC_ok api_PressC_len) eNil)⟩
def calls_group_2_run {R : Type} (N : Nat) (args : List SV) (T : Tab) (kf : SV × Tab → Option R) : Option R :=
  calls_group_2_m N (Cod.dec api_CarC (lget (toCs (lget args 0)))) (Cod.dec api_PressC (lget (entCs (entAt T 0)))) (fun q0 => kf (lget [.bool q0] 0, [(0, .blk (Cod.enc api_PressC (Cod.dec api_PressC (lget (entCs (entAt T 0))))))]))
def calls_group_2_lp {R : Type} (N : Nat) : Lp R := fun body S k => Option.none
noncomputable def calls_group_2_go {R : Type} (N : Nat) (args : List SV) (T : Tab) (kf : SV × Tab → Option R) : Option R :=
  calls_group_2 N (Cod.dec api_CarC (lget (toCs (lget args 0)))) (Cod.dec api_PressC (lget (entCs (entAt T 0)))) (fun q0 => kf (lget [.bool q0] 0, [(0, .blk (Cod.enc api_PressC (Cod.dec api_PressC (lget (entCs (entAt T 0))))))]))
noncomputable def calls_group_2_cal {R : Type} (N : Nat) : Cal R := callM (sCF_cal N) 76 1 calls_group_2_sp (calls_group_2_go N)
theorem calls_group_2_cal_ok {R : Type} (N : Nat) : CalOk E.P (calls_group_2_cal (R := R) N) :=
  callM_ok hE (sCF_cal_ok N) (lp := calls_group_2_lp N) (jn := noJn) (keys := []) kNil (by kernel_rfl) (js := []) jNil (by kernel_rfl) calls_group_2_sp_ok calls_group_2_rs_ok (fun args T kf => Eq.trans (calls_group_2_def N (Cod.dec api_CarC (lget (toCs (lget args 0)))) (Cod.dec api_PressC (lget (entCs (entAt T 0)))) (fun q0 => kf (lget [.bool q0] 0, [(0, .blk (Cod.enc api_PressC (Cod.dec api_PressC (lget (entCs (entAt T 0))))))]))) (by kernel_rfl : calls_group_2_run N args T kf = fnM E (sCF_cal N) (calls_group_2_lp N) (noJn) 76 (calls_group_2_sp.vs args) (calls_group_2_sp.tab T) 1 (resK calls_group_2_rs kf)))
def sIF_v2_L2 : LoopSp := ⟨⟨[0, 1, 7, 8], ⟨((rSl api_CarC) :: (rFunc 76 0 [rPtr 0 0]) :: (dr 5 ((rInt .i64) :: (rInt .i64) :: (dr 10 [])))), [(0, eBlkC api_PressC)]⟩, 1⟩, [(Option.none, ⟨[4], ⟨(dr 4 ((rInt .i64) :: (dr 14 []))), [(0, eBlkC api_PressC)]⟩, 1⟩), (some 0, ⟨[], ⟨(dr 19 []), [(0, eBlkC api_PressC)]⟩, 1⟩)]⟩
theorem sIF_v2_L2_ok : sIF_v2_L2.Ok := ⟨⟨(allCons (rSl_ok api_CarC_ok) (allCons (rFunc_ok 76 0 (allCons (rPtr_ok 0 0) allNil)) (drCons 5 (allCons (rInt_ok .i64) (allCons (rInt_ok .i64) (drCons 10 allNil)))))), (eCons (eBlkC_ok api_PressC_ok api_PressC_len) eNil)⟩, (xCons ⟨(drCons 4 (allCons (rInt_ok .i64) (drCons 14 allNil))), (eCons (eBlkC_ok api_PressC_ok api_PressC_len) eNil)⟩ (xCons ⟨(drCons 19 allNil), (eCons (eBlkC_ok api_PressC_ok api_PressC_len) eNil)⟩ xNil))⟩
def sIF_v2_h2 (v504 : Arr api_Car) (v505 : Int) (v506 : Int) (v507 : api_Press) : St := ⟨((slC api_CarC v504) :: (.func 76 0 [.ptr 0 0]) :: (un 5 ((.int .i64 v505) :: (.int .i64 v506) :: (un 10 [])))), [(0, .blk (Cod.enc api_PressC v507))], 1⟩
def sIF_v2_x2_r (v507 : api_Press) (q0 : Int) : St := ⟨(un 4 ((.int .i64 q0) :: (un 14 []))), [(0, .blk (Cod.enc api_PressC v507))], 1⟩
def sIF_v2_x2_0 (v507 : api_Press) : St := ⟨(un 19 []), [(0, .blk (Cod.enc api_PressC v507))], 1⟩
def sIF_v2_b2 {R : Type} (N : Nat) (rc : Arr api_Car → Int → Int → api_Press → Option R) (v504 : Arr api_Car) (v505 : Int) (v506 : Int) (v507 : api_Press) (kr : Int → Option R) (k0 : Unit → Option R) : Option R :=
 bif decide (v506 < v505) then
 bif decide ((0 : Int) ≤ v506) && decide (v506 < (↑(Arr.n v504) : Int)) then
 calls_group_2 N (Arr.f v504 (Int.toNat v506)) v507 (fun r511 =>
 bif r511 then
 kr v506
 else
 rc v504 v505 (w64 (v506 + (1 : Int))) v507)
 else
 Option.none
 else
 k0 ()
def sIF_v2_l2 {R : Type} (N : Nat) : Nat → Arr api_Car → Int → Int → api_Press → (Int → Option R) → (Unit → Option R) → Option R
  | 0, _, _, _, _, _, _ => Option.none
  | n + 1, v504, v505, v506, v507, kr, k0 => sIF_v2_b2 N (fun v504 v505 v506 v507 => sIF_v2_l2 N n v504 v505 v506 v507 kr k0) v504 v505 v506 v507 kr k0
def sIF_v2_m {R : Type} (N : Nat) (a502 : Arr api_Car) (a503 : api_Press) (k : Int → Option R) : Option R :=
 sIF_v2_l2 N N a502 ((↑(Arr.n a502) : Int)) (0 : Int) a503 (fun r512 =>
 k r512) (fun (_ : Unit) =>
 k (-1 : Int))
noncomputable def sIF_v2 {R : Type} : Nat → Arr api_Car → api_Press → (Int → Option R) → Option R := lock (@sIF_v2_m R)
theorem sIF_v2_def {R : Type} (N : Nat) (a502 : Arr api_Car) (a503 : api_Press) (k : Int → Option R) : sIF_v2 N a502 a503 k = sIF_v2_m N a502 a503 k := by unfold sIF_v2; rw [lock_eq]
def sIF_v2_sp : Sp := ⟨[rSl api_CarC, rFunc 76 0 [rPtr 0 0]], [(0, eBlkC api_PressC)]⟩
theorem sIF_v2_sp_ok : sIF_v2_sp.Ok := ⟨(allCons (rSl_ok api_CarC_ok) (allCons (rFunc_ok 76 0 (allCons (rPtr_ok 0 0) allNil)) allNil)), (eCons (eBlkC_ok api_PressC_ok api_PressC_len) eNil)⟩
def sIF_v2_rs : Sp := ⟨[rInt .i64], [(0, eBlkC api_PressC)]⟩
theorem sIF_v2_rs_ok : sIF_v2_rs.Ok := ⟨(allCons (rInt_ok .i64) allNil), (eCons (eBlkC_ok api_PressC_ok api_PressC_len) eNil)⟩
def sIF_v2_run {R : Type} (N : Nat) (args : List SV) (T : Tab) (kf : SV × Tab → Option R) : Option R :=
  sIF_v2_m N (lstC api_CarC (lget args 0)) (Cod.dec api_PressC (lget (entCs (entAt T 0)))) (fun q0 => kf (lget [.int .i64 q0] 0, [(0, .blk (Cod.enc api_PressC (Cod.dec api_PressC (lget (entCs (entAt T 0))))))]))
def sIF_v2_d2 {R : Type} (N : Nat) (S0 : St) (k : Exit → St → Option R) : Option R :=
  sIF_v2_l2 N N (lstC api_CarC (lget S0.tmps 0)) (toI (lget S0.tmps 7)) (toI (lget S0.tmps 8)) (Cod.dec api_PressC (lget (entCs (entAt S0.tab 0)))) (fun q0 => k .ret (sIF_v2_x2_r (Cod.dec api_PressC (lget (entCs (entAt S0.tab 0)))) q0)) (fun (_ : Unit) => k (.exit 0) (sIF_v2_x2_0 (Cod.dec api_PressC (lget (entCs (entAt S0.tab 0))))))
def sIF_v2_lp {R : Type} (N : Nat) : Lp R := fun body S k => bif (Go.Sx.keyOf body).getD 0 == 2 then (sIF_v2_L2.head.raw 1 S (fun S0 => sIF_v2_d2 N S0 k)) else Option.none
theorem sIF_v2_l2_eq {R : Type} (N : Nat) (k : Exit → St → Option R) (n : Nat) : ∀ (v0 : Arr api_Car) (v1 : Int) (v2 : Int) (v3 : api_Press), loopM E.Θ (calls_group_2_cal N) (sIF_v2_lp N) (noJn) 1 sIF_v2_L2 (bodyAt E 81 2) n (sIF_v2_h2 v0 v1 v2 v3) k = sIF_v2_l2 N n v0 v1 v2 v3 (fun q0 => k .ret (sIF_v2_x2_r v3 q0)) (fun (_ : Unit) => k (.exit 0) (sIF_v2_x2_0 v3)) := by
  induction n with
  | zero => intro v0 v1 v2 v3; rfl
  | succ n ih =>
    intro v0 v1 v2 v3
    refine Eq.trans (b := sIF_v2_b2 N (fun v0 v1 v2 v3 => loopM E.Θ (calls_group_2_cal N) (sIF_v2_lp N) (noJn) 1 sIF_v2_L2 (bodyAt E 81 2) n (sIF_v2_h2 v0 v1 v2 v3) k) v0 v1 v2 v3 (fun q0 => k .ret (sIF_v2_x2_r v3 q0)) (fun (_ : Unit) => k (.exit 0) (sIF_v2_x2_0 v3))) (by kernel_rfl) ?_
    have h : (fun (v0 : Arr api_Car) (v1 : Int) (v2 : Int) (v3 : api_Press) => loopM E.Θ (calls_group_2_cal N) (sIF_v2_lp N) (noJn) 1 sIF_v2_L2 (bodyAt E 81 2) n (sIF_v2_h2 v0 v1 v2 v3) k) = (fun (v0 : Arr api_Car) (v1 : Int) (v2 : Int) (v3 : api_Press) => sIF_v2_l2 N n v0 v1 v2 v3 (fun q0 => k .ret (sIF_v2_x2_r v3 q0)) (fun (_ : Unit) => k (.exit 0) (sIF_v2_x2_0 v3))) := funext fun v0 => funext fun v1 => funext fun v2 => funext fun v3 => ih v0 v1 v2 v3
    rw [h]
    rfl
theorem sIF_v2_k2 {R : Type} (N : Nat) : LpKey (R := R) E 81 1 (sIF_v2_lp N) 2 :=
  lpKey_of hE (calls_group_2_cal_ok N) (lp := sIF_v2_lp N) (jn := noJn) sIF_v2_L2_ok [] kNil (by kernel_rfl) [] jNil (by kernel_rfl) N fun S k =>
    Eq.trans (b := sIF_v2_L2.head.raw 1 S (fun S0 => sIF_v2_d2 N S0 k)) (by kernel_rfl) (congrArg (sIF_v2_L2.head.raw 1 S) (funext fun S0 => Eq.trans (sIF_v2_l2_eq N k N (lstC api_CarC (lget S0.tmps 0)) (toI (lget S0.tmps 7)) (toI (lget S0.tmps 8)) (Cod.dec api_PressC (lget (entCs (entAt S0.tab 0))))).symm (by kernel_rfl)))
noncomputable def sIF_v2_go {R : Type} (N : Nat) (args : List SV) (T : Tab) (kf : SV × Tab → Option R) : Option R :=
  sIF_v2 N (lstC api_CarC (lget args 0)) (Cod.dec api_PressC (lget (entCs (entAt T 0)))) (fun q0 => kf (lget [.int .i64 q0] 0, [(0, .blk (Cod.enc api_PressC (Cod.dec api_PressC (lget (entCs (entAt T 0))))))]))
noncomputable def sIF_v2_cal {R : Type} (N : Nat) : Cal R := callM (calls_group_2_cal N) 81 1 sIF_v2_sp (sIF_v2_go N)
theorem sIF_v2_cal_ok {R : Type} (N : Nat) : CalOk E.P (sIF_v2_cal (R := R) N) :=
  callM_ok hE (calls_group_2_cal_ok N) (lp := sIF_v2_lp N) (jn := noJn) (keys := [2]) (kCons (sIF_v2_k2 N) kNil) (by kernel_rfl) (js := []) jNil (by kernel_rfl) sIF_v2_sp_ok sIF_v2_rs_ok (fun args T kf => Eq.trans (sIF_v2_def N (lstC api_CarC (lget args 0)) (Cod.dec api_PressC (lget (entCs (entAt T 0)))) (fun q0 => kf (lget [.int .i64 q0] 0, [(0, .blk (Cod.enc api_PressC (Cod.dec api_PressC (lget (entCs (entAt T 0))))))]))) (by kernel_rfl : sIF_v2_run N args T kf = fnM E (calls_group_2_cal N) (sIF_v2_lp N) (noJn) 81 (sIF_v2_sp.vs args) (sIF_v2_sp.tab T) 1 (resK sIF_v2_rs kf)))
def sCF_v2_m {R : Type} (N : Nat) (a500 : Arr api_Car) (a501 : api_Press) (k : Bool → Option R) : Option R :=
 sIF_v2 N a500 a501 (fun r513 =>
 k (decide (r513 ≥ (0 : Int))))
noncomputable def sCF_v2 {R : Type} : Nat → Arr api_Car → api_Press → (Bool → Option R) → Option R := lock (@sCF_v2_m R)
theorem sCF_v2_def {R : Type} (N : Nat) (a500 : Arr api_Car) (a501 : api_Press) (k : Bool → Option R) : sCF_v2 N a500 a501 k = sCF_v2_m N a500 a501 k := by unfold sCF_v2; rw [lock_eq]
def sCF_v2_sp : Sp := ⟨[rSl api_CarC, rFunc 76 0 [rPtr 0 0]], [(0, eBlkC api_PressC)]⟩
theorem sCF_v2_sp_ok : sCF_v2_sp.Ok := ⟨(allCons (rSl_ok api_CarC_ok) (allCons (rFunc_ok 76 0 (allCons (rPtr_ok 0 0) allNil)) allNil)), (eCons (eBlkC_ok api_PressC_ok api_PressC_len) eNil)⟩
def sCF_v2_rs : Sp := ⟨[rBool], [(0, eBlkC api_PressC)]⟩
theorem sCF_v2_rs_ok : sCF_v2_rs.Ok := ⟨(allCons rBool_ok allNil), (eCons (eBlkC_ok api_PressC_ok api_PressC_len) eNil)⟩
def sCF_v2_run {R : Type} (N : Nat) (args : List SV) (T : Tab) (kf : SV × Tab → Option R) : Option R :=
  sCF_v2_m N (lstC api_CarC (lget args 0)) (Cod.dec api_PressC (lget (entCs (entAt T 0)))) (fun q0 => kf (lget [.bool q0] 0, [(0, .blk (Cod.enc api_PressC (Cod.dec api_PressC (lget (entCs (entAt T 0))))))]))
def sCF_v2_lp {R : Type} (N : Nat) : Lp R := fun body S k => Option.none
noncomputable def sCF_v2_go {R : Type} (N : Nat) (args : List SV) (T : Tab) (kf : SV × Tab → Option R) : Option R :=
  sCF_v2 N (lstC api_CarC (lget args 0)) (Cod.dec api_PressC (lget (entCs (entAt T 0)))) (fun q0 => kf (lget [.bool q0] 0, [(0, .blk (Cod.enc api_PressC (Cod.dec api_PressC (lget (entCs (entAt T 0))))))]))
noncomputable def sCF_v2_cal {R : Type} (N : Nat) : Cal R := callM (sIF_v2_cal N) 74 1 sCF_v2_sp (sCF_v2_go N)
theorem sCF_v2_cal_ok {R : Type} (N : Nat) : CalOk E.P (sCF_v2_cal (R := R) N) :=
  callM_ok hE (sIF_v2_cal_ok N) (lp := sCF_v2_lp N) (jn := noJn) (keys := []) kNil (by kernel_rfl) (js := []) jNil (by kernel_rfl) sCF_v2_sp_ok sCF_v2_rs_ok (fun args T kf => Eq.trans (sCF_v2_def N (lstC api_CarC (lget args 0)) (Cod.dec api_PressC (lget (entCs (entAt T 0)))) (fun q0 => kf (lget [.bool q0] 0, [(0, .blk (Cod.enc api_PressC (Cod.dec api_PressC (lget (entCs (entAt T 0))))))]))) (by kernel_rfl : sCF_v2_run N args T kf = fnM E (sIF_v2_cal N) (sCF_v2_lp N) (noJn) 74 (sCF_v2_sp.vs args) (sCF_v2_sp.tab T) 1 (resK sCF_v2_rs kf)))
def calls_group_L6 : LoopSp := ⟨⟨[0, 18, 19, 20], ⟨((rSl api_CarC) :: (dr 17 ((rSl api_PressC) :: (rInt .i64) :: (rInt .i64) :: (dr 8 [])))), []⟩, 0⟩, [(Option.none, ⟨[4], ⟨(dr 4 ((rInt .i64) :: (dr 24 []))), []⟩, 0⟩), (some 0, ⟨[], ⟨(dr 29 []), []⟩, 0⟩)]⟩
theorem calls_group_L6_ok : calls_group_L6.Ok := ⟨⟨(allCons (rSl_ok api_CarC_ok) (drCons 17 (allCons (rSl_ok api_PressC_ok) (allCons (rInt_ok .i64) (allCons (rInt_ok .i64) (drCons 8 allNil)))))), eNil⟩, (xCons ⟨(drCons 4 (allCons (rInt_ok .i64) (drCons 24 allNil))), eNil⟩ (xCons ⟨(drCons 29 allNil), eNil⟩ xNil))⟩
def calls_group_h6 (v496 : Arr api_Car) (v497 : Arr api_Press) (v498 : Int) (v499 : Int) : St := ⟨((slC api_CarC v496) :: (un 17 ((slC api_PressC v497) :: (.int .i64 v498) :: (.int .i64 v499) :: (un 8 [])))), [], 0⟩
def calls_group_x6_r (q0 : Int) : St := ⟨(un 4 ((.int .i64 q0) :: (un 24 []))), [], 0⟩
def calls_group_x6_0  : St := ⟨(un 29 []), [], 0⟩
def calls_group_b6 {R : Type} (N : Nat) (rc : Arr api_Car → Arr api_Press → Int → Int → Option R) (v496 : Arr api_Car) (v497 : Arr api_Press) (v498 : Int) (v499 : Int) (kr : Int → Option R) (k0 : Unit → Option R) : Option R :=
 bif decide (v499 < v498) then
 bif decide ((0 : Int) ≤ v499) && decide (v499 < (↑(Arr.n v497) : Int)) then
 sCF_v2 N v496 (Arr.f v497 (Int.toNat v499)) (fun r514 =>
 bif !r514 then
 kr (71 : Int)
 else
 rc v496 v497 v498 (w64 (v499 + (1 : Int))))
 else
 Option.none
 else
 k0 ()
def calls_group_l6 {R : Type} (N : Nat) : Nat → Arr api_Car → Arr api_Press → Int → Int → (Int → Option R) → (Unit → Option R) → Option R
  | 0, _, _, _, _, _, _ => Option.none
  | n + 1, v496, v497, v498, v499, kr, k0 => calls_group_b6 N (fun v496 v497 v498 v499 => calls_group_l6 N n v496 v497 v498 v499 kr k0) v496 v497 v498 v499 kr k0
def calls_group_m {R : Type} (N : Nat) (a481 : Arr api_Car) (a482 : Arr api_Press) (k : Int → Option R) : Option R :=
 calls_within N ((↑(Arr.n a481) : Int)) (1 : Int) (3 : Int) (fun r483 =>
 bif !r483 then
 k (70 : Int)
 else
 sCF N a481 (fun r494 =>
 bif r494 then
 k (70 : Int)
 else
 calls_timed N a482 (fun r495 =>
 bif !r495 then
 k (71 : Int)
 else
 calls_group_l6 N N a481 a482 ((↑(Arr.n a482) : Int)) (0 : Int) (fun r515 =>
 k r515) (fun (_ : Unit) =>
 k (0 : Int)))))
noncomputable def calls_group {R : Type} : Nat → Arr api_Car → Arr api_Press → (Int → Option R) → Option R := lock (@calls_group_m R)
theorem calls_group_def {R : Type} (N : Nat) (a481 : Arr api_Car) (a482 : Arr api_Press) (k : Int → Option R) : calls_group N a481 a482 k = calls_group_m N a481 a482 k := by unfold calls_group; rw [lock_eq]
def calls_group_sp : Sp := ⟨[rSl api_CarC, rSl api_PressC], []⟩
theorem calls_group_sp_ok : calls_group_sp.Ok := ⟨(allCons (rSl_ok api_CarC_ok) (allCons (rSl_ok api_PressC_ok) allNil)), eNil⟩
def calls_group_rs : Sp := ⟨[rInt .i64], []⟩
theorem calls_group_rs_ok : calls_group_rs.Ok := ⟨(allCons (rInt_ok .i64) allNil), eNil⟩
def calls_group_run {R : Type} (N : Nat) (args : List SV) (T : Tab) (kf : SV × Tab → Option R) : Option R :=
  calls_group_m N (lstC api_CarC (lget args 0)) (lstC api_PressC (lget args 1)) (fun q0 => kf (lget [.int .i64 q0] 0, []))
def calls_group_d6 {R : Type} (N : Nat) (S0 : St) (k : Exit → St → Option R) : Option R :=
  calls_group_l6 N N (lstC api_CarC (lget S0.tmps 0)) (lstC api_PressC (lget S0.tmps 18)) (toI (lget S0.tmps 19)) (toI (lget S0.tmps 20)) (fun q0 => k .ret (calls_group_x6_r q0)) (fun (_ : Unit) => k (.exit 0) (calls_group_x6_0 ))
def calls_group_lp {R : Type} (N : Nat) : Lp R := fun body S k => bif (Go.Sx.keyOf body).getD 0 == 6 then (calls_group_L6.head.raw 0 S (fun S0 => calls_group_d6 N S0 k)) else Option.none
theorem calls_group_l6_eq {R : Type} (N : Nat) (k : Exit → St → Option R) (n : Nat) : ∀ (v0 : Arr api_Car) (v1 : Arr api_Press) (v2 : Int) (v3 : Int), loopM E.Θ (sCF_v2_cal N) (calls_group_lp N) (noJn) 0 calls_group_L6 (bodyAt E 63 6) n (calls_group_h6 v0 v1 v2 v3) k = calls_group_l6 N n v0 v1 v2 v3 (fun q0 => k .ret (calls_group_x6_r q0)) (fun (_ : Unit) => k (.exit 0) (calls_group_x6_0 )) := by
  induction n with
  | zero => intro v0 v1 v2 v3; rfl
  | succ n ih =>
    intro v0 v1 v2 v3
    refine Eq.trans (b := calls_group_b6 N (fun v0 v1 v2 v3 => loopM E.Θ (sCF_v2_cal N) (calls_group_lp N) (noJn) 0 calls_group_L6 (bodyAt E 63 6) n (calls_group_h6 v0 v1 v2 v3) k) v0 v1 v2 v3 (fun q0 => k .ret (calls_group_x6_r q0)) (fun (_ : Unit) => k (.exit 0) (calls_group_x6_0 ))) (by kernel_rfl) ?_
    have h : (fun (v0 : Arr api_Car) (v1 : Arr api_Press) (v2 : Int) (v3 : Int) => loopM E.Θ (sCF_v2_cal N) (calls_group_lp N) (noJn) 0 calls_group_L6 (bodyAt E 63 6) n (calls_group_h6 v0 v1 v2 v3) k) = (fun (v0 : Arr api_Car) (v1 : Arr api_Press) (v2 : Int) (v3 : Int) => calls_group_l6 N n v0 v1 v2 v3 (fun q0 => k .ret (calls_group_x6_r q0)) (fun (_ : Unit) => k (.exit 0) (calls_group_x6_0 ))) := funext fun v0 => funext fun v1 => funext fun v2 => funext fun v3 => ih v0 v1 v2 v3
    rw [h]
    rfl
theorem calls_group_k6 {R : Type} (N : Nat) : LpKey (R := R) E 63 0 (calls_group_lp N) 6 :=
  lpKey_of hE (sCF_v2_cal_ok N) (lp := calls_group_lp N) (jn := noJn) calls_group_L6_ok [] kNil (by kernel_rfl) [] jNil (by kernel_rfl) N fun S k =>
    Eq.trans (b := calls_group_L6.head.raw 0 S (fun S0 => calls_group_d6 N S0 k)) (by kernel_rfl) (congrArg (calls_group_L6.head.raw 0 S) (funext fun S0 => Eq.trans (calls_group_l6_eq N k N (lstC api_CarC (lget S0.tmps 0)) (lstC api_PressC (lget S0.tmps 18)) (toI (lget S0.tmps 19)) (toI (lget S0.tmps 20))).symm (by kernel_rfl)))
noncomputable def calls_group_go {R : Type} (N : Nat) (args : List SV) (T : Tab) (kf : SV × Tab → Option R) : Option R :=
  calls_group N (lstC api_CarC (lget args 0)) (lstC api_PressC (lget args 1)) (fun q0 => kf (lget [.int .i64 q0] 0, []))
noncomputable def calls_group_cal {R : Type} (N : Nat) : Cal R := callM (sCF_v2_cal N) 63 0 calls_group_sp (calls_group_go N)
theorem calls_group_cal_ok {R : Type} (N : Nat) : CalOk E.P (calls_group_cal (R := R) N) :=
  callM_ok hE (sCF_v2_cal_ok N) (lp := calls_group_lp N) (jn := noJn) (keys := [6]) (kCons (calls_group_k6 N) kNil) (by kernel_rfl) (js := []) jNil (by kernel_rfl) calls_group_sp_ok calls_group_rs_ok (fun args T kf => Eq.trans (calls_group_def N (lstC api_CarC (lget args 0)) (lstC api_PressC (lget args 1)) (fun q0 => kf (lget [.int .i64 q0] 0, []))) (by kernel_rfl : calls_group_run N args T kf = fnM E (sCF_v2_cal N) (calls_group_lp N) (noJn) 63 (calls_group_sp.vs args) (calls_group_sp.tab T) 0 (resK calls_group_rs kf)))
def r7CheckGroup_L4 : LoopSp := ⟨⟨[0, 1, 5], ⟨((rSl api_CarC) :: (rSl api_PressC) :: (dr 3 ((rInt .i64) :: (dr 55 [])))), []⟩, 0⟩, [(Option.none, ⟨[4], ⟨(dr 4 ((rInt .i64) :: (dr 56 []))), []⟩, 0⟩), (some 0, ⟨[0, 1], ⟨((rSl api_CarC) :: (rSl api_PressC) :: (dr 59 [])), []⟩, 0⟩)]⟩
theorem r7CheckGroup_L4_ok : r7CheckGroup_L4.Ok := ⟨⟨(allCons (rSl_ok api_CarC_ok) (allCons (rSl_ok api_PressC_ok) (drCons 3 (allCons (rInt_ok .i64) (drCons 55 allNil))))), eNil⟩, (xCons ⟨(drCons 4 (allCons (rInt_ok .i64) (drCons 56 allNil))), eNil⟩ (xCons ⟨(allCons (rSl_ok api_CarC_ok) (allCons (rSl_ok api_PressC_ok) (drCons 59 allNil))), eNil⟩ xNil))⟩
def r7CheckGroup_h4 (v614 : Arr api_Car) (v615 : Arr api_Press) (v616 : Int) : St := ⟨((slC api_CarC v614) :: (slC api_PressC v615) :: (un 3 ((.int .i64 v616) :: (un 55 [])))), [], 0⟩
def r7CheckGroup_x4_r (q0 : Int) : St := ⟨(un 4 ((.int .i64 q0) :: (un 56 []))), [], 0⟩
def r7CheckGroup_x4_0 (v614 : Arr api_Car) (v615 : Arr api_Press) : St := ⟨((slC api_CarC v614) :: (slC api_PressC v615) :: (un 59 [])), [], 0⟩
def r7CheckGroup_b4 {R : Type} (N : Nat) (rc : Arr api_Car → Arr api_Press → Int → Option R) (v614 : Arr api_Car) (v615 : Arr api_Press) (v616 : Int) (kr : Int → Option R) (k0 : Unit → Option R) : Option R :=
 bif decide (v616 < (↑(Arr.n v614) : Int)) then
 bif decide ((0 : Int) ≤ v616) && decide (v616 < (↑(Arr.n v614) : Int)) then
 r7CheckCar N (Arr.f v614 (Int.toNat v616)) (fun r617 =>
 bif r617 != (0 : Int) then
 kr (70 : Int)
 else
 rc v614 v615 (w64 (v616 + (1 : Int))))
 else
 Option.none
 else
 k0 ()
def r7CheckGroup_l4 {R : Type} (N : Nat) : Nat → Arr api_Car → Arr api_Press → Int → (Int → Option R) → (Unit → Option R) → Option R
  | 0, _, _, _, _, _ => Option.none
  | n + 1, v614, v615, v616, kr, k0 => r7CheckGroup_b4 N (fun v614 v615 v616 => r7CheckGroup_l4 N n v614 v615 v616 kr k0) v614 v615 v616 kr k0
def r7CheckGroup_L15 : LoopSp := ⟨⟨[0, 1, 6, 7, 8], ⟨((rSl api_CarC) :: (rSl api_PressC) :: (dr 4 ((rInt .i64) :: (rBool) :: (rInt .i64) :: (dr 52 [])))), []⟩, 0⟩, [(some 4, ⟨[0, 1, 6, 7], ⟨((rSl api_CarC) :: (rSl api_PressC) :: (dr 4 ((rInt .i64) :: (rBool) :: (dr 53 [])))), []⟩, 0⟩)]⟩
theorem r7CheckGroup_L15_ok : r7CheckGroup_L15.Ok := ⟨⟨(allCons (rSl_ok api_CarC_ok) (allCons (rSl_ok api_PressC_ok) (drCons 4 (allCons (rInt_ok .i64) (allCons rBool_ok (allCons (rInt_ok .i64) (drCons 52 allNil))))))), eNil⟩, (xCons ⟨(allCons (rSl_ok api_CarC_ok) (allCons (rSl_ok api_PressC_ok) (drCons 4 (allCons (rInt_ok .i64) (allCons rBool_ok (drCons 53 allNil)))))), eNil⟩ xNil)⟩
def r7CheckGroup_h15 (v623 : Arr api_Car) (v624 : Arr api_Press) (v625 : Int) (v626 : Bool) (v627 : Int) : St := ⟨((slC api_CarC v623) :: (slC api_PressC v624) :: (un 4 ((.int .i64 v625) :: (.bool v626) :: (.int .i64 v627) :: (un 52 [])))), [], 0⟩
def r7CheckGroup_x15_4 (v623 : Arr api_Car) (v624 : Arr api_Press) (v625 : Int) (q3 : Bool) : St := ⟨((slC api_CarC v623) :: (slC api_PressC v624) :: (un 4 ((.int .i64 v625) :: (.bool q3) :: (un 53 [])))), [], 0⟩
def r7CheckGroup_b15 {R : Type} (N : Nat) (rc : Arr api_Car → Arr api_Press → Int → Bool → Int → Option R) (v623 : Arr api_Car) (v624 : Arr api_Press) (v625 : Int) (v626 : Bool) (v627 : Int) (k4 : Bool → Option R) : Option R :=
 bif decide (v627 < (↑(Arr.n v623) : Int)) then
 bif v626 then
 rc v623 v624 v625 true (w64 (v627 + (1 : Int)))
 else
 bif decide ((0 : Int) ≤ v625) && decide (v625 < (↑(Arr.n v624) : Int)) then
 bif decide ((0 : Int) ≤ v627) && decide (v627 < (↑(Arr.n v623) : Int)) then
 bif decide ((0 : Int) ≤ v627) && decide (v627 < (↑(Arr.n v623) : Int)) then
 r7from N (api_Press.Floor (Arr.f v624 (Int.toNat v625))) (api_Car.Low (Arr.f v623 (Int.toNat v627))) (api_Car.High (Arr.f v623 (Int.toNat v627))) (fun r628 =>
 rc v623 v624 v625 r628 (w64 (v627 + (1 : Int))))
 else
 Option.none
 else
 Option.none
 else
 Option.none
 else
 k4 v626
def r7CheckGroup_l15 {R : Type} (N : Nat) : Nat → Arr api_Car → Arr api_Press → Int → Bool → Int → (Bool → Option R) → Option R
  | 0, _, _, _, _, _, _ => Option.none
  | n + 1, v623, v624, v625, v626, v627, k4 => r7CheckGroup_b15 N (fun v623 v624 v625 v626 v627 => r7CheckGroup_l15 N n v623 v624 v625 v626 v627 k4) v623 v624 v625 v626 v627 k4
def r7CheckGroup_L11 : LoopSp := ⟨⟨[0, 1, 6], ⟨((rSl api_CarC) :: (rSl api_PressC) :: (dr 4 ((rInt .i64) :: (dr 54 [])))), []⟩, 0⟩, [(Option.none, ⟨[4], ⟨(dr 4 ((rInt .i64) :: (dr 56 []))), []⟩, 0⟩), (some 2, ⟨[], ⟨(dr 61 []), []⟩, 0⟩)]⟩
theorem r7CheckGroup_L11_ok : r7CheckGroup_L11.Ok := ⟨⟨(allCons (rSl_ok api_CarC_ok) (allCons (rSl_ok api_PressC_ok) (drCons 4 (allCons (rInt_ok .i64) (drCons 54 allNil))))), eNil⟩, (xCons ⟨(drCons 4 (allCons (rInt_ok .i64) (drCons 56 allNil))), eNil⟩ (xCons ⟨(drCons 61 allNil), eNil⟩ xNil))⟩
def r7CheckGroup_h11 (v620 : Arr api_Car) (v621 : Arr api_Press) (v622 : Int) : St := ⟨((slC api_CarC v620) :: (slC api_PressC v621) :: (un 4 ((.int .i64 v622) :: (un 54 [])))), [], 0⟩
def r7CheckGroup_x11_r (q0 : Int) : St := ⟨(un 4 ((.int .i64 q0) :: (un 56 []))), [], 0⟩
def r7CheckGroup_x11_2  : St := ⟨(un 61 []), [], 0⟩
def r7CheckGroup_b11 {R : Type} (N : Nat) (rc : Arr api_Car → Arr api_Press → Int → Option R) (v620 : Arr api_Car) (v621 : Arr api_Press) (v622 : Int) (kr : Int → Option R) (k2 : Unit → Option R) : Option R :=
 bif decide (v622 < (↑(Arr.n v621) : Int)) then
 r7CheckGroup_l15 N N v620 v621 v622 false (0 : Int) (fun r629 =>
 bif !r629 then
 kr (71 : Int)
 else
 rc v620 v621 (w64 (v622 + (1 : Int))))
 else
 k2 ()
def r7CheckGroup_l11 {R : Type} (N : Nat) : Nat → Arr api_Car → Arr api_Press → Int → (Int → Option R) → (Unit → Option R) → Option R
  | 0, _, _, _, _, _ => Option.none
  | n + 1, v620, v621, v622, kr, k2 => r7CheckGroup_b11 N (fun v620 v621 v622 => r7CheckGroup_l11 N n v620 v621 v622 kr k2) v620 v621 v622 kr k2
def r7CheckGroup_m {R : Type} (N : Nat) (a611 : Arr api_Car) (a612 : Arr api_Press) (k : Int → Option R) : Option R :=
 r7from N ((↑(Arr.n a611) : Int)) (1 : Int) (3 : Int) (fun r613 =>
 bif !r613 then
 k (70 : Int)
 else
 r7CheckGroup_l4 N N a611 a612 (0 : Int) (fun r618 =>
 k r618) (fun (_ : Unit) =>
 r7isPresses N a612 (fun r619 =>
 bif !r619 then
 k (71 : Int)
 else
 r7CheckGroup_l11 N N a611 a612 (0 : Int) (fun r630 =>
 k r630) (fun (_ : Unit) =>
 k (0 : Int)))))
noncomputable def r7CheckGroup {R : Type} : Nat → Arr api_Car → Arr api_Press → (Int → Option R) → Option R := lock (@r7CheckGroup_m R)
theorem r7CheckGroup_def {R : Type} (N : Nat) (a611 : Arr api_Car) (a612 : Arr api_Press) (k : Int → Option R) : r7CheckGroup N a611 a612 k = r7CheckGroup_m N a611 a612 k := by unfold r7CheckGroup; rw [lock_eq]
def r7CheckGroup_sp : Sp := ⟨[rSl api_CarC, rSl api_PressC], []⟩
theorem r7CheckGroup_sp_ok : r7CheckGroup_sp.Ok := ⟨(allCons (rSl_ok api_CarC_ok) (allCons (rSl_ok api_PressC_ok) allNil)), eNil⟩
def r7CheckGroup_rs : Sp := ⟨[rInt .i64], []⟩
theorem r7CheckGroup_rs_ok : r7CheckGroup_rs.Ok := ⟨(allCons (rInt_ok .i64) allNil), eNil⟩
def r7CheckGroup_run {R : Type} (N : Nat) (args : List SV) (T : Tab) (kf : SV × Tab → Option R) : Option R :=
  r7CheckGroup_m N (lstC api_CarC (lget args 0)) (lstC api_PressC (lget args 1)) (fun q0 => kf (lget [.int .i64 q0] 0, []))
def r7CheckGroup_d15 {R : Type} (N : Nat) (S0 : St) (k : Exit → St → Option R) : Option R :=
  r7CheckGroup_l15 N N (lstC api_CarC (lget S0.tmps 0)) (lstC api_PressC (lget S0.tmps 1)) (toI (lget S0.tmps 6)) (toB (lget S0.tmps 7)) (toI (lget S0.tmps 8)) (fun q3 => k (.exit 4) (r7CheckGroup_x15_4 (lstC api_CarC (lget S0.tmps 0)) (lstC api_PressC (lget S0.tmps 1)) (toI (lget S0.tmps 6)) q3))
def r7CheckGroup_d11 {R : Type} (N : Nat) (S0 : St) (k : Exit → St → Option R) : Option R :=
  r7CheckGroup_l11 N N (lstC api_CarC (lget S0.tmps 0)) (lstC api_PressC (lget S0.tmps 1)) (toI (lget S0.tmps 6)) (fun q0 => k .ret (r7CheckGroup_x11_r q0)) (fun (_ : Unit) => k (.exit 2) (r7CheckGroup_x11_2 ))
def r7CheckGroup_d4 {R : Type} (N : Nat) (S0 : St) (k : Exit → St → Option R) : Option R :=
  r7CheckGroup_l4 N N (lstC api_CarC (lget S0.tmps 0)) (lstC api_PressC (lget S0.tmps 1)) (toI (lget S0.tmps 5)) (fun q0 => k .ret (r7CheckGroup_x4_r q0)) (fun (_ : Unit) => k (.exit 0) (r7CheckGroup_x4_0 (lstC api_CarC (lget S0.tmps 0)) (lstC api_PressC (lget S0.tmps 1))))
def r7CheckGroup_lp {R : Type} (N : Nat) : Lp R := fun body S k => bif (Go.Sx.keyOf body).getD 0 == 4 then (r7CheckGroup_L4.head.raw 0 S (fun S0 => r7CheckGroup_d4 N S0 k)) else bif (Go.Sx.keyOf body).getD 0 == 11 then (r7CheckGroup_L11.head.raw 0 S (fun S0 => r7CheckGroup_d11 N S0 k)) else bif (Go.Sx.keyOf body).getD 0 == 15 then (r7CheckGroup_L15.head.raw 0 S (fun S0 => r7CheckGroup_d15 N S0 k)) else Option.none
theorem r7CheckGroup_l4_eq {R : Type} (N : Nat) (k : Exit → St → Option R) (n : Nat) : ∀ (v0 : Arr api_Car) (v1 : Arr api_Press) (v2 : Int), loopM E.Θ (calls_group_cal N) (r7CheckGroup_lp N) (noJn) 0 r7CheckGroup_L4 (bodyAt E 37 4) n (r7CheckGroup_h4 v0 v1 v2) k = r7CheckGroup_l4 N n v0 v1 v2 (fun q0 => k .ret (r7CheckGroup_x4_r q0)) (fun (_ : Unit) => k (.exit 0) (r7CheckGroup_x4_0 v0 v1)) := by
  induction n with
  | zero => intro v0 v1 v2; rfl
  | succ n ih =>
    intro v0 v1 v2
    refine Eq.trans (b := r7CheckGroup_b4 N (fun v0 v1 v2 => loopM E.Θ (calls_group_cal N) (r7CheckGroup_lp N) (noJn) 0 r7CheckGroup_L4 (bodyAt E 37 4) n (r7CheckGroup_h4 v0 v1 v2) k) v0 v1 v2 (fun q0 => k .ret (r7CheckGroup_x4_r q0)) (fun (_ : Unit) => k (.exit 0) (r7CheckGroup_x4_0 v0 v1))) (by kernel_rfl) ?_
    have h : (fun (v0 : Arr api_Car) (v1 : Arr api_Press) (v2 : Int) => loopM E.Θ (calls_group_cal N) (r7CheckGroup_lp N) (noJn) 0 r7CheckGroup_L4 (bodyAt E 37 4) n (r7CheckGroup_h4 v0 v1 v2) k) = (fun (v0 : Arr api_Car) (v1 : Arr api_Press) (v2 : Int) => r7CheckGroup_l4 N n v0 v1 v2 (fun q0 => k .ret (r7CheckGroup_x4_r q0)) (fun (_ : Unit) => k (.exit 0) (r7CheckGroup_x4_0 v0 v1))) := funext fun v0 => funext fun v1 => funext fun v2 => ih v0 v1 v2
    rw [h]
    rfl
theorem r7CheckGroup_l11_eq {R : Type} (N : Nat) (k : Exit → St → Option R) (n : Nat) : ∀ (v0 : Arr api_Car) (v1 : Arr api_Press) (v2 : Int), loopM E.Θ (calls_group_cal N) (r7CheckGroup_lp N) (noJn) 0 r7CheckGroup_L11 (bodyAt E 37 11) n (r7CheckGroup_h11 v0 v1 v2) k = r7CheckGroup_l11 N n v0 v1 v2 (fun q0 => k .ret (r7CheckGroup_x11_r q0)) (fun (_ : Unit) => k (.exit 2) (r7CheckGroup_x11_2 )) := by
  induction n with
  | zero => intro v0 v1 v2; rfl
  | succ n ih =>
    intro v0 v1 v2
    refine Eq.trans (b := r7CheckGroup_b11 N (fun v0 v1 v2 => loopM E.Θ (calls_group_cal N) (r7CheckGroup_lp N) (noJn) 0 r7CheckGroup_L11 (bodyAt E 37 11) n (r7CheckGroup_h11 v0 v1 v2) k) v0 v1 v2 (fun q0 => k .ret (r7CheckGroup_x11_r q0)) (fun (_ : Unit) => k (.exit 2) (r7CheckGroup_x11_2 ))) (by kernel_rfl) ?_
    have h : (fun (v0 : Arr api_Car) (v1 : Arr api_Press) (v2 : Int) => loopM E.Θ (calls_group_cal N) (r7CheckGroup_lp N) (noJn) 0 r7CheckGroup_L11 (bodyAt E 37 11) n (r7CheckGroup_h11 v0 v1 v2) k) = (fun (v0 : Arr api_Car) (v1 : Arr api_Press) (v2 : Int) => r7CheckGroup_l11 N n v0 v1 v2 (fun q0 => k .ret (r7CheckGroup_x11_r q0)) (fun (_ : Unit) => k (.exit 2) (r7CheckGroup_x11_2 ))) := funext fun v0 => funext fun v1 => funext fun v2 => ih v0 v1 v2
    rw [h]
    rfl
theorem r7CheckGroup_l15_eq {R : Type} (N : Nat) (k : Exit → St → Option R) (n : Nat) : ∀ (v0 : Arr api_Car) (v1 : Arr api_Press) (v2 : Int) (v3 : Bool) (v4 : Int), loopM E.Θ (calls_group_cal N) (r7CheckGroup_lp N) (noJn) 0 r7CheckGroup_L15 (bodyAt E 37 15) n (r7CheckGroup_h15 v0 v1 v2 v3 v4) k = r7CheckGroup_l15 N n v0 v1 v2 v3 v4 (fun q3 => k (.exit 4) (r7CheckGroup_x15_4 v0 v1 v2 q3)) := by
  induction n with
  | zero => intro v0 v1 v2 v3 v4; rfl
  | succ n ih =>
    intro v0 v1 v2 v3 v4
    refine Eq.trans (b := r7CheckGroup_b15 N (fun v0 v1 v2 v3 v4 => loopM E.Θ (calls_group_cal N) (r7CheckGroup_lp N) (noJn) 0 r7CheckGroup_L15 (bodyAt E 37 15) n (r7CheckGroup_h15 v0 v1 v2 v3 v4) k) v0 v1 v2 v3 v4 (fun q3 => k (.exit 4) (r7CheckGroup_x15_4 v0 v1 v2 q3))) (by kernel_rfl) ?_
    have h : (fun (v0 : Arr api_Car) (v1 : Arr api_Press) (v2 : Int) (v3 : Bool) (v4 : Int) => loopM E.Θ (calls_group_cal N) (r7CheckGroup_lp N) (noJn) 0 r7CheckGroup_L15 (bodyAt E 37 15) n (r7CheckGroup_h15 v0 v1 v2 v3 v4) k) = (fun (v0 : Arr api_Car) (v1 : Arr api_Press) (v2 : Int) (v3 : Bool) (v4 : Int) => r7CheckGroup_l15 N n v0 v1 v2 v3 v4 (fun q3 => k (.exit 4) (r7CheckGroup_x15_4 v0 v1 v2 q3))) := funext fun v0 => funext fun v1 => funext fun v2 => funext fun v3 => funext fun v4 => ih v0 v1 v2 v3 v4
    rw [h]
    rfl
theorem r7CheckGroup_k15 {R : Type} (N : Nat) : LpKey (R := R) E 37 0 (r7CheckGroup_lp N) 15 :=
  lpKey_of hE (calls_group_cal_ok N) (lp := r7CheckGroup_lp N) (jn := noJn) r7CheckGroup_L15_ok [] kNil (by kernel_rfl) [] jNil (by kernel_rfl) N fun S k =>
    Eq.trans (b := r7CheckGroup_L15.head.raw 0 S (fun S0 => r7CheckGroup_d15 N S0 k)) (by kernel_rfl) (congrArg (r7CheckGroup_L15.head.raw 0 S) (funext fun S0 => Eq.trans (r7CheckGroup_l15_eq N k N (lstC api_CarC (lget S0.tmps 0)) (lstC api_PressC (lget S0.tmps 1)) (toI (lget S0.tmps 6)) (toB (lget S0.tmps 7)) (toI (lget S0.tmps 8))).symm (by kernel_rfl)))
theorem r7CheckGroup_k4 {R : Type} (N : Nat) : LpKey (R := R) E 37 0 (r7CheckGroup_lp N) 4 :=
  lpKey_of hE (calls_group_cal_ok N) (lp := r7CheckGroup_lp N) (jn := noJn) r7CheckGroup_L4_ok [] kNil (by kernel_rfl) [] jNil (by kernel_rfl) N fun S k =>
    Eq.trans (b := r7CheckGroup_L4.head.raw 0 S (fun S0 => r7CheckGroup_d4 N S0 k)) (by kernel_rfl) (congrArg (r7CheckGroup_L4.head.raw 0 S) (funext fun S0 => Eq.trans (r7CheckGroup_l4_eq N k N (lstC api_CarC (lget S0.tmps 0)) (lstC api_PressC (lget S0.tmps 1)) (toI (lget S0.tmps 5))).symm (by kernel_rfl)))
theorem r7CheckGroup_k11 {R : Type} (N : Nat) : LpKey (R := R) E 37 0 (r7CheckGroup_lp N) 11 :=
  lpKey_of hE (calls_group_cal_ok N) (lp := r7CheckGroup_lp N) (jn := noJn) r7CheckGroup_L11_ok [15] (kCons (r7CheckGroup_k15 N) kNil) (by kernel_rfl) [] jNil (by kernel_rfl) N fun S k =>
    Eq.trans (b := r7CheckGroup_L11.head.raw 0 S (fun S0 => r7CheckGroup_d11 N S0 k)) (by kernel_rfl) (congrArg (r7CheckGroup_L11.head.raw 0 S) (funext fun S0 => Eq.trans (r7CheckGroup_l11_eq N k N (lstC api_CarC (lget S0.tmps 0)) (lstC api_PressC (lget S0.tmps 1)) (toI (lget S0.tmps 6))).symm (by kernel_rfl)))
noncomputable def r7CheckGroup_go {R : Type} (N : Nat) (args : List SV) (T : Tab) (kf : SV × Tab → Option R) : Option R :=
  r7CheckGroup N (lstC api_CarC (lget args 0)) (lstC api_PressC (lget args 1)) (fun q0 => kf (lget [.int .i64 q0] 0, []))
noncomputable def r7CheckGroup_cal {R : Type} (N : Nat) : Cal R := callM (calls_group_cal N) 37 0 r7CheckGroup_sp (r7CheckGroup_go N)
theorem r7CheckGroup_cal_ok {R : Type} (N : Nat) : CalOk E.P (r7CheckGroup_cal (R := R) N) :=
  callM_ok hE (calls_group_cal_ok N) (lp := r7CheckGroup_lp N) (jn := noJn) (keys := [4, 11, 15]) (kCons (r7CheckGroup_k4 N) (kCons (r7CheckGroup_k11 N) (kCons (r7CheckGroup_k15 N) kNil))) (by kernel_rfl) (js := []) jNil (by kernel_rfl) r7CheckGroup_sp_ok r7CheckGroup_rs_ok (fun args T kf => Eq.trans (r7CheckGroup_def N (lstC api_CarC (lget args 0)) (lstC api_PressC (lget args 1)) (fun q0 => kf (lget [.int .i64 q0] 0, []))) (by kernel_rfl : r7CheckGroup_run N args T kf = fnM E (calls_group_cal N) (r7CheckGroup_lp N) (noJn) 37 (r7CheckGroup_sp.vs args) (r7CheckGroup_sp.tab T) 0 (resK r7CheckGroup_rs kf)))
def slices_Clone___int_int__m {R : Type} (N : Nat) (a682 : Bool) (a683 : Arr Int) (k : Bool → Arr Int → Option R) : Option R :=
 bif a682 then
 k true (lst intC (0 : Nat) (zeroC [SV.int .i64 0]))
 else
 bif room ((0 : Nat) + Arr.n a683) then
 k (bif Arr.n a683 == (0 : Nat) then false else false) (lst intC ((0 : Nat) + Arr.n a683) (catC (0 : Nat) (litC [SV.int .i64 0] []) (Cod.cell intC (Arr.f a683))))
 else
 Option.none
noncomputable def slices_Clone___int_int_ {R : Type} : Nat → Bool → Arr Int → (Bool → Arr Int → Option R) → Option R := lock (@slices_Clone___int_int__m R)
theorem slices_Clone___int_int__def {R : Type} (N : Nat) (a682 : Bool) (a683 : Arr Int) (k : Bool → Arr Int → Option R) : slices_Clone___int_int_ N a682 a683 k = slices_Clone___int_int__m N a682 a683 k := by unfold slices_Clone___int_int_; rw [lock_eq]
def slices_Clone___int_int__sp : Sp := ⟨[rRow 0], [(0, eRow intC)]⟩
theorem slices_Clone___int_int__sp_ok : slices_Clone___int_int__sp.Ok := ⟨(allCons (rRow_ok 0) allNil), (eCons (eRow_ok intC_ok) eNil)⟩
def slices_Clone___int_int__rs : Sp := ⟨[rRow 1], [(0, eRow intC), (1, eRow intC)]⟩
theorem slices_Clone___int_int__rs_ok : slices_Clone___int_int__rs.Ok := ⟨(allCons (rRow_ok 1) allNil), (eCons (eRow_ok intC_ok) (eCons (eRow_ok intC_ok) eNil))⟩
def slices_Clone___int_int__run {R : Type} (N : Nat) (args : List SV) (T : Tab) (kf : SV × Tab → Option R) : Option R :=
  slices_Clone___int_int__m N (entNl (entAt T 0)) (lst intC (entN (entAt T 0)) (entC (entAt T 0))) (fun q2 q3 => kf (lget [.row 1] 0, [(0, rowE intC (entNl (entAt T 0)) (lst intC (entN (entAt T 0)) (entC (entAt T 0)))), (1, rowE intC q2 q3)]))
def slices_Clone___int_int__lp {R : Type} (N : Nat) : Lp R := fun body S k => Option.none
noncomputable def slices_Clone___int_int__go {R : Type} (N : Nat) (args : List SV) (T : Tab) (kf : SV × Tab → Option R) : Option R :=
  slices_Clone___int_int_ N (entNl (entAt T 0)) (lst intC (entN (entAt T 0)) (entC (entAt T 0))) (fun q2 q3 => kf (lget [.row 1] 0, [(0, rowE intC (entNl (entAt T 0)) (lst intC (entN (entAt T 0)) (entC (entAt T 0)))), (1, rowE intC q2 q3)]))
noncomputable def slices_Clone___int_int__cal {R : Type} (N : Nat) : Cal R := callM (r7CheckGroup_cal N) 69 1 slices_Clone___int_int__sp (slices_Clone___int_int__go N)
theorem slices_Clone___int_int__cal_ok {R : Type} (N : Nat) : CalOk E.P (slices_Clone___int_int__cal (R := R) N) :=
  callM_ok hE (r7CheckGroup_cal_ok N) (lp := slices_Clone___int_int__lp N) (jn := noJn) (keys := []) kNil (by kernel_rfl) (js := []) jNil (by kernel_rfl) slices_Clone___int_int__sp_ok slices_Clone___int_int__rs_ok (fun args T kf => Eq.trans (slices_Clone___int_int__def N (entNl (entAt T 0)) (lst intC (entN (entAt T 0)) (entC (entAt T 0))) (fun q2 q3 => kf (lget [.row 1] 0, [(0, rowE intC (entNl (entAt T 0)) (lst intC (entN (entAt T 0)) (entC (entAt T 0)))), (1, rowE intC q2 q3)]))) (by kernel_rfl : slices_Clone___int_int__run N args T kf = fnM E (r7CheckGroup_cal N) (slices_Clone___int_int__lp N) (noJn) 69 (slices_Clone___int_int__sp.vs args) (slices_Clone___int_int__sp.tab T) 1 (resK slices_Clone___int_int__rs kf)))
end
end Go.Proofs.Ytlphgonhenegoaa
