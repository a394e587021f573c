import Derived.Test.YtlphgonhenegoaaG1
set_option maxRecDepth 100000
set_option maxHeartbeats 0
set_option linter.unusedVariables false
namespace Go.Proofs.Ytlphgonhenegoaa
open Go.Sx
noncomputable section
def newelref07_reach_L8 : LoopSp := ⟨⟨[2, 5, 6, 7, 8], ⟨(dr 2 ((rPtr 0 0) :: (dr 2 ((rRow 1) :: (rRow 2) :: (rInt .i64) :: (rInt .i64) :: (dr 62 []))))), [(0, eBlkC api_CarC), (1, eRow boolC), (2, eRow newelref07_knotC)]⟩, 3⟩, [(some 2, ⟨[2, 5, 6, 7], ⟨(dr 2 ((rPtr 0 0) :: (dr 2 ((rRow 1) :: (rRow 2) :: (rInt .i64) :: (dr 63 []))))), [(0, eBlkC api_CarC), (1, eRow boolC), (2, eRow newelref07_knotC)]⟩, 3⟩)]⟩
theorem newelref07_reach_L8_ok : newelref07_reach_L8.Ok := ⟨⟨(drCons 2 (allCons (rPtr_ok 0 0) (drCons 2 (allCons (rRow_ok 1) (allCons (rRow_ok 2) (allCons (rInt_ok .i64) (allCons (rInt_ok .i64) (drCons 62 allNil)))))))), (eCons (eBlkC_ok api_CarC_ok api_CarC_len) (eCons (eRow_ok boolC_ok) (eCons (eRow_ok newelref07_knotC_ok) eNil)))⟩, (xCons ⟨(drCons 2 (allCons (rPtr_ok 0 0) (drCons 2 (allCons (rRow_ok 1) (allCons (rRow_ok 2) (allCons (rInt_ok .i64) (drCons 63 allNil))))))), (eCons (eBlkC_ok api_CarC_ok api_CarC_len) (eCons (eRow_ok boolC_ok) (eCons (eRow_ok newelref07_knotC_ok) eNil)))⟩ xNil)⟩
def newelref07_reach_h8 (v349 : Int) (v350 : Int) (v351 : api_Car) (v352 : Bool) (v353 : Arr Bool) (v354 : Bool) (v355 : Arr newelref07_knot) : St := ⟨(un 2 ((.ptr 0 0) :: (un 2 ((.row 1) :: (.row 2) :: (.int .i64 v349) :: (.int .i64 v350) :: (un 62 []))))), [(0, .blk (Cod.enc api_CarC v351)), (1, rowE boolC v352 v353), (2, rowE newelref07_knotC v354 v355)], 3⟩
def newelref07_reach_x8_2 (v349 : Int) (v351 : api_Car) (v352 : Bool) (q3 : Arr Bool) (q4 : Bool) (q5 : Arr newelref07_knot) : St := ⟨(un 2 ((.ptr 0 0) :: (un 2 ((.row 1) :: (.row 2) :: (.int .i64 v349) :: (un 63 []))))), [(0, .blk (Cod.enc api_CarC v351)), (1, rowE boolC v352 q3), (2, rowE newelref07_knotC q4 q5)], 3⟩
def newelref07_reach_b8 {R : Type} (N : Nat) (rc : Int → Int → api_Car → Bool → Arr Bool → Bool → Arr newelref07_knot → Option R) (v349 : Int) (v350 : Int) (v351 : api_Car) (v352 : Bool) (v353 : Arr Bool) (v354 : Bool) (v355 : Arr newelref07_knot) (k2 : Arr Bool → Bool → Arr newelref07_knot → Option R) : Option R :=
  bif decide (IntKind.wrap IntKind.u64 (w64 (api_Car.High v351 + (1 : Int))) < (0 : Int)) then
   Option.none
  else
   bif decide (v350 < w64 ((1 : Int) * (2 : Int) ^ min (Int.toNat (IntKind.wrap IntKind.u64 (w64 (api_Car.High v351 + (1 : Int))))) (IntKind.bits IntKind.i64))) then
    bif decide (IntKind.wrap IntKind.u64 (api_Car.Low v351) < (0 : Int)) then
     Option.none
    else
     bif w64 (↑(BitVec.toNat (BitVec.ofInt (IntKind.bits IntKind.i64) v350 &&& BitVec.ofInt (IntKind.bits IntKind.i64) (w64 (w64 ((1 : Int) * (2 : Int) ^ min (Int.toNat (IntKind.wrap IntKind.u64 (api_Car.Low v351))) (IntKind.bits IntKind.i64)) - (1 : Int))))) : Int) != (0 : Int) then
      rc v349 (w64 (v350 + (1 : Int))) v351 v352 v353 v354 v355
     else
      bif decide ((0 : Int) ≤ v349) && decide (v349 < (↑(Arr.n v355) : Int)) then
       newelref07_Tick N v351 (newelref07_knot.f_ride (Arr.f v355 (Int.toNat v349))) v350 (fun r356 r357 =>
       newelref07_code N r356 (fun r358 =>
       bif decide ((0 : Int) ≤ r358) && decide (r358 < (↑(Arr.n v353) : Int)) then
        bif !Arr.f v353 (Int.toNat r358) then
         newelref07_code N r356 (fun r359 =>
         bif decide ((0 : Int) ≤ r359) && decide (r359 < (↑(Arr.n v353) : Int)) then
          bif room (Arr.n v355 + (1 : Nat)) then
           rc v349 (w64 (v350 + (1 : Int))) v351 v352 (lst boolC (Arr.n v353) (setCs (Int.toNat r359) (0 : Nat) (Cod.cell boolC (Arr.f v353)) [SV.bool true])) false (lst newelref07_knotC (Arr.n v355 + (1 : Nat)) (catC (Arr.n v355) (Cod.cell newelref07_knotC (Arr.f v355)) (litC [SV.int IntKind.i64 (0 : Int), SV.bool false, SV.bool false, SV.int IntKind.i64 (0 : Int), SV.int IntKind.i64 (0 : Int), SV.int IntKind.i64 (0 : Int), SV.int IntKind.i64 (0 : Int), SV.int IntKind.i64 (0 : Int)] [[SV.int IntKind.i64 (api_Ride.Floor r356), SV.bool (api_Ride.Up r356), SV.bool (api_Ride.Stood r356), SV.int IntKind.i64 (api_Ride.Doing r356), SV.int IntKind.i64 (api_Ride.Left r356), SV.int IntKind.i64 (api_Ride.Wants r356), SV.int IntKind.i64 v349, SV.int IntKind.i64 v350]])))
          else
           Option.none
         else
          Option.none)
        else
         rc v349 (w64 (v350 + (1 : Int))) v351 v352 v353 v354 v355
       else
        Option.none))
      else
       Option.none
   else
    k2 v353 v354 v355
def newelref07_reach_l8 {R : Type} (N : Nat) : Nat → Int → Int → api_Car → Bool → Arr Bool → Bool → Arr newelref07_knot → (Arr Bool → Bool → Arr newelref07_knot → Option R) → Option R
  | 0, _, _, _, _, _, _, _, _ => Option.none
  | n + 1, v349, v350, v351, v352, v353, v354, v355, k2 => newelref07_reach_b8 N (fun v349 v350 v351 v352 v353 v354 v355 => newelref07_reach_l8 N n v349 v350 v351 v352 v353 v354 v355 k2) v349 v350 v351 v352 v353 v354 v355 k2
def newelref07_reach_L5 : LoopSp := ⟨⟨[2, 5, 6, 7], ⟨(dr 2 ((rPtr 0 0) :: (dr 2 ((rRow 1) :: (rRow 2) :: (rInt .i64) :: (dr 63 []))))), [(0, eBlkC api_CarC), (1, eRow boolC), (2, eRow newelref07_knotC)]⟩, 3⟩, [(some 0, ⟨[6], ⟨(dr 6 ((rRow 0) :: (dr 64 []))), [(0, eRow newelref07_knotC)]⟩, 1⟩)]⟩
theorem newelref07_reach_L5_ok : newelref07_reach_L5.Ok := ⟨⟨(drCons 2 (allCons (rPtr_ok 0 0) (drCons 2 (allCons (rRow_ok 1) (allCons (rRow_ok 2) (allCons (rInt_ok .i64) (drCons 63 allNil))))))), (eCons (eBlkC_ok api_CarC_ok api_CarC_len) (eCons (eRow_ok boolC_ok) (eCons (eRow_ok newelref07_knotC_ok) eNil)))⟩, (xCons ⟨(drCons 6 (allCons (rRow_ok 0) (drCons 64 allNil))), (eCons (eRow_ok newelref07_knotC_ok) eNil)⟩ xNil)⟩
def newelref07_reach_h5 (v343 : Int) (v344 : api_Car) (v345 : Bool) (v346 : Arr Bool) (v347 : Bool) (v348 : Arr newelref07_knot) : St := ⟨(un 2 ((.ptr 0 0) :: (un 2 ((.row 1) :: (.row 2) :: (.int .i64 v343) :: (un 63 []))))), [(0, .blk (Cod.enc api_CarC v344)), (1, rowE boolC v345 v346), (2, rowE newelref07_knotC v347 v348)], 3⟩
def newelref07_reach_x5_0 (q0 : Bool) (q1 : Arr newelref07_knot) : St := ⟨(un 6 ((.row 0) :: (un 64 []))), [(0, rowE newelref07_knotC q0 q1)], 1⟩
def newelref07_reach_b5 {R : Type} (N : Nat) (rc : Int → api_Car → Bool → Arr Bool → Bool → Arr newelref07_knot → Option R) (v343 : Int) (v344 : api_Car) (v345 : Bool) (v346 : Arr Bool) (v347 : Bool) (v348 : Arr newelref07_knot) (k0 : Bool → Arr newelref07_knot → Option R) : Option R :=
  bif decide (v343 < (↑(Arr.n v348) : Int)) then
   newelref07_reach_l8 N N v343 (0 : Int) v344 v345 v346 v347 v348 (fun r360 r361 r362 =>
    rc (w64 (v343 + (1 : Int))) v344 v345 r360 r361 r362)
  else
   k0 v347 v348
def newelref07_reach_l5 {R : Type} (N : Nat) : Nat → Int → api_Car → Bool → Arr Bool → Bool → Arr newelref07_knot → (Bool → Arr newelref07_knot → Option R) → Option R
  | 0, _, _, _, _, _, _, _ => Option.none
  | n + 1, v343, v344, v345, v346, v347, v348, k0 => newelref07_reach_b5 N (fun v343 v344 v345 v346 v347 v348 => newelref07_reach_l5 N n v343 v344 v345 v346 v347 v348 k0) v343 v344 v345 v346 v347 v348 k0
def newelref07_reach_m {R : Type} (N : Nat) (a340 : api_Car) (a341 : api_Ride) (k : Bool → Arr newelref07_knot → Option R) : Option R :=
  newelref07_code N a341 (fun r342 =>
  bif decide ((0 : Int) ≤ r342) && decide (r342 < (↑(Int.toNat (65536 : Int)) : Int)) then
   newelref07_reach_l5 N N (0 : Int) a340 false (lst boolC (65536 : Nat) (setCs (Int.toNat r342) (0 : Nat) (zeroC [SV.bool false]) [SV.bool true])) false (lst newelref07_knotC (1 : Nat) (litC [SV.int IntKind.i64 (0 : Int), SV.bool false, SV.bool false, SV.int IntKind.i64 (0 : Int), SV.int IntKind.i64 (0 : Int), SV.int IntKind.i64 (0 : Int), SV.int IntKind.i64 (0 : Int), SV.int IntKind.i64 (0 : Int)] [[SV.int IntKind.i64 (api_Ride.Floor a341), SV.bool (api_Ride.Up a341), SV.bool (api_Ride.Stood a341), SV.int IntKind.i64 (api_Ride.Doing a341), SV.int IntKind.i64 (api_Ride.Left a341), SV.int IntKind.i64 (api_Ride.Wants a341), SV.int IntKind.i64 (-1 : Int), SV.int IntKind.i64 (0 : Int)]])) (fun r363 r364 =>
    k r363 r364)
  else
   Option.none)
noncomputable def newelref07_reach {R : Type} : Nat → api_Car → api_Ride → (Bool → Arr newelref07_knot → Option R) → Option R := lock (@newelref07_reach_m R)
theorem newelref07_reach_def {R : Type} (N : Nat) (a340 : api_Car) (a341 : api_Ride) (k : Bool → Arr newelref07_knot → Option R) : newelref07_reach N a340 a341 k = newelref07_reach_m N a340 a341 k := by unfold newelref07_reach; rw [lock_eq]
def newelref07_reach_sp : Sp := ⟨[rAgg api_CarC, rAgg api_RideC], []⟩
theorem newelref07_reach_sp_ok : newelref07_reach_sp.Ok := ⟨(allCons (rAgg_ok api_CarC_ok api_CarC_len) (allCons (rAgg_ok api_RideC_ok api_RideC_len) allNil)), eNil⟩
def newelref07_reach_rs : Sp := ⟨[rRow 0], [(0, eRow newelref07_knotC)]⟩
theorem newelref07_reach_rs_ok : newelref07_reach_rs.Ok := ⟨(allCons (rRow_ok 0) allNil), (eCons (eRow_ok newelref07_knotC_ok) eNil)⟩
def newelref07_reach_run {R : Type} (N : Nat) (args : List SV) (T : Tab) (kf : SV × Tab → Option R) : Option R :=
  newelref07_reach_m N (Cod.dec api_CarC (lget (toCs (lget args 0)))) (Cod.dec api_RideC (lget (toCs (lget args 1)))) (fun q0 q1 => kf (lget [.row 0] 0, [(0, rowE newelref07_knotC q0 q1)]))
def newelref07_reach_d8 {R : Type} (N : Nat) (S0 : St) (k : Exit → St → Option R) : Option R :=
  newelref07_reach_l8 N N (toI (lget S0.tmps 7)) (toI (lget S0.tmps 8)) (Cod.dec api_CarC (lget (entCs (entAt S0.tab 0)))) (entNl (entAt S0.tab 1)) (lst boolC (entN (entAt S0.tab 1)) (entC (entAt S0.tab 1))) (entNl (entAt S0.tab 2)) (lst newelref07_knotC (entN (entAt S0.tab 2)) (entC (entAt S0.tab 2))) (fun q3 q4 q5 => k (.exit 2) (newelref07_reach_x8_2 (toI (lget S0.tmps 7)) (Cod.dec api_CarC (lget (entCs (entAt S0.tab 0)))) (entNl (entAt S0.tab 1)) q3 q4 q5))
def newelref07_reach_d5 {R : Type} (N : Nat) (S0 : St) (k : Exit → St → Option R) : Option R :=
  newelref07_reach_l5 N N (toI (lget S0.tmps 7)) (Cod.dec api_CarC (lget (entCs (entAt S0.tab 0)))) (entNl (entAt S0.tab 1)) (lst boolC (entN (entAt S0.tab 1)) (entC (entAt S0.tab 1))) (entNl (entAt S0.tab 2)) (lst newelref07_knotC (entN (entAt S0.tab 2)) (entC (entAt S0.tab 2))) (fun q0 q1 => k (.exit 0) (newelref07_reach_x5_0 q0 q1))
def newelref07_reach_lp {R : Type} (N : Nat) : Lp R := fun body S k => bif (Go.Sx.keyOf body).getD 0 == 5 then (newelref07_reach_L5.head.raw 0 S (fun S0 => newelref07_reach_d5 N S0 k)) else bif (Go.Sx.keyOf body).getD 0 == 8 then (newelref07_reach_L8.head.raw 0 S (fun S0 => newelref07_reach_d8 N S0 k)) else Option.none
theorem newelref07_reach_l5_eq {R : Type} (N : Nat) (k : Exit → St → Option R) (n : Nat) : ∀ (v0 : Int) (v1 : api_Car) (v2 : Bool) (v3 : Arr Bool) (v4 : Bool) (v5 : Arr newelref07_knot), loopM E.Θ (newelref07_Right_cal N) (newelref07_reach_lp N) (noJn) 0 newelref07_reach_L5 (bodyAt E 56 5) n (newelref07_reach_h5 v0 v1 v2 v3 v4 v5) k = newelref07_reach_l5 N n v0 v1 v2 v3 v4 v5 (fun q0 q1 => k (.exit 0) (newelref07_reach_x5_0 q0 q1)) := by
  induction n with
  | zero => intro v0 v1 v2 v3 v4 v5; rfl
  | succ n ih =>
    intro v0 v1 v2 v3 v4 v5
    refine Eq.trans (b := newelref07_reach_b5 N (fun v0 v1 v2 v3 v4 v5 => loopM E.Θ (newelref07_Right_cal N) (newelref07_reach_lp N) (noJn) 0 newelref07_reach_L5 (bodyAt E 56 5) n (newelref07_reach_h5 v0 v1 v2 v3 v4 v5) k) v0 v1 v2 v3 v4 v5 (fun q0 q1 => k (.exit 0) (newelref07_reach_x5_0 q0 q1))) (by kernel_rfl) ?_
    have h : (fun (v0 : Int) (v1 : api_Car) (v2 : Bool) (v3 : Arr Bool) (v4 : Bool) (v5 : Arr newelref07_knot) => loopM E.Θ (newelref07_Right_cal N) (newelref07_reach_lp N) (noJn) 0 newelref07_reach_L5 (bodyAt E 56 5) n (newelref07_reach_h5 v0 v1 v2 v3 v4 v5) k) = (fun (v0 : Int) (v1 : api_Car) (v2 : Bool) (v3 : Arr Bool) (v4 : Bool) (v5 : Arr newelref07_knot) => newelref07_reach_l5 N n v0 v1 v2 v3 v4 v5 (fun q0 q1 => k (.exit 0) (newelref07_reach_x5_0 q0 q1))) := funext fun v0 => funext fun v1 => funext fun v2 => funext fun v3 => funext fun v4 => funext fun v5 => ih v0 v1 v2 v3 v4 v5
    rw [h]
    rfl
theorem newelref07_reach_l8_eq {R : Type} (N : Nat) (k : Exit → St → Option R) (n : Nat) : ∀ (v0 : Int) (v1 : Int) (v2 : api_Car) (v3 : Bool) (v4 : Arr Bool) (v5 : Bool) (v6 : Arr newelref07_knot), loopM E.Θ (newelref07_Right_cal N) (newelref07_reach_lp N) (noJn) 0 newelref07_reach_L8 (bodyAt E 56 8) n (newelref07_reach_h8 v0 v1 v2 v3 v4 v5 v6) k = newelref07_reach_l8 N n v0 v1 v2 v3 v4 v5 v6 (fun q3 q4 q5 => k (.exit 2) (newelref07_reach_x8_2 v0 v2 v3 q3 q4 q5)) := by
  induction n with
  | zero => intro v0 v1 v2 v3 v4 v5 v6; rfl
  | succ n ih =>
    intro v0 v1 v2 v3 v4 v5 v6
    refine Eq.trans (b := newelref07_reach_b8 N (fun v0 v1 v2 v3 v4 v5 v6 => loopM E.Θ (newelref07_Right_cal N) (newelref07_reach_lp N) (noJn) 0 newelref07_reach_L8 (bodyAt E 56 8) n (newelref07_reach_h8 v0 v1 v2 v3 v4 v5 v6) k) v0 v1 v2 v3 v4 v5 v6 (fun q3 q4 q5 => k (.exit 2) (newelref07_reach_x8_2 v0 v2 v3 q3 q4 q5))) (by kernel_rfl) ?_
    have h : (fun (v0 : Int) (v1 : Int) (v2 : api_Car) (v3 : Bool) (v4 : Arr Bool) (v5 : Bool) (v6 : Arr newelref07_knot) => loopM E.Θ (newelref07_Right_cal N) (newelref07_reach_lp N) (noJn) 0 newelref07_reach_L8 (bodyAt E 56 8) n (newelref07_reach_h8 v0 v1 v2 v3 v4 v5 v6) k) = (fun (v0 : Int) (v1 : Int) (v2 : api_Car) (v3 : Bool) (v4 : Arr Bool) (v5 : Bool) (v6 : Arr newelref07_knot) => newelref07_reach_l8 N n v0 v1 v2 v3 v4 v5 v6 (fun q3 q4 q5 => k (.exit 2) (newelref07_reach_x8_2 v0 v2 v3 q3 q4 q5))) := funext fun v0 => funext fun v1 => funext fun v2 => funext fun v3 => funext fun v4 => funext fun v5 => funext fun v6 => ih v0 v1 v2 v3 v4 v5 v6
    rw [h]
    rfl
theorem newelref07_reach_k8 {R : Type} (N : Nat) : LpKey (R := R) E 56 0 (newelref07_reach_lp N) 8 :=
  lpKey_of hE (newelref07_Right_cal_ok N) (lp := newelref07_reach_lp N) (jn := noJn) newelref07_reach_L8_ok [] kNil (by kernel_rfl) [] jNil (by kernel_rfl) N fun S k =>
    Eq.trans (b := newelref07_reach_L8.head.raw 0 S (fun S0 => newelref07_reach_d8 N S0 k)) (by kernel_rfl) (congrArg (newelref07_reach_L8.head.raw 0 S) (funext fun S0 => Eq.trans (newelref07_reach_l8_eq N k N (toI (lget S0.tmps 7)) (toI (lget S0.tmps 8)) (Cod.dec api_CarC (lget (entCs (entAt S0.tab 0)))) (entNl (entAt S0.tab 1)) (lst boolC (entN (entAt S0.tab 1)) (entC (entAt S0.tab 1))) (entNl (entAt S0.tab 2)) (lst newelref07_knotC (entN (entAt S0.tab 2)) (entC (entAt S0.tab 2)))).symm (by kernel_rfl)))
theorem newelref07_reach_k5 {R : Type} (N : Nat) : LpKey (R := R) E 56 0 (newelref07_reach_lp N) 5 :=
  lpKey_of hE (newelref07_Right_cal_ok N) (lp := newelref07_reach_lp N) (jn := noJn) newelref07_reach_L5_ok [8] (kCons (newelref07_reach_k8 N) kNil) (by kernel_rfl) [] jNil (by kernel_rfl) N fun S k =>
    Eq.trans (b := newelref07_reach_L5.head.raw 0 S (fun S0 => newelref07_reach_d5 N S0 k)) (by kernel_rfl) (congrArg (newelref07_reach_L5.head.raw 0 S) (funext fun S0 => Eq.trans (newelref07_reach_l5_eq N k N (toI (lget S0.tmps 7)) (Cod.dec api_CarC (lget (entCs (entAt S0.tab 0)))) (entNl (entAt S0.tab 1)) (lst boolC (entN (entAt S0.tab 1)) (entC (entAt S0.tab 1))) (entNl (entAt S0.tab 2)) (lst newelref07_knotC (entN (entAt S0.tab 2)) (entC (entAt S0.tab 2)))).symm (by kernel_rfl)))
noncomputable def newelref07_reach_go {R : Type} (N : Nat) (args : List SV) (T : Tab) (kf : SV × Tab → Option R) : Option R :=
  newelref07_reach N (Cod.dec api_CarC (lget (toCs (lget args 0)))) (Cod.dec api_RideC (lget (toCs (lget args 1)))) (fun q0 q1 => kf (lget [.row 0] 0, [(0, rowE newelref07_knotC q0 q1)]))
noncomputable def newelref07_reach_cal {R : Type} (N : Nat) : Cal R := callM (newelref07_Right_cal N) 56 0 newelref07_reach_sp (newelref07_reach_go N)
theorem newelref07_reach_cal_ok {R : Type} (N : Nat) : CalOk E.P (newelref07_reach_cal (R := R) N) :=
  callM_ok hE (newelref07_Right_cal_ok N) (lp := newelref07_reach_lp N) (jn := noJn) (keys := [5, 8]) (kCons (newelref07_reach_k5 N) (kCons (newelref07_reach_k8 N) kNil)) (by kernel_rfl) (js := []) jNil (by kernel_rfl) newelref07_reach_sp_ok newelref07_reach_rs_ok (fun args T kf => Eq.trans (newelref07_reach_def N (Cod.dec api_CarC (lget (toCs (lget args 0)))) (Cod.dec api_RideC (lget (toCs (lget args 1)))) (fun q0 q1 => kf (lget [.row 0] 0, [(0, rowE newelref07_knotC q0 q1)]))) (by kernel_rfl : newelref07_reach_run N args T kf = fnM E (newelref07_Right_cal N) (newelref07_reach_lp N) (noJn) 56 (newelref07_reach_sp.vs args) (newelref07_reach_sp.tab T) 0 (resK newelref07_reach_rs kf)))
def newelref07_bounds_L11 : LoopSp := ⟨⟨[1, 2, 3, 7, 8, 9, 10, 11], ⟨(dr 1 ((rSl newelref07_knotC) :: (rInt .i64) :: (rPtr 0 0) :: (dr 3 ((rRow 1) :: (rBool) :: (rInt .i64) :: (rInt .i64) :: (rInt .i64) :: (dr 83 []))))), [(0, eBlkC api_CarC), (1, eRow intC)]⟩, 2⟩, [(some 4, ⟨[1, 2, 3, 7, 8, 9, 10], ⟨(dr 1 ((rSl newelref07_knotC) :: (rInt .i64) :: (rPtr 0 0) :: (dr 3 ((rRow 1) :: (rBool) :: (rInt .i64) :: (rInt .i64) :: (dr 84 []))))), [(0, eBlkC api_CarC), (1, eRow intC)]⟩, 2⟩)]⟩
theorem newelref07_bounds_L11_ok : newelref07_bounds_L11.Ok := ⟨⟨(drCons 1 (allCons (rSl_ok newelref07_knotC_ok) (allCons (rInt_ok .i64) (allCons (rPtr_ok 0 0) (drCons 3 (allCons (rRow_ok 1) (allCons rBool_ok (allCons (rInt_ok .i64) (allCons (rInt_ok .i64) (allCons (rInt_ok .i64) (drCons 83 allNil))))))))))), (eCons (eBlkC_ok api_CarC_ok api_CarC_len) (eCons (eRow_ok intC_ok) eNil))⟩, (xCons ⟨(drCons 1 (allCons (rSl_ok newelref07_knotC_ok) (allCons (rInt_ok .i64) (allCons (rPtr_ok 0 0) (drCons 3 (allCons (rRow_ok 1) (allCons rBool_ok (allCons (rInt_ok .i64) (allCons (rInt_ok .i64) (drCons 84 allNil)))))))))), (eCons (eBlkC_ok api_CarC_ok api_CarC_len) (eCons (eRow_ok intC_ok) eNil))⟩ xNil)⟩
def newelref07_bounds_h11 (v384 : Arr newelref07_knot) (v385 : Int) (v386 : Bool) (v387 : Int) (v388 : Int) (v389 : Int) (v390 : api_Car) (v391 : Bool) (v392 : Arr Int) : St := ⟨(un 1 ((slC newelref07_knotC v384) :: (.int .i64 v385) :: (.ptr 0 0) :: (un 3 ((.row 1) :: (.bool v386) :: (.int .i64 v387) :: (.int .i64 v388) :: (.int .i64 v389) :: (un 83 []))))), [(0, .blk (Cod.enc api_CarC v390)), (1, rowE intC v391 v392)], 2⟩
def newelref07_bounds_x11_4 (v384 : Arr newelref07_knot) (v385 : Int) (v386 : Bool) (v387 : Int) (v390 : api_Car) (v391 : Bool) (v392 : Arr Int) (q4 : Int) : St := ⟨(un 1 ((slC newelref07_knotC v384) :: (.int .i64 v385) :: (.ptr 0 0) :: (un 3 ((.row 1) :: (.bool v386) :: (.int .i64 v387) :: (.int .i64 q4) :: (un 84 []))))), [(0, .blk (Cod.enc api_CarC v390)), (1, rowE intC v391 v392)], 2⟩
def newelref07_bounds_b11 {R : Type} (N : Nat) (rc : Arr newelref07_knot → Int → Bool → Int → Int → Int → api_Car → Bool → Arr Int → Option R) (v384 : Arr newelref07_knot) (v385 : Int) (v386 : Bool) (v387 : Int) (v388 : Int) (v389 : Int) (v390 : api_Car) (v391 : Bool) (v392 : Arr Int) (k4 : Int → Option R) : Option R :=
  bif decide (IntKind.wrap IntKind.u64 (w64 (api_Car.High v390 + (1 : Int))) < (0 : Int)) then
   Option.none
  else
   bif decide (v389 < w64 ((1 : Int) * (2 : Int) ^ min (Int.toNat (IntKind.wrap IntKind.u64 (w64 (api_Car.High v390 + (1 : Int))))) (IntKind.bits IntKind.i64))) then
    bif decide (IntKind.wrap IntKind.u64 (api_Car.Low v390) < (0 : Int)) then
     Option.none
    else
     bif w64 (↑(BitVec.toNat (BitVec.ofInt (IntKind.bits IntKind.i64) v389 &&& BitVec.ofInt (IntKind.bits IntKind.i64) (w64 (w64 ((1 : Int) * (2 : Int) ^ min (Int.toNat (IntKind.wrap IntKind.u64 (api_Car.Low v390))) (IntKind.bits IntKind.i64)) - (1 : Int))))) : Int) != (0 : Int) then
      rc v384 v385 v386 v387 v388 (w64 (v389 + (1 : Int))) v390 v391 v392
     else
      bif decide ((0 : Int) ≤ v387) && decide (v387 < (↑(Arr.n v384) : Int)) then
       newelref07_Tick N v390 (newelref07_knot.f_ride (Arr.f v384 (Int.toNat v387))) v389 (fun r393 r394 =>
       bif decide (IntKind.wrap IntKind.u64 v385 < (0 : Int)) then
        Option.none
       else
        bif w64 (↑(BitVec.toNat (BitVec.ofInt (IntKind.bits IntKind.i64) (Int.fdiv r394 ((2 : Int) ^ min (Int.toNat (IntKind.wrap IntKind.u64 v385)) (IntKind.bits IntKind.i64))) &&& BitVec.ofInt (IntKind.bits IntKind.i64) (1 : Int))) : Int) == (1 : Int) then
         rc v384 v385 v386 v387 (mxI v388 (1 : Int)) (w64 (v389 + (1 : Int))) v390 v391 v392
        else
         newelref07_code N r393 (fun r395 =>
         bif decide ((0 : Int) ≤ r395) && decide (r395 < (↑(Arr.n v392) : Int)) then
          rc v384 v385 v386 v387 (mxI v388 (w64 ((1 : Int) + Arr.f v392 (Int.toNat r395)))) (w64 (v389 + (1 : Int))) v390 v391 v392
         else
          Option.none))
      else
       Option.none
   else
    k4 v388
def newelref07_bounds_l11 {R : Type} (N : Nat) : Nat → Arr newelref07_knot → Int → Bool → Int → Int → Int → api_Car → Bool → Arr Int → (Int → Option R) → Option R
  | 0, _, _, _, _, _, _, _, _, _, _ => Option.none
  | n + 1, v384, v385, v386, v387, v388, v389, v390, v391, v392, k4 => newelref07_bounds_b11 N (fun v384 v385 v386 v387 v388 v389 v390 v391 v392 => newelref07_bounds_l11 N n v384 v385 v386 v387 v388 v389 v390 v391 v392 k4) v384 v385 v386 v387 v388 v389 v390 v391 v392 k4
def newelref07_bounds_L6 : LoopSp := ⟨⟨[1, 2, 3, 7, 8, 9], ⟨(dr 1 ((rSl newelref07_knotC) :: (rInt .i64) :: (rPtr 0 0) :: (dr 3 ((rRow 1) :: (rBool) :: (rInt .i64) :: (dr 85 []))))), [(0, eBlkC api_CarC), (1, eRow intC)]⟩, 2⟩, [(some 2, ⟨[1, 2, 3, 7, 8], ⟨(dr 1 ((rSl newelref07_knotC) :: (rInt .i64) :: (rPtr 0 0) :: (dr 3 ((rRow 1) :: (rBool) :: (dr 86 []))))), [(0, eBlkC api_CarC), (1, eRow intC)]⟩, 2⟩)]⟩
theorem newelref07_bounds_L6_ok : newelref07_bounds_L6.Ok := ⟨⟨(drCons 1 (allCons (rSl_ok newelref07_knotC_ok) (allCons (rInt_ok .i64) (allCons (rPtr_ok 0 0) (drCons 3 (allCons (rRow_ok 1) (allCons rBool_ok (allCons (rInt_ok .i64) (drCons 85 allNil))))))))), (eCons (eBlkC_ok api_CarC_ok api_CarC_len) (eCons (eRow_ok intC_ok) eNil))⟩, (xCons ⟨(drCons 1 (allCons (rSl_ok newelref07_knotC_ok) (allCons (rInt_ok .i64) (allCons (rPtr_ok 0 0) (drCons 3 (allCons (rRow_ok 1) (allCons rBool_ok (drCons 86 allNil)))))))), (eCons (eBlkC_ok api_CarC_ok api_CarC_len) (eCons (eRow_ok intC_ok) eNil))⟩ xNil)⟩
def newelref07_bounds_h6 (v376 : Arr newelref07_knot) (v377 : Int) (v378 : Bool) (v379 : Int) (v380 : api_Car) (v381 : Bool) (v382 : Arr Int) : St := ⟨(un 1 ((slC newelref07_knotC v376) :: (.int .i64 v377) :: (.ptr 0 0) :: (un 3 ((.row 1) :: (.bool v378) :: (.int .i64 v379) :: (un 85 []))))), [(0, .blk (Cod.enc api_CarC v380)), (1, rowE intC v381 v382)], 2⟩
def newelref07_bounds_x6_2 (v376 : Arr newelref07_knot) (v377 : Int) (v380 : api_Car) (v381 : Bool) (q2 : Bool) (q5 : Arr Int) : St := ⟨(un 1 ((slC newelref07_knotC v376) :: (.int .i64 v377) :: (.ptr 0 0) :: (un 3 ((.row 1) :: (.bool q2) :: (un 86 []))))), [(0, .blk (Cod.enc api_CarC v380)), (1, rowE intC v381 q5)], 2⟩
def newelref07_bounds_b6 {R : Type} (N : Nat) (rc : Arr newelref07_knot → Int → Bool → Int → api_Car → Bool → Arr Int → Option R) (v376 : Arr newelref07_knot) (v377 : Int) (v378 : Bool) (v379 : Int) (v380 : api_Car) (v381 : Bool) (v382 : Arr Int) (k2 : Bool → Arr Int → Option R) : Option R :=
  bif decide (v379 < (↑(Arr.n v376) : Int)) then
   bif decide ((0 : Int) ≤ v379) && decide (v379 < (↑(Arr.n v376) : Int)) then
    newelref07_wanted N (newelref07_knot.f_ride (Arr.f v376 (Int.toNat v379))) v377 (fun r383 =>
    bif !r383 then
     rc v376 v377 v378 (w64 (v379 + (1 : Int))) v380 v381 v382
    else
     newelref07_bounds_l11 N N v376 v377 v378 v379 (0 : Int) (0 : Int) v380 v381 v382 (fun r396 =>
      bif decide ((0 : Int) ≤ v379) && decide (v379 < (↑(Arr.n v376) : Int)) then
       newelref07_code N (newelref07_knot.f_ride (Arr.f v376 (Int.toNat v379))) (fun r397 =>
       bif decide ((0 : Int) ≤ r397) && decide (r397 < (↑(Arr.n v382) : Int)) then
        bif decide (r396 > Arr.f v382 (Int.toNat r397)) then
         bif decide ((0 : Int) ≤ v379) && decide (v379 < (↑(Arr.n v376) : Int)) then
          newelref07_code N (newelref07_knot.f_ride (Arr.f v376 (Int.toNat v379))) (fun r398 =>
          bif decide ((0 : Int) ≤ r398) && decide (r398 < (↑(Arr.n v382) : Int)) then
           rc v376 v377 true (w64 (v379 + (1 : Int))) v380 v381 (lst intC (Arr.n v382) (setCs (Int.toNat r398) (0 : Nat) (Cod.cell intC (Arr.f v382)) [SV.int IntKind.i64 r396]))
          else
           Option.none)
         else
          Option.none
        else
         rc v376 v377 v378 (w64 (v379 + (1 : Int))) v380 v381 v382
       else
        Option.none)
      else
       Option.none))
   else
    Option.none
  else
   k2 v378 v382
def newelref07_bounds_l6 {R : Type} (N : Nat) : Nat → Arr newelref07_knot → Int → Bool → Int → api_Car → Bool → Arr Int → (Bool → Arr Int → Option R) → Option R
  | 0, _, _, _, _, _, _, _, _ => Option.none
  | n + 1, v376, v377, v378, v379, v380, v381, v382, k2 => newelref07_bounds_b6 N (fun v376 v377 v378 v379 v380 v381 v382 => newelref07_bounds_l6 N n v376 v377 v378 v379 v380 v381 v382 k2) v376 v377 v378 v379 v380 v381 v382 k2
def newelref07_bounds_L3 : LoopSp := ⟨⟨[1, 2, 3, 7, 8], ⟨(dr 1 ((rSl newelref07_knotC) :: (rInt .i64) :: (rPtr 0 0) :: (dr 3 ((rRow 1) :: (rBool) :: (dr 86 []))))), [(0, eBlkC api_CarC), (1, eRow intC)]⟩, 2⟩, [(some 0, ⟨[7], ⟨(dr 7 ((rRow 0) :: (dr 87 []))), [(0, eRow intC)]⟩, 1⟩)]⟩
theorem newelref07_bounds_L3_ok : newelref07_bounds_L3.Ok := ⟨⟨(drCons 1 (allCons (rSl_ok newelref07_knotC_ok) (allCons (rInt_ok .i64) (allCons (rPtr_ok 0 0) (drCons 3 (allCons (rRow_ok 1) (allCons rBool_ok (drCons 86 allNil)))))))), (eCons (eBlkC_ok api_CarC_ok api_CarC_len) (eCons (eRow_ok intC_ok) eNil))⟩, (xCons ⟨(drCons 7 (allCons (rRow_ok 0) (drCons 87 allNil))), (eCons (eRow_ok intC_ok) eNil)⟩ xNil)⟩
def newelref07_bounds_h3 (v370 : Arr newelref07_knot) (v371 : Int) (v372 : Bool) (v373 : api_Car) (v374 : Bool) (v375 : Arr Int) : St := ⟨(un 1 ((slC newelref07_knotC v370) :: (.int .i64 v371) :: (.ptr 0 0) :: (un 3 ((.row 1) :: (.bool v372) :: (un 86 []))))), [(0, .blk (Cod.enc api_CarC v373)), (1, rowE intC v374 v375)], 2⟩
def newelref07_bounds_x3_0 (v374 : Bool) (q1 : Arr Int) : St := ⟨(un 7 ((.row 0) :: (un 87 []))), [(0, rowE intC v374 q1)], 1⟩
def newelref07_bounds_b3 {R : Type} (N : Nat) (rc : Arr newelref07_knot → Int → Bool → api_Car → Bool → Arr Int → Option R) (v370 : Arr newelref07_knot) (v371 : Int) (v372 : Bool) (v373 : api_Car) (v374 : Bool) (v375 : Arr Int) (k0 : Arr Int → Option R) : Option R :=
  bif v372 then
   newelref07_bounds_l6 N N v370 v371 false (0 : Int) v373 v374 v375 (fun r399 r400 =>
    rc v370 v371 r399 v373 v374 r400)
  else
   k0 v375
def newelref07_bounds_l3 {R : Type} (N : Nat) : Nat → Arr newelref07_knot → Int → Bool → api_Car → Bool → Arr Int → (Arr Int → Option R) → Option R
  | 0, _, _, _, _, _, _, _ => Option.none
  | n + 1, v370, v371, v372, v373, v374, v375, k0 => newelref07_bounds_b3 N (fun v370 v371 v372 v373 v374 v375 => newelref07_bounds_l3 N n v370 v371 v372 v373 v374 v375 k0) v370 v371 v372 v373 v374 v375 k0
def newelref07_bounds_m {R : Type} (N : Nat) (a367 : api_Car) (a368 : Arr newelref07_knot) (a369 : Int) (k : Bool → Arr Int → Option R) : Option R :=
  newelref07_bounds_l3 N N a368 a369 true a367 false (lst intC (65536 : Nat) (zeroC [SV.int IntKind.i64 (0 : Int)])) (fun r401 =>
   k false r401)
noncomputable def newelref07_bounds {R : Type} : Nat → api_Car → Arr newelref07_knot → Int → (Bool → Arr Int → Option R) → Option R := lock (@newelref07_bounds_m R)
theorem newelref07_bounds_def {R : Type} (N : Nat) (a367 : api_Car) (a368 : Arr newelref07_knot) (a369 : Int) (k : Bool → Arr Int → Option R) : newelref07_bounds N a367 a368 a369 k = newelref07_bounds_m N a367 a368 a369 k := by unfold newelref07_bounds; rw [lock_eq]
def newelref07_bounds_sp : Sp := ⟨[rAgg api_CarC, rSl newelref07_knotC, rInt .i64], []⟩
theorem newelref07_bounds_sp_ok : newelref07_bounds_sp.Ok := ⟨(allCons (rAgg_ok api_CarC_ok api_CarC_len) (allCons (rSl_ok newelref07_knotC_ok) (allCons (rInt_ok .i64) allNil))), eNil⟩
def newelref07_bounds_rs : Sp := ⟨[rRow 0], [(0, eRow intC)]⟩
theorem newelref07_bounds_rs_ok : newelref07_bounds_rs.Ok := ⟨(allCons (rRow_ok 0) allNil), (eCons (eRow_ok intC_ok) eNil)⟩
def newelref07_bounds_run {R : Type} (N : Nat) (args : List SV) (T : Tab) (kf : SV × Tab → Option R) : Option R :=
  newelref07_bounds_m N (Cod.dec api_CarC (lget (toCs (lget args 0)))) (lstC newelref07_knotC (lget args 1)) (toI (lget args 2)) (fun q0 q1 => kf (lget [.row 0] 0, [(0, rowE intC q0 q1)]))
def newelref07_bounds_d11 {R : Type} (N : Nat) (S0 : St) (k : Exit → St → Option R) : Option R :=
  newelref07_bounds_l11 N N (lstC newelref07_knotC (lget S0.tmps 1)) (toI (lget S0.tmps 2)) (toB (lget S0.tmps 8)) (toI (lget S0.tmps 9)) (toI (lget S0.tmps 10)) (toI (lget S0.tmps 11)) (Cod.dec api_CarC (lget (entCs (entAt S0.tab 0)))) (entNl (entAt S0.tab 1)) (lst intC (entN (entAt S0.tab 1)) (entC (entAt S0.tab 1))) (fun q4 => k (.exit 4) (newelref07_bounds_x11_4 (lstC newelref07_knotC (lget S0.tmps 1)) (toI (lget S0.tmps 2)) (toB (lget S0.tmps 8)) (toI (lget S0.tmps 9)) (Cod.dec api_CarC (lget (entCs (entAt S0.tab 0)))) (entNl (entAt S0.tab 1)) (lst intC (entN (entAt S0.tab 1)) (entC (entAt S0.tab 1))) q4))
def newelref07_bounds_d6 {R : Type} (N : Nat) (S0 : St) (k : Exit → St → Option R) : Option R :=
  newelref07_bounds_l6 N N (lstC newelref07_knotC (lget S0.tmps 1)) (toI (lget S0.tmps 2)) (toB (lget S0.tmps 8)) (toI (lget S0.tmps 9)) (Cod.dec api_CarC (lget (entCs (entAt S0.tab 0)))) (entNl (entAt S0.tab 1)) (lst intC (entN (entAt S0.tab 1)) (entC (entAt S0.tab 1))) (fun q2 q5 => k (.exit 2) (newelref07_bounds_x6_2 (lstC newelref07_knotC (lget S0.tmps 1)) (toI (lget S0.tmps 2)) (Cod.dec api_CarC (lget (entCs (entAt S0.tab 0)))) (entNl (entAt S0.tab 1)) q2 q5))
def newelref07_bounds_d3 {R : Type} (N : Nat) (S0 : St) (k : Exit → St → Option R) : Option R :=
  newelref07_bounds_l3 N N (lstC newelref07_knotC (lget S0.tmps 1)) (toI (lget S0.tmps 2)) (toB (lget S0.tmps 8)) (Cod.dec api_CarC (lget (entCs (entAt S0.tab 0)))) (entNl (entAt S0.tab 1)) (lst intC (entN (entAt S0.tab 1)) (entC (entAt S0.tab 1))) (fun q1 => k (.exit 0) (newelref07_bounds_x3_0 (entNl (entAt S0.tab 1)) q1))
def newelref07_bounds_lp {R : Type} (N : Nat) : Lp R := fun body S k => bif (Go.Sx.keyOf body).getD 0 == 3 then (newelref07_bounds_L3.head.raw 0 S (fun S0 => newelref07_bounds_d3 N S0 k)) else bif (Go.Sx.keyOf body).getD 0 == 6 then (newelref07_bounds_L6.head.raw 0 S (fun S0 => newelref07_bounds_d6 N S0 k)) else bif (Go.Sx.keyOf body).getD 0 == 11 then (newelref07_bounds_L11.head.raw 0 S (fun S0 => newelref07_bounds_d11 N S0 k)) else Option.none
theorem newelref07_bounds_l3_eq {R : Type} (N : Nat) (k : Exit → St → Option R) (n : Nat) : ∀ (v0 : Arr newelref07_knot) (v1 : Int) (v2 : Bool) (v3 : api_Car) (v4 : Bool) (v5 : Arr Int), loopM E.Θ (newelref07_reach_cal N) (newelref07_bounds_lp N) (noJn) 0 newelref07_bounds_L3 (bodyAt E 58 3) n (newelref07_bounds_h3 v0 v1 v2 v3 v4 v5) k = newelref07_bounds_l3 N n v0 v1 v2 v3 v4 v5 (fun q1 => k (.exit 0) (newelref07_bounds_x3_0 v4 q1)) := by
  induction n with
  | zero => intro v0 v1 v2 v3 v4 v5; rfl
  | succ n ih =>
    intro v0 v1 v2 v3 v4 v5
    refine Eq.trans (b := newelref07_bounds_b3 N (fun v0 v1 v2 v3 v4 v5 => loopM E.Θ (newelref07_reach_cal N) (newelref07_bounds_lp N) (noJn) 0 newelref07_bounds_L3 (bodyAt E 58 3) n (newelref07_bounds_h3 v0 v1 v2 v3 v4 v5) k) v0 v1 v2 v3 v4 v5 (fun q1 => k (.exit 0) (newelref07_bounds_x3_0 v4 q1))) (by kernel_rfl) ?_
    have h : (fun (v0 : Arr newelref07_knot) (v1 : Int) (v2 : Bool) (v3 : api_Car) (v4 : Bool) (v5 : Arr Int) => loopM E.Θ (newelref07_reach_cal N) (newelref07_bounds_lp N) (noJn) 0 newelref07_bounds_L3 (bodyAt E 58 3) n (newelref07_bounds_h3 v0 v1 v2 v3 v4 v5) k) = (fun (v0 : Arr newelref07_knot) (v1 : Int) (v2 : Bool) (v3 : api_Car) (v4 : Bool) (v5 : Arr Int) => newelref07_bounds_l3 N n v0 v1 v2 v3 v4 v5 (fun q1 => k (.exit 0) (newelref07_bounds_x3_0 v4 q1))) := funext fun v0 => funext fun v1 => funext fun v2 => funext fun v3 => funext fun v4 => funext fun v5 => ih v0 v1 v2 v3 v4 v5
    rw [h]
    rfl
theorem newelref07_bounds_l6_eq {R : Type} (N : Nat) (k : Exit → St → Option R) (n : Nat) : ∀ (v0 : Arr newelref07_knot) (v1 : Int) (v2 : Bool) (v3 : Int) (v4 : api_Car) (v5 : Bool) (v6 : Arr Int), loopM E.Θ (newelref07_reach_cal N) (newelref07_bounds_lp N) (noJn) 0 newelref07_bounds_L6 (bodyAt E 58 6) n (newelref07_bounds_h6 v0 v1 v2 v3 v4 v5 v6) k = newelref07_bounds_l6 N n v0 v1 v2 v3 v4 v5 v6 (fun q2 q5 => k (.exit 2) (newelref07_bounds_x6_2 v0 v1 v4 v5 q2 q5)) := by
  induction n with
  | zero => intro v0 v1 v2 v3 v4 v5 v6; rfl
  | succ n ih =>
    intro v0 v1 v2 v3 v4 v5 v6
    refine Eq.trans (b := newelref07_bounds_b6 N (fun v0 v1 v2 v3 v4 v5 v6 => loopM E.Θ (newelref07_reach_cal N) (newelref07_bounds_lp N) (noJn) 0 newelref07_bounds_L6 (bodyAt E 58 6) n (newelref07_bounds_h6 v0 v1 v2 v3 v4 v5 v6) k) v0 v1 v2 v3 v4 v5 v6 (fun q2 q5 => k (.exit 2) (newelref07_bounds_x6_2 v0 v1 v4 v5 q2 q5))) (by kernel_rfl) ?_
    have h : (fun (v0 : Arr newelref07_knot) (v1 : Int) (v2 : Bool) (v3 : Int) (v4 : api_Car) (v5 : Bool) (v6 : Arr Int) => loopM E.Θ (newelref07_reach_cal N) (newelref07_bounds_lp N) (noJn) 0 newelref07_bounds_L6 (bodyAt E 58 6) n (newelref07_bounds_h6 v0 v1 v2 v3 v4 v5 v6) k) = (fun (v0 : Arr newelref07_knot) (v1 : Int) (v2 : Bool) (v3 : Int) (v4 : api_Car) (v5 : Bool) (v6 : Arr Int) => newelref07_bounds_l6 N n v0 v1 v2 v3 v4 v5 v6 (fun q2 q5 => k (.exit 2) (newelref07_bounds_x6_2 v0 v1 v4 v5 q2 q5))) := funext fun v0 => funext fun v1 => funext fun v2 => funext fun v3 => funext fun v4 => funext fun v5 => funext fun v6 => ih v0 v1 v2 v3 v4 v5 v6
    rw [h]
    rfl
theorem newelref07_bounds_l11_eq {R : Type} (N : Nat) (k : Exit → St → Option R) (n : Nat) : ∀ (v0 : Arr newelref07_knot) (v1 : Int) (v2 : Bool) (v3 : Int) (v4 : Int) (v5 : Int) (v6 : api_Car) (v7 : Bool) (v8 : Arr Int), loopM E.Θ (newelref07_reach_cal N) (newelref07_bounds_lp N) (noJn) 0 newelref07_bounds_L11 (bodyAt E 58 11) n (newelref07_bounds_h11 v0 v1 v2 v3 v4 v5 v6 v7 v8) k = newelref07_bounds_l11 N n v0 v1 v2 v3 v4 v5 v6 v7 v8 (fun q4 => k (.exit 4) (newelref07_bounds_x11_4 v0 v1 v2 v3 v6 v7 v8 q4)) := by
  induction n with
  | zero => intro v0 v1 v2 v3 v4 v5 v6 v7 v8; rfl
  | succ n ih =>
    intro v0 v1 v2 v3 v4 v5 v6 v7 v8
    refine Eq.trans (b := newelref07_bounds_b11 N (fun v0 v1 v2 v3 v4 v5 v6 v7 v8 => loopM E.Θ (newelref07_reach_cal N) (newelref07_bounds_lp N) (noJn) 0 newelref07_bounds_L11 (bodyAt E 58 11) n (newelref07_bounds_h11 v0 v1 v2 v3 v4 v5 v6 v7 v8) k) v0 v1 v2 v3 v4 v5 v6 v7 v8 (fun q4 => k (.exit 4) (newelref07_bounds_x11_4 v0 v1 v2 v3 v6 v7 v8 q4))) (by kernel_rfl) ?_
    have h : (fun (v0 : Arr newelref07_knot) (v1 : Int) (v2 : Bool) (v3 : Int) (v4 : Int) (v5 : Int) (v6 : api_Car) (v7 : Bool) (v8 : Arr Int) => loopM E.Θ (newelref07_reach_cal N) (newelref07_bounds_lp N) (noJn) 0 newelref07_bounds_L11 (bodyAt E 58 11) n (newelref07_bounds_h11 v0 v1 v2 v3 v4 v5 v6 v7 v8) k) = (fun (v0 : Arr newelref07_knot) (v1 : Int) (v2 : Bool) (v3 : Int) (v4 : Int) (v5 : Int) (v6 : api_Car) (v7 : Bool) (v8 : Arr Int) => newelref07_bounds_l11 N n v0 v1 v2 v3 v4 v5 v6 v7 v8 (fun q4 => k (.exit 4) (newelref07_bounds_x11_4 v0 v1 v2 v3 v6 v7 v8 q4))) := funext fun v0 => funext fun v1 => funext fun v2 => funext fun v3 => funext fun v4 => funext fun v5 => funext fun v6 => funext fun v7 => funext fun v8 => ih v0 v1 v2 v3 v4 v5 v6 v7 v8
    rw [h]
    rfl
theorem newelref07_bounds_k11 {R : Type} (N : Nat) : LpKey (R := R) E 58 0 (newelref07_bounds_lp N) 11 :=
  lpKey_of hE (newelref07_reach_cal_ok N) (lp := newelref07_bounds_lp N) (jn := noJn) newelref07_bounds_L11_ok [] kNil (by kernel_rfl) [] jNil (by kernel_rfl) N fun S k =>
    Eq.trans (b := newelref07_bounds_L11.head.raw 0 S (fun S0 => newelref07_bounds_d11 N S0 k)) (by kernel_rfl) (congrArg (newelref07_bounds_L11.head.raw 0 S) (funext fun S0 => Eq.trans (newelref07_bounds_l11_eq N k N (lstC newelref07_knotC (lget S0.tmps 1)) (toI (lget S0.tmps 2)) (toB (lget S0.tmps 8)) (toI (lget S0.tmps 9)) (toI (lget S0.tmps 10)) (toI (lget S0.tmps 11)) (Cod.dec api_CarC (lget (entCs (entAt S0.tab 0)))) (entNl (entAt S0.tab 1)) (lst intC (entN (entAt S0.tab 1)) (entC (entAt S0.tab 1)))).symm (by kernel_rfl)))
theorem newelref07_bounds_k6 {R : Type} (N : Nat) : LpKey (R := R) E 58 0 (newelref07_bounds_lp N) 6 :=
  lpKey_of hE (newelref07_reach_cal_ok N) (lp := newelref07_bounds_lp N) (jn := noJn) newelref07_bounds_L6_ok [11] (kCons (newelref07_bounds_k11 N) kNil) (by kernel_rfl) [] jNil (by kernel_rfl) N fun S k =>
    Eq.trans (b := newelref07_bounds_L6.head.raw 0 S (fun S0 => newelref07_bounds_d6 N S0 k)) (by kernel_rfl) (congrArg (newelref07_bounds_L6.head.raw 0 S) (funext fun S0 => Eq.trans (newelref07_bounds_l6_eq N k N (lstC newelref07_knotC (lget S0.tmps 1)) (toI (lget S0.tmps 2)) (toB (lget S0.tmps 8)) (toI (lget S0.tmps 9)) (Cod.dec api_CarC (lget (entCs (entAt S0.tab 0)))) (entNl (entAt S0.tab 1)) (lst intC (entN (entAt S0.tab 1)) (entC (entAt S0.tab 1)))).symm (by kernel_rfl)))
theorem newelref07_bounds_k3 {R : Type} (N : Nat) : LpKey (R := R) E 58 0 (newelref07_bounds_lp N) 3 :=
  lpKey_of hE (newelref07_reach_cal_ok N) (lp := newelref07_bounds_lp N) (jn := noJn) newelref07_bounds_L3_ok [6, 11] (kCons (newelref07_bounds_k6 N) (kCons (newelref07_bounds_k11 N) kNil)) (by kernel_rfl) [] jNil (by kernel_rfl) N fun S k =>
    Eq.trans (b := newelref07_bounds_L3.head.raw 0 S (fun S0 => newelref07_bounds_d3 N S0 k)) (by kernel_rfl) (congrArg (newelref07_bounds_L3.head.raw 0 S) (funext fun S0 => Eq.trans (newelref07_bounds_l3_eq N k N (lstC newelref07_knotC (lget S0.tmps 1)) (toI (lget S0.tmps 2)) (toB (lget S0.tmps 8)) (Cod.dec api_CarC (lget (entCs (entAt S0.tab 0)))) (entNl (entAt S0.tab 1)) (lst intC (entN (entAt S0.tab 1)) (entC (entAt S0.tab 1)))).symm (by kernel_rfl)))
noncomputable def newelref07_bounds_go {R : Type} (N : Nat) (args : List SV) (T : Tab) (kf : SV × Tab → Option R) : Option R :=
  newelref07_bounds N (Cod.dec api_CarC (lget (toCs (lget args 0)))) (lstC newelref07_knotC (lget args 1)) (toI (lget args 2)) (fun q0 q1 => kf (lget [.row 0] 0, [(0, rowE intC q0 q1)]))
noncomputable def newelref07_bounds_cal {R : Type} (N : Nat) : Cal R := callM (newelref07_reach_cal N) 58 0 newelref07_bounds_sp (newelref07_bounds_go N)
theorem newelref07_bounds_cal_ok {R : Type} (N : Nat) : CalOk E.P (newelref07_bounds_cal (R := R) N) :=
  callM_ok hE (newelref07_reach_cal_ok N) (lp := newelref07_bounds_lp N) (jn := noJn) (keys := [3, 6, 11]) (kCons (newelref07_bounds_k3 N) (kCons (newelref07_bounds_k6 N) (kCons (newelref07_bounds_k11 N) kNil))) (by kernel_rfl) (js := []) jNil (by kernel_rfl) newelref07_bounds_sp_ok newelref07_bounds_rs_ok (fun args T kf => Eq.trans (newelref07_bounds_def N (Cod.dec api_CarC (lget (toCs (lget args 0)))) (lstC newelref07_knotC (lget args 1)) (toI (lget args 2)) (fun q0 q1 => kf (lget [.row 0] 0, [(0, rowE intC q0 q1)]))) (by kernel_rfl : newelref07_bounds_run N args T kf = fnM E (newelref07_reach_cal N) (newelref07_bounds_lp N) (noJn) 58 (newelref07_bounds_sp.vs args) (newelref07_bounds_sp.tab T) 0 (resK newelref07_bounds_rs kf)))
def newelref07_Bound_m {R : Type} (N : Nat) (a333 : api_Car) (a334 : api_Ride) (a335 : Int) (k : Int → Int → Option R) : Option R :=
  newelref07_CheckCar N a333 (fun r336 =>
  bif r336 != (0 : Int) then
   k (0 : Int) (70 : Int)
  else
   newelref07_from N a335 (api_Car.Low a333) (api_Car.High a333) (fun r337 =>
   bif !r337 then
    k (0 : Int) (1 : Int)
   else
    newelref07_Right N a333 a334 (fun r338 =>
    bif !r338 then
     k (0 : Int) (1 : Int)
    else
     newelref07_wanted N a334 a335 (fun r339 =>
     bif !r339 then
      k (0 : Int) (1 : Int)
     else
      newelref07_reach N a333 a334 (fun r365 r366 =>
      newelref07_bounds N a333 r366 a335 (fun r402 r403 =>
      newelref07_code N a334 (fun r404 =>
      bif decide ((0 : Int) ≤ r404) && decide (r404 < (↑(Arr.n r403) : Int)) then
       k (Arr.f r403 (Int.toNat r404)) (0 : Int)
      else
       Option.none)))))))
noncomputable def newelref07_Bound {R : Type} : Nat → api_Car → api_Ride → Int → (Int → Int → Option R) → Option R := lock (@newelref07_Bound_m R)
theorem newelref07_Bound_def {R : Type} (N : Nat) (a333 : api_Car) (a334 : api_Ride) (a335 : Int) (k : Int → Int → Option R) : newelref07_Bound N a333 a334 a335 k = newelref07_Bound_m N a333 a334 a335 k := by unfold newelref07_Bound; rw [lock_eq]
def newelref07_Bound_sp : Sp := ⟨[rAgg api_CarC, rAgg api_RideC, rInt .i64], []⟩
theorem newelref07_Bound_sp_ok : newelref07_Bound_sp.Ok := ⟨(allCons (rAgg_ok api_CarC_ok api_CarC_len) (allCons (rAgg_ok api_RideC_ok api_RideC_len) (allCons (rInt_ok .i64) allNil))), eNil⟩
def newelref07_Bound_rs : Sp := ⟨[rTup [rInt .i64, rInt .i64]], []⟩
theorem newelref07_Bound_rs_ok : newelref07_Bound_rs.Ok := ⟨(allCons (rTup_ok (allCons (rInt_ok .i64) (allCons (rInt_ok .i64) allNil))) allNil), eNil⟩
def newelref07_Bound_run {R : Type} (N : Nat) (args : List SV) (T : Tab) (kf : SV × Tab → Option R) : Option R :=
  newelref07_Bound_m N (Cod.dec api_CarC (lget (toCs (lget args 0)))) (Cod.dec api_RideC (lget (toCs (lget args 1)))) (toI (lget args 2)) (fun q0 q1 => kf (lget [.tup [.int .i64 q0, .int .i64 q1]] 0, []))
def newelref07_Bound_lp {R : Type} (N : Nat) : Lp R := fun body S k => Option.none
noncomputable def newelref07_Bound_go {R : Type} (N : Nat) (args : List SV) (T : Tab) (kf : SV × Tab → Option R) : Option R :=
  newelref07_Bound N (Cod.dec api_CarC (lget (toCs (lget args 0)))) (Cod.dec api_RideC (lget (toCs (lget args 1)))) (toI (lget args 2)) (fun q0 q1 => kf (lget [.tup [.int .i64 q0, .int .i64 q1]] 0, []))
noncomputable def newelref07_Bound_cal {R : Type} (N : Nat) : Cal R := callM (newelref07_bounds_cal N) 29 0 newelref07_Bound_sp (newelref07_Bound_go N)
theorem newelref07_Bound_cal_ok {R : Type} (N : Nat) : CalOk E.P (newelref07_Bound_cal (R := R) N) :=
  callM_ok hE (newelref07_bounds_cal_ok N) (lp := newelref07_Bound_lp N) (jn := noJn) (keys := []) kNil (by kernel_rfl) (js := []) jNil (by kernel_rfl) newelref07_Bound_sp_ok newelref07_Bound_rs_ok (fun args T kf => Eq.trans (newelref07_Bound_def N (Cod.dec api_CarC (lget (toCs (lget args 0)))) (Cod.dec api_RideC (lget (toCs (lget args 1)))) (toI (lget args 2)) (fun q0 q1 => kf (lget [.tup [.int .i64 q0, .int .i64 q1]] 0, []))) (by kernel_rfl : newelref07_Bound_run N args T kf = fnM E (newelref07_bounds_cal N) (newelref07_Bound_lp N) (noJn) 29 (newelref07_Bound_sp.vs args) (newelref07_Bound_sp.tab T) 0 (resK newelref07_Bound_rs kf)))
def calls_right_m {R : Type} (N : Nat) (a409 : api_Car) (a410 : api_Ride) (k : Bool → Option R) : Option R :=
  bif decide (w64 (api_Car.High a409 + (1 : Int)) < (0 : Int)) then
   Option.none
  else
   bif decide (api_Car.Low a409 < (0 : Int)) then
    Option.none
   else
    calls_within N (api_Ride.Floor a410) (api_Car.Low a409) (api_Car.High a409) (fun r411 =>
    bif !r411 then
     k false
    else
     bif w64 (↑(BitVec.toNat (BitVec.ofInt (IntKind.bits IntKind.i64) (api_Ride.Wants a410) &&& ~~~BitVec.ofInt (IntKind.bits IntKind.i64) (w64 (w64 ((1 : Int) * (2 : Int) ^ min (Int.toNat (w64 (api_Car.High a409 + (1 : Int)))) (IntKind.bits IntKind.i64)) - w64 ((1 : Int) * (2 : Int) ^ min (Int.toNat (api_Car.Low a409)) (IntKind.bits IntKind.i64)))))) : Int) != (0 : Int) then
      k false
     else
      bif api_Ride.Doing a410 == (0 : Int) then
       bif api_Ride.Left a410 == (0 : Int) then
        k (api_Ride.Wants a410 == (0 : Int))
       else
        k false
      else
       bif api_Ride.Doing a410 == (1 : Int) then
        calls_within N (api_Ride.Left a410) (1 : Int) (api_Car.Move a409) (fun r412 =>
        bif r412 then
         calls_cage_ahead N (calls_cage.mk a409 a410) (fun r413 =>
         k (w64 (↑(BitVec.toNat (BitVec.ofInt (IntKind.bits IntKind.i64) (api_Ride.Wants a410) &&& BitVec.ofInt (IntKind.bits IntKind.i64) r413)) : Int) != (0 : Int)))
        else
         k false)
       else
        bif api_Ride.Doing a410 == (2 : Int) then
         calls_within N (api_Ride.Left a410) (1 : Int) (api_Car.Stop a409) (fun r414 =>
         bif r414 then
          bif api_Ride.Stood a410 then
           bif decide (api_Ride.Floor a410 < (0 : Int)) then
            Option.none
           else
            k (w64 (↑(BitVec.toNat (BitVec.ofInt (IntKind.bits IntKind.i64) (Int.fdiv (api_Ride.Wants a410) ((2 : Int) ^ min (Int.toNat (api_Ride.Floor a410)) (IntKind.bits IntKind.i64))) &&& BitVec.ofInt (IntKind.bits IntKind.i64) (1 : Int))) : Int) == (0 : Int))
          else
           k false
         else
          k false)
        else
         k false)
noncomputable def calls_right {R : Type} : Nat → api_Car → api_Ride → (Bool → Option R) → Option R := lock (@calls_right_m R)
theorem calls_right_def {R : Type} (N : Nat) (a409 : api_Car) (a410 : api_Ride) (k : Bool → Option R) : calls_right N a409 a410 k = calls_right_m N a409 a410 k := by unfold calls_right; rw [lock_eq]
def calls_right_sp : Sp := ⟨[rAgg api_CarC, rAgg api_RideC], []⟩
theorem calls_right_sp_ok : calls_right_sp.Ok := ⟨(allCons (rAgg_ok api_CarC_ok api_CarC_len) (allCons (rAgg_ok api_RideC_ok api_RideC_len) allNil)), eNil⟩
def calls_right_rs : Sp := ⟨[rBool], []⟩
theorem calls_right_rs_ok : calls_right_rs.Ok := ⟨(allCons rBool_ok allNil), eNil⟩
def calls_right_run {R : Type} (N : Nat) (args : List SV) (T : Tab) (kf : SV × Tab → Option R) : Option R :=
  calls_right_m N (Cod.dec api_CarC (lget (toCs (lget args 0)))) (Cod.dec api_RideC (lget (toCs (lget args 1)))) (fun q0 => kf (lget [.bool q0] 0, []))
def calls_right_lp {R : Type} (N : Nat) : Lp R := fun body S k => Option.none
noncomputable def calls_right_go {R : Type} (N : Nat) (args : List SV) (T : Tab) (kf : SV × Tab → Option R) : Option R :=
  calls_right N (Cod.dec api_CarC (lget (toCs (lget args 0)))) (Cod.dec api_RideC (lget (toCs (lget args 1)))) (fun q0 => kf (lget [.bool q0] 0, []))
noncomputable def calls_right_cal {R : Type} (N : Nat) : Cal R := callM (newelref07_Bound_cal N) 59 0 calls_right_sp (calls_right_go N)
theorem calls_right_cal_ok {R : Type} (N : Nat) : CalOk E.P (calls_right_cal (R := R) N) :=
  callM_ok hE (newelref07_Bound_cal_ok N) (lp := calls_right_lp N) (jn := noJn) (keys := []) kNil (by kernel_rfl) (js := []) jNil (by kernel_rfl) calls_right_sp_ok calls_right_rs_ok (fun args T kf => Eq.trans (calls_right_def N (Cod.dec api_CarC (lget (toCs (lget args 0)))) (Cod.dec api_RideC (lget (toCs (lget args 1)))) (fun q0 => kf (lget [.bool q0] 0, []))) (by kernel_rfl : calls_right_run N args T kf = fnM E (newelref07_Bound_cal N) (calls_right_lp N) (noJn) 59 (calls_right_sp.vs args) (calls_right_sp.tab T) 0 (resK calls_right_rs kf)))
def calls_Bound_L8 : LoopSp := ⟨⟨[2, 3, 4, 9, 10], ⟨(dr 2 ((rInt .i64) :: (rPtr 0 0) :: (rPtr 1 0) :: (dr 4 ((rRow 2) :: (rInt .i64) :: (dr 46 []))))), [(0, eBlkC api_CarC), (1, eBlkC api_RideC), (2, eRow intC)]⟩, 3⟩, [(some 0, ⟨[2, 3, 4, 9], ⟨(dr 2 ((rInt .i64) :: (rPtr 0 0) :: (rPtr 1 0) :: (dr 4 ((rRow 2) :: (dr 47 []))))), [(0, eBlkC api_CarC), (1, eBlkC api_RideC), (2, eRow intC)]⟩, 3⟩)]⟩
theorem calls_Bound_L8_ok : calls_Bound_L8.Ok := ⟨⟨(drCons 2 (allCons (rInt_ok .i64) (allCons (rPtr_ok 0 0) (allCons (rPtr_ok 1 0) (drCons 4 (allCons (rRow_ok 2) (allCons (rInt_ok .i64) (drCons 46 allNil)))))))), (eCons (eBlkC_ok api_CarC_ok api_CarC_len) (eCons (eBlkC_ok api_RideC_ok api_RideC_len) (eCons (eRow_ok intC_ok) eNil)))⟩, (xCons ⟨(drCons 2 (allCons (rInt_ok .i64) (allCons (rPtr_ok 0 0) (allCons (rPtr_ok 1 0) (drCons 4 (allCons (rRow_ok 2) (drCons 47 allNil))))))), (eCons (eBlkC_ok api_CarC_ok api_CarC_len) (eCons (eBlkC_ok api_RideC_ok api_RideC_len) (eCons (eRow_ok intC_ok) eNil)))⟩ xNil)⟩
def calls_Bound_h8 (v416 : Int) (v417 : Int) (v418 : api_Car) (v419 : api_Ride) (v420 : Bool) (v421 : Arr Int) : St := ⟨(un 2 ((.int .i64 v416) :: (.ptr 0 0) :: (.ptr 1 0) :: (un 4 ((.row 2) :: (.int .i64 v417) :: (un 46 []))))), [(0, .blk (Cod.enc api_CarC v418)), (1, .blk (Cod.enc api_RideC v419)), (2, rowE intC v420 v421)], 3⟩
def calls_Bound_x8_0 (v416 : Int) (v418 : api_Car) (v419 : api_Ride) (q3 : Bool) (q4 : Arr Int) : St := ⟨(un 2 ((.int .i64 v416) :: (.ptr 0 0) :: (.ptr 1 0) :: (un 4 ((.row 2) :: (un 47 []))))), [(0, .blk (Cod.enc api_CarC v418)), (1, .blk (Cod.enc api_RideC v419)), (2, rowE intC q3 q4)], 3⟩
def calls_Bound_b8 {R : Type} (N : Nat) (rc : Int → Int → api_Car → api_Ride → Bool → Arr Int → Option R) (v416 : Int) (v417 : Int) (v418 : api_Car) (v419 : api_Ride) (v420 : Bool) (v421 : Arr Int) (k0 : Bool → Arr Int → Option R) : Option R :=
  bif decide (v417 ≤ api_Car.High v418) then
   bif room (Arr.n v421 + (1 : Nat)) then
    rc v416 (w64 (v417 + (1 : Int))) v418 v419 false (lst intC (Arr.n v421 + (1 : Nat)) (catC (Arr.n v421) (Cod.cell intC (Arr.f v421)) (litC [SV.int IntKind.i64 (0 : Int)] [[SV.int IntKind.i64 v417]])))
   else
    Option.none
  else
   k0 v420 v421
def calls_Bound_l8 {R : Type} (N : Nat) : Nat → Int → Int → api_Car → api_Ride → Bool → Arr Int → (Bool → Arr Int → Option R) → Option R
  | 0, _, _, _, _, _, _, _ => Option.none
  | n + 1, v416, v417, v418, v419, v420, v421, k0 => calls_Bound_b8 N (fun v416 v417 v418 v419 v420 v421 => calls_Bound_l8 N n v416 v417 v418 v419 v420 v421 k0) v416 v417 v418 v419 v420 v421 k0
def calls_Bound_L14 : LoopSp := ⟨⟨[2, 9, 11, 12], ⟨(dr 2 ((rInt .i64) :: (dr 6 ((rRow 0) :: (dr 1 ((rPtr 1 0) :: (rInt .i64) :: (dr 44 []))))))), [(0, eRow intC), (1, eBlkC calls_cageC)]⟩, 2⟩, [(Option.none, ⟨[6, 7], ⟨(dr 6 ((rInt .i64) :: (rInt .i64) :: (dr 49 []))), []⟩, 0⟩)]⟩
theorem calls_Bound_L14_ok : calls_Bound_L14.Ok := ⟨⟨(drCons 2 (allCons (rInt_ok .i64) (drCons 6 (allCons (rRow_ok 0) (drCons 1 (allCons (rPtr_ok 1 0) (allCons (rInt_ok .i64) (drCons 44 allNil)))))))), (eCons (eRow_ok intC_ok) (eCons (eBlkC_ok calls_cageC_ok calls_cageC_len) eNil))⟩, (xCons ⟨(drCons 6 (allCons (rInt_ok .i64) (allCons (rInt_ok .i64) (drCons 49 allNil)))), eNil⟩ xNil)⟩
def calls_Bound_h14 (v424 : Int) (v425 : Int) (v426 : Bool) (v427 : Arr Int) (v428 : calls_cage) : St := ⟨(un 2 ((.int .i64 v424) :: (un 6 ((.row 0) :: (un 1 ((.ptr 1 0) :: (.int .i64 v425) :: (un 44 []))))))), [(0, rowE intC v426 v427), (1, .blk (Cod.enc calls_cageC v428))], 2⟩
def calls_Bound_x14_r (q0 : Int) (q1 : Int) : St := ⟨(un 6 ((.int .i64 q0) :: (.int .i64 q1) :: (un 49 []))), [], 0⟩
def calls_Bound_b14 {R : Type} (N : Nat) (rc : Int → Int → Bool → Arr Int → calls_cage → Option R) (v424 : Int) (v425 : Int) (v426 : Bool) (v427 : Arr Int) (v428 : calls_cage) (kr : Int → Int → Option R) : Option R :=
  calls_cage_tick N v427 v428 (fun r429 r430 =>
  bif decide (v424 < (0 : Int)) then
   Option.none
  else
   bif w64 (↑(BitVec.toNat (BitVec.ofInt (IntKind.bits IntKind.i64) (Int.fdiv r429 ((2 : Int) ^ min (Int.toNat v424) (IntKind.bits IntKind.i64))) &&& BitVec.ofInt (IntKind.bits IntKind.i64) (1 : Int))) : Int) == (1 : Int) then
    kr v425 (0 : Int)
   else
    rc v424 (w64 (v425 + (1 : Int))) v426 v427 r430)
def calls_Bound_l14 {R : Type} (N : Nat) : Nat → Int → Int → Bool → Arr Int → calls_cage → (Int → Int → Option R) → Option R
  | 0, _, _, _, _, _, _ => Option.none
  | n + 1, v424, v425, v426, v427, v428, kr => calls_Bound_b14 N (fun v424 v425 v426 v427 v428 => calls_Bound_l14 N n v424 v425 v426 v427 v428 kr) v424 v425 v426 v427 v428 kr
def calls_Bound_m {R : Type} (N : Nat) (a405 : api_Car) (a406 : api_Ride) (a407 : Int) (k : Int → Int → Option R) : Option R :=
  calls_serves N a405 a407 (fun r408 =>
  bif r408 != (0 : Int) then
   k (0 : Int) r408
  else
   calls_right N a405 a406 (fun r415 =>
   bif !r415 then
    k (0 : Int) (1 : Int)
   else
    bif decide (a407 < (0 : Int)) then
     Option.none
    else
     bif w64 (↑(BitVec.toNat (BitVec.ofInt (IntKind.bits IntKind.i64) (Int.fdiv (api_Ride.Wants a406) ((2 : Int) ^ min (Int.toNat a407) (IntKind.bits IntKind.i64))) &&& BitVec.ofInt (IntKind.bits IntKind.i64) (1 : Int))) : Int) == (0 : Int) then
      k (0 : Int) (1 : Int)
     else
      calls_Bound_l8 N N a407 (api_Car.Low a405) a405 a406 true (lst intC (0 : Nat) (zeroC [SV.int IntKind.i64 (0 : Int)])) (fun r422 r423 =>
       calls_Bound_l14 N N a407 (1 : Int) r422 r423 (calls_cage.mk a405 a406) (fun r431 r432 =>
        k r431 r432))))
noncomputable def calls_Bound {R : Type} : Nat → api_Car → api_Ride → Int → (Int → Int → Option R) → Option R := lock (@calls_Bound_m R)
theorem calls_Bound_def {R : Type} (N : Nat) (a405 : api_Car) (a406 : api_Ride) (a407 : Int) (k : Int → Int → Option R) : calls_Bound N a405 a406 a407 k = calls_Bound_m N a405 a406 a407 k := by unfold calls_Bound; rw [lock_eq]
def calls_Bound_sp : Sp := ⟨[rAgg api_CarC, rAgg api_RideC, rInt .i64], []⟩
theorem calls_Bound_sp_ok : calls_Bound_sp.Ok := ⟨(allCons (rAgg_ok api_CarC_ok api_CarC_len) (allCons (rAgg_ok api_RideC_ok api_RideC_len) (allCons (rInt_ok .i64) allNil))), eNil⟩
def calls_Bound_rs : Sp := ⟨[rTup [rInt .i64, rInt .i64]], []⟩
theorem calls_Bound_rs_ok : calls_Bound_rs.Ok := ⟨(allCons (rTup_ok (allCons (rInt_ok .i64) (allCons (rInt_ok .i64) allNil))) allNil), eNil⟩
def calls_Bound_run {R : Type} (N : Nat) (args : List SV) (T : Tab) (kf : SV × Tab → Option R) : Option R :=
  calls_Bound_m N (Cod.dec api_CarC (lget (toCs (lget args 0)))) (Cod.dec api_RideC (lget (toCs (lget args 1)))) (toI (lget args 2)) (fun q0 q1 => kf (lget [.tup [.int .i64 q0, .int .i64 q1]] 0, []))
def calls_Bound_d14 {R : Type} (N : Nat) (S0 : St) (k : Exit → St → Option R) : Option R :=
  calls_Bound_l14 N N (toI (lget S0.tmps 2)) (toI (lget S0.tmps 12)) (entNl (entAt S0.tab 0)) (lst intC (entN (entAt S0.tab 0)) (entC (entAt S0.tab 0))) (Cod.dec calls_cageC (lget (entCs (entAt S0.tab 1)))) (fun q0 q1 => k .ret (calls_Bound_x14_r q0 q1))
def calls_Bound_d8 {R : Type} (N : Nat) (S0 : St) (k : Exit → St → Option R) : Option R :=
  calls_Bound_l8 N N (toI (lget S0.tmps 2)) (toI (lget S0.tmps 10)) (Cod.dec api_CarC (lget (entCs (entAt S0.tab 0)))) (Cod.dec api_RideC (lget (entCs (entAt S0.tab 1)))) (entNl (entAt S0.tab 2)) (lst intC (entN (entAt S0.tab 2)) (entC (entAt S0.tab 2))) (fun q3 q4 => k (.exit 0) (calls_Bound_x8_0 (toI (lget S0.tmps 2)) (Cod.dec api_CarC (lget (entCs (entAt S0.tab 0)))) (Cod.dec api_RideC (lget (entCs (entAt S0.tab 1)))) q3 q4))
def calls_Bound_lp {R : Type} (N : Nat) : Lp R := fun body S k => bif (Go.Sx.keyOf body).getD 0 == 8 then (calls_Bound_L8.head.raw 0 S (fun S0 => calls_Bound_d8 N S0 k)) else bif (Go.Sx.keyOf body).getD 0 == 14 then (calls_Bound_L14.head.raw 0 S (fun S0 => calls_Bound_d14 N S0 k)) else Option.none
theorem calls_Bound_l8_eq {R : Type} (N : Nat) (k : Exit → St → Option R) (n : Nat) : ∀ (v0 : Int) (v1 : Int) (v2 : api_Car) (v3 : api_Ride) (v4 : Bool) (v5 : Arr Int), loopM E.Θ (calls_right_cal N) (calls_Bound_lp N) (noJn) 0 calls_Bound_L8 (bodyAt E 28 8) n (calls_Bound_h8 v0 v1 v2 v3 v4 v5) k = calls_Bound_l8 N n v0 v1 v2 v3 v4 v5 (fun q3 q4 => k (.exit 0) (calls_Bound_x8_0 v0 v2 v3 q3 q4)) := by
  induction n with
  | zero => intro v0 v1 v2 v3 v4 v5; rfl
  | succ n ih =>
    intro v0 v1 v2 v3 v4 v5
    refine Eq.trans (b := calls_Bound_b8 N (fun v0 v1 v2 v3 v4 v5 => loopM E.Θ (calls_right_cal N) (calls_Bound_lp N) (noJn) 0 calls_Bound_L8 (bodyAt E 28 8) n (calls_Bound_h8 v0 v1 v2 v3 v4 v5) k) v0 v1 v2 v3 v4 v5 (fun q3 q4 => k (.exit 0) (calls_Bound_x8_0 v0 v2 v3 q3 q4))) (by kernel_rfl) ?_
    have h : (fun (v0 : Int) (v1 : Int) (v2 : api_Car) (v3 : api_Ride) (v4 : Bool) (v5 : Arr Int) => loopM E.Θ (calls_right_cal N) (calls_Bound_lp N) (noJn) 0 calls_Bound_L8 (bodyAt E 28 8) n (calls_Bound_h8 v0 v1 v2 v3 v4 v5) k) = (fun (v0 : Int) (v1 : Int) (v2 : api_Car) (v3 : api_Ride) (v4 : Bool) (v5 : Arr Int) => calls_Bound_l8 N n v0 v1 v2 v3 v4 v5 (fun q3 q4 => k (.exit 0) (calls_Bound_x8_0 v0 v2 v3 q3 q4))) := funext fun v0 => funext fun v1 => funext fun v2 => funext fun v3 => funext fun v4 => funext fun v5 => ih v0 v1 v2 v3 v4 v5
    rw [h]
    rfl
theorem calls_Bound_l14_eq {R : Type} (N : Nat) (k : Exit → St → Option R) (n : Nat) : ∀ (v0 : Int) (v1 : Int) (v2 : Bool) (v3 : Arr Int) (v4 : calls_cage), loopM E.Θ (calls_right_cal N) (calls_Bound_lp N) (noJn) 0 calls_Bound_L14 (bodyAt E 28 14) n (calls_Bound_h14 v0 v1 v2 v3 v4) k = calls_Bound_l14 N n v0 v1 v2 v3 v4 (fun q0 q1 => k .ret (calls_Bound_x14_r q0 q1)) := by
  induction n with
  | zero => intro v0 v1 v2 v3 v4; rfl
  | succ n ih =>
    intro v0 v1 v2 v3 v4
    refine Eq.trans (b := calls_Bound_b14 N (fun v0 v1 v2 v3 v4 => loopM E.Θ (calls_right_cal N) (calls_Bound_lp N) (noJn) 0 calls_Bound_L14 (bodyAt E 28 14) n (calls_Bound_h14 v0 v1 v2 v3 v4) k) v0 v1 v2 v3 v4 (fun q0 q1 => k .ret (calls_Bound_x14_r q0 q1))) (by kernel_rfl) ?_
    have h : (fun (v0 : Int) (v1 : Int) (v2 : Bool) (v3 : Arr Int) (v4 : calls_cage) => loopM E.Θ (calls_right_cal N) (calls_Bound_lp N) (noJn) 0 calls_Bound_L14 (bodyAt E 28 14) n (calls_Bound_h14 v0 v1 v2 v3 v4) k) = (fun (v0 : Int) (v1 : Int) (v2 : Bool) (v3 : Arr Int) (v4 : calls_cage) => calls_Bound_l14 N n v0 v1 v2 v3 v4 (fun q0 q1 => k .ret (calls_Bound_x14_r q0 q1))) := funext fun v0 => funext fun v1 => funext fun v2 => funext fun v3 => funext fun v4 => ih v0 v1 v2 v3 v4
    rw [h]
    rfl
theorem calls_Bound_k14 {R : Type} (N : Nat) : LpKey (R := R) E 28 0 (calls_Bound_lp N) 14 :=
  lpKey_of hE (calls_right_cal_ok N) (lp := calls_Bound_lp N) (jn := noJn) calls_Bound_L14_ok [] kNil (by kernel_rfl) [] jNil (by kernel_rfl) N fun S k =>
    Eq.trans (b := calls_Bound_L14.head.raw 0 S (fun S0 => calls_Bound_d14 N S0 k)) (by kernel_rfl) (congrArg (calls_Bound_L14.head.raw 0 S) (funext fun S0 => Eq.trans (calls_Bound_l14_eq N k N (toI (lget S0.tmps 2)) (toI (lget S0.tmps 12)) (entNl (entAt S0.tab 0)) (lst intC (entN (entAt S0.tab 0)) (entC (entAt S0.tab 0))) (Cod.dec calls_cageC (lget (entCs (entAt S0.tab 1))))).symm (by kernel_rfl)))
theorem calls_Bound_k8 {R : Type} (N : Nat) : LpKey (R := R) E 28 0 (calls_Bound_lp N) 8 :=
  lpKey_of hE (calls_right_cal_ok N) (lp := calls_Bound_lp N) (jn := noJn) calls_Bound_L8_ok [] kNil (by kernel_rfl) [] jNil (by kernel_rfl) N fun S k =>
    Eq.trans (b := calls_Bound_L8.head.raw 0 S (fun S0 => calls_Bound_d8 N S0 k)) (by kernel_rfl) (congrArg (calls_Bound_L8.head.raw 0 S) (funext fun S0 => Eq.trans (calls_Bound_l8_eq N k N (toI (lget S0.tmps 2)) (toI (lget S0.tmps 10)) (Cod.dec api_CarC (lget (entCs (entAt S0.tab 0)))) (Cod.dec api_RideC (lget (entCs (entAt S0.tab 1)))) (entNl (entAt S0.tab 2)) (lst intC (entN (entAt S0.tab 2)) (entC (entAt S0.tab 2)))).symm (by kernel_rfl)))
noncomputable def calls_Bound_go {R : Type} (N : Nat) (args : List SV) (T : Tab) (kf : SV × Tab → Option R) : Option R :=
  calls_Bound N (Cod.dec api_CarC (lget (toCs (lget args 0)))) (Cod.dec api_RideC (lget (toCs (lget args 1)))) (toI (lget args 2)) (fun q0 q1 => kf (lget [.tup [.int .i64 q0, .int .i64 q1]] 0, []))
noncomputable def calls_Bound_cal {R : Type} (N : Nat) : Cal R := callM (calls_right_cal N) 28 0 calls_Bound_sp (calls_Bound_go N)
theorem calls_Bound_cal_ok {R : Type} (N : Nat) : CalOk E.P (calls_Bound_cal (R := R) N) :=
  callM_ok hE (calls_right_cal_ok N) (lp := calls_Bound_lp N) (jn := noJn) (keys := [8, 14]) (kCons (calls_Bound_k8 N) (kCons (calls_Bound_k14 N) kNil)) (by kernel_rfl) (js := []) jNil (by kernel_rfl) calls_Bound_sp_ok calls_Bound_rs_ok (fun args T kf => Eq.trans (calls_Bound_def N (Cod.dec api_CarC (lget (toCs (lget args 0)))) (Cod.dec api_RideC (lget (toCs (lget args 1)))) (toI (lget args 2)) (fun q0 q1 => kf (lget [.tup [.int .i64 q0, .int .i64 q1]] 0, []))) (by kernel_rfl : calls_Bound_run N args T kf = fnM E (calls_right_cal N) (calls_Bound_lp N) (noJn) 28 (calls_Bound_sp.vs args) (calls_Bound_sp.tab T) 0 (resK calls_Bound_rs kf)))
def newelref07_worst_L6 : LoopSp := ⟨⟨[1, 2, 3, 4, 11, 12, 13, 14, 15], ⟨(dr 1 ((rSl newelref07_knotC) :: (rSl intC) :: (rInt .i64) :: (rPtr 0 0) :: (dr 6 ((rInt .i64) :: (rInt .i64) :: (rInt .i64) :: (rInt .i64) :: (rInt .i64) :: (dr 74 []))))), [(0, eBlkC api_CarC)]⟩, 1⟩, [(some 2, ⟨[1, 2, 3, 4, 11, 12, 13, 14], ⟨(dr 1 ((rSl newelref07_knotC) :: (rSl intC) :: (rInt .i64) :: (rPtr 0 0) :: (dr 6 ((rInt .i64) :: (rInt .i64) :: (rInt .i64) :: (rInt .i64) :: (dr 75 []))))), [(0, eBlkC api_CarC)]⟩, 1⟩)]⟩
theorem newelref07_worst_L6_ok : newelref07_worst_L6.Ok := ⟨⟨(drCons 1 (allCons (rSl_ok newelref07_knotC_ok) (allCons (rSl_ok intC_ok) (allCons (rInt_ok .i64) (allCons (rPtr_ok 0 0) (drCons 6 (allCons (rInt_ok .i64) (allCons (rInt_ok .i64) (allCons (rInt_ok .i64) (allCons (rInt_ok .i64) (allCons (rInt_ok .i64) (drCons 74 allNil)))))))))))), (eCons (eBlkC_ok api_CarC_ok api_CarC_len) eNil)⟩, (xCons ⟨(drCons 1 (allCons (rSl_ok newelref07_knotC_ok) (allCons (rSl_ok intC_ok) (allCons (rInt_ok .i64) (allCons (rPtr_ok 0 0) (drCons 6 (allCons (rInt_ok .i64) (allCons (rInt_ok .i64) (allCons (rInt_ok .i64) (allCons (rInt_ok .i64) (drCons 75 allNil))))))))))), (eCons (eBlkC_ok api_CarC_ok api_CarC_len) eNil)⟩ xNil)⟩
def newelref07_worst_h6 (v453 : Arr newelref07_knot) (v454 : Arr Int) (v455 : Int) (v456 : Int) (v457 : Int) (v458 : Int) (v459 : Int) (v460 : Int) (v461 : api_Car) : St := ⟨(un 1 ((slC newelref07_knotC v453) :: (slC intC v454) :: (.int .i64 v455) :: (.ptr 0 0) :: (un 6 ((.int .i64 v456) :: (.int .i64 v457) :: (.int .i64 v458) :: (.int .i64 v459) :: (.int .i64 v460) :: (un 74 []))))), [(0, .blk (Cod.enc api_CarC v461))], 1⟩
def newelref07_worst_x6_2 (v453 : Arr newelref07_knot) (v454 : Arr Int) (v455 : Int) (v459 : Int) (v461 : api_Car) (q3 : Int) (q4 : Int) (q5 : Int) : St := ⟨(un 1 ((slC newelref07_knotC v453) :: (slC intC v454) :: (.int .i64 v455) :: (.ptr 0 0) :: (un 6 ((.int .i64 q3) :: (.int .i64 q4) :: (.int .i64 q5) :: (.int .i64 v459) :: (un 75 []))))), [(0, .blk (Cod.enc api_CarC v461))], 1⟩
def newelref07_worst_b6 {R : Type} (N : Nat) (rc : Arr newelref07_knot → Arr Int → Int → Int → Int → Int → Int → Int → api_Car → Option R) (v453 : Arr newelref07_knot) (v454 : Arr Int) (v455 : Int) (v456 : Int) (v457 : Int) (v458 : Int) (v459 : Int) (v460 : Int) (v461 : api_Car) (k2 : Int → Int → Int → Option R) : Option R :=
  bif decide (IntKind.wrap IntKind.u64 (w64 (api_Car.High v461 + (1 : Int))) < (0 : Int)) then
   Option.none
  else
   bif decide (v460 < w64 ((1 : Int) * (2 : Int) ^ min (Int.toNat (IntKind.wrap IntKind.u64 (w64 (api_Car.High v461 + (1 : Int))))) (IntKind.bits IntKind.i64))) then
    bif decide (IntKind.wrap IntKind.u64 (api_Car.Low v461) < (0 : Int)) then
     Option.none
    else
     bif w64 (↑(BitVec.toNat (BitVec.ofInt (IntKind.bits IntKind.i64) v460 &&& BitVec.ofInt (IntKind.bits IntKind.i64) (w64 (w64 ((1 : Int) * (2 : Int) ^ min (Int.toNat (IntKind.wrap IntKind.u64 (api_Car.Low v461))) (IntKind.bits IntKind.i64)) - (1 : Int))))) : Int) != (0 : Int) then
      rc v453 v454 v455 v456 v457 v458 v459 (w64 (v460 + (1 : Int))) v461
     else
      bif decide (IntKind.wrap IntKind.u64 v455 < (0 : Int)) then
       Option.none
      else
       bif w64 (↑(BitVec.toNat (BitVec.ofInt (IntKind.bits IntKind.i64) (Int.fdiv v460 ((2 : Int) ^ min (Int.toNat (IntKind.wrap IntKind.u64 v455)) (IntKind.bits IntKind.i64))) &&& BitVec.ofInt (IntKind.bits IntKind.i64) (1 : Int))) : Int) == (0 : Int) then
        rc v453 v454 v455 v456 v457 v458 v459 (w64 (v460 + (1 : Int))) v461
       else
        bif decide ((0 : Int) ≤ v459) && decide (v459 < (↑(Arr.n v453) : Int)) then
         newelref07_wanted N (newelref07_knot.f_ride (Arr.f v453 (Int.toNat v459))) v455 (fun r462 =>
         bif r462 then
          rc v453 v454 v455 v456 v457 v458 v459 (w64 (v460 + (1 : Int))) v461
         else
          bif decide ((0 : Int) ≤ v459) && decide (v459 < (↑(Arr.n v453) : Int)) then
           newelref07_Tick N v461 (newelref07_knot.f_ride (Arr.f v453 (Int.toNat v459))) v460 (fun r463 r464 =>
           bif decide (IntKind.wrap IntKind.u64 v455 < (0 : Int)) then
            Option.none
           else
            bif w64 (↑(BitVec.toNat (BitVec.ofInt (IntKind.bits IntKind.i64) (Int.fdiv r464 ((2 : Int) ^ min (Int.toNat (IntKind.wrap IntKind.u64 v455)) (IntKind.bits IntKind.i64))) &&& BitVec.ofInt (IntKind.bits IntKind.i64) (1 : Int))) : Int) == (0 : Int) then
             newelref07_code N r463 (fun r465 =>
             bif decide ((0 : Int) ≤ r465) && decide (r465 < (↑(Arr.n v454) : Int)) then
              bif decide (Arr.f v454 (Int.toNat r465) > v456) then
               rc v453 v454 v455 (Arr.f v454 (Int.toNat r465)) v459 v460 v459 (w64 (v460 + (1 : Int))) v461
              else
               rc v453 v454 v455 v456 v457 v458 v459 (w64 (v460 + (1 : Int))) v461
             else
              Option.none)
            else
             bif decide ((0 : Int) > v456) then
              rc v453 v454 v455 (0 : Int) v459 v460 v459 (w64 (v460 + (1 : Int))) v461
             else
              rc v453 v454 v455 v456 v457 v458 v459 (w64 (v460 + (1 : Int))) v461)
          else
           Option.none)
        else
         Option.none
   else
    k2 v456 v457 v458
def newelref07_worst_l6 {R : Type} (N : Nat) : Nat → Arr newelref07_knot → Arr Int → Int → Int → Int → Int → Int → Int → api_Car → (Int → Int → Int → Option R) → Option R
  | 0, _, _, _, _, _, _, _, _, _, _ => Option.none
  | n + 1, v453, v454, v455, v456, v457, v458, v459, v460, v461, k2 => newelref07_worst_b6 N (fun v453 v454 v455 v456 v457 v458 v459 v460 v461 => newelref07_worst_l6 N n v453 v454 v455 v456 v457 v458 v459 v460 v461 k2) v453 v454 v455 v456 v457 v458 v459 v460 v461 k2
def newelref07_worst_L3 : LoopSp := ⟨⟨[1, 2, 3, 4, 11, 12, 13, 14], ⟨(dr 1 ((rSl newelref07_knotC) :: (rSl intC) :: (rInt .i64) :: (rPtr 0 0) :: (dr 6 ((rInt .i64) :: (rInt .i64) :: (rInt .i64) :: (rInt .i64) :: (dr 75 []))))), [(0, eBlkC api_CarC)]⟩, 1⟩, [(some 0, ⟨[11, 12, 13], ⟨(dr 11 ((rInt .i64) :: (rInt .i64) :: (rInt .i64) :: (dr 76 []))), []⟩, 0⟩)]⟩
theorem newelref07_worst_L3_ok : newelref07_worst_L3.Ok := ⟨⟨(drCons 1 (allCons (rSl_ok newelref07_knotC_ok) (allCons (rSl_ok intC_ok) (allCons (rInt_ok .i64) (allCons (rPtr_ok 0 0) (drCons 6 (allCons (rInt_ok .i64) (allCons (rInt_ok .i64) (allCons (rInt_ok .i64) (allCons (rInt_ok .i64) (drCons 75 allNil))))))))))), (eCons (eBlkC_ok api_CarC_ok api_CarC_len) eNil)⟩, (xCons ⟨(drCons 11 (allCons (rInt_ok .i64) (allCons (rInt_ok .i64) (allCons (rInt_ok .i64) (drCons 76 allNil))))), eNil⟩ xNil)⟩
def newelref07_worst_h3 (v445 : Arr newelref07_knot) (v446 : Arr Int) (v447 : Int) (v448 : Int) (v449 : Int) (v450 : Int) (v451 : Int) (v452 : api_Car) : St := ⟨(un 1 ((slC newelref07_knotC v445) :: (slC intC v446) :: (.int .i64 v447) :: (.ptr 0 0) :: (un 6 ((.int .i64 v448) :: (.int .i64 v449) :: (.int .i64 v450) :: (.int .i64 v451) :: (un 75 []))))), [(0, .blk (Cod.enc api_CarC v452))], 1⟩
def newelref07_worst_x3_0 (q0 : Int) (q1 : Int) (q2 : Int) : St := ⟨(un 11 ((.int .i64 q0) :: (.int .i64 q1) :: (.int .i64 q2) :: (un 76 []))), [], 0⟩
def newelref07_worst_b3 {R : Type} (N : Nat) (rc : Arr newelref07_knot → Arr Int → Int → Int → Int → Int → Int → api_Car → Option R) (v445 : Arr newelref07_knot) (v446 : Arr Int) (v447 : Int) (v448 : Int) (v449 : Int) (v450 : Int) (v451 : Int) (v452 : api_Car) (k0 : Int → Int → Int → Option R) : Option R :=
  bif decide (v451 < (↑(Arr.n v445) : Int)) then
   newelref07_worst_l6 N N v445 v446 v447 v448 v449 v450 v451 (0 : Int) v452 (fun r466 r467 r468 =>
    rc v445 v446 v447 r466 r467 r468 (w64 (v451 + (1 : Int))) v452)
  else
   k0 v448 v449 v450
def newelref07_worst_l3 {R : Type} (N : Nat) : Nat → Arr newelref07_knot → Arr Int → Int → Int → Int → Int → Int → api_Car → (Int → Int → Int → Option R) → Option R
  | 0, _, _, _, _, _, _, _, _, _ => Option.none
  | n + 1, v445, v446, v447, v448, v449, v450, v451, v452, k0 => newelref07_worst_b3 N (fun v445 v446 v447 v448 v449 v450 v451 v452 => newelref07_worst_l3 N n v445 v446 v447 v448 v449 v450 v451 v452 k0) v445 v446 v447 v448 v449 v450 v451 v452 k0
def newelref07_worst_m {R : Type} (N : Nat) (a441 : api_Car) (a442 : Arr newelref07_knot) (a443 : Arr Int) (a444 : Int) (k : Int → Int → Int → Option R) : Option R :=
  newelref07_worst_l3 N N a442 a443 a444 (-1 : Int) (0 : Int) (0 : Int) (0 : Int) a441 (fun r469 r470 r471 =>
   k r469 r470 r471)
noncomputable def newelref07_worst {R : Type} : Nat → api_Car → Arr newelref07_knot → Arr Int → Int → (Int → Int → Int → Option R) → Option R := lock (@newelref07_worst_m R)
theorem newelref07_worst_def {R : Type} (N : Nat) (a441 : api_Car) (a442 : Arr newelref07_knot) (a443 : Arr Int) (a444 : Int) (k : Int → Int → Int → Option R) : newelref07_worst N a441 a442 a443 a444 k = newelref07_worst_m N a441 a442 a443 a444 k := by unfold newelref07_worst; rw [lock_eq]
def newelref07_worst_sp : Sp := ⟨[rAgg api_CarC, rSl newelref07_knotC, rSl intC, rInt .i64], []⟩
theorem newelref07_worst_sp_ok : newelref07_worst_sp.Ok := ⟨(allCons (rAgg_ok api_CarC_ok api_CarC_len) (allCons (rSl_ok newelref07_knotC_ok) (allCons (rSl_ok intC_ok) (allCons (rInt_ok .i64) allNil)))), eNil⟩
def newelref07_worst_rs : Sp := ⟨[rTup [rInt .i64, rInt .i64, rInt .i64]], []⟩
theorem newelref07_worst_rs_ok : newelref07_worst_rs.Ok := ⟨(allCons (rTup_ok (allCons (rInt_ok .i64) (allCons (rInt_ok .i64) (allCons (rInt_ok .i64) allNil)))) allNil), eNil⟩
def newelref07_worst_run {R : Type} (N : Nat) (args : List SV) (T : Tab) (kf : SV × Tab → Option R) : Option R :=
  newelref07_worst_m N (Cod.dec api_CarC (lget (toCs (lget args 0)))) (lstC newelref07_knotC (lget args 1)) (lstC intC (lget args 2)) (toI (lget args 3)) (fun q0 q1 q2 => kf (lget [.tup [.int .i64 q0, .int .i64 q1, .int .i64 q2]] 0, []))
def newelref07_worst_d6 {R : Type} (N : Nat) (S0 : St) (k : Exit → St → Option R) : Option R :=
  newelref07_worst_l6 N N (lstC newelref07_knotC (lget S0.tmps 1)) (lstC intC (lget S0.tmps 2)) (toI (lget S0.tmps 3)) (toI (lget S0.tmps 11)) (toI (lget S0.tmps 12)) (toI (lget S0.tmps 13)) (toI (lget S0.tmps 14)) (toI (lget S0.tmps 15)) (Cod.dec api_CarC (lget (entCs (entAt S0.tab 0)))) (fun q3 q4 q5 => k (.exit 2) (newelref07_worst_x6_2 (lstC newelref07_knotC (lget S0.tmps 1)) (lstC intC (lget S0.tmps 2)) (toI (lget S0.tmps 3)) (toI (lget S0.tmps 14)) (Cod.dec api_CarC (lget (entCs (entAt S0.tab 0)))) q3 q4 q5))
def newelref07_worst_d3 {R : Type} (N : Nat) (S0 : St) (k : Exit → St → Option R) : Option R :=
  newelref07_worst_l3 N N (lstC newelref07_knotC (lget S0.tmps 1)) (lstC intC (lget S0.tmps 2)) (toI (lget S0.tmps 3)) (toI (lget S0.tmps 11)) (toI (lget S0.tmps 12)) (toI (lget S0.tmps 13)) (toI (lget S0.tmps 14)) (Cod.dec api_CarC (lget (entCs (entAt S0.tab 0)))) (fun q0 q1 q2 => k (.exit 0) (newelref07_worst_x3_0 q0 q1 q2))
def newelref07_worst_lp {R : Type} (N : Nat) : Lp R := fun body S k => bif (Go.Sx.keyOf body).getD 0 == 3 then (newelref07_worst_L3.head.raw 0 S (fun S0 => newelref07_worst_d3 N S0 k)) else bif (Go.Sx.keyOf body).getD 0 == 6 then (newelref07_worst_L6.head.raw 0 S (fun S0 => newelref07_worst_d6 N S0 k)) else Option.none
theorem newelref07_worst_l3_eq {R : Type} (N : Nat) (k : Exit → St → Option R) (n : Nat) : ∀ (v0 : Arr newelref07_knot) (v1 : Arr Int) (v2 : Int) (v3 : Int) (v4 : Int) (v5 : Int) (v6 : Int) (v7 : api_Car), loopM E.Θ (calls_Bound_cal N) (newelref07_worst_lp N) (noJn) 0 newelref07_worst_L3 (bodyAt E 57 3) n (newelref07_worst_h3 v0 v1 v2 v3 v4 v5 v6 v7) k = newelref07_worst_l3 N n v0 v1 v2 v3 v4 v5 v6 v7 (fun q0 q1 q2 => k (.exit 0) (newelref07_worst_x3_0 q0 q1 q2)) := by
  induction n with
  | zero => intro v0 v1 v2 v3 v4 v5 v6 v7; rfl
  | succ n ih =>
    intro v0 v1 v2 v3 v4 v5 v6 v7
    refine Eq.trans (b := newelref07_worst_b3 N (fun v0 v1 v2 v3 v4 v5 v6 v7 => loopM E.Θ (calls_Bound_cal N) (newelref07_worst_lp N) (noJn) 0 newelref07_worst_L3 (bodyAt E 57 3) n (newelref07_worst_h3 v0 v1 v2 v3 v4 v5 v6 v7) k) v0 v1 v2 v3 v4 v5 v6 v7 (fun q0 q1 q2 => k (.exit 0) (newelref07_worst_x3_0 q0 q1 q2))) (by kernel_rfl) ?_
    have h : (fun (v0 : Arr newelref07_knot) (v1 : Arr Int) (v2 : Int) (v3 : Int) (v4 : Int) (v5 : Int) (v6 : Int) (v7 : api_Car) => loopM E.Θ (calls_Bound_cal N) (newelref07_worst_lp N) (noJn) 0 newelref07_worst_L3 (bodyAt E 57 3) n (newelref07_worst_h3 v0 v1 v2 v3 v4 v5 v6 v7) k) = (fun (v0 : Arr newelref07_knot) (v1 : Arr Int) (v2 : Int) (v3 : Int) (v4 : Int) (v5 : Int) (v6 : Int) (v7 : api_Car) => newelref07_worst_l3 N n v0 v1 v2 v3 v4 v5 v6 v7 (fun q0 q1 q2 => k (.exit 0) (newelref07_worst_x3_0 q0 q1 q2))) := funext fun v0 => funext fun v1 => funext fun v2 => funext fun v3 => funext fun v4 => funext fun v5 => funext fun v6 => funext fun v7 => ih v0 v1 v2 v3 v4 v5 v6 v7
    rw [h]
    rfl
theorem newelref07_worst_l6_eq {R : Type} (N : Nat) (k : Exit → St → Option R) (n : Nat) : ∀ (v0 : Arr newelref07_knot) (v1 : Arr Int) (v2 : Int) (v3 : Int) (v4 : Int) (v5 : Int) (v6 : Int) (v7 : Int) (v8 : api_Car), loopM E.Θ (calls_Bound_cal N) (newelref07_worst_lp N) (noJn) 0 newelref07_worst_L6 (bodyAt E 57 6) n (newelref07_worst_h6 v0 v1 v2 v3 v4 v5 v6 v7 v8) k = newelref07_worst_l6 N n v0 v1 v2 v3 v4 v5 v6 v7 v8 (fun q3 q4 q5 => k (.exit 2) (newelref07_worst_x6_2 v0 v1 v2 v6 v8 q3 q4 q5)) := by
  induction n with
  | zero => intro v0 v1 v2 v3 v4 v5 v6 v7 v8; rfl
  | succ n ih =>
    intro v0 v1 v2 v3 v4 v5 v6 v7 v8
    refine Eq.trans (b := newelref07_worst_b6 N (fun v0 v1 v2 v3 v4 v5 v6 v7 v8 => loopM E.Θ (calls_Bound_cal N) (newelref07_worst_lp N) (noJn) 0 newelref07_worst_L6 (bodyAt E 57 6) n (newelref07_worst_h6 v0 v1 v2 v3 v4 v5 v6 v7 v8) k) v0 v1 v2 v3 v4 v5 v6 v7 v8 (fun q3 q4 q5 => k (.exit 2) (newelref07_worst_x6_2 v0 v1 v2 v6 v8 q3 q4 q5))) (by kernel_rfl) ?_
    have h : (fun (v0 : Arr newelref07_knot) (v1 : Arr Int) (v2 : Int) (v3 : Int) (v4 : Int) (v5 : Int) (v6 : Int) (v7 : Int) (v8 : api_Car) => loopM E.Θ (calls_Bound_cal N) (newelref07_worst_lp N) (noJn) 0 newelref07_worst_L6 (bodyAt E 57 6) n (newelref07_worst_h6 v0 v1 v2 v3 v4 v5 v6 v7 v8) k) = (fun (v0 : Arr newelref07_knot) (v1 : Arr Int) (v2 : Int) (v3 : Int) (v4 : Int) (v5 : Int) (v6 : Int) (v7 : Int) (v8 : api_Car) => newelref07_worst_l6 N n v0 v1 v2 v3 v4 v5 v6 v7 v8 (fun q3 q4 q5 => k (.exit 2) (newelref07_worst_x6_2 v0 v1 v2 v6 v8 q3 q4 q5))) := funext fun v0 => funext fun v1 => funext fun v2 => funext fun v3 => funext fun v4 => funext fun v5 => funext fun v6 => funext fun v7 => funext fun v8 => ih v0 v1 v2 v3 v4 v5 v6 v7 v8
    rw [h]
    rfl
theorem newelref07_worst_k6 {R : Type} (N : Nat) : LpKey (R := R) E 57 0 (newelref07_worst_lp N) 6 :=
  lpKey_of hE (calls_Bound_cal_ok N) (lp := newelref07_worst_lp N) (jn := noJn) newelref07_worst_L6_ok [] kNil (by kernel_rfl) [] jNil (by kernel_rfl) N fun S k =>
    Eq.trans (b := newelref07_worst_L6.head.raw 0 S (fun S0 => newelref07_worst_d6 N S0 k)) (by kernel_rfl) (congrArg (newelref07_worst_L6.head.raw 0 S) (funext fun S0 => Eq.trans (newelref07_worst_l6_eq N k N (lstC newelref07_knotC (lget S0.tmps 1)) (lstC intC (lget S0.tmps 2)) (toI (lget S0.tmps 3)) (toI (lget S0.tmps 11)) (toI (lget S0.tmps 12)) (toI (lget S0.tmps 13)) (toI (lget S0.tmps 14)) (toI (lget S0.tmps 15)) (Cod.dec api_CarC (lget (entCs (entAt S0.tab 0))))).symm (by kernel_rfl)))
theorem newelref07_worst_k3 {R : Type} (N : Nat) : LpKey (R := R) E 57 0 (newelref07_worst_lp N) 3 :=
  lpKey_of hE (calls_Bound_cal_ok N) (lp := newelref07_worst_lp N) (jn := noJn) newelref07_worst_L3_ok [6] (kCons (newelref07_worst_k6 N) kNil) (by kernel_rfl) [] jNil (by kernel_rfl) N fun S k =>
    Eq.trans (b := newelref07_worst_L3.head.raw 0 S (fun S0 => newelref07_worst_d3 N S0 k)) (by kernel_rfl) (congrArg (newelref07_worst_L3.head.raw 0 S) (funext fun S0 => Eq.trans (newelref07_worst_l3_eq N k N (lstC newelref07_knotC (lget S0.tmps 1)) (lstC intC (lget S0.tmps 2)) (toI (lget S0.tmps 3)) (toI (lget S0.tmps 11)) (toI (lget S0.tmps 12)) (toI (lget S0.tmps 13)) (toI (lget S0.tmps 14)) (Cod.dec api_CarC (lget (entCs (entAt S0.tab 0))))).symm (by kernel_rfl)))
noncomputable def newelref07_worst_go {R : Type} (N : Nat) (args : List SV) (T : Tab) (kf : SV × Tab → Option R) : Option R :=
  newelref07_worst N (Cod.dec api_CarC (lget (toCs (lget args 0)))) (lstC newelref07_knotC (lget args 1)) (lstC intC (lget args 2)) (toI (lget args 3)) (fun q0 q1 q2 => kf (lget [.tup [.int .i64 q0, .int .i64 q1, .int .i64 q2]] 0, []))
noncomputable def newelref07_worst_cal {R : Type} (N : Nat) : Cal R := callM (calls_Bound_cal N) 57 0 newelref07_worst_sp (newelref07_worst_go N)
theorem newelref07_worst_cal_ok {R : Type} (N : Nat) : CalOk E.P (newelref07_worst_cal (R := R) N) :=
  callM_ok hE (calls_Bound_cal_ok N) (lp := newelref07_worst_lp N) (jn := noJn) (keys := [3, 6]) (kCons (newelref07_worst_k3 N) (kCons (newelref07_worst_k6 N) kNil)) (by kernel_rfl) (js := []) jNil (by kernel_rfl) newelref07_worst_sp_ok newelref07_worst_rs_ok (fun args T kf => Eq.trans (newelref07_worst_def N (Cod.dec api_CarC (lget (toCs (lget args 0)))) (lstC newelref07_knotC (lget args 1)) (lstC intC (lget args 2)) (toI (lget args 3)) (fun q0 q1 q2 => kf (lget [.tup [.int .i64 q0, .int .i64 q1, .int .i64 q2]] 0, []))) (by kernel_rfl : newelref07_worst_run N args T kf = fnM E (calls_Bound_cal N) (newelref07_worst_lp N) (noJn) 57 (newelref07_worst_sp.vs args) (newelref07_worst_sp.tab T) 0 (resK newelref07_worst_rs kf)))
def newelref07_Worst_m {R : Type} (N : Nat) (a433 : api_Car) (a434 : Int) (k : Int → Int → Option R) : Option R :=
  newelref07_checkFloor N a433 a434 (fun r435 =>
  bif r435 != (0 : Int) then
   k (0 : Int) r435
  else
   newelref07_Begin N a433 (fun r436 =>
   newelref07_reach N a433 r436 (fun r437 r438 =>
   newelref07_bounds N a433 r438 a434 (fun r439 r440 =>
   newelref07_worst N a433 r438 r440 a434 (fun r472 r473 r474 =>
   k r472 (0 : Int))))))
noncomputable def newelref07_Worst {R : Type} : Nat → api_Car → Int → (Int → Int → Option R) → Option R := lock (@newelref07_Worst_m R)
theorem newelref07_Worst_def {R : Type} (N : Nat) (a433 : api_Car) (a434 : Int) (k : Int → Int → Option R) : newelref07_Worst N a433 a434 k = newelref07_Worst_m N a433 a434 k := by unfold newelref07_Worst; rw [lock_eq]
def newelref07_Worst_sp : Sp := ⟨[rAgg api_CarC, rInt .i64], []⟩
theorem newelref07_Worst_sp_ok : newelref07_Worst_sp.Ok := ⟨(allCons (rAgg_ok api_CarC_ok api_CarC_len) (allCons (rInt_ok .i64) allNil)), eNil⟩
def newelref07_Worst_rs : Sp := ⟨[rTup [rInt .i64, rInt .i64]], []⟩
theorem newelref07_Worst_rs_ok : newelref07_Worst_rs.Ok := ⟨(allCons (rTup_ok (allCons (rInt_ok .i64) (allCons (rInt_ok .i64) allNil))) allNil), eNil⟩
def newelref07_Worst_run {R : Type} (N : Nat) (args : List SV) (T : Tab) (kf : SV × Tab → Option R) : Option R :=
  newelref07_Worst_m N (Cod.dec api_CarC (lget (toCs (lget args 0)))) (toI (lget args 1)) (fun q0 q1 => kf (lget [.tup [.int .i64 q0, .int .i64 q1]] 0, []))
def newelref07_Worst_lp {R : Type} (N : Nat) : Lp R := fun body S k => Option.none
noncomputable def newelref07_Worst_go {R : Type} (N : Nat) (args : List SV) (T : Tab) (kf : SV × Tab → Option R) : Option R :=
  newelref07_Worst N (Cod.dec api_CarC (lget (toCs (lget args 0)))) (toI (lget args 1)) (fun q0 q1 => kf (lget [.tup [.int .i64 q0, .int .i64 q1]] 0, []))
noncomputable def newelref07_Worst_cal {R : Type} (N : Nat) : Cal R := callM (newelref07_worst_cal N) 27 0 newelref07_Worst_sp (newelref07_Worst_go N)
theorem newelref07_Worst_cal_ok {R : Type} (N : Nat) : CalOk E.P (newelref07_Worst_cal (R := R) N) :=
  callM_ok hE (newelref07_worst_cal_ok N) (lp := newelref07_Worst_lp N) (jn := noJn) (keys := []) kNil (by kernel_rfl) (js := []) jNil (by kernel_rfl) newelref07_Worst_sp_ok newelref07_Worst_rs_ok (fun args T kf => Eq.trans (newelref07_Worst_def N (Cod.dec api_CarC (lget (toCs (lget args 0)))) (toI (lget args 1)) (fun q0 q1 => kf (lget [.tup [.int .i64 q0, .int .i64 q1]] 0, []))) (by kernel_rfl : newelref07_Worst_run N args T kf = fnM E (newelref07_worst_cal N) (newelref07_Worst_lp N) (noJn) 27 (newelref07_Worst_sp.vs args) (newelref07_Worst_sp.tab T) 0 (resK newelref07_Worst_rs kf)))
def newellaw07_Tall_m {R : Type} (N : Nat) (a475 : api_Car) (k : Bool → Option R) : Option R :=
  newelref07_CheckCar N a475 (fun r476 =>
  bif r476 == (0 : Int) then
   bif decide (api_Car.High a475 > (3 : Int)) then
    k true
   else
    k (decide (w64 (api_Car.Move a475 + api_Car.Stop a475) > (4 : Int)))
  else
   k false)
noncomputable def newellaw07_Tall {R : Type} : Nat → api_Car → (Bool → Option R) → Option R := lock (@newellaw07_Tall_m R)
theorem newellaw07_Tall_def {R : Type} (N : Nat) (a475 : api_Car) (k : Bool → Option R) : newellaw07_Tall N a475 k = newellaw07_Tall_m N a475 k := by unfold newellaw07_Tall; rw [lock_eq]
def newellaw07_Tall_sp : Sp := ⟨[rAgg api_CarC], []⟩
theorem newellaw07_Tall_sp_ok : newellaw07_Tall_sp.Ok := ⟨(allCons (rAgg_ok api_CarC_ok api_CarC_len) allNil), eNil⟩
def newellaw07_Tall_rs : Sp := ⟨[rBool], []⟩
theorem newellaw07_Tall_rs_ok : newellaw07_Tall_rs.Ok := ⟨(allCons rBool_ok allNil), eNil⟩
def newellaw07_Tall_run {R : Type} (N : Nat) (args : List SV) (T : Tab) (kf : SV × Tab → Option R) : Option R :=
  newellaw07_Tall_m N (Cod.dec api_CarC (lget (toCs (lget args 0)))) (fun q0 => kf (lget [.bool q0] 0, []))
def newellaw07_Tall_lp {R : Type} (N : Nat) : Lp R := fun body S k => Option.none
noncomputable def newellaw07_Tall_go {R : Type} (N : Nat) (args : List SV) (T : Tab) (kf : SV × Tab → Option R) : Option R :=
  newellaw07_Tall N (Cod.dec api_CarC (lget (toCs (lget args 0)))) (fun q0 => kf (lget [.bool q0] 0, []))
noncomputable def newellaw07_Tall_cal {R : Type} (N : Nat) : Cal R := callM (newelref07_Worst_cal N) 25 0 newellaw07_Tall_sp (newellaw07_Tall_go N)
theorem newellaw07_Tall_cal_ok {R : Type} (N : Nat) : CalOk E.P (newellaw07_Tall_cal (R := R) N) :=
  callM_ok hE (newelref07_Worst_cal_ok N) (lp := newellaw07_Tall_lp N) (jn := noJn) (keys := []) kNil (by kernel_rfl) (js := []) jNil (by kernel_rfl) newellaw07_Tall_sp_ok newellaw07_Tall_rs_ok (fun args T kf => Eq.trans (newellaw07_Tall_def N (Cod.dec api_CarC (lget (toCs (lget args 0)))) (fun q0 => kf (lget [.bool q0] 0, []))) (by kernel_rfl : newellaw07_Tall_run N args T kf = fnM E (newelref07_Worst_cal N) (newellaw07_Tall_lp N) (noJn) 25 (newellaw07_Tall_sp.vs args) (newellaw07_Tall_sp.tab T) 0 (resK newellaw07_Tall_rs kf)))
def calls_longest_1_m {R : Type} (N : Nat) (a565 : Int) (a566 : Arr Int) (a567 : Int) (k : Bool → Option R) : Option R :=
  bif decide ((0 : Int) ≤ a565) && decide (a565 < (↑(Arr.n a566) : Int)) then
   k (Arr.f a566 (Int.toNat a565) == a567)
  else
   Option.none
noncomputable def calls_longest_1 {R : Type} : Nat → Int → Arr Int → Int → (Bool → Option R) → Option R := lock (@calls_longest_1_m R)
theorem calls_longest_1_def {R : Type} (N : Nat) (a565 : Int) (a566 : Arr Int) (a567 : Int) (k : Bool → Option R) : calls_longest_1 N a565 a566 a567 k = calls_longest_1_m N a565 a566 a567 k := by unfold calls_longest_1; rw [lock_eq]
def calls_longest_1_sp : Sp := ⟨[rInt .i64, rPtr 0 0, rPtr 1 0], [(0, eBlk [rSl intC]), (1, eBlk [rInt .i64])]⟩
theorem calls_longest_1_sp_ok : calls_longest_1_sp.Ok := ⟨(allCons (rInt_ok .i64) (allCons (rPtr_ok 0 0) (allCons (rPtr_ok 1 0) allNil))), (eCons (eBlk_ok (allCons (rSl_ok intC_ok) allNil)) (eCons (eBlk_ok (allCons (rInt_ok .i64) allNil)) eNil))⟩
def calls_longest_1_rs : Sp := ⟨[rBool], [(0, eBlk [rSl intC]), (1, eBlk [rInt .i64])]⟩
theorem calls_longest_1_rs_ok : calls_longest_1_rs.Ok := ⟨(allCons rBool_ok allNil), (eCons (eBlk_ok (allCons (rSl_ok intC_ok) allNil)) (eCons (eBlk_ok (allCons (rInt_ok .i64) allNil)) eNil))⟩
def calls_longest_1_run {R : Type} (N : Nat) (args : List SV) (T : Tab) (kf : SV × Tab → Option R) : Option R :=
  calls_longest_1_m N (toI (lget args 0)) (lstC intC (lget (entCs (entAt T 0)) 0)) (toI (lget (entCs (entAt T 1)) 0)) (fun q0 => kf (lget [.bool q0] 0, [(0, .blk [slC intC (lstC intC (lget (entCs (entAt T 0)) 0))]), (1, .blk [.int .i64 (toI (lget (entCs (entAt T 1)) 0))])]))
def calls_longest_1_lp {R : Type} (N : Nat) : Lp R := fun body S k => Option.none
noncomputable def calls_longest_1_go {R : Type} (N : Nat) (args : List SV) (T : Tab) (kf : SV × Tab → Option R) : Option R :=
  calls_longest_1 N (toI (lget args 0)) (lstC intC (lget (entCs (entAt T 0)) 0)) (toI (lget (entCs (entAt T 1)) 0)) (fun q0 => kf (lget [.bool q0] 0, [(0, .blk [slC intC (lstC intC (lget (entCs (entAt T 0)) 0))]), (1, .blk [.int .i64 (toI (lget (entCs (entAt T 1)) 0))])]))
noncomputable def calls_longest_1_cal {R : Type} (N : Nat) : Cal R := callM (newellaw07_Tall_cal N) 80 2 calls_longest_1_sp (calls_longest_1_go N)
theorem calls_longest_1_cal_ok {R : Type} (N : Nat) : CalOk E.P (calls_longest_1_cal (R := R) N) :=
  callM_ok hE (newellaw07_Tall_cal_ok N) (lp := calls_longest_1_lp N) (jn := noJn) (keys := []) kNil (by kernel_rfl) (js := []) jNil (by kernel_rfl) calls_longest_1_sp_ok calls_longest_1_rs_ok (fun args T kf => Eq.trans (calls_longest_1_def N (toI (lget args 0)) (lstC intC (lget (entCs (entAt T 0)) 0)) (toI (lget (entCs (entAt T 1)) 0)) (fun q0 => kf (lget [.bool q0] 0, [(0, .blk [slC intC (lstC intC (lget (entCs (entAt T 0)) 0))]), (1, .blk [.int .i64 (toI (lget (entCs (entAt T 1)) 0))])]))) (by kernel_rfl : calls_longest_1_run N args T kf = fnM E (newellaw07_Tall_cal N) (calls_longest_1_lp N) (noJn) 80 (calls_longest_1_sp.vs args) (calls_longest_1_sp.tab T) 2 (resK calls_longest_1_rs kf)))
def calls_waits_v2_L9 : LoopSp := ⟨⟨[1, 2, 7, 8, 9, 10, 11, 12], ⟨(dr 1 ((rSl api_PressC) :: (rFunc 80 0 [rPtr 0 0, rPtr 1 0]) :: (dr 4 ((rRow 2) :: (rRow 3) :: (rPtr 4 0) :: (rInt .i64) :: (rInt .i64) :: (rRow 5) :: (dr 102 []))))), [(0, eBlk [rSl intC]), (1, eBlk [rInt .i64]), (2, eRow intC), (3, eFm .i64 intC), (4, eBlkC calls_cageC), (5, eRow intC)]⟩, 6⟩, [(some 2, ⟨[1, 2, 7, 8, 9, 10, 11, 12], ⟨(dr 1 ((rSl api_PressC) :: (rFunc 80 0 [rPtr 0 0, rPtr 1 0]) :: (dr 4 ((rRow 2) :: (rRow 3) :: (rPtr 4 0) :: (rInt .i64) :: (rInt .i64) :: (rRow 5) :: (dr 102 []))))), [(0, eBlk [rSl intC]), (1, eBlk [rInt .i64]), (2, eRow intC), (3, eFm .i64 intC), (4, eBlkC calls_cageC), (5, eRow intC)]⟩, 6⟩)]⟩
theorem calls_waits_v2_L9_ok : calls_waits_v2_L9.Ok := ⟨⟨(drCons 1 (allCons (rSl_ok api_PressC_ok) (allCons (rFunc_ok 80 0 (allCons (rPtr_ok 0 0) (allCons (rPtr_ok 1 0) allNil))) (drCons 4 (allCons (rRow_ok 2) (allCons (rRow_ok 3) (allCons (rPtr_ok 4 0) (allCons (rInt_ok .i64) (allCons (rInt_ok .i64) (allCons (rRow_ok 5) (drCons 102 allNil))))))))))), (eCons (eBlk_ok (allCons (rSl_ok intC_ok) allNil)) (eCons (eBlk_ok (allCons (rInt_ok .i64) allNil)) (eCons (eRow_ok intC_ok) (eCons (eFm_ok intC_ok) (eCons (eBlkC_ok calls_cageC_ok calls_cageC_len) (eCons (eRow_ok intC_ok) eNil))))))⟩, (xCons ⟨(drCons 1 (allCons (rSl_ok api_PressC_ok) (allCons (rFunc_ok 80 0 (allCons (rPtr_ok 0 0) (allCons (rPtr_ok 1 0) allNil))) (drCons 4 (allCons (rRow_ok 2) (allCons (rRow_ok 3) (allCons (rPtr_ok 4 0) (allCons (rInt_ok .i64) (allCons (rInt_ok .i64) (allCons (rRow_ok 5) (drCons 102 allNil))))))))))), (eCons (eBlk_ok (allCons (rSl_ok intC_ok) allNil)) (eCons (eBlk_ok (allCons (rInt_ok .i64) allNil)) (eCons (eRow_ok intC_ok) (eCons (eFm_ok intC_ok) (eCons (eBlkC_ok calls_cageC_ok calls_cageC_len) (eCons (eRow_ok intC_ok) eNil))))))⟩ xNil)⟩
def calls_waits_v2_h9 (v554 : Arr api_Press) (v555 : Int) (v556 : Int) (v557 : Arr Int) (v558 : Int) (v559 : Bool) (v560 : Arr Int) (v561 : Fm Int) (v562 : calls_cage) (v563 : Bool) (v564 : Arr Int) : St := ⟨(un 1 ((slC api_PressC v554) :: (.func 80 0 [.ptr 0 0, .ptr 1 0]) :: (un 4 ((.row 2) :: (.row 3) :: (.ptr 4 0) :: (.int .i64 v555) :: (.int .i64 v556) :: (.row 5) :: (un 102 []))))), [(0, .blk [slC intC v557]), (1, .blk [.int .i64 v558]), (2, rowE intC v559 v560), (3, fmE .i64 intC v561), (4, .blk (Cod.enc calls_cageC v562)), (5, rowE intC v563 v564)], 6⟩
def calls_waits_v2_x9_2 (v554 : Arr api_Press) (v556 : Int) (v557 : Arr Int) (v558 : Int) (v559 : Bool) (v560 : Arr Int) (v562 : calls_cage) (q1 : Int) (q7 : Fm Int) (q9 : Bool) (q10 : Arr Int) : St := ⟨(un 1 ((slC api_PressC v554) :: (.func 80 0 [.ptr 0 0, .ptr 1 0]) :: (un 4 ((.row 2) :: (.row 3) :: (.ptr 4 0) :: (.int .i64 q1) :: (.int .i64 v556) :: (.row 5) :: (un 102 []))))), [(0, .blk [slC intC v557]), (1, .blk [.int .i64 v558]), (2, rowE intC v559 v560), (3, fmE .i64 intC q7), (4, .blk (Cod.enc calls_cageC v562)), (5, rowE intC q9 q10)], 6⟩
def calls_waits_v2_b9 {R : Type} (N : Nat) (rc : Arr api_Press → Int → Int → Arr Int → Int → Bool → Arr Int → Fm Int → calls_cage → Bool → Arr Int → Option R) (v554 : Arr api_Press) (v555 : Int) (v556 : Int) (v557 : Arr Int) (v558 : Int) (v559 : Bool) (v560 : Arr Int) (v561 : Fm Int) (v562 : calls_cage) (v563 : Bool) (v564 : Arr Int) (k2 : Int → Fm Int → Bool → Arr Int → Option R) : Option R :=
  bif decide (v555 < (↑(Arr.n v554) : Int)) then
   bif decide ((0 : Int) ≤ v555) && decide (v555 < (↑(Arr.n v554) : Int)) then
    bif api_Press.At (Arr.f v554 (Int.toNat v555)) == v556 then
     calls_longest_1 N v555 v557 v558 (fun r568 =>
     bif r568 then
      bif decide ((0 : Int) ≤ v555) && decide (v555 < (↑(Arr.n v554) : Int)) then
       bif decide ((0 : Int) ≤ v555) && decide (v555 < (↑(Arr.n v554) : Int)) then
        bif room (fmL v561 (api_Press.Floor (Arr.f v554 (Int.toNat v555))) + (1 : Nat)) then
         bif decide (api_Press.Floor (Arr.f v554 (Int.toNat v555)) = api_Press.Floor (Arr.f v554 (Int.toNat v555))) then
          bif decide ((0 : Int) ≤ v555) && decide (v555 < (↑(Arr.n v554) : Int)) then
           bif room (Arr.n v564 + (1 : Nat)) then
            rc v554 (w64 (v555 + (1 : Int))) v556 v557 v558 v559 v560 (fmD intC (fHs (api_Press.Floor (Arr.f v554 (Int.toNat v555))) (Fm.has v561)) (fLn (api_Press.Floor (Arr.f v554 (Int.toNat v555))) (fmL v561 (api_Press.Floor (Arr.f v554 (Int.toNat v555))) + (1 : Nat)) (fmL v561)) (fGt (api_Press.Floor (Arr.f v554 (Int.toNat v555))) (catC (fmL v561 (api_Press.Floor (Arr.f v554 (Int.toNat v555)))) (fmG intC v561 (api_Press.Floor (Arr.f v554 (Int.toNat v555)))) (litC [SV.int IntKind.i64 (0 : Int)] [[SV.int IntKind.i64 v555]])) (fmG intC v561))) v562 false (lst intC (Arr.n v564 + (1 : Nat)) (catC (Arr.n v564) (Cod.cell intC (Arr.f v564)) (litC [SV.int IntKind.i64 (0 : Int)] [[SV.int IntKind.i64 (api_Press.Floor (Arr.f v554 (Int.toNat v555)))]])))
           else
            Option.none
          else
           Option.none
         else
          Option.none
        else
         Option.none
       else
        Option.none
      else
       Option.none
     else
      rc v554 (w64 (v555 + (1 : Int))) v556 v557 v558 v559 v560 v561 v562 v563 v564)
    else
     k2 v555 v561 v563 v564
   else
    Option.none
  else
   k2 v555 v561 v563 v564
def calls_waits_v2_l9 {R : Type} (N : Nat) : Nat → Arr api_Press → Int → Int → Arr Int → Int → Bool → Arr Int → Fm Int → calls_cage → Bool → Arr Int → (Int → Fm Int → Bool → Arr Int → Option R) → Option R
  | 0, _, _, _, _, _, _, _, _, _, _, _, _ => Option.none
  | n + 1, v554, v555, v556, v557, v558, v559, v560, v561, v562, v563, v564, k2 => calls_waits_v2_b9 N (fun v554 v555 v556 v557 v558 v559 v560 v561 v562 v563 v564 => calls_waits_v2_l9 N n v554 v555 v556 v557 v558 v559 v560 v561 v562 v563 v564 k2) v554 v555 v556 v557 v558 v559 v560 v561 v562 v563 v564 k2
def calls_waits_v2_L100000 : LoopSp := ⟨⟨[1, 2, 7, 8, 9, 10, 11, 13], ⟨(dr 1 ((rSl api_PressC) :: (rFunc 80 0 [rPtr 0 0, rPtr 1 0]) :: (dr 4 ((rRow 2) :: (rRow 3) :: (rPtr 4 0) :: (rInt .i64) :: (rInt .i64) :: (dr 1 ((rInt .i64) :: (dr 101 []))))))), [(0, eBlk [rSl intC]), (1, eBlk [rInt .i64]), (2, eRow intC), (3, eFm .i64 intC), (4, eBlkC calls_cageC)]⟩, 5⟩, [(some 1000000, ⟨[1, 2, 7, 8, 9, 10, 11], ⟨(dr 1 ((rSl api_PressC) :: (rFunc 80 0 [rPtr 0 0, rPtr 1 0]) :: (dr 4 ((rRow 2) :: (rRow 3) :: (rPtr 4 0) :: (rInt .i64) :: (rInt .i64) :: (dr 103 []))))), [(0, eBlk [rSl intC]), (1, eBlk [rInt .i64]), (2, eRow intC), (3, eFm .i64 intC), (4, eBlkC calls_cageC)]⟩, 7⟩)]⟩
theorem calls_waits_v2_L100000_ok : calls_waits_v2_L100000.Ok := ⟨⟨(drCons 1 (allCons (rSl_ok api_PressC_ok) (allCons (rFunc_ok 80 0 (allCons (rPtr_ok 0 0) (allCons (rPtr_ok 1 0) allNil))) (drCons 4 (allCons (rRow_ok 2) (allCons (rRow_ok 3) (allCons (rPtr_ok 4 0) (allCons (rInt_ok .i64) (allCons (rInt_ok .i64) (drCons 1 (allCons (rInt_ok .i64) (drCons 101 allNil)))))))))))), (eCons (eBlk_ok (allCons (rSl_ok intC_ok) allNil)) (eCons (eBlk_ok (allCons (rInt_ok .i64) allNil)) (eCons (eRow_ok intC_ok) (eCons (eFm_ok intC_ok) (eCons (eBlkC_ok calls_cageC_ok calls_cageC_len) eNil)))))⟩, (xCons ⟨(drCons 1 (allCons (rSl_ok api_PressC_ok) (allCons (rFunc_ok 80 0 (allCons (rPtr_ok 0 0) (allCons (rPtr_ok 1 0) allNil))) (drCons 4 (allCons (rRow_ok 2) (allCons (rRow_ok 3) (allCons (rPtr_ok 4 0) (allCons (rInt_ok .i64) (allCons (rInt_ok .i64) (drCons 103 allNil)))))))))), (eCons (eBlk_ok (allCons (rSl_ok intC_ok) allNil)) (eCons (eBlk_ok (allCons (rInt_ok .i64) allNil)) (eCons (eRow_ok intC_ok) (eCons (eFm_ok intC_ok) (eCons (eBlkC_ok calls_cageC_ok calls_cageC_len) eNil)))))⟩ xNil)⟩
def calls_waits_v2_x100000_n (v575 : Arr api_Press) (v576 : Int) (v577 : Int) (v579 : Arr Int) (v580 : Int) (v581 : Bool) (v584 : calls_cage) (q6 : Arr Int) (q7 : Fm Int) : St := ⟨(un 1 ((slC api_PressC v575) :: (.func 80 0 [.ptr 0 0, .ptr 1 0]) :: (un 4 ((.row 2) :: (.row 3) :: (.ptr 4 0) :: (.int .i64 v576) :: (.int .i64 v577) :: (un 103 []))))), [(0, .blk [slC intC v579]), (1, .blk [.int .i64 v580]), (2, rowE intC v581 q6), (3, fmE .i64 intC q7), (4, .blk (Cod.enc calls_cageC v584))], 7⟩
def calls_waits_v2_j0_m {R : Type} (N : Nat) (v575 : Arr api_Press) (v576 : Int) (v577 : Int) (v578 : Int) (v579 : Arr Int) (v580 : Int) (v581 : Bool) (v582 : Arr Int) (v583 : Fm Int) (v584 : calls_cage) (kn : Arr Int → Fm Int → Option R) : Option R :=
  waitsRound v575 v577 v578 v581 v582 v583 kn
noncomputable def calls_waits_v2_j0 {R : Type} : Nat → Arr api_Press → Int → Int → Int → Arr Int → Int → Bool → Arr Int → Fm Int → calls_cage → (Arr Int → Fm Int → Option R) → Option R := lock (@calls_waits_v2_j0_m R)
theorem calls_waits_v2_j0_def {R : Type} (N : Nat) (v575 : Arr api_Press) (v576 : Int) (v577 : Int) (v578 : Int) (v579 : Arr Int) (v580 : Int) (v581 : Bool) (v582 : Arr Int) (v583 : Fm Int) (v584 : calls_cage) (kn : Arr Int → Fm Int → Option R) : calls_waits_v2_j0 N v575 v576 v577 v578 v579 v580 v581 v582 v583 v584 kn = calls_waits_v2_j0_m N v575 v576 v577 v578 v579 v580 v581 v582 v583 v584 kn := by unfold calls_waits_v2_j0; rw [lock_eq]
def calls_waits_v2_L6 : LoopSp := ⟨⟨[1, 2, 7, 8, 9, 10, 11], ⟨(dr 1 ((rSl api_PressC) :: (rFunc 80 0 [rPtr 0 0, rPtr 1 0]) :: (dr 4 ((rRow 2) :: (rRow 3) :: (rPtr 4 0) :: (rInt .i64) :: (rInt .i64) :: (dr 103 []))))), [(0, eBlk [rSl intC]), (1, eBlk [rInt .i64]), (2, eRow intC), (3, eFm .i64 intC), (4, eBlkC calls_cageC)]⟩, 5⟩, [(some 0, ⟨[7], ⟨(dr 7 ((rRow 2) :: (dr 107 []))), [(0, eBlk [rSl intC]), (1, eBlk [rInt .i64]), (2, eRow intC)]⟩, 3⟩)]⟩
theorem calls_waits_v2_L6_ok : calls_waits_v2_L6.Ok := ⟨⟨(drCons 1 (allCons (rSl_ok api_PressC_ok) (allCons (rFunc_ok 80 0 (allCons (rPtr_ok 0 0) (allCons (rPtr_ok 1 0) allNil))) (drCons 4 (allCons (rRow_ok 2) (allCons (rRow_ok 3) (allCons (rPtr_ok 4 0) (allCons (rInt_ok .i64) (allCons (rInt_ok .i64) (drCons 103 allNil)))))))))), (eCons (eBlk_ok (allCons (rSl_ok intC_ok) allNil)) (eCons (eBlk_ok (allCons (rInt_ok .i64) allNil)) (eCons (eRow_ok intC_ok) (eCons (eFm_ok intC_ok) (eCons (eBlkC_ok calls_cageC_ok calls_cageC_len) eNil)))))⟩, (xCons ⟨(drCons 7 (allCons (rRow_ok 2) (drCons 107 allNil))), (eCons (eBlk_ok (allCons (rSl_ok intC_ok) allNil)) (eCons (eBlk_ok (allCons (rInt_ok .i64) allNil)) (eCons (eRow_ok intC_ok) eNil)))⟩ xNil)⟩
def calls_waits_v2_h6 (v545 : Arr api_Press) (v546 : Int) (v547 : Int) (v548 : Arr Int) (v549 : Int) (v550 : Bool) (v551 : Arr Int) (v552 : Fm Int) (v553 : calls_cage) : St := ⟨(un 1 ((slC api_PressC v545) :: (.func 80 0 [.ptr 0 0, .ptr 1 0]) :: (un 4 ((.row 2) :: (.row 3) :: (.ptr 4 0) :: (.int .i64 v546) :: (.int .i64 v547) :: (un 103 []))))), [(0, .blk [slC intC v548]), (1, .blk [.int .i64 v549]), (2, rowE intC v550 v551), (3, fmE .i64 intC v552), (4, .blk (Cod.enc calls_cageC v553))], 5⟩
def calls_waits_v2_x6_0 (v548 : Arr Int) (v549 : Int) (v550 : Bool) (q3 : Arr Int) : St := ⟨(un 7 ((.row 2) :: (un 107 []))), [(0, .blk [slC intC v548]), (1, .blk [.int .i64 v549]), (2, rowE intC v550 q3)], 3⟩
def calls_waits_v2_b6 {R : Type} (N : Nat) (rc : Arr api_Press → Int → Int → Arr Int → Int → Bool → Arr Int → Fm Int → calls_cage → Option R) (v545 : Arr api_Press) (v546 : Int) (v547 : Int) (v548 : Arr Int) (v549 : Int) (v550 : Bool) (v551 : Arr Int) (v552 : Fm Int) (v553 : calls_cage) (k0 : Arr Int → Option R) : Option R :=
  bif decide (v546 < (↑(Arr.n v545) : Int)) then
   calls_waits_v2_l9 N N v545 v546 v547 v548 v549 v550 v551 v552 v553 true (lst intC (0 : Nat) (zeroC [SV.int IntKind.i64 (0 : Int)])) (fun r569 r570 r571 r572 =>
    calls_cage_tick N r572 v553 (fun r573 r574 =>
    calls_waits_v2_j0 N v545 r569 v547 r573 v548 v549 v550 v551 r570 r574 (fun r585 r586 =>
     rc v545 r569 (w64 (v547 + (1 : Int))) v548 v549 v550 r585 r586 r574)))
  else
   bif api_Ride.Wants (calls_cage.Ride v553) != (0 : Int) then
    calls_waits_v2_l9 N N v545 v546 v547 v548 v549 v550 v551 v552 v553 true (lst intC (0 : Nat) (zeroC [SV.int IntKind.i64 (0 : Int)])) (fun r587 r588 r589 r590 =>
     calls_cage_tick N r590 v553 (fun r591 r592 =>
     calls_waits_v2_j0 N v545 r587 v547 r591 v548 v549 v550 v551 r588 r592 (fun r593 r594 =>
      rc v545 r587 (w64 (v547 + (1 : Int))) v548 v549 v550 r593 r594 r592)))
   else
    k0 v551
def calls_waits_v2_l6 {R : Type} (N : Nat) : Nat → Arr api_Press → Int → Int → Arr Int → Int → Bool → Arr Int → Fm Int → calls_cage → (Arr Int → Option R) → Option R
  | 0, _, _, _, _, _, _, _, _, _, _ => Option.none
  | n + 1, v545, v546, v547, v548, v549, v550, v551, v552, v553, k0 => calls_waits_v2_b6 N (fun v545 v546 v547 v548 v549 v550 v551 v552 v553 => calls_waits_v2_l6 N n v545 v546 v547 v548 v549 v550 v551 v552 v553 k0) v545 v546 v547 v548 v549 v550 v551 v552 v553 k0
def calls_waits_v2_m {R : Type} (N : Nat) (a540 : api_Car) (a541 : Arr api_Press) (a542 : Arr Int) (a543 : Int) (k : Bool → Arr Int → Option R) : Option R :=
  bif decide ((↑(Arr.n a541) : Int) ≤ (↑(Arr.n a541) : Int)) && decide ((↑(Arr.n a541) : Int) ≤ (1073741824 : Int)) then
   calls_begin N a540 (fun r544 =>
   calls_waits_v2_l6 N N a541 (0 : Int) (0 : Int) a542 a543 false (lst intC (Int.toNat (↑(Arr.n a541) : Int)) (zeroC [SV.int IntKind.i64 (0 : Int)])) (fmD intC noHs noLn (noGt [SV.int IntKind.i64 (0 : Int)])) r544 (fun r595 =>
    k false r595))
  else
   Option.none
noncomputable def calls_waits_v2 {R : Type} : Nat → api_Car → Arr api_Press → Arr Int → Int → (Bool → Arr Int → Option R) → Option R := lock (@calls_waits_v2_m R)
theorem calls_waits_v2_def {R : Type} (N : Nat) (a540 : api_Car) (a541 : Arr api_Press) (a542 : Arr Int) (a543 : Int) (k : Bool → Arr Int → Option R) : calls_waits_v2 N a540 a541 a542 a543 k = calls_waits_v2_m N a540 a541 a542 a543 k := by unfold calls_waits_v2; rw [lock_eq]
def calls_waits_v2_sp : Sp := ⟨[rAgg api_CarC, rSl api_PressC, rFunc 80 0 [rPtr 0 0, rPtr 1 0]], [(0, eBlk [rSl intC]), (1, eBlk [rInt .i64])]⟩
theorem calls_waits_v2_sp_ok : calls_waits_v2_sp.Ok := ⟨(allCons (rAgg_ok api_CarC_ok api_CarC_len) (allCons (rSl_ok api_PressC_ok) (allCons (rFunc_ok 80 0 (allCons (rPtr_ok 0 0) (allCons (rPtr_ok 1 0) allNil))) allNil))), (eCons (eBlk_ok (allCons (rSl_ok intC_ok) allNil)) (eCons (eBlk_ok (allCons (rInt_ok .i64) allNil)) eNil))⟩
def calls_waits_v2_rs : Sp := ⟨[rRow 2], [(0, eBlk [rSl intC]), (1, eBlk [rInt .i64]), (2, eRow intC)]⟩
theorem calls_waits_v2_rs_ok : calls_waits_v2_rs.Ok := ⟨(allCons (rRow_ok 2) allNil), (eCons (eBlk_ok (allCons (rSl_ok intC_ok) allNil)) (eCons (eBlk_ok (allCons (rInt_ok .i64) allNil)) (eCons (eRow_ok intC_ok) eNil)))⟩
def calls_waits_v2_run {R : Type} (N : Nat) (args : List SV) (T : Tab) (kf : SV × Tab → Option R) : Option R :=
  calls_waits_v2_m N (Cod.dec api_CarC (lget (toCs (lget args 0)))) (lstC api_PressC (lget args 1)) (lstC intC (lget (entCs (entAt T 0)) 0)) (toI (lget (entCs (entAt T 1)) 0)) (fun q2 q3 => kf (lget [.row 2] 0, [(0, .blk [slC intC (lstC intC (lget (entCs (entAt T 0)) 0))]), (1, .blk [.int .i64 (toI (lget (entCs (entAt T 1)) 0))]), (2, rowE intC q2 q3)]))
def calls_waits_v2_d100000 {R : Type} (N : Nat) (S0 : St) (k : Exit → St → Option R) : Option R :=
  calls_waits_v2_j0 N (lstC api_PressC (lget S0.tmps 1)) (toI (lget S0.tmps 10)) (toI (lget S0.tmps 11)) (toI (lget S0.tmps 13)) (lstC intC (lget (entCs (entAt S0.tab 0)) 0)) (toI (lget (entCs (entAt S0.tab 1)) 0)) (entNl (entAt S0.tab 2)) (lst intC (entN (entAt S0.tab 2)) (entC (entAt S0.tab 2))) (fmD intC (entFh (entAt S0.tab 3)) (entFl (entAt S0.tab 3)) (entFg (entAt S0.tab 3))) (Cod.dec calls_cageC (lget (entCs (entAt S0.tab 4)))) (fun q6 q7 => k .normal (calls_waits_v2_x100000_n (lstC api_PressC (lget S0.tmps 1)) (toI (lget S0.tmps 10)) (toI (lget S0.tmps 11)) (lstC intC (lget (entCs (entAt S0.tab 0)) 0)) (toI (lget (entCs (entAt S0.tab 1)) 0)) (entNl (entAt S0.tab 2)) (Cod.dec calls_cageC (lget (entCs (entAt S0.tab 4)))) q6 q7))
def calls_waits_v2_d9 {R : Type} (N : Nat) (S0 : St) (k : Exit → St → Option R) : Option R :=
  calls_waits_v2_l9 N N (lstC api_PressC (lget S0.tmps 1)) (toI (lget S0.tmps 10)) (toI (lget S0.tmps 11)) (lstC intC (lget (entCs (entAt S0.tab 0)) 0)) (toI (lget (entCs (entAt S0.tab 1)) 0)) (entNl (entAt S0.tab 2)) (lst intC (entN (entAt S0.tab 2)) (entC (entAt S0.tab 2))) (fmD intC (entFh (entAt S0.tab 3)) (entFl (entAt S0.tab 3)) (entFg (entAt S0.tab 3))) (Cod.dec calls_cageC (lget (entCs (entAt S0.tab 4)))) (entNl (entAt S0.tab 5)) (lst intC (entN (entAt S0.tab 5)) (entC (entAt S0.tab 5))) (fun q1 q7 q9 q10 => k (.exit 2) (calls_waits_v2_x9_2 (lstC api_PressC (lget S0.tmps 1)) (toI (lget S0.tmps 11)) (lstC intC (lget (entCs (entAt S0.tab 0)) 0)) (toI (lget (entCs (entAt S0.tab 1)) 0)) (entNl (entAt S0.tab 2)) (lst intC (entN (entAt S0.tab 2)) (entC (entAt S0.tab 2))) (Cod.dec calls_cageC (lget (entCs (entAt S0.tab 4)))) q1 q7 q9 q10))
def calls_waits_v2_d6 {R : Type} (N : Nat) (S0 : St) (k : Exit → St → Option R) : Option R :=
  calls_waits_v2_l6 N N (lstC api_PressC (lget S0.tmps 1)) (toI (lget S0.tmps 10)) (toI (lget S0.tmps 11)) (lstC intC (lget (entCs (entAt S0.tab 0)) 0)) (toI (lget (entCs (entAt S0.tab 1)) 0)) (entNl (entAt S0.tab 2)) (lst intC (entN (entAt S0.tab 2)) (entC (entAt S0.tab 2))) (fmD intC (entFh (entAt S0.tab 3)) (entFl (entAt S0.tab 3)) (entFg (entAt S0.tab 3))) (Cod.dec calls_cageC (lget (entCs (entAt S0.tab 4)))) (fun q3 => k (.exit 0) (calls_waits_v2_x6_0 (lstC intC (lget (entCs (entAt S0.tab 0)) 0)) (toI (lget (entCs (entAt S0.tab 1)) 0)) (entNl (entAt S0.tab 2)) q3))
def calls_waits_v2_lp {R : Type} (N : Nat) : Lp R := fun body S k => bif (Go.Sx.keyOf body).getD 0 == 6 then (calls_waits_v2_L6.head.raw 2 S (fun S0 => calls_waits_v2_d6 N S0 k)) else bif (Go.Sx.keyOf body).getD 0 == 9 then (calls_waits_v2_L9.head.raw 2 S (fun S0 => calls_waits_v2_d9 N S0 k)) else Option.none
def calls_waits_v2_jn {R : Type} (N : Nat) : Jn R := fun b => bif isJ 15 37 b then some (fun S k => calls_waits_v2_L100000.head.raw 2 S (fun S0 => calls_waits_v2_d100000 N S0 k)) else Option.none
theorem calls_waits_v2_l6_eq {R : Type} (N : Nat) (k : Exit → St → Option R) (n : Nat) : ∀ (v0 : Arr api_Press) (v1 : Int) (v2 : Int) (v3 : Arr Int) (v4 : Int) (v5 : Bool) (v6 : Arr Int) (v7 : Fm Int) (v8 : calls_cage), loopM E.Θ (calls_longest_1_cal N) (calls_waits_v2_lp N) (calls_waits_v2_jn N) 2 calls_waits_v2_L6 (bodyAt E 51 6) n (calls_waits_v2_h6 v0 v1 v2 v3 v4 v5 v6 v7 v8) k = calls_waits_v2_l6 N n v0 v1 v2 v3 v4 v5 v6 v7 v8 (fun q3 => k (.exit 0) (calls_waits_v2_x6_0 v3 v4 v5 q3)) := by
  induction n with
  | zero => intro v0 v1 v2 v3 v4 v5 v6 v7 v8; rfl
  | succ n ih =>
    intro v0 v1 v2 v3 v4 v5 v6 v7 v8
    refine Eq.trans (b := calls_waits_v2_b6 N (fun v0 v1 v2 v3 v4 v5 v6 v7 v8 => loopM E.Θ (calls_longest_1_cal N) (calls_waits_v2_lp N) (calls_waits_v2_jn N) 2 calls_waits_v2_L6 (bodyAt E 51 6) n (calls_waits_v2_h6 v0 v1 v2 v3 v4 v5 v6 v7 v8) k) v0 v1 v2 v3 v4 v5 v6 v7 v8 (fun q3 => k (.exit 0) (calls_waits_v2_x6_0 v3 v4 v5 q3))) (by kernel_rfl) ?_
    have h : (fun (v0 : Arr api_Press) (v1 : Int) (v2 : Int) (v3 : Arr Int) (v4 : Int) (v5 : Bool) (v6 : Arr Int) (v7 : Fm Int) (v8 : calls_cage) => loopM E.Θ (calls_longest_1_cal N) (calls_waits_v2_lp N) (calls_waits_v2_jn N) 2 calls_waits_v2_L6 (bodyAt E 51 6) n (calls_waits_v2_h6 v0 v1 v2 v3 v4 v5 v6 v7 v8) k) = (fun (v0 : Arr api_Press) (v1 : Int) (v2 : Int) (v3 : Arr Int) (v4 : Int) (v5 : Bool) (v6 : Arr Int) (v7 : Fm Int) (v8 : calls_cage) => calls_waits_v2_l6 N n v0 v1 v2 v3 v4 v5 v6 v7 v8 (fun q3 => k (.exit 0) (calls_waits_v2_x6_0 v3 v4 v5 q3))) := funext fun v0 => funext fun v1 => funext fun v2 => funext fun v3 => funext fun v4 => funext fun v5 => funext fun v6 => funext fun v7 => funext fun v8 => ih v0 v1 v2 v3 v4 v5 v6 v7 v8
    rw [h]
    rfl
theorem calls_waits_v2_l9_eq {R : Type} (N : Nat) (k : Exit → St → Option R) (n : Nat) : ∀ (v0 : Arr api_Press) (v1 : Int) (v2 : Int) (v3 : Arr Int) (v4 : Int) (v5 : Bool) (v6 : Arr Int) (v7 : Fm Int) (v8 : calls_cage) (v9 : Bool) (v10 : Arr Int), loopM E.Θ (calls_longest_1_cal N) (calls_waits_v2_lp N) (calls_waits_v2_jn N) 2 calls_waits_v2_L9 (bodyAt E 51 9) n (calls_waits_v2_h9 v0 v1 v2 v3 v4 v5 v6 v7 v8 v9 v10) k = calls_waits_v2_l9 N n v0 v1 v2 v3 v4 v5 v6 v7 v8 v9 v10 (fun q1 q7 q9 q10 => k (.exit 2) (calls_waits_v2_x9_2 v0 v2 v3 v4 v5 v6 v8 q1 q7 q9 q10)) := by
  induction n with
  | zero => intro v0 v1 v2 v3 v4 v5 v6 v7 v8 v9 v10; rfl
  | succ n ih =>
    intro v0 v1 v2 v3 v4 v5 v6 v7 v8 v9 v10
    refine Eq.trans (b := calls_waits_v2_b9 N (fun v0 v1 v2 v3 v4 v5 v6 v7 v8 v9 v10 => loopM E.Θ (calls_longest_1_cal N) (calls_waits_v2_lp N) (calls_waits_v2_jn N) 2 calls_waits_v2_L9 (bodyAt E 51 9) n (calls_waits_v2_h9 v0 v1 v2 v3 v4 v5 v6 v7 v8 v9 v10) k) v0 v1 v2 v3 v4 v5 v6 v7 v8 v9 v10 (fun q1 q7 q9 q10 => k (.exit 2) (calls_waits_v2_x9_2 v0 v2 v3 v4 v5 v6 v8 q1 q7 q9 q10))) (by kernel_rfl) ?_
    have h : (fun (v0 : Arr api_Press) (v1 : Int) (v2 : Int) (v3 : Arr Int) (v4 : Int) (v5 : Bool) (v6 : Arr Int) (v7 : Fm Int) (v8 : calls_cage) (v9 : Bool) (v10 : Arr Int) => loopM E.Θ (calls_longest_1_cal N) (calls_waits_v2_lp N) (calls_waits_v2_jn N) 2 calls_waits_v2_L9 (bodyAt E 51 9) n (calls_waits_v2_h9 v0 v1 v2 v3 v4 v5 v6 v7 v8 v9 v10) k) = (fun (v0 : Arr api_Press) (v1 : Int) (v2 : Int) (v3 : Arr Int) (v4 : Int) (v5 : Bool) (v6 : Arr Int) (v7 : Fm Int) (v8 : calls_cage) (v9 : Bool) (v10 : Arr Int) => calls_waits_v2_l9 N n v0 v1 v2 v3 v4 v5 v6 v7 v8 v9 v10 (fun q1 q7 q9 q10 => k (.exit 2) (calls_waits_v2_x9_2 v0 v2 v3 v4 v5 v6 v8 q1 q7 q9 q10))) := funext fun v0 => funext fun v1 => funext fun v2 => funext fun v3 => funext fun v4 => funext fun v5 => funext fun v6 => funext fun v7 => funext fun v8 => funext fun v9 => funext fun v10 => ih v0 v1 v2 v3 v4 v5 v6 v7 v8 v9 v10
    rw [h]
    rfl
theorem calls_waits_v2_k16 {R : Type} (N : Nat) : LpKey (R := R) E 51 2 (calls_waits_v2_lp N) 16 := lpKey_none fun S k => by kernel_rfl
theorem calls_waits_v2_k20 {R : Type} (N : Nat) : LpKey (R := R) E 51 2 (calls_waits_v2_lp N) 20 := lpKey_none fun S k => by kernel_rfl
theorem calls_waits_v2_k9 {R : Type} (N : Nat) : LpKey (R := R) E 51 2 (calls_waits_v2_lp N) 9 :=
  lpKey_of hE (calls_longest_1_cal_ok N) (lp := calls_waits_v2_lp N) (jn := calls_waits_v2_jn N) calls_waits_v2_L9_ok [] kNil (by kernel_rfl) [] jNil (by kernel_rfl) N fun S k =>
    Eq.trans (b := calls_waits_v2_L9.head.raw 2 S (fun S0 => calls_waits_v2_d9 N S0 k)) (by kernel_rfl) (congrArg (calls_waits_v2_L9.head.raw 2 S) (funext fun S0 => Eq.trans (calls_waits_v2_l9_eq N k N (lstC api_PressC (lget S0.tmps 1)) (toI (lget S0.tmps 10)) (toI (lget S0.tmps 11)) (lstC intC (lget (entCs (entAt S0.tab 0)) 0)) (toI (lget (entCs (entAt S0.tab 1)) 0)) (entNl (entAt S0.tab 2)) (lst intC (entN (entAt S0.tab 2)) (entC (entAt S0.tab 2))) (fmD intC (entFh (entAt S0.tab 3)) (entFl (entAt S0.tab 3)) (entFg (entAt S0.tab 3))) (Cod.dec calls_cageC (lget (entCs (entAt S0.tab 4)))) (entNl (entAt S0.tab 5)) (lst intC (entN (entAt S0.tab 5)) (entC (entAt S0.tab 5)))).symm (by kernel_rfl)))
theorem calls_waits_v2_q0 {R : Type} (N : Nat) : JnKey (R := R) E 51 2 (calls_waits_v2_jn N) (15, 37) :=
  jnKey_hand calls_waits_v2_L100000_ok.head (fun S k => calls_waits_v2_L100000.head.raw 2 S (fun S0 => calls_waits_v2_d100000 N S0 k)) (by kernel_rfl) (fun S0 k => calls_waits_v2_d100000 N S0 k) (fun S k => rfl) fun S0 k r h =>
    waitsRound_ok2 (lstC api_PressC (lget S0.tmps 1)) (toI (lget S0.tmps 10)) (toI (lget S0.tmps 11)) (toI (lget S0.tmps 13)) (lstC intC (lget (entCs (entAt S0.tab 0)) 0)) (toI (lget (entCs (entAt S0.tab 1)) 0)) (entNl (entAt S0.tab 2)) (lst intC (entN (entAt S0.tab 2)) (entC (entAt S0.tab 2))) (fmD intC (entFh (entAt S0.tab 3)) (entFl (entAt S0.tab 3)) (entFg (entAt S0.tab 3))) (Cod.dec calls_cageC (lget (entCs (entAt S0.tab 4)))) h (Eq.trans (calls_waits_v2_j0_def N (lstC api_PressC (lget S0.tmps 1)) (toI (lget S0.tmps 10)) (toI (lget S0.tmps 11)) (toI (lget S0.tmps 13)) (lstC intC (lget (entCs (entAt S0.tab 0)) 0)) (toI (lget (entCs (entAt S0.tab 1)) 0)) (entNl (entAt S0.tab 2)) (lst intC (entN (entAt S0.tab 2)) (entC (entAt S0.tab 2))) (fmD intC (entFh (entAt S0.tab 3)) (entFl (entAt S0.tab 3)) (entFg (entAt S0.tab 3))) (Cod.dec calls_cageC (lget (entCs (entAt S0.tab 4)))) (fun q6 q7 => k .normal (calls_waits_v2_x100000_n (lstC api_PressC (lget S0.tmps 1)) (toI (lget S0.tmps 10)) (toI (lget S0.tmps 11)) (lstC intC (lget (entCs (entAt S0.tab 0)) 0)) (toI (lget (entCs (entAt S0.tab 1)) 0)) (entNl (entAt S0.tab 2)) (Cod.dec calls_cageC (lget (entCs (entAt S0.tab 4)))) q6 q7))) (by kernel_rfl)) (by kernel_rfl)
theorem calls_waits_v2_k6 {R : Type} (N : Nat) : LpKey (R := R) E 51 2 (calls_waits_v2_lp N) 6 :=
  lpKey_of hE (calls_longest_1_cal_ok N) (lp := calls_waits_v2_lp N) (jn := calls_waits_v2_jn N) calls_waits_v2_L6_ok [9, 16, 20] (kCons (calls_waits_v2_k9 N) (kCons (calls_waits_v2_k16 N) (kCons (calls_waits_v2_k20 N) kNil))) (by kernel_rfl) [(15, 37)] (jCons (calls_waits_v2_q0 N) jNil) (by kernel_rfl) N fun S k =>
    Eq.trans (b := calls_waits_v2_L6.head.raw 2 S (fun S0 => calls_waits_v2_d6 N S0 k)) (by kernel_rfl) (congrArg (calls_waits_v2_L6.head.raw 2 S) (funext fun S0 => Eq.trans (calls_waits_v2_l6_eq N k N (lstC api_PressC (lget S0.tmps 1)) (toI (lget S0.tmps 10)) (toI (lget S0.tmps 11)) (lstC intC (lget (entCs (entAt S0.tab 0)) 0)) (toI (lget (entCs (entAt S0.tab 1)) 0)) (entNl (entAt S0.tab 2)) (lst intC (entN (entAt S0.tab 2)) (entC (entAt S0.tab 2))) (fmD intC (entFh (entAt S0.tab 3)) (entFl (entAt S0.tab 3)) (entFg (entAt S0.tab 3))) (Cod.dec calls_cageC (lget (entCs (entAt S0.tab 4))))).symm (by kernel_rfl)))
noncomputable def calls_waits_v2_go {R : Type} (N : Nat) (args : List SV) (T : Tab) (kf : SV × Tab → Option R) : Option R :=
  calls_waits_v2 N (Cod.dec api_CarC (lget (toCs (lget args 0)))) (lstC api_PressC (lget args 1)) (lstC intC (lget (entCs (entAt T 0)) 0)) (toI (lget (entCs (entAt T 1)) 0)) (fun q2 q3 => kf (lget [.row 2] 0, [(0, .blk [slC intC (lstC intC (lget (entCs (entAt T 0)) 0))]), (1, .blk [.int .i64 (toI (lget (entCs (entAt T 1)) 0))]), (2, rowE intC q2 q3)]))
noncomputable def calls_waits_v2_cal {R : Type} (N : Nat) : Cal R := callM (calls_longest_1_cal N) 51 2 calls_waits_v2_sp (calls_waits_v2_go N)
theorem calls_waits_v2_cal_ok {R : Type} (N : Nat) : CalOk E.P (calls_waits_v2_cal (R := R) N) :=
  callM_ok hE (calls_longest_1_cal_ok N) (lp := calls_waits_v2_lp N) (jn := calls_waits_v2_jn N) (keys := [6, 9, 16, 20]) (kCons (calls_waits_v2_k6 N) (kCons (calls_waits_v2_k9 N) (kCons (calls_waits_v2_k16 N) (kCons (calls_waits_v2_k20 N) kNil)))) (by kernel_rfl) (js := [(15, 37)]) (jCons (calls_waits_v2_q0 N) jNil) (by kernel_rfl) calls_waits_v2_sp_ok calls_waits_v2_rs_ok (fun args T kf => Eq.trans (calls_waits_v2_def N (Cod.dec api_CarC (lget (toCs (lget args 0)))) (lstC api_PressC (lget args 1)) (lstC intC (lget (entCs (entAt T 0)) 0)) (toI (lget (entCs (entAt T 1)) 0)) (fun q2 q3 => kf (lget [.row 2] 0, [(0, .blk [slC intC (lstC intC (lget (entCs (entAt T 0)) 0))]), (1, .blk [.int .i64 (toI (lget (entCs (entAt T 1)) 0))]), (2, rowE intC q2 q3)]))) (by kernel_rfl : calls_waits_v2_run N args T kf = fnM E (calls_longest_1_cal N) (calls_waits_v2_lp N) (calls_waits_v2_jn N) 51 (calls_waits_v2_sp.vs args) (calls_waits_v2_sp.tab T) 2 (resK calls_waits_v2_rs kf)))
end
end Go.Proofs.Ytlphgonhenegoaa
