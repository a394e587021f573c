/-
  Models of the functions, and that they are what the code does. Written by a program.
-/
import Derived.Test.YtpcmpbellmiijaaG1
set_option maxRecDepth 100000
set_option maxHeartbeats 0
set_option linter.unusedVariables false
namespace Go.Proofs.Ytpcmpbellmiijaa
open Go.Sx
noncomputable section
def drive_Capacity_L8 : LoopSp := ⟨⟨[5, 6, 7], ⟨(dr 5 ((rFunc 60 0 [rPtr 0 0]) :: (rInt .i64) :: (rInt .i64) :: (dr 25 []))), [(0, eBlk [rBool, rInt .i64, rInt .i64, rInt .i64, rInt .i64, rSl api_BrakeC])]⟩, 1⟩, [(some 0, ⟨[6], ⟨(dr 6 ((rInt .i64) :: (dr 26 []))), []⟩, 0⟩)]⟩
theorem drive_Capacity_L8_ok : drive_Capacity_L8.Ok := ⟨⟨(drCons 5 (allCons (rFunc_ok 60 0 (allCons (rPtr_ok 0 0) allNil)) (allCons (rInt_ok .i64) (allCons (rInt_ok .i64) (drCons 25 allNil))))), (eCons (eBlk_ok (allCons rBool_ok (allCons (rInt_ok .i64) (allCons (rInt_ok .i64) (allCons (rInt_ok .i64) (allCons (rInt_ok .i64) (allCons (rSl_ok api_BrakeC_ok) allNil))))))) eNil)⟩, (xCons ⟨(drCons 6 (allCons (rInt_ok .i64) (drCons 26 allNil))), eNil⟩ xNil)⟩
def drive_Capacity_h8 (v429 : Int) (v430 : Int) (v431 : Bool) (v432 : Int) (v433 : Int) (v434 : Int) (v435 : Int) (v436 : Arr api_Brake) : St := ⟨(un 5 ((.func 60 0 [.ptr 0 0]) :: (.int .i64 v429) :: (.int .i64 v430) :: (un 25 []))), [(0, .blk [.bool v431, .int .i64 v432, .int .i64 v433, .int .i64 v434, .int .i64 v435, slC api_BrakeC v436])], 1⟩
def drive_Capacity_x8_0 (q0 : Int) : St := ⟨(un 6 ((.int .i64 q0) :: (un 26 []))), [], 0⟩
def drive_Capacity_b8 {R : Type} (N : Nat) (rc : Int → Int → Bool → Int → Int → Int → Int → Arr api_Brake → Option R) (v429 : Int) (v430 : Int) (v431 : Bool) (v432 : Int) (v433 : Int) (v434 : Int) (v435 : Int) (v436 : Arr api_Brake) (k0 : Int → Option R) : Option R :=
  bif decide (v429 < v430) then
   drive_Capacity_1 N (w64 (Int.tdiv (w64 (w64 (v429 + v430) + (1 : Int))) (2 : Int))) v431 v432 v433 v434 v435 v436 (fun r437 =>
   bif r437 then
    rc (w64 (Int.tdiv (w64 (w64 (v429 + v430) + (1 : Int))) (2 : Int))) v430 v431 v432 v433 v434 v435 v436
   else
    rc v429 (w64 (w64 (Int.tdiv (w64 (w64 (v429 + v430) + (1 : Int))) (2 : Int)) - (1 : Int))) v431 v432 v433 v434 v435 v436)
  else
   k0 v429
def drive_Capacity_l8 {R : Type} (N : Nat) : Nat → Int → Int → Bool → Int → Int → Int → Int → Arr api_Brake → (Int → Option R) → Option R
  | 0, _, _, _, _, _, _, _, _, _ => Option.none
  | n + 1, v429, v430, v431, v432, v433, v434, v435, v436, k0 => drive_Capacity_b8 N (fun v429 v430 v431 v432 v433 v434 v435 v436 => drive_Capacity_l8 N n v429 v430 v431 v432 v433 v434 v435 v436 k0) v429 v430 v431 v432 v433 v434 v435 v436 k0


def drive_Capacity_m {R : Type} (N : Nat) (a419 : api_Escalator) (k : Int → Int → Option R) : Option R :=
  drive_Check N a419 (fun r420 =>
  bif r420 != (0 : Int) then
   k (0 : Int) r420
  else
   drive_Capacity_1 N (0 : Int) (api_Escalator.Up a419) (api_Escalator.Empty a419) (api_Escalator.Pull a419) (api_Escalator.Drag a419) (api_Escalator.Motor a419) (api_Escalator.Brakes a419) (fun r428 =>
   bif !r428 then
    k (0 : Int) (1 : Int)
   else
    drive_Capacity_l8 N N (0 : Int) (100000 : Int) (api_Escalator.Up a419) (api_Escalator.Empty a419) (api_Escalator.Pull a419) (api_Escalator.Drag a419) (api_Escalator.Motor a419) (api_Escalator.Brakes a419) (fun r438 =>
     k r438 (0 : Int))))
noncomputable def drive_Capacity {R : Type} : Nat → api_Escalator → (Int → Int → Option R) → Option R := lock (@drive_Capacity_m R)
theorem drive_Capacity_def {R : Type} (N : Nat) (a419 : api_Escalator) (k : Int → Int → Option R) : drive_Capacity N a419 k = drive_Capacity_m N a419 k := by unfold drive_Capacity; rw [lock_eq]
def drive_Capacity_sp : Sp := ⟨[rAgg api_EscalatorC], []⟩
theorem drive_Capacity_sp_ok : drive_Capacity_sp.Ok := ⟨(allCons (rAgg_ok api_EscalatorC_ok api_EscalatorC_len) allNil), eNil⟩
def drive_Capacity_rs : Sp := ⟨[rTup [rInt .i64, rInt .i64]], []⟩
theorem drive_Capacity_rs_ok : drive_Capacity_rs.Ok := ⟨(allCons (rTup_ok (allCons (rInt_ok .i64) (allCons (rInt_ok .i64) allNil))) allNil), eNil⟩
def drive_Capacity_run {R : Type} (N : Nat) (args : List SV) (T : Tab) (kf : SV × Tab → Option R) : Option R :=
  drive_Capacity_m N (Cod.dec api_EscalatorC (lget (toCs (lget args 0)))) (fun q0 q1 => kf (lget [.tup [.int .i64 q0, .int .i64 q1]] 0, []))
def drive_Capacity_d8 {R : Type} (N : Nat) (S0 : St) (k : Exit → St → Option R) : Option R :=
  drive_Capacity_l8 N N (toI (lget S0.tmps 6)) (toI (lget S0.tmps 7)) (toB (lget (entCs (entAt S0.tab 0)) 0)) (toI (lget (entCs (entAt S0.tab 0)) 1)) (toI (lget (entCs (entAt S0.tab 0)) 2)) (toI (lget (entCs (entAt S0.tab 0)) 3)) (toI (lget (entCs (entAt S0.tab 0)) 4)) (lstC api_BrakeC (lget (entCs (entAt S0.tab 0)) 5)) (fun q0 => k (.exit 0) (drive_Capacity_x8_0 q0))
def drive_Capacity_lp {R : Type} (N : Nat) : Lp R := fun body S k => bif (Go.Sx.keyOf body).getD 0 == 8 then drive_Capacity_L8.head.raw 0 S (fun S0 => drive_Capacity_d8 N S0 k) else Option.none
theorem drive_Capacity_l8_eq {R : Type} (N : Nat) (k : Exit → St → Option R) (n : Nat) : ∀ (v0 : Int) (v1 : Int) (v2 : Bool) (v3 : Int) (v4 : Int) (v5 : Int) (v6 : Int) (v7 : Arr api_Brake), loopM E.Θ (drive_Capacity_1_cal N) (drive_Capacity_lp N) (noJn) 0 drive_Capacity_L8 (bodyAt E 37 8) n (drive_Capacity_h8 v0 v1 v2 v3 v4 v5 v6 v7) k = drive_Capacity_l8 N n v0 v1 v2 v3 v4 v5 v6 v7 (fun q0 => k (.exit 0) (drive_Capacity_x8_0 q0)) := by
  induction n with
  | zero => intro v0 v1 v2 v3 v4 v5 v6 v7; rfl
  | succ n ih =>
    intro v0 v1 v2 v3 v4 v5 v6 v7
    refine Eq.trans (b := drive_Capacity_b8 N (fun v0 v1 v2 v3 v4 v5 v6 v7 => loopM E.Θ (drive_Capacity_1_cal N) (drive_Capacity_lp N) (noJn) 0 drive_Capacity_L8 (bodyAt E 37 8) n (drive_Capacity_h8 v0 v1 v2 v3 v4 v5 v6 v7) k) v0 v1 v2 v3 v4 v5 v6 v7 (fun q0 => k (.exit 0) (drive_Capacity_x8_0 q0))) (by kernel_rfl) ?_
    have h : (fun (v0 : Int) (v1 : Int) (v2 : Bool) (v3 : Int) (v4 : Int) (v5 : Int) (v6 : Int) (v7 : Arr api_Brake) => loopM E.Θ (drive_Capacity_1_cal N) (drive_Capacity_lp N) (noJn) 0 drive_Capacity_L8 (bodyAt E 37 8) n (drive_Capacity_h8 v0 v1 v2 v3 v4 v5 v6 v7) k) = (fun (v0 : Int) (v1 : Int) (v2 : Bool) (v3 : Int) (v4 : Int) (v5 : Int) (v6 : Int) (v7 : Arr api_Brake) => drive_Capacity_l8 N n v0 v1 v2 v3 v4 v5 v6 v7 (fun q0 => k (.exit 0) (drive_Capacity_x8_0 q0))) := funext fun v0 => funext fun v1 => funext fun v2 => funext fun v3 => funext fun v4 => funext fun v5 => funext fun v6 => funext fun v7 => ih v0 v1 v2 v3 v4 v5 v6 v7
    rw [h]
    rfl
theorem drive_Capacity_k8 {R : Type} (N : Nat) : LpKey (R := R) E 37 0 (drive_Capacity_lp N) 8 :=
  lpKey_of hE (drive_Capacity_1_cal_ok N) (jn := noJn) drive_Capacity_L8_ok [] kNil (by kernel_rfl) [] jNil (by kernel_rfl) N fun S k =>
    Eq.trans (b := drive_Capacity_L8.head.raw 0 S (fun S0 => drive_Capacity_d8 N S0 k)) (by kernel_rfl) (congrArg (drive_Capacity_L8.head.raw 0 S) (funext fun S0 => Eq.trans (drive_Capacity_l8_eq N k N (toI (lget S0.tmps 6)) (toI (lget S0.tmps 7)) (toB (lget (entCs (entAt S0.tab 0)) 0)) (toI (lget (entCs (entAt S0.tab 0)) 1)) (toI (lget (entCs (entAt S0.tab 0)) 2)) (toI (lget (entCs (entAt S0.tab 0)) 3)) (toI (lget (entCs (entAt S0.tab 0)) 4)) (lstC api_BrakeC (lget (entCs (entAt S0.tab 0)) 5))).symm (by kernel_rfl)))
noncomputable def drive_Capacity_go {R : Type} (N : Nat) (args : List SV) (T : Tab) (kf : SV × Tab → Option R) : Option R :=
  drive_Capacity N (Cod.dec api_EscalatorC (lget (toCs (lget args 0)))) (fun q0 q1 => kf (lget [.tup [.int .i64 q0, .int .i64 q1]] 0, []))
noncomputable def drive_Capacity_cal {R : Type} (N : Nat) : Cal R := callM (drive_Capacity_1_cal N) 37 0 drive_Capacity_sp (drive_Capacity_go N)
theorem drive_Capacity_cal_ok {R : Type} (N : Nat) : CalOk E.P (drive_Capacity_cal (R := R) N) :=
  callM_ok hE (drive_Capacity_1_cal_ok N) (lp := drive_Capacity_lp N) (jn := noJn) (keys := [8]) (kCons (drive_Capacity_k8 N) kNil) (by kernel_rfl) (js := []) jNil (by kernel_rfl) drive_Capacity_sp_ok drive_Capacity_rs_ok (fun args T kf => Eq.trans (drive_Capacity_def N (Cod.dec api_EscalatorC (lget (toCs (lget args 0)))) (fun q0 q1 => kf (lget [.tup [.int .i64 q0, .int .i64 q1]] 0, []))) (by kernel_rfl : drive_Capacity_run N args T kf = fnM E (drive_Capacity_1_cal N) (drive_Capacity_lp N) (noJn) 37 (drive_Capacity_sp.vs args) (drive_Capacity_sp.tab T) 0 (resK drive_Capacity_rs kf)))


def newelref01_Capacity_m {R : Type} (N : Nat) (a439 : api_Escalator) (k : Int → Int → Option R) : Option R :=
  newelref01_Check N a439 (fun r440 =>
  bif r440 != (0 : Int) then
   k (0 : Int) (10 : Int)
  else
   bif api_Escalator.Up a439 then
    bif decide (w64 (api_Escalator.Motor a439 - api_Escalator.Drag a439) < (0 : Int)) then
     k (0 : Int) (1 : Int)
    else
     bif api_Escalator.Pull a439 == (0 : Int) then
      k (100000 : Int) (0 : Int)
     else
      bif api_Escalator.Pull a439 == (0 : Int) then
       Option.none
      else
       k (if w64 (Int.tdiv (w64 (api_Escalator.Motor a439 - api_Escalator.Drag a439)) (api_Escalator.Pull a439)) < (100000 : Int) then w64 (Int.tdiv (w64 (api_Escalator.Motor a439 - api_Escalator.Drag a439)) (api_Escalator.Pull a439)) else (100000 : Int)) (0 : Int)
   else
    bif decide (w64 (api_Escalator.Motor a439 + api_Escalator.Drag a439) < (0 : Int)) then
     k (0 : Int) (1 : Int)
    else
     bif api_Escalator.Pull a439 == (0 : Int) then
      k (100000 : Int) (0 : Int)
     else
      bif api_Escalator.Pull a439 == (0 : Int) then
       Option.none
      else
       k (if w64 (Int.tdiv (w64 (api_Escalator.Motor a439 + api_Escalator.Drag a439)) (api_Escalator.Pull a439)) < (100000 : Int) then w64 (Int.tdiv (w64 (api_Escalator.Motor a439 + api_Escalator.Drag a439)) (api_Escalator.Pull a439)) else (100000 : Int)) (0 : Int))
noncomputable def newelref01_Capacity {R : Type} : Nat → api_Escalator → (Int → Int → Option R) → Option R := lock (@newelref01_Capacity_m R)
theorem newelref01_Capacity_def {R : Type} (N : Nat) (a439 : api_Escalator) (k : Int → Int → Option R) : newelref01_Capacity N a439 k = newelref01_Capacity_m N a439 k := by unfold newelref01_Capacity; rw [lock_eq]
def newelref01_Capacity_sp : Sp := ⟨[rAgg api_EscalatorC], []⟩
theorem newelref01_Capacity_sp_ok : newelref01_Capacity_sp.Ok := ⟨(allCons (rAgg_ok api_EscalatorC_ok api_EscalatorC_len) allNil), eNil⟩
def newelref01_Capacity_rs : Sp := ⟨[rTup [rInt .i64, rInt .i64]], []⟩
theorem newelref01_Capacity_rs_ok : newelref01_Capacity_rs.Ok := ⟨(allCons (rTup_ok (allCons (rInt_ok .i64) (allCons (rInt_ok .i64) allNil))) allNil), eNil⟩
def newelref01_Capacity_run {R : Type} (N : Nat) (args : List SV) (T : Tab) (kf : SV × Tab → Option R) : Option R :=
  newelref01_Capacity_m N (Cod.dec api_EscalatorC (lget (toCs (lget args 0)))) (fun q0 q1 => kf (lget [.tup [.int .i64 q0, .int .i64 q1]] 0, []))
def newelref01_Capacity_lp {R : Type} (N : Nat) : Lp R := fun body S k => Option.none
noncomputable def newelref01_Capacity_go {R : Type} (N : Nat) (args : List SV) (T : Tab) (kf : SV × Tab → Option R) : Option R :=
  newelref01_Capacity N (Cod.dec api_EscalatorC (lget (toCs (lget args 0)))) (fun q0 q1 => kf (lget [.tup [.int .i64 q0, .int .i64 q1]] 0, []))
noncomputable def newelref01_Capacity_cal {R : Type} (N : Nat) : Cal R := callM (drive_Capacity_cal N) 38 0 newelref01_Capacity_sp (newelref01_Capacity_go N)
theorem newelref01_Capacity_cal_ok {R : Type} (N : Nat) : CalOk E.P (newelref01_Capacity_cal (R := R) N) :=
  callM_ok hE (drive_Capacity_cal_ok N) (lp := newelref01_Capacity_lp N) (jn := noJn) (keys := []) kNil (by kernel_rfl) (js := []) jNil (by kernel_rfl) newelref01_Capacity_sp_ok newelref01_Capacity_rs_ok (fun args T kf => Eq.trans (newelref01_Capacity_def N (Cod.dec api_EscalatorC (lget (toCs (lget args 0)))) (fun q0 q1 => kf (lget [.tup [.int .i64 q0, .int .i64 q1]] 0, []))) (by kernel_rfl : newelref01_Capacity_run N args T kf = fnM E (drive_Capacity_cal N) (newelref01_Capacity_lp N) (noJn) 38 (newelref01_Capacity_sp.vs args) (newelref01_Capacity_sp.tab T) 0 (resK newelref01_Capacity_rs kf)))

def newelref01_Fastest_L8 : LoopSp := ⟨⟨[2, 3, 4, 9, 10], ⟨(dr 2 ((rInt .i64) :: (rPtr 0 0) :: (rPtr 1 0) :: (dr 4 ((rInt .i64) :: (rInt .i64) :: (dr 37 []))))), [(0, eBlkC api_EscalatorC), (1, eBlkC api_StopC)]⟩, 2⟩, [(some 0, ⟨[9], ⟨(dr 9 ((rInt .i64) :: (dr 38 []))), []⟩, 0⟩)]⟩
theorem newelref01_Fastest_L8_ok : newelref01_Fastest_L8.Ok := ⟨⟨(drCons 2 (allCons (rInt_ok .i64) (allCons (rPtr_ok 0 0) (allCons (rPtr_ok 1 0) (drCons 4 (allCons (rInt_ok .i64) (allCons (rInt_ok .i64) (drCons 37 allNil)))))))), (eCons (eBlkC_ok api_EscalatorC_ok api_EscalatorC_len) (eCons (eBlkC_ok api_StopC_ok api_StopC_len) eNil))⟩, (xCons ⟨(drCons 9 (allCons (rInt_ok .i64) (drCons 38 allNil))), eNil⟩ xNil)⟩
def newelref01_Fastest_h8 (v446 : Int) (v447 : Int) (v448 : Int) (v449 : api_Escalator) (v450 : api_Stop) : St := ⟨(un 2 ((.int .i64 v446) :: (.ptr 0 0) :: (.ptr 1 0) :: (un 4 ((.int .i64 v447) :: (.int .i64 v448) :: (un 37 []))))), [(0, .blk (Cod.enc api_EscalatorC v449)), (1, .blk (Cod.enc api_StopC v450))], 2⟩
def newelref01_Fastest_x8_0 (q0 : Int) : St := ⟨(un 9 ((.int .i64 q0) :: (un 38 []))), [], 0⟩
def newelref01_Fastest_b8 {R : Type} (N : Nat) (rc : Int → Int → Int → api_Escalator → api_Stop → Option R) (v446 : Int) (v447 : Int) (v448 : Int) (v449 : api_Escalator) (v450 : api_Stop) (k0 : Int → Option R) : Option R :=
  bif decide (v448 ≤ (1000 : Int)) then
   newelref01_Distance N v449 (api_Stop.mk v448 (api_Stop.Loads v450) (api_Stop.Fail v450)) (fun r451 r452 r453 =>
   bif r453 != (0 : Int) then
    k0 v447
   else
    bif decide (api_Span.High r451 > v446) then
     k0 v447
    else
     rc v446 v448 (w64 (v448 + (1 : Int))) v449 v450)
  else
   k0 v447
def newelref01_Fastest_l8 {R : Type} (N : Nat) : Nat → Int → Int → Int → api_Escalator → api_Stop → (Int → Option R) → Option R
  | 0, _, _, _, _, _, _ => Option.none
  | n + 1, v446, v447, v448, v449, v450, k0 => newelref01_Fastest_b8 N (fun v446 v447 v448 v449 v450 => newelref01_Fastest_l8 N n v446 v447 v448 v449 v450 k0) v446 v447 v448 v449 v450 k0


def newelref01_Fastest_m {R : Type} (N : Nat) (a441 : api_Escalator) (a442 : api_Stop) (a443 : Int) (k : Int → Int → Option R) : Option R :=
  newelref01_CheckStop N a441 a442 (fun r444 =>
  bif r444 != (0 : Int) then
   k (0 : Int) r444
  else
   newelref01_within N a443 (0 : Int) (10000000 : Int) (fun r445 =>
   bif !r445 then
    k (0 : Int) (1 : Int)
   else
    newelref01_Fastest_l8 N N a443 (0 : Int) (1 : Int) a441 a442 (fun r454 =>
     k r454 (0 : Int))))
noncomputable def newelref01_Fastest {R : Type} : Nat → api_Escalator → api_Stop → Int → (Int → Int → Option R) → Option R := lock (@newelref01_Fastest_m R)
theorem newelref01_Fastest_def {R : Type} (N : Nat) (a441 : api_Escalator) (a442 : api_Stop) (a443 : Int) (k : Int → Int → Option R) : newelref01_Fastest N a441 a442 a443 k = newelref01_Fastest_m N a441 a442 a443 k := by unfold newelref01_Fastest; rw [lock_eq]
def newelref01_Fastest_sp : Sp := ⟨[rAgg api_EscalatorC, rAgg api_StopC, rInt .i64], []⟩
theorem newelref01_Fastest_sp_ok : newelref01_Fastest_sp.Ok := ⟨(allCons (rAgg_ok api_EscalatorC_ok api_EscalatorC_len) (allCons (rAgg_ok api_StopC_ok api_StopC_len) (allCons (rInt_ok .i64) allNil))), eNil⟩
def newelref01_Fastest_rs : Sp := ⟨[rTup [rInt .i64, rInt .i64]], []⟩
theorem newelref01_Fastest_rs_ok : newelref01_Fastest_rs.Ok := ⟨(allCons (rTup_ok (allCons (rInt_ok .i64) (allCons (rInt_ok .i64) allNil))) allNil), eNil⟩
def newelref01_Fastest_run {R : Type} (N : Nat) (args : List SV) (T : Tab) (kf : SV × Tab → Option R) : Option R :=
  newelref01_Fastest_m N (Cod.dec api_EscalatorC (lget (toCs (lget args 0)))) (Cod.dec api_StopC (lget (toCs (lget args 1)))) (toI (lget args 2)) (fun q0 q1 => kf (lget [.tup [.int .i64 q0, .int .i64 q1]] 0, []))
def newelref01_Fastest_d8 {R : Type} (N : Nat) (S0 : St) (k : Exit → St → Option R) : Option R :=
  newelref01_Fastest_l8 N N (toI (lget S0.tmps 2)) (toI (lget S0.tmps 9)) (toI (lget S0.tmps 10)) (Cod.dec api_EscalatorC (lget (entCs (entAt S0.tab 0)))) (Cod.dec api_StopC (lget (entCs (entAt S0.tab 1)))) (fun q0 => k (.exit 0) (newelref01_Fastest_x8_0 q0))
def newelref01_Fastest_lp {R : Type} (N : Nat) : Lp R := fun body S k => bif (Go.Sx.keyOf body).getD 0 == 8 then newelref01_Fastest_L8.head.raw 0 S (fun S0 => newelref01_Fastest_d8 N S0 k) else Option.none
theorem newelref01_Fastest_l8_eq {R : Type} (N : Nat) (k : Exit → St → Option R) (n : Nat) : ∀ (v0 : Int) (v1 : Int) (v2 : Int) (v3 : api_Escalator) (v4 : api_Stop), loopM E.Θ (newelref01_Capacity_cal N) (newelref01_Fastest_lp N) (noJn) 0 newelref01_Fastest_L8 (bodyAt E 41 8) n (newelref01_Fastest_h8 v0 v1 v2 v3 v4) k = newelref01_Fastest_l8 N n v0 v1 v2 v3 v4 (fun q0 => k (.exit 0) (newelref01_Fastest_x8_0 q0)) := by
  induction n with
  | zero => intro v0 v1 v2 v3 v4; rfl
  | succ n ih =>
    intro v0 v1 v2 v3 v4
    refine Eq.trans (b := newelref01_Fastest_b8 N (fun v0 v1 v2 v3 v4 => loopM E.Θ (newelref01_Capacity_cal N) (newelref01_Fastest_lp N) (noJn) 0 newelref01_Fastest_L8 (bodyAt E 41 8) n (newelref01_Fastest_h8 v0 v1 v2 v3 v4) k) v0 v1 v2 v3 v4 (fun q0 => k (.exit 0) (newelref01_Fastest_x8_0 q0))) (by kernel_rfl) ?_
    have h : (fun (v0 : Int) (v1 : Int) (v2 : Int) (v3 : api_Escalator) (v4 : api_Stop) => loopM E.Θ (newelref01_Capacity_cal N) (newelref01_Fastest_lp N) (noJn) 0 newelref01_Fastest_L8 (bodyAt E 41 8) n (newelref01_Fastest_h8 v0 v1 v2 v3 v4) k) = (fun (v0 : Int) (v1 : Int) (v2 : Int) (v3 : api_Escalator) (v4 : api_Stop) => newelref01_Fastest_l8 N n v0 v1 v2 v3 v4 (fun q0 => k (.exit 0) (newelref01_Fastest_x8_0 q0))) := funext fun v0 => funext fun v1 => funext fun v2 => funext fun v3 => funext fun v4 => ih v0 v1 v2 v3 v4
    rw [h]
    rfl
theorem newelref01_Fastest_k8 {R : Type} (N : Nat) : LpKey (R := R) E 41 0 (newelref01_Fastest_lp N) 8 :=
  lpKey_of hE (newelref01_Capacity_cal_ok N) (jn := noJn) newelref01_Fastest_L8_ok [] kNil (by kernel_rfl) [] jNil (by kernel_rfl) N fun S k =>
    Eq.trans (b := newelref01_Fastest_L8.head.raw 0 S (fun S0 => newelref01_Fastest_d8 N S0 k)) (by kernel_rfl) (congrArg (newelref01_Fastest_L8.head.raw 0 S) (funext fun S0 => Eq.trans (newelref01_Fastest_l8_eq N k N (toI (lget S0.tmps 2)) (toI (lget S0.tmps 9)) (toI (lget S0.tmps 10)) (Cod.dec api_EscalatorC (lget (entCs (entAt S0.tab 0)))) (Cod.dec api_StopC (lget (entCs (entAt S0.tab 1))))).symm (by kernel_rfl)))
noncomputable def newelref01_Fastest_go {R : Type} (N : Nat) (args : List SV) (T : Tab) (kf : SV × Tab → Option R) : Option R :=
  newelref01_Fastest N (Cod.dec api_EscalatorC (lget (toCs (lget args 0)))) (Cod.dec api_StopC (lget (toCs (lget args 1)))) (toI (lget args 2)) (fun q0 q1 => kf (lget [.tup [.int .i64 q0, .int .i64 q1]] 0, []))
noncomputable def newelref01_Fastest_cal {R : Type} (N : Nat) : Cal R := callM (newelref01_Capacity_cal N) 41 0 newelref01_Fastest_sp (newelref01_Fastest_go N)
theorem newelref01_Fastest_cal_ok {R : Type} (N : Nat) : CalOk E.P (newelref01_Fastest_cal (R := R) N) :=
  callM_ok hE (newelref01_Capacity_cal_ok N) (lp := newelref01_Fastest_lp N) (jn := noJn) (keys := [8]) (kCons (newelref01_Fastest_k8 N) kNil) (by kernel_rfl) (js := []) jNil (by kernel_rfl) newelref01_Fastest_sp_ok newelref01_Fastest_rs_ok (fun args T kf => Eq.trans (newelref01_Fastest_def N (Cod.dec api_EscalatorC (lget (toCs (lget args 0)))) (Cod.dec api_StopC (lget (toCs (lget args 1)))) (toI (lget args 2)) (fun q0 q1 => kf (lget [.tup [.int .i64 q0, .int .i64 q1]] 0, []))) (by kernel_rfl : newelref01_Fastest_run N args T kf = fnM E (newelref01_Capacity_cal N) (newelref01_Fastest_lp N) (noJn) 41 (newelref01_Fastest_sp.vs args) (newelref01_Fastest_sp.tab T) 0 (resK newelref01_Fastest_rs kf)))

def slices_Index___bool_bool__L2 : LoopSp := ⟨⟨[0, 1, 7, 8], ⟨((rSl boolC) :: (rBool) :: (dr 5 ((rInt .i64) :: (rInt .i64) :: (dr 10 [])))), []⟩, 0⟩, [(Option.none, ⟨[4], ⟨(dr 4 ((rInt .i64) :: (dr 14 []))), []⟩, 0⟩), (some 0, ⟨[], ⟨(dr 19 []), []⟩, 0⟩)]⟩
theorem slices_Index___bool_bool__L2_ok : slices_Index___bool_bool__L2.Ok := ⟨⟨(allCons (rSl_ok boolC_ok) (allCons rBool_ok (drCons 5 (allCons (rInt_ok .i64) (allCons (rInt_ok .i64) (drCons 10 allNil)))))), eNil⟩, (xCons ⟨(drCons 4 (allCons (rInt_ok .i64) (drCons 14 allNil))), eNil⟩ (xCons ⟨(drCons 19 allNil), eNil⟩ xNil))⟩
def slices_Index___bool_bool__h2 (v471 : Arr Bool) (v472 : Bool) (v473 : Int) (v474 : Int) : St := ⟨((slC boolC v471) :: (.bool v472) :: (un 5 ((.int .i64 v473) :: (.int .i64 v474) :: (un 10 [])))), [], 0⟩
def slices_Index___bool_bool__x2_r (q0 : Int) : St := ⟨(un 4 ((.int .i64 q0) :: (un 14 []))), [], 0⟩
def slices_Index___bool_bool__x2_0  : St := ⟨(un 19 []), [], 0⟩
def slices_Index___bool_bool__b2 {R : Type} (N : Nat) (rc : Arr Bool → Bool → Int → Int → Option R) (v471 : Arr Bool) (v472 : Bool) (v473 : Int) (v474 : Int) (kr : Int → Option R) (k0 : Unit → Option R) : Option R :=
  bif decide (v474 < v473) then
   bif decide ((0 : Int) ≤ v474) && decide (v474 < (↑(Arr.n v471) : Int)) then
    bif v472 == Arr.f v471 (Int.toNat v474) then
     kr v474
    else
     rc v471 v472 v473 (w64 (v474 + (1 : Int)))
   else
    Option.none
  else
   k0 ()
def slices_Index___bool_bool__l2 {R : Type} (N : Nat) : Nat → Arr Bool → Bool → Int → Int → (Int → Option R) → (Unit → Option R) → Option R
  | 0, _, _, _, _, _, _ => Option.none
  | n + 1, v471, v472, v473, v474, kr, k0 => slices_Index___bool_bool__b2 N (fun v471 v472 v473 v474 => slices_Index___bool_bool__l2 N n v471 v472 v473 v474 kr k0) v471 v472 v473 v474 kr k0


def slices_Index___bool_bool__m {R : Type} (N : Nat) (a469 : Arr Bool) (a470 : Bool) (k : Int → Option R) : Option R :=
  slices_Index___bool_bool__l2 N N a469 a470 ((↑(Arr.n a469) : Int)) (0 : Int) (fun r475 =>
   k r475) (fun (_ : Unit) =>
   k (-1 : Int))
noncomputable def slices_Index___bool_bool_ {R : Type} : Nat → Arr Bool → Bool → (Int → Option R) → Option R := lock (@slices_Index___bool_bool__m R)
theorem slices_Index___bool_bool__def {R : Type} (N : Nat) (a469 : Arr Bool) (a470 : Bool) (k : Int → Option R) : slices_Index___bool_bool_ N a469 a470 k = slices_Index___bool_bool__m N a469 a470 k := by unfold slices_Index___bool_bool_; rw [lock_eq]
def slices_Index___bool_bool__sp : Sp := ⟨[rSl boolC, rBool], []⟩
theorem slices_Index___bool_bool__sp_ok : slices_Index___bool_bool__sp.Ok := ⟨(allCons (rSl_ok boolC_ok) (allCons rBool_ok allNil)), eNil⟩
def slices_Index___bool_bool__rs : Sp := ⟨[rInt .i64], []⟩
theorem slices_Index___bool_bool__rs_ok : slices_Index___bool_bool__rs.Ok := ⟨(allCons (rInt_ok .i64) allNil), eNil⟩
def slices_Index___bool_bool__run {R : Type} (N : Nat) (args : List SV) (T : Tab) (kf : SV × Tab → Option R) : Option R :=
  slices_Index___bool_bool__m N (lstC boolC (lget args 0)) (toB (lget args 1)) (fun q0 => kf (lget [.int .i64 q0] 0, []))
def slices_Index___bool_bool__d2 {R : Type} (N : Nat) (S0 : St) (k : Exit → St → Option R) : Option R :=
  slices_Index___bool_bool__l2 N N (lstC boolC (lget S0.tmps 0)) (toB (lget S0.tmps 1)) (toI (lget S0.tmps 7)) (toI (lget S0.tmps 8)) (fun q0 => k .ret (slices_Index___bool_bool__x2_r q0)) (fun (_ : Unit) => k (.exit 0) (slices_Index___bool_bool__x2_0 ))
def slices_Index___bool_bool__lp {R : Type} (N : Nat) : Lp R := fun body S k => bif (Go.Sx.keyOf body).getD 0 == 2 then slices_Index___bool_bool__L2.head.raw 0 S (fun S0 => slices_Index___bool_bool__d2 N S0 k) else Option.none
theorem slices_Index___bool_bool__l2_eq {R : Type} (N : Nat) (k : Exit → St → Option R) (n : Nat) : ∀ (v0 : Arr Bool) (v1 : Bool) (v2 : Int) (v3 : Int), loopM E.Θ (newelref01_Fastest_cal N) (slices_Index___bool_bool__lp N) (noJn) 0 slices_Index___bool_bool__L2 (bodyAt E 62 2) n (slices_Index___bool_bool__h2 v0 v1 v2 v3) k = slices_Index___bool_bool__l2 N n v0 v1 v2 v3 (fun q0 => k .ret (slices_Index___bool_bool__x2_r q0)) (fun (_ : Unit) => k (.exit 0) (slices_Index___bool_bool__x2_0 )) := by
  induction n with
  | zero => intro v0 v1 v2 v3; rfl
  | succ n ih =>
    intro v0 v1 v2 v3
    refine Eq.trans (b := slices_Index___bool_bool__b2 N (fun v0 v1 v2 v3 => loopM E.Θ (newelref01_Fastest_cal N) (slices_Index___bool_bool__lp N) (noJn) 0 slices_Index___bool_bool__L2 (bodyAt E 62 2) n (slices_Index___bool_bool__h2 v0 v1 v2 v3) k) v0 v1 v2 v3 (fun q0 => k .ret (slices_Index___bool_bool__x2_r q0)) (fun (_ : Unit) => k (.exit 0) (slices_Index___bool_bool__x2_0 ))) (by kernel_rfl) ?_
    have h : (fun (v0 : Arr Bool) (v1 : Bool) (v2 : Int) (v3 : Int) => loopM E.Θ (newelref01_Fastest_cal N) (slices_Index___bool_bool__lp N) (noJn) 0 slices_Index___bool_bool__L2 (bodyAt E 62 2) n (slices_Index___bool_bool__h2 v0 v1 v2 v3) k) = (fun (v0 : Arr Bool) (v1 : Bool) (v2 : Int) (v3 : Int) => slices_Index___bool_bool__l2 N n v0 v1 v2 v3 (fun q0 => k .ret (slices_Index___bool_bool__x2_r q0)) (fun (_ : Unit) => k (.exit 0) (slices_Index___bool_bool__x2_0 ))) := funext fun v0 => funext fun v1 => funext fun v2 => funext fun v3 => ih v0 v1 v2 v3
    rw [h]
    rfl
theorem slices_Index___bool_bool__k2 {R : Type} (N : Nat) : LpKey (R := R) E 62 0 (slices_Index___bool_bool__lp N) 2 :=
  lpKey_of hE (newelref01_Fastest_cal_ok N) (jn := noJn) slices_Index___bool_bool__L2_ok [] kNil (by kernel_rfl) [] jNil (by kernel_rfl) N fun S k =>
    Eq.trans (b := slices_Index___bool_bool__L2.head.raw 0 S (fun S0 => slices_Index___bool_bool__d2 N S0 k)) (by kernel_rfl) (congrArg (slices_Index___bool_bool__L2.head.raw 0 S) (funext fun S0 => Eq.trans (slices_Index___bool_bool__l2_eq N k N (lstC boolC (lget S0.tmps 0)) (toB (lget S0.tmps 1)) (toI (lget S0.tmps 7)) (toI (lget S0.tmps 8))).symm (by kernel_rfl)))
noncomputable def slices_Index___bool_bool__go {R : Type} (N : Nat) (args : List SV) (T : Tab) (kf : SV × Tab → Option R) : Option R :=
  slices_Index___bool_bool_ N (lstC boolC (lget args 0)) (toB (lget args 1)) (fun q0 => kf (lget [.int .i64 q0] 0, []))
noncomputable def slices_Index___bool_bool__cal {R : Type} (N : Nat) : Cal R := callM (newelref01_Fastest_cal N) 62 0 slices_Index___bool_bool__sp (slices_Index___bool_bool__go N)
theorem slices_Index___bool_bool__cal_ok {R : Type} (N : Nat) : CalOk E.P (slices_Index___bool_bool__cal (R := R) N) :=
  callM_ok hE (newelref01_Fastest_cal_ok N) (lp := slices_Index___bool_bool__lp N) (jn := noJn) (keys := [2]) (kCons (slices_Index___bool_bool__k2 N) kNil) (by kernel_rfl) (js := []) jNil (by kernel_rfl) slices_Index___bool_bool__sp_ok slices_Index___bool_bool__rs_ok (fun args T kf => Eq.trans (slices_Index___bool_bool__def N (lstC boolC (lget args 0)) (toB (lget args 1)) (fun q0 => kf (lget [.int .i64 q0] 0, []))) (by kernel_rfl : slices_Index___bool_bool__run N args T kf = fnM E (newelref01_Fastest_cal N) (slices_Index___bool_bool__lp N) (noJn) 62 (slices_Index___bool_bool__sp.vs args) (slices_Index___bool_bool__sp.tab T) 0 (resK slices_Index___bool_bool__rs kf)))


def drive_Legal_m {R : Type} (N : Nat) (a455 : api_Escalator) (a456 : api_Stop) (a457 : api_Span) (k : Int → Bool → Int → Option R) : Option R :=
  drive_checkStop N a455 a456 (fun r458 =>
  bif r458 != (0 : Int) then
   k (0 : Int) false r458
  else
   bif decide (api_Span.Low a457 < (0 : Int)) then
    k (0 : Int) false (1 : Int)
   else
    bif decide (api_Span.Low a457 > api_Span.High a457) then
     k (0 : Int) false (1 : Int)
    else
     bif decide (api_Span.High a457 > (10000000 : Int)) then
      k (0 : Int) false (1 : Int)
     else
      drive_run N a455 a456 true (fun r459 r460 r461 r462 =>
      drive_Holds N a455 a456 (fun r463 r464 =>
      bif r460 then
       drive_run N a455 a456 false (fun r465 r466 r467 r468 =>
       slices_Index___bool_bool_ N (lst boolC (4 : Nat) (litC [SV.bool false] [[SV.bool !r460], [SV.bool (decide (r459 > api_Span.High a457))], [SV.bool (decide (r465 < api_Span.Low a457))], [SV.bool !r463]])) true (fun r476 =>
       k (w64 (r476 + (1 : Int))) (w64 (r476 + (1 : Int)) == (0 : Int)) (0 : Int)))
      else
       slices_Index___bool_bool_ N (lst boolC (4 : Nat) (litC [SV.bool false] [[SV.bool !r460], [SV.bool (decide (r459 > api_Span.High a457))], [SV.bool false], [SV.bool !r463]])) true (fun r477 =>
       k (w64 (r477 + (1 : Int))) (w64 (r477 + (1 : Int)) == (0 : Int)) (0 : Int)))))
noncomputable def drive_Legal {R : Type} : Nat → api_Escalator → api_Stop → api_Span → (Int → Bool → Int → Option R) → Option R := lock (@drive_Legal_m R)
theorem drive_Legal_def {R : Type} (N : Nat) (a455 : api_Escalator) (a456 : api_Stop) (a457 : api_Span) (k : Int → Bool → Int → Option R) : drive_Legal N a455 a456 a457 k = drive_Legal_m N a455 a456 a457 k := by unfold drive_Legal; rw [lock_eq]
def drive_Legal_sp : Sp := ⟨[rAgg api_EscalatorC, rAgg api_StopC, rAgg api_SpanC], []⟩
theorem drive_Legal_sp_ok : drive_Legal_sp.Ok := ⟨(allCons (rAgg_ok api_EscalatorC_ok api_EscalatorC_len) (allCons (rAgg_ok api_StopC_ok api_StopC_len) (allCons (rAgg_ok api_SpanC_ok api_SpanC_len) allNil))), eNil⟩
def drive_Legal_rs : Sp := ⟨[rTup [rInt .i64, rBool, rInt .i64]], []⟩
theorem drive_Legal_rs_ok : drive_Legal_rs.Ok := ⟨(allCons (rTup_ok (allCons (rInt_ok .i64) (allCons rBool_ok (allCons (rInt_ok .i64) allNil)))) allNil), eNil⟩
def drive_Legal_run {R : Type} (N : Nat) (args : List SV) (T : Tab) (kf : SV × Tab → Option R) : Option R :=
  drive_Legal_m N (Cod.dec api_EscalatorC (lget (toCs (lget args 0)))) (Cod.dec api_StopC (lget (toCs (lget args 1)))) (Cod.dec api_SpanC (lget (toCs (lget args 2)))) (fun q0 q1 q2 => kf (lget [.tup [.int .i64 q0, .bool q1, .int .i64 q2]] 0, []))
def drive_Legal_lp {R : Type} (N : Nat) : Lp R := fun body S k => Option.none
noncomputable def drive_Legal_go {R : Type} (N : Nat) (args : List SV) (T : Tab) (kf : SV × Tab → Option R) : Option R :=
  drive_Legal N (Cod.dec api_EscalatorC (lget (toCs (lget args 0)))) (Cod.dec api_StopC (lget (toCs (lget args 1)))) (Cod.dec api_SpanC (lget (toCs (lget args 2)))) (fun q0 q1 q2 => kf (lget [.tup [.int .i64 q0, .bool q1, .int .i64 q2]] 0, []))
noncomputable def drive_Legal_cal {R : Type} (N : Nat) : Cal R := callM (slices_Index___bool_bool__cal N) 42 0 drive_Legal_sp (drive_Legal_go N)
theorem drive_Legal_cal_ok {R : Type} (N : Nat) : CalOk E.P (drive_Legal_cal (R := R) N) :=
  callM_ok hE (slices_Index___bool_bool__cal_ok N) (lp := drive_Legal_lp N) (jn := noJn) (keys := []) kNil (by kernel_rfl) (js := []) jNil (by kernel_rfl) drive_Legal_sp_ok drive_Legal_rs_ok (fun args T kf => Eq.trans (drive_Legal_def N (Cod.dec api_EscalatorC (lget (toCs (lget args 0)))) (Cod.dec api_StopC (lget (toCs (lget args 1)))) (Cod.dec api_SpanC (lget (toCs (lget args 2)))) (fun q0 q1 q2 => kf (lget [.tup [.int .i64 q0, .bool q1, .int .i64 q2]] 0, []))) (by kernel_rfl : drive_Legal_run N args T kf = fnM E (slices_Index___bool_bool__cal N) (drive_Legal_lp N) (noJn) 42 (drive_Legal_sp.vs args) (drive_Legal_sp.tab T) 0 (resK drive_Legal_rs kf)))


def newelref01_Legal_m {R : Type} (N : Nat) (a478 : api_Escalator) (a479 : api_Stop) (a480 : api_Span) (k : Int → Bool → Int → Option R) : Option R :=
  newelref01_CheckStop N a478 a479 (fun r481 =>
  bif r481 != (0 : Int) then
   k (0 : Int) false r481
  else
   bif decide (api_Span.Low a480 < (0 : Int)) then
    k (0 : Int) false (1 : Int)
   else
    bif decide (api_Span.High a480 < api_Span.Low a480) then
     k (0 : Int) false (1 : Int)
    else
     bif decide (api_Span.High a480 > (10000000 : Int)) then
      k (0 : Int) false (1 : Int)
     else
      newelref01_Distance N a478 a479 (fun r482 r483 r484 =>
      newelref01_Holds N a478 a479 (fun r485 r486 =>
      bif r484 != (0 : Int) then
       k (1 : Int) false (0 : Int)
      else
       bif decide (api_Span.High r482 > api_Span.High a480) then
        k (2 : Int) false (0 : Int)
       else
        bif decide (api_Span.Low r482 < api_Span.Low a480) then
         k (3 : Int) false (0 : Int)
        else
         bif !r485 then
          k (4 : Int) false (0 : Int)
         else
          k (0 : Int) true (0 : Int))))
noncomputable def newelref01_Legal {R : Type} : Nat → api_Escalator → api_Stop → api_Span → (Int → Bool → Int → Option R) → Option R := lock (@newelref01_Legal_m R)
theorem newelref01_Legal_def {R : Type} (N : Nat) (a478 : api_Escalator) (a479 : api_Stop) (a480 : api_Span) (k : Int → Bool → Int → Option R) : newelref01_Legal N a478 a479 a480 k = newelref01_Legal_m N a478 a479 a480 k := by unfold newelref01_Legal; rw [lock_eq]
def newelref01_Legal_sp : Sp := ⟨[rAgg api_EscalatorC, rAgg api_StopC, rAgg api_SpanC], []⟩
theorem newelref01_Legal_sp_ok : newelref01_Legal_sp.Ok := ⟨(allCons (rAgg_ok api_EscalatorC_ok api_EscalatorC_len) (allCons (rAgg_ok api_StopC_ok api_StopC_len) (allCons (rAgg_ok api_SpanC_ok api_SpanC_len) allNil))), eNil⟩
def newelref01_Legal_rs : Sp := ⟨[rTup [rInt .i64, rBool, rInt .i64]], []⟩
theorem newelref01_Legal_rs_ok : newelref01_Legal_rs.Ok := ⟨(allCons (rTup_ok (allCons (rInt_ok .i64) (allCons rBool_ok (allCons (rInt_ok .i64) allNil)))) allNil), eNil⟩
def newelref01_Legal_run {R : Type} (N : Nat) (args : List SV) (T : Tab) (kf : SV × Tab → Option R) : Option R :=
  newelref01_Legal_m N (Cod.dec api_EscalatorC (lget (toCs (lget args 0)))) (Cod.dec api_StopC (lget (toCs (lget args 1)))) (Cod.dec api_SpanC (lget (toCs (lget args 2)))) (fun q0 q1 q2 => kf (lget [.tup [.int .i64 q0, .bool q1, .int .i64 q2]] 0, []))
def newelref01_Legal_lp {R : Type} (N : Nat) : Lp R := fun body S k => Option.none
noncomputable def newelref01_Legal_go {R : Type} (N : Nat) (args : List SV) (T : Tab) (kf : SV × Tab → Option R) : Option R :=
  newelref01_Legal N (Cod.dec api_EscalatorC (lget (toCs (lget args 0)))) (Cod.dec api_StopC (lget (toCs (lget args 1)))) (Cod.dec api_SpanC (lget (toCs (lget args 2)))) (fun q0 q1 q2 => kf (lget [.tup [.int .i64 q0, .bool q1, .int .i64 q2]] 0, []))
noncomputable def newelref01_Legal_cal {R : Type} (N : Nat) : Cal R := callM (drive_Legal_cal N) 43 0 newelref01_Legal_sp (newelref01_Legal_go N)
theorem newelref01_Legal_cal_ok {R : Type} (N : Nat) : CalOk E.P (newelref01_Legal_cal (R := R) N) :=
  callM_ok hE (drive_Legal_cal_ok N) (lp := newelref01_Legal_lp N) (jn := noJn) (keys := []) kNil (by kernel_rfl) (js := []) jNil (by kernel_rfl) newelref01_Legal_sp_ok newelref01_Legal_rs_ok (fun args T kf => Eq.trans (newelref01_Legal_def N (Cod.dec api_EscalatorC (lget (toCs (lget args 0)))) (Cod.dec api_StopC (lget (toCs (lget args 1)))) (Cod.dec api_SpanC (lget (toCs (lget args 2)))) (fun q0 q1 q2 => kf (lget [.tup [.int .i64 q0, .bool q1, .int .i64 q2]] 0, []))) (by kernel_rfl : newelref01_Legal_run N args T kf = fnM E (drive_Legal_cal N) (newelref01_Legal_lp N) (noJn) 43 (newelref01_Legal_sp.vs args) (newelref01_Legal_sp.tab T) 0 (resK newelref01_Legal_rs kf)))



end
end Go.Proofs.Ytpcmpbellmiijaa
