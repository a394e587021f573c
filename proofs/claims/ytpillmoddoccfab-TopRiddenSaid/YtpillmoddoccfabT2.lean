import Derived.Test.YtpillmoddoccfabT1
set_option maxRecDepth 100000
set_option maxHeartbeats 0
set_option linter.unusedVariables false
namespace Go.Proofs.Ytpillmoddoccfab
open Go.Sx
noncomputable section
def calls_timed_L3 : LoopSp := ⟨⟨[0, 3, 6, 7, 8], ⟨((rSl api_PressC) :: (dr 2 ((rInt .i64) :: (dr 2 ((rSl api_PressC) :: (rInt .i64) :: (rInt .i64) :: (dr 14 [])))))), []⟩, 0⟩, [(Option.none, ⟨[2], ⟨(dr 2 ((rBool) :: (dr 20 []))), []⟩, 0⟩), (some 0, ⟨[0], ⟨((rSl api_PressC) :: (dr 22 [])), []⟩, 0⟩)]⟩
theorem calls_timed_L3_ok : calls_timed_L3.Ok := ⟨⟨(allCons (rSl_ok api_PressC_ok) (drCons 2 (allCons (rInt_ok .i64) (drCons 2 (allCons (rSl_ok api_PressC_ok) (allCons (rInt_ok .i64) (allCons (rInt_ok .i64) (drCons 14 allNil)))))))), eNil⟩, (xCons ⟨(drCons 2 (allCons rBool_ok (drCons 20 allNil))), eNil⟩ (xCons ⟨(allCons (rSl_ok api_PressC_ok) (drCons 22 allNil)), eNil⟩ xNil))⟩
def calls_timed_h3 (v351 : Arr api_Press) (v352 : Int) (v353 : Arr api_Press) (v354 : Int) (v355 : Int) : St := ⟨((slC api_PressC v351) :: (un 2 ((.int .i64 v352) :: (un 2 ((slC api_PressC v353) :: (.int .i64 v354) :: (.int .i64 v355) :: (un 14 [])))))), [], 0⟩
def calls_timed_x3_r (q0 : Bool) : St := ⟨(un 2 ((.bool q0) :: (un 20 []))), [], 0⟩
def calls_timed_x3_0 (v351 : Arr api_Press) : St := ⟨((slC api_PressC v351) :: (un 22 [])), [], 0⟩
def calls_timed_b3 {R : Type} (N : Nat) (rc : Arr api_Press → Int → Arr api_Press → Int → Int → Option R) (v351 : Arr api_Press) (v352 : Int) (v353 : Arr api_Press) (v354 : Int) (v355 : Int) (kr : Bool → Option R) (k0 : Unit → Option R) : Option R :=
  bif decide (v355 < v354) then
   bif decide ((0 : Int) ≤ v355) && decide (v355 < (↑(Arr.n v353) : Int)) then
    calls_within N (api_Press.At (Arr.f v353 (Int.toNat v355))) v352 (500 : Int) (fun r356 =>
    bif !r356 then
     kr false
    else
     rc v351 (api_Press.At (Arr.f v353 (Int.toNat v355))) v353 v354 (w64 (v355 + (1 : Int))))
   else
    Option.none
  else
   k0 ()
def calls_timed_l3 {R : Type} (N : Nat) : Nat → Arr api_Press → Int → Arr api_Press → Int → Int → (Bool → Option R) → (Unit → Option R) → Option R
  | 0, _, _, _, _, _, _, _ => Option.none
  | n + 1, v351, v352, v353, v354, v355, kr, k0 => calls_timed_b3 N (fun v351 v352 v353 v354 v355 => calls_timed_l3 N n v351 v352 v353 v354 v355 kr k0) v351 v352 v353 v354 v355 kr k0
def calls_timed_m {R : Type} (N : Nat) (a350 : Arr api_Press) (k : Bool → Option R) : Option R :=
  calls_timed_l3 N N a350 (0 : Int) a350 ((↑(Arr.n a350) : Int)) (0 : Int) (fun r357 =>
   k r357) (fun (_ : Unit) =>
   k (decide ((↑(Arr.n a350) : Int) ≤ (200 : Int))))
noncomputable def calls_timed {R : Type} : Nat → Arr api_Press → (Bool → Option R) → Option R := lock (@calls_timed_m R)
theorem calls_timed_def {R : Type} (N : Nat) (a350 : Arr api_Press) (k : Bool → Option R) : calls_timed N a350 k = calls_timed_m N a350 k := by unfold calls_timed; rw [lock_eq]
def calls_timed_sp : Sp := ⟨[rSl api_PressC], []⟩
theorem calls_timed_sp_ok : calls_timed_sp.Ok := ⟨(allCons (rSl_ok api_PressC_ok) allNil), eNil⟩
def calls_timed_rs : Sp := ⟨[rBool], []⟩
theorem calls_timed_rs_ok : calls_timed_rs.Ok := ⟨(allCons rBool_ok allNil), eNil⟩
def calls_timed_run {R : Type} (N : Nat) (args : List SV) (T : Tab) (kf : SV × Tab → Option R) : Option R :=
  calls_timed_m N (lstC api_PressC (lget args 0)) (fun q0 => kf (lget [.bool q0] 0, []))
def calls_timed_d3 {R : Type} (N : Nat) (S0 : St) (k : Exit → St → Option R) : Option R :=
  calls_timed_l3 N N (lstC api_PressC (lget S0.tmps 0)) (toI (lget S0.tmps 3)) (lstC api_PressC (lget S0.tmps 6)) (toI (lget S0.tmps 7)) (toI (lget S0.tmps 8)) (fun q0 => k .ret (calls_timed_x3_r q0)) (fun (_ : Unit) => k (.exit 0) (calls_timed_x3_0 (lstC api_PressC (lget S0.tmps 0))))
def calls_timed_lp {R : Type} (N : Nat) : Lp R := fun body S k => bif (Go.Sx.keyOf body).getD 0 == 3 then (calls_timed_L3.head.raw 0 S (fun S0 => calls_timed_d3 N S0 k)) else Option.none
theorem calls_timed_l3_eq {R : Type} (N : Nat) (k : Exit → St → Option R) (n : Nat) : ∀ (v0 : Arr api_Press) (v1 : Int) (v2 : Arr api_Press) (v3 : Int) (v4 : Int), loopM E.Θ (ways_Needed_cal N) (calls_timed_lp N) (noJn) 0 calls_timed_L3 (bodyAt E 116 3) n (calls_timed_h3 v0 v1 v2 v3 v4) k = calls_timed_l3 N n v0 v1 v2 v3 v4 (fun q0 => k .ret (calls_timed_x3_r q0)) (fun (_ : Unit) => k (.exit 0) (calls_timed_x3_0 v0)) := by
  induction n with
  | zero => intro v0 v1 v2 v3 v4; rfl
  | succ n ih =>
    intro v0 v1 v2 v3 v4
    refine Eq.trans (b := calls_timed_b3 N (fun v0 v1 v2 v3 v4 => loopM E.Θ (ways_Needed_cal N) (calls_timed_lp N) (noJn) 0 calls_timed_L3 (bodyAt E 116 3) n (calls_timed_h3 v0 v1 v2 v3 v4) k) v0 v1 v2 v3 v4 (fun q0 => k .ret (calls_timed_x3_r q0)) (fun (_ : Unit) => k (.exit 0) (calls_timed_x3_0 v0))) (by kernel_rfl) ?_
    have h : (fun (v0 : Arr api_Press) (v1 : Int) (v2 : Arr api_Press) (v3 : Int) (v4 : Int) => loopM E.Θ (ways_Needed_cal N) (calls_timed_lp N) (noJn) 0 calls_timed_L3 (bodyAt E 116 3) n (calls_timed_h3 v0 v1 v2 v3 v4) k) = (fun (v0 : Arr api_Press) (v1 : Int) (v2 : Arr api_Press) (v3 : Int) (v4 : Int) => calls_timed_l3 N n v0 v1 v2 v3 v4 (fun q0 => k .ret (calls_timed_x3_r q0)) (fun (_ : Unit) => k (.exit 0) (calls_timed_x3_0 v0))) := funext fun v0 => funext fun v1 => funext fun v2 => funext fun v3 => funext fun v4 => ih v0 v1 v2 v3 v4
    rw [h]
    rfl
theorem calls_timed_k3 {R : Type} (N : Nat) : LpKey (R := R) E 116 0 (calls_timed_lp N) 3 :=
  lpKey_of hE (ways_Needed_cal_ok N) (lp := calls_timed_lp N) (jn := noJn) calls_timed_L3_ok [] kNil (by kernel_rfl) [] jNil (by kernel_rfl) N fun S k =>
    Eq.trans (b := calls_timed_L3.head.raw 0 S (fun S0 => calls_timed_d3 N S0 k)) (by kernel_rfl) (congrArg (calls_timed_L3.head.raw 0 S) (funext fun S0 => Eq.trans (calls_timed_l3_eq N k N (lstC api_PressC (lget S0.tmps 0)) (toI (lget S0.tmps 3)) (lstC api_PressC (lget S0.tmps 6)) (toI (lget S0.tmps 7)) (toI (lget S0.tmps 8))).symm (by kernel_rfl)))
noncomputable def calls_timed_go {R : Type} (N : Nat) (args : List SV) (T : Tab) (kf : SV × Tab → Option R) : Option R :=
  calls_timed N (lstC api_PressC (lget args 0)) (fun q0 => kf (lget [.bool q0] 0, []))
noncomputable def calls_timed_cal {R : Type} (N : Nat) : Cal R := callM (ways_Needed_cal N) 116 0 calls_timed_sp (calls_timed_go N)
theorem calls_timed_cal_ok {R : Type} (N : Nat) : CalOk E.P (calls_timed_cal (R := R) N) :=
  callM_ok hE (ways_Needed_cal_ok N) (lp := calls_timed_lp N) (jn := noJn) (keys := [3]) (kCons (calls_timed_k3 N) kNil) (by kernel_rfl) (js := []) jNil (by kernel_rfl) calls_timed_sp_ok calls_timed_rs_ok (fun args T kf => Eq.trans (calls_timed_def N (lstC api_PressC (lget args 0)) (fun q0 => kf (lget [.bool q0] 0, []))) (by kernel_rfl : calls_timed_run N args T kf = fnM E (ways_Needed_cal N) (calls_timed_lp N) (noJn) 116 (calls_timed_sp.vs args) (calls_timed_sp.tab T) 0 (resK calls_timed_rs kf)))
def calls_Check_L6 : LoopSp := ⟨⟨[2, 13, 14, 15], ⟨(dr 2 ((rPtr 0 0) :: (dr 10 ((rSl api_PressC) :: (rInt .i64) :: (rInt .i64) :: (dr 12 []))))), [(0, eBlkC api_CarC)]⟩, 1⟩, [(Option.none, ⟨[4], ⟨(dr 4 ((rInt .i64) :: (dr 23 []))), []⟩, 0⟩), (some 0, ⟨[], ⟨(dr 28 []), []⟩, 0⟩)]⟩
theorem calls_Check_L6_ok : calls_Check_L6.Ok := ⟨⟨(drCons 2 (allCons (rPtr_ok 0 0) (drCons 10 (allCons (rSl_ok api_PressC_ok) (allCons (rInt_ok .i64) (allCons (rInt_ok .i64) (drCons 12 allNil))))))), (eCons (eBlkC_ok api_CarC_ok api_CarC_len) eNil)⟩, (xCons ⟨(drCons 4 (allCons (rInt_ok .i64) (drCons 23 allNil))), eNil⟩ (xCons ⟨(drCons 28 allNil), eNil⟩ xNil))⟩
def calls_Check_h6 (v359 : Arr api_Press) (v360 : Int) (v361 : Int) (v362 : api_Car) : St := ⟨(un 2 ((.ptr 0 0) :: (un 10 ((slC api_PressC v359) :: (.int .i64 v360) :: (.int .i64 v361) :: (un 12 []))))), [(0, .blk (Cod.enc api_CarC v362))], 1⟩
def calls_Check_x6_r (q0 : Int) : St := ⟨(un 4 ((.int .i64 q0) :: (un 23 []))), [], 0⟩
def calls_Check_x6_0  : St := ⟨(un 28 []), [], 0⟩
def calls_Check_b6 {R : Type} (N : Nat) (rc : Arr api_Press → Int → Int → api_Car → Option R) (v359 : Arr api_Press) (v360 : Int) (v361 : Int) (v362 : api_Car) (kr : Int → Option R) (k0 : Unit → Option R) : Option R :=
  bif decide (v361 < v360) then
   bif decide ((0 : Int) ≤ v361) && decide (v361 < (↑(Arr.n v359) : Int)) then
    calls_within N (api_Press.Floor (Arr.f v359 (Int.toNat v361))) (api_Car.Low v362) (api_Car.High v362) (fun r363 =>
    bif !r363 then
     kr (71 : Int)
    else
     rc v359 v360 (w64 (v361 + (1 : Int))) v362)
   else
    Option.none
  else
   k0 ()
def calls_Check_l6 {R : Type} (N : Nat) : Nat → Arr api_Press → Int → Int → api_Car → (Int → Option R) → (Unit → Option R) → Option R
  | 0, _, _, _, _, _, _ => Option.none
  | n + 1, v359, v360, v361, v362, kr, k0 => calls_Check_b6 N (fun v359 v360 v361 v362 => calls_Check_l6 N n v359 v360 v361 v362 kr k0) v359 v360 v361 v362 kr k0
def calls_Check_m {R : Type} (N : Nat) (a347 : api_Car) (a348 : Arr api_Press) (k : Int → Option R) : Option R :=
  calls_valid N a347 (fun r349 =>
  bif !r349 then
   k (70 : Int)
  else
   calls_timed N a348 (fun r358 =>
   bif !r358 then
    k (71 : Int)
   else
    calls_Check_l6 N N a348 ((↑(Arr.n a348) : Int)) (0 : Int) a347 (fun r364 =>
     k r364) (fun (_ : Unit) =>
     k (0 : Int))))
noncomputable def calls_Check {R : Type} : Nat → api_Car → Arr api_Press → (Int → Option R) → Option R := lock (@calls_Check_m R)
theorem calls_Check_def {R : Type} (N : Nat) (a347 : api_Car) (a348 : Arr api_Press) (k : Int → Option R) : calls_Check N a347 a348 k = calls_Check_m N a347 a348 k := by unfold calls_Check; rw [lock_eq]
def calls_Check_sp : Sp := ⟨[rAgg api_CarC, rSl api_PressC], []⟩
theorem calls_Check_sp_ok : calls_Check_sp.Ok := ⟨(allCons (rAgg_ok api_CarC_ok api_CarC_len) (allCons (rSl_ok api_PressC_ok) allNil)), eNil⟩
def calls_Check_rs : Sp := ⟨[rInt .i64], []⟩
theorem calls_Check_rs_ok : calls_Check_rs.Ok := ⟨(allCons (rInt_ok .i64) allNil), eNil⟩
def calls_Check_run {R : Type} (N : Nat) (args : List SV) (T : Tab) (kf : SV × Tab → Option R) : Option R :=
  calls_Check_m N (Cod.dec api_CarC (lget (toCs (lget args 0)))) (lstC api_PressC (lget args 1)) (fun q0 => kf (lget [.int .i64 q0] 0, []))
def calls_Check_d6 {R : Type} (N : Nat) (S0 : St) (k : Exit → St → Option R) : Option R :=
  calls_Check_l6 N N (lstC api_PressC (lget S0.tmps 13)) (toI (lget S0.tmps 14)) (toI (lget S0.tmps 15)) (Cod.dec api_CarC (lget (entCs (entAt S0.tab 0)))) (fun q0 => k .ret (calls_Check_x6_r q0)) (fun (_ : Unit) => k (.exit 0) (calls_Check_x6_0 ))
def calls_Check_lp {R : Type} (N : Nat) : Lp R := fun body S k => bif (Go.Sx.keyOf body).getD 0 == 6 then (calls_Check_L6.head.raw 0 S (fun S0 => calls_Check_d6 N S0 k)) else Option.none
theorem calls_Check_l6_eq {R : Type} (N : Nat) (k : Exit → St → Option R) (n : Nat) : ∀ (v0 : Arr api_Press) (v1 : Int) (v2 : Int) (v3 : api_Car), loopM E.Θ (calls_timed_cal N) (calls_Check_lp N) (noJn) 0 calls_Check_L6 (bodyAt E 81 6) n (calls_Check_h6 v0 v1 v2 v3) k = calls_Check_l6 N n v0 v1 v2 v3 (fun q0 => k .ret (calls_Check_x6_r q0)) (fun (_ : Unit) => k (.exit 0) (calls_Check_x6_0 )) := by
  induction n with
  | zero => intro v0 v1 v2 v3; rfl
  | succ n ih =>
    intro v0 v1 v2 v3
    refine Eq.trans (b := calls_Check_b6 N (fun v0 v1 v2 v3 => loopM E.Θ (calls_timed_cal N) (calls_Check_lp N) (noJn) 0 calls_Check_L6 (bodyAt E 81 6) n (calls_Check_h6 v0 v1 v2 v3) k) v0 v1 v2 v3 (fun q0 => k .ret (calls_Check_x6_r q0)) (fun (_ : Unit) => k (.exit 0) (calls_Check_x6_0 ))) (by kernel_rfl) ?_
    have h : (fun (v0 : Arr api_Press) (v1 : Int) (v2 : Int) (v3 : api_Car) => loopM E.Θ (calls_timed_cal N) (calls_Check_lp N) (noJn) 0 calls_Check_L6 (bodyAt E 81 6) n (calls_Check_h6 v0 v1 v2 v3) k) = (fun (v0 : Arr api_Press) (v1 : Int) (v2 : Int) (v3 : api_Car) => calls_Check_l6 N n v0 v1 v2 v3 (fun q0 => k .ret (calls_Check_x6_r q0)) (fun (_ : Unit) => k (.exit 0) (calls_Check_x6_0 ))) := funext fun v0 => funext fun v1 => funext fun v2 => funext fun v3 => ih v0 v1 v2 v3
    rw [h]
    rfl
theorem calls_Check_k6 {R : Type} (N : Nat) : LpKey (R := R) E 81 0 (calls_Check_lp N) 6 :=
  lpKey_of hE (calls_timed_cal_ok N) (lp := calls_Check_lp N) (jn := noJn) calls_Check_L6_ok [] kNil (by kernel_rfl) [] jNil (by kernel_rfl) N fun S k =>
    Eq.trans (b := calls_Check_L6.head.raw 0 S (fun S0 => calls_Check_d6 N S0 k)) (by kernel_rfl) (congrArg (calls_Check_L6.head.raw 0 S) (funext fun S0 => Eq.trans (calls_Check_l6_eq N k N (lstC api_PressC (lget S0.tmps 13)) (toI (lget S0.tmps 14)) (toI (lget S0.tmps 15)) (Cod.dec api_CarC (lget (entCs (entAt S0.tab 0))))).symm (by kernel_rfl)))
noncomputable def calls_Check_go {R : Type} (N : Nat) (args : List SV) (T : Tab) (kf : SV × Tab → Option R) : Option R :=
  calls_Check N (Cod.dec api_CarC (lget (toCs (lget args 0)))) (lstC api_PressC (lget args 1)) (fun q0 => kf (lget [.int .i64 q0] 0, []))
noncomputable def calls_Check_cal {R : Type} (N : Nat) : Cal R := callM (calls_timed_cal N) 81 0 calls_Check_sp (calls_Check_go N)
theorem calls_Check_cal_ok {R : Type} (N : Nat) : CalOk E.P (calls_Check_cal (R := R) N) :=
  callM_ok hE (calls_timed_cal_ok N) (lp := calls_Check_lp N) (jn := noJn) (keys := [6]) (kCons (calls_Check_k6 N) kNil) (by kernel_rfl) (js := []) jNil (by kernel_rfl) calls_Check_sp_ok calls_Check_rs_ok (fun args T kf => Eq.trans (calls_Check_def N (Cod.dec api_CarC (lget (toCs (lget args 0)))) (lstC api_PressC (lget args 1)) (fun q0 => kf (lget [.int .i64 q0] 0, []))) (by kernel_rfl : calls_Check_run N args T kf = fnM E (calls_timed_cal N) (calls_Check_lp N) (noJn) 81 (calls_Check_sp.vs args) (calls_Check_sp.tab T) 0 (resK calls_Check_rs kf)))
def calls_begin_m {R : Type} (N : Nat) (a368 : api_Car) (k : calls_cage → Option R) : Option R :=
  k (calls_cage.mk a368 (api_Ride.mk (api_Car.Start a368) true false (0 : Int) (0 : Int) (0 : Int)))
noncomputable def calls_begin {R : Type} : Nat → api_Car → (calls_cage → Option R) → Option R := lock (@calls_begin_m R)
theorem calls_begin_def {R : Type} (N : Nat) (a368 : api_Car) (k : calls_cage → Option R) : calls_begin N a368 k = calls_begin_m N a368 k := by unfold calls_begin; rw [lock_eq]
def calls_begin_sp : Sp := ⟨[rAgg api_CarC], []⟩
theorem calls_begin_sp_ok : calls_begin_sp.Ok := ⟨(allCons (rAgg_ok api_CarC_ok api_CarC_len) allNil), eNil⟩
def calls_begin_rs : Sp := ⟨[rPtr 0 0], [(0, eBlkC calls_cageC)]⟩
theorem calls_begin_rs_ok : calls_begin_rs.Ok := ⟨(allCons (rPtr_ok 0 0) allNil), (eCons (eBlkC_ok calls_cageC_ok calls_cageC_len) eNil)⟩
def calls_begin_run {R : Type} (N : Nat) (args : List SV) (T : Tab) (kf : SV × Tab → Option R) : Option R :=
  calls_begin_m N (Cod.dec api_CarC (lget (toCs (lget args 0)))) (fun q0 => kf (lget [.ptr 0 0] 0, [(0, .blk (Cod.enc calls_cageC q0))]))
def calls_begin_lp {R : Type} (N : Nat) : Lp R := fun body S k => Option.none
noncomputable def calls_begin_go {R : Type} (N : Nat) (args : List SV) (T : Tab) (kf : SV × Tab → Option R) : Option R :=
  calls_begin N (Cod.dec api_CarC (lget (toCs (lget args 0)))) (fun q0 => kf (lget [.ptr 0 0] 0, [(0, .blk (Cod.enc calls_cageC q0))]))
noncomputable def calls_begin_cal {R : Type} (N : Nat) : Cal R := callM (calls_Check_cal N) 83 0 calls_begin_sp (calls_begin_go N)
theorem calls_begin_cal_ok {R : Type} (N : Nat) : CalOk E.P (calls_begin_cal (R := R) N) :=
  callM_ok hE (calls_Check_cal_ok N) (lp := calls_begin_lp N) (jn := noJn) (keys := []) kNil (by kernel_rfl) (js := []) jNil (by kernel_rfl) calls_begin_sp_ok calls_begin_rs_ok (fun args T kf => Eq.trans (calls_begin_def N (Cod.dec api_CarC (lget (toCs (lget args 0)))) (fun q0 => kf (lget [.ptr 0 0] 0, [(0, .blk (Cod.enc calls_cageC q0))]))) (by kernel_rfl : calls_begin_run N args T kf = fnM E (calls_Check_cal N) (calls_begin_lp N) (noJn) 83 (calls_begin_sp.vs args) (calls_begin_sp.tab T) 0 (resK calls_begin_rs kf)))
def calls_Waits_1_m {R : Type} (N : Nat) (a386 : Int) (k : Bool → Option R) : Option R :=
  k true
noncomputable def calls_Waits_1 {R : Type} : Nat → Int → (Bool → Option R) → Option R := lock (@calls_Waits_1_m R)
theorem calls_Waits_1_def {R : Type} (N : Nat) (a386 : Int) (k : Bool → Option R) : calls_Waits_1 N a386 k = calls_Waits_1_m N a386 k := by unfold calls_Waits_1; rw [lock_eq]
def calls_Waits_1_sp : Sp := ⟨[rInt .i64], []⟩
theorem calls_Waits_1_sp_ok : calls_Waits_1_sp.Ok := ⟨(allCons (rInt_ok .i64) allNil), eNil⟩
def calls_Waits_1_rs : Sp := ⟨[rBool], []⟩
theorem calls_Waits_1_rs_ok : calls_Waits_1_rs.Ok := ⟨(allCons rBool_ok allNil), eNil⟩
def calls_Waits_1_run {R : Type} (N : Nat) (args : List SV) (T : Tab) (kf : SV × Tab → Option R) : Option R :=
  calls_Waits_1_m N (toI (lget args 0)) (fun q0 => kf (lget [.bool q0] 0, []))
def calls_Waits_1_lp {R : Type} (N : Nat) : Lp R := fun body S k => Option.none
noncomputable def calls_Waits_1_go {R : Type} (N : Nat) (args : List SV) (T : Tab) (kf : SV × Tab → Option R) : Option R :=
  calls_Waits_1 N (toI (lget args 0)) (fun q0 => kf (lget [.bool q0] 0, []))
noncomputable def calls_Waits_1_cal {R : Type} (N : Nat) : Cal R := callM (calls_begin_cal N) 90 0 calls_Waits_1_sp (calls_Waits_1_go N)
theorem calls_Waits_1_cal_ok {R : Type} (N : Nat) : CalOk E.P (calls_Waits_1_cal (R := R) N) :=
  callM_ok hE (calls_begin_cal_ok N) (lp := calls_Waits_1_lp N) (jn := noJn) (keys := []) kNil (by kernel_rfl) (js := []) jNil (by kernel_rfl) calls_Waits_1_sp_ok calls_Waits_1_rs_ok (fun args T kf => Eq.trans (calls_Waits_1_def N (toI (lget args 0)) (fun q0 => kf (lget [.bool q0] 0, []))) (by kernel_rfl : calls_Waits_1_run N args T kf = fnM E (calls_begin_cal N) (calls_Waits_1_lp N) (noJn) 90 (calls_Waits_1_sp.vs args) (calls_Waits_1_sp.tab T) 0 (resK calls_Waits_1_rs kf)))
def calls_cage_end_m {R : Type} (N : Nat) (a394 : calls_cage) (k : calls_cage → Option R) : Option R :=
  bif api_Ride.Doing (calls_cage.Ride a394) == (0 : Int) then
   k a394
  else
   bif decide (w64 (api_Ride.Left (calls_cage.Ride a394) - (1 : Int)) > (0 : Int)) then
    k (calls_cage.mk (calls_cage.Car a394) (api_Ride.mk (api_Ride.Floor (calls_cage.Ride a394)) (api_Ride.Up (calls_cage.Ride a394)) (api_Ride.Stood (calls_cage.Ride a394)) (api_Ride.Doing (calls_cage.Ride a394)) (w64 (api_Ride.Left (calls_cage.Ride a394) - (1 : Int))) (api_Ride.Wants (calls_cage.Ride a394))))
   else
    bif api_Ride.Doing (calls_cage.Ride a394) == (1 : Int) then
     bif api_Ride.Up (calls_cage.Ride a394) then
      k (calls_cage.mk (calls_cage.Car a394) (api_Ride.mk (w64 (api_Ride.Floor (calls_cage.Ride a394) + (1 : Int))) (api_Ride.Up (calls_cage.Ride a394)) false (0 : Int) (w64 (api_Ride.Left (calls_cage.Ride a394) - (1 : Int))) (api_Ride.Wants (calls_cage.Ride a394))))
     else
      k (calls_cage.mk (calls_cage.Car a394) (api_Ride.mk (w64 (api_Ride.Floor (calls_cage.Ride a394) - (1 : Int))) (api_Ride.Up (calls_cage.Ride a394)) false (0 : Int) (w64 (api_Ride.Left (calls_cage.Ride a394) - (1 : Int))) (api_Ride.Wants (calls_cage.Ride a394))))
    else
     k (calls_cage.mk (calls_cage.Car a394) (api_Ride.mk (api_Ride.Floor (calls_cage.Ride a394)) (api_Ride.Up (calls_cage.Ride a394)) (api_Ride.Stood (calls_cage.Ride a394)) (0 : Int) (w64 (api_Ride.Left (calls_cage.Ride a394) - (1 : Int))) (api_Ride.Wants (calls_cage.Ride a394))))
noncomputable def calls_cage_end {R : Type} : Nat → calls_cage → (calls_cage → Option R) → Option R := lock (@calls_cage_end_m R)
theorem calls_cage_end_def {R : Type} (N : Nat) (a394 : calls_cage) (k : calls_cage → Option R) : calls_cage_end N a394 k = calls_cage_end_m N a394 k := by unfold calls_cage_end; rw [lock_eq]
def calls_cage_end_sp : Sp := ⟨[rPtr 0 0], [(0, eBlkC calls_cageC)]⟩
theorem calls_cage_end_sp_ok : calls_cage_end_sp.Ok := ⟨(allCons (rPtr_ok 0 0) allNil), (eCons (eBlkC_ok calls_cageC_ok calls_cageC_len) eNil)⟩
def calls_cage_end_rs : Sp := ⟨[rTup []], [(0, eBlkC calls_cageC)]⟩
theorem calls_cage_end_rs_ok : calls_cage_end_rs.Ok := ⟨(allCons (rTup_ok allNil) allNil), (eCons (eBlkC_ok calls_cageC_ok calls_cageC_len) eNil)⟩
def calls_cage_end_run {R : Type} (N : Nat) (args : List SV) (T : Tab) (kf : SV × Tab → Option R) : Option R :=
  calls_cage_end_m N (Cod.dec calls_cageC (lget (entCs (entAt T 0)))) (fun q0 => kf (lget [.tup []] 0, [(0, .blk (Cod.enc calls_cageC q0))]))
def calls_cage_end_lp {R : Type} (N : Nat) : Lp R := fun body S k => Option.none
noncomputable def calls_cage_end_go {R : Type} (N : Nat) (args : List SV) (T : Tab) (kf : SV × Tab → Option R) : Option R :=
  calls_cage_end N (Cod.dec calls_cageC (lget (entCs (entAt T 0)))) (fun q0 => kf (lget [.tup []] 0, [(0, .blk (Cod.enc calls_cageC q0))]))
noncomputable def calls_cage_end_cal {R : Type} (N : Nat) : Cal R := callM (calls_Waits_1_cal N) 117 1 calls_cage_end_sp (calls_cage_end_go N)
theorem calls_cage_end_cal_ok {R : Type} (N : Nat) : CalOk E.P (calls_cage_end_cal (R := R) N) :=
  callM_ok hE (calls_Waits_1_cal_ok N) (lp := calls_cage_end_lp N) (jn := noJn) (keys := []) kNil (by kernel_rfl) (js := []) jNil (by kernel_rfl) calls_cage_end_sp_ok calls_cage_end_rs_ok (fun args T kf => Eq.trans (calls_cage_end_def N (Cod.dec calls_cageC (lget (entCs (entAt T 0)))) (fun q0 => kf (lget [.tup []] 0, [(0, .blk (Cod.enc calls_cageC q0))]))) (by kernel_rfl : calls_cage_end_run N args T kf = fnM E (calls_Waits_1_cal N) (calls_cage_end_lp N) (noJn) 117 (calls_cage_end_sp.vs args) (calls_cage_end_sp.tab T) 1 (resK calls_cage_end_rs kf)))
def calls_cage_press_m {R : Type} (N : Nat) (a401 : Int) (a402 : calls_cage) (k : Bool → calls_cage → Option R) : Option R :=
  bif api_Ride.Doing (calls_cage.Ride a402) == (2 : Int) then
   bif a401 == api_Ride.Floor (calls_cage.Ride a402) then
    k true a402
   else
    bif decide (a401 < (0 : Int)) then
     Option.none
    else
     k false (calls_cage.mk (calls_cage.Car a402) (api_Ride.mk (api_Ride.Floor (calls_cage.Ride a402)) (api_Ride.Up (calls_cage.Ride a402)) (api_Ride.Stood (calls_cage.Ride a402)) (api_Ride.Doing (calls_cage.Ride a402)) (api_Ride.Left (calls_cage.Ride a402)) (w64 (↑(BitVec.toNat (BitVec.ofInt (IntKind.bits IntKind.i64) (api_Ride.Wants (calls_cage.Ride a402)) ||| BitVec.ofInt (IntKind.bits IntKind.i64) (w64 ((1 : Int) * (2 : Int) ^ min (Int.toNat a401) (IntKind.bits IntKind.i64))))) : Int))))
  else
   bif decide (a401 < (0 : Int)) then
    Option.none
   else
    k false (calls_cage.mk (calls_cage.Car a402) (api_Ride.mk (api_Ride.Floor (calls_cage.Ride a402)) (api_Ride.Up (calls_cage.Ride a402)) (api_Ride.Stood (calls_cage.Ride a402)) (api_Ride.Doing (calls_cage.Ride a402)) (api_Ride.Left (calls_cage.Ride a402)) (w64 (↑(BitVec.toNat (BitVec.ofInt (IntKind.bits IntKind.i64) (api_Ride.Wants (calls_cage.Ride a402)) ||| BitVec.ofInt (IntKind.bits IntKind.i64) (w64 ((1 : Int) * (2 : Int) ^ min (Int.toNat a401) (IntKind.bits IntKind.i64))))) : Int))))
noncomputable def calls_cage_press {R : Type} : Nat → Int → calls_cage → (Bool → calls_cage → Option R) → Option R := lock (@calls_cage_press_m R)
theorem calls_cage_press_def {R : Type} (N : Nat) (a401 : Int) (a402 : calls_cage) (k : Bool → calls_cage → Option R) : calls_cage_press N a401 a402 k = calls_cage_press_m N a401 a402 k := by unfold calls_cage_press; rw [lock_eq]
def calls_cage_press_sp : Sp := ⟨[rPtr 0 0, rInt .i64], [(0, eBlkC calls_cageC)]⟩
theorem calls_cage_press_sp_ok : calls_cage_press_sp.Ok := ⟨(allCons (rPtr_ok 0 0) (allCons (rInt_ok .i64) allNil)), (eCons (eBlkC_ok calls_cageC_ok calls_cageC_len) eNil)⟩
def calls_cage_press_rs : Sp := ⟨[rBool], [(0, eBlkC calls_cageC)]⟩
theorem calls_cage_press_rs_ok : calls_cage_press_rs.Ok := ⟨(allCons rBool_ok allNil), (eCons (eBlkC_ok calls_cageC_ok calls_cageC_len) eNil)⟩
def calls_cage_press_run {R : Type} (N : Nat) (args : List SV) (T : Tab) (kf : SV × Tab → Option R) : Option R :=
  calls_cage_press_m N (toI (lget args 1)) (Cod.dec calls_cageC (lget (entCs (entAt T 0)))) (fun q0 q1 => kf (lget [.bool q0] 0, [(0, .blk (Cod.enc calls_cageC q1))]))
def calls_cage_press_lp {R : Type} (N : Nat) : Lp R := fun body S k => Option.none
noncomputable def calls_cage_press_go {R : Type} (N : Nat) (args : List SV) (T : Tab) (kf : SV × Tab → Option R) : Option R :=
  calls_cage_press N (toI (lget args 1)) (Cod.dec calls_cageC (lget (entCs (entAt T 0)))) (fun q0 q1 => kf (lget [.bool q0] 0, [(0, .blk (Cod.enc calls_cageC q1))]))
noncomputable def calls_cage_press_cal {R : Type} (N : Nat) : Cal R := callM (calls_cage_end_cal N) 118 1 calls_cage_press_sp (calls_cage_press_go N)
theorem calls_cage_press_cal_ok {R : Type} (N : Nat) : CalOk E.P (calls_cage_press_cal (R := R) N) :=
  callM_ok hE (calls_cage_end_cal_ok N) (lp := calls_cage_press_lp N) (jn := noJn) (keys := []) kNil (by kernel_rfl) (js := []) jNil (by kernel_rfl) calls_cage_press_sp_ok calls_cage_press_rs_ok (fun args T kf => Eq.trans (calls_cage_press_def N (toI (lget args 1)) (Cod.dec calls_cageC (lget (entCs (entAt T 0)))) (fun q0 q1 => kf (lget [.bool q0] 0, [(0, .blk (Cod.enc calls_cageC q1))]))) (by kernel_rfl : calls_cage_press_run N args T kf = fnM E (calls_cage_end_cal N) (calls_cage_press_lp N) (noJn) 118 (calls_cage_press_sp.vs args) (calls_cage_press_sp.tab T) 1 (resK calls_cage_press_rs kf)))
def calls_cage_ahead_m {R : Type} (N : Nat) (a408 : calls_cage) (k : Int → Option R) : Option R :=
  bif decide (api_Ride.Floor (calls_cage.Ride a408) < (0 : Int)) then
   Option.none
  else
   bif api_Ride.Up (calls_cage.Ride a408) then
    bif decide (api_Ride.Floor (calls_cage.Ride a408) < (0 : Int)) then
     Option.none
    else
     k (w64 (↑(BitVec.toNat (BitVec.ofInt (IntKind.bits IntKind.i64) (if IntKind.signed IntKind.i64 = true then (-1 : Int) else IntKind.max IntKind.i64) ^^^ BitVec.ofInt (IntKind.bits IntKind.i64) (w64 (↑(BitVec.toNat (BitVec.ofInt (IntKind.bits IntKind.i64) (w64 (w64 ((1 : Int) * (2 : Int) ^ min (Int.toNat (api_Ride.Floor (calls_cage.Ride a408))) (IntKind.bits IntKind.i64)) - (1 : Int))) ||| BitVec.ofInt (IntKind.bits IntKind.i64) (w64 ((1 : Int) * (2 : Int) ^ min (Int.toNat (api_Ride.Floor (calls_cage.Ride a408))) (IntKind.bits IntKind.i64))))) : Int)))) : Int))
   else
    k (w64 (w64 ((1 : Int) * (2 : Int) ^ min (Int.toNat (api_Ride.Floor (calls_cage.Ride a408))) (IntKind.bits IntKind.i64)) - (1 : Int)))
noncomputable def calls_cage_ahead {R : Type} : Nat → calls_cage → (Int → Option R) → Option R := lock (@calls_cage_ahead_m R)
theorem calls_cage_ahead_def {R : Type} (N : Nat) (a408 : calls_cage) (k : Int → Option R) : calls_cage_ahead N a408 k = calls_cage_ahead_m N a408 k := by unfold calls_cage_ahead; rw [lock_eq]
def calls_cage_ahead_sp : Sp := ⟨[rEptr calls_cageC], []⟩
theorem calls_cage_ahead_sp_ok : calls_cage_ahead_sp.Ok := ⟨(allCons (rEptr_ok calls_cageC_ok) allNil), eNil⟩
def calls_cage_ahead_rs : Sp := ⟨[rInt .i64], []⟩
theorem calls_cage_ahead_rs_ok : calls_cage_ahead_rs.Ok := ⟨(allCons (rInt_ok .i64) allNil), eNil⟩
def calls_cage_ahead_run {R : Type} (N : Nat) (args : List SV) (T : Tab) (kf : SV × Tab → Option R) : Option R :=
  calls_cage_ahead_m N (Cod.dec calls_cageC (toE (lget args 0))) (fun q0 => kf (lget [.int .i64 q0] 0, []))
def calls_cage_ahead_lp {R : Type} (N : Nat) : Lp R := fun body S k => Option.none
noncomputable def calls_cage_ahead_go {R : Type} (N : Nat) (args : List SV) (T : Tab) (kf : SV × Tab → Option R) : Option R :=
  calls_cage_ahead N (Cod.dec calls_cageC (toE (lget args 0))) (fun q0 => kf (lget [.int .i64 q0] 0, []))
noncomputable def calls_cage_ahead_cal {R : Type} (N : Nat) : Cal R := callM (calls_cage_press_cal N) 136 0 calls_cage_ahead_sp (calls_cage_ahead_go N)
theorem calls_cage_ahead_cal_ok {R : Type} (N : Nat) : CalOk E.P (calls_cage_ahead_cal (R := R) N) :=
  callM_ok hE (calls_cage_press_cal_ok N) (lp := calls_cage_ahead_lp N) (jn := noJn) (keys := []) kNil (by kernel_rfl) (js := []) jNil (by kernel_rfl) calls_cage_ahead_sp_ok calls_cage_ahead_rs_ok (fun args T kf => Eq.trans (calls_cage_ahead_def N (Cod.dec calls_cageC (toE (lget args 0))) (fun q0 => kf (lget [.int .i64 q0] 0, []))) (by kernel_rfl : calls_cage_ahead_run N args T kf = fnM E (calls_cage_press_cal N) (calls_cage_ahead_lp N) (noJn) 136 (calls_cage_ahead_sp.vs args) (calls_cage_ahead_sp.tab T) 0 (resK calls_cage_ahead_rs kf)))
def calls_cage_begins_m {R : Type} (N : Nat) (a407 : calls_cage) (k : Bool → calls_cage → Option R) : Option R :=
  bif api_Ride.Doing (calls_cage.Ride a407) != (0 : Int) then
   k false a407
  else
   bif api_Ride.Wants (calls_cage.Ride a407) == (0 : Int) then
    k false a407
   else
    bif decide (api_Ride.Floor (calls_cage.Ride a407) < (0 : Int)) then
     Option.none
    else
     bif w64 (↑(BitVec.toNat (BitVec.ofInt (IntKind.bits IntKind.i64) (api_Ride.Wants (calls_cage.Ride a407)) &&& BitVec.ofInt (IntKind.bits IntKind.i64) (w64 ((1 : Int) * (2 : Int) ^ min (Int.toNat (api_Ride.Floor (calls_cage.Ride a407))) (IntKind.bits IntKind.i64))))) : Int) != (0 : Int) then
      bif !api_Ride.Stood (calls_cage.Ride a407) then
       k true (calls_cage.mk (calls_cage.Car a407) (api_Ride.mk (api_Ride.Floor (calls_cage.Ride a407)) (api_Ride.Up (calls_cage.Ride a407)) true (2 : Int) (api_Car.Stop (calls_cage.Car a407)) (w64 (↑(BitVec.toNat (BitVec.ofInt (IntKind.bits IntKind.i64) (api_Ride.Wants (calls_cage.Ride a407)) &&& ~~~BitVec.ofInt (IntKind.bits IntKind.i64) (w64 ((1 : Int) * (2 : Int) ^ min (Int.toNat (api_Ride.Floor (calls_cage.Ride a407))) (IntKind.bits IntKind.i64))))) : Int))))
      else
       bif api_Ride.Wants (calls_cage.Ride a407) == w64 ((1 : Int) * (2 : Int) ^ min (Int.toNat (api_Ride.Floor (calls_cage.Ride a407))) (IntKind.bits IntKind.i64)) then
        k true (calls_cage.mk (calls_cage.Car a407) (api_Ride.mk (api_Ride.Floor (calls_cage.Ride a407)) (api_Ride.Up (calls_cage.Ride a407)) true (2 : Int) (api_Car.Stop (calls_cage.Car a407)) (w64 (↑(BitVec.toNat (BitVec.ofInt (IntKind.bits IntKind.i64) (api_Ride.Wants (calls_cage.Ride a407)) &&& ~~~BitVec.ofInt (IntKind.bits IntKind.i64) (w64 ((1 : Int) * (2 : Int) ^ min (Int.toNat (api_Ride.Floor (calls_cage.Ride a407))) (IntKind.bits IntKind.i64))))) : Int))))
       else
        calls_cage_ahead N a407 (fun r409 =>
        bif w64 (↑(BitVec.toNat (BitVec.ofInt (IntKind.bits IntKind.i64) (api_Ride.Wants (calls_cage.Ride a407)) &&& BitVec.ofInt (IntKind.bits IntKind.i64) r409)) : Int) == (0 : Int) then
         k false (calls_cage.mk (calls_cage.Car a407) (api_Ride.mk (api_Ride.Floor (calls_cage.Ride a407)) (!api_Ride.Up (calls_cage.Ride a407)) (api_Ride.Stood (calls_cage.Ride a407)) (1 : Int) (api_Car.Move (calls_cage.Car a407)) (api_Ride.Wants (calls_cage.Ride a407))))
        else
         k false (calls_cage.mk (calls_cage.Car a407) (api_Ride.mk (api_Ride.Floor (calls_cage.Ride a407)) (api_Ride.Up (calls_cage.Ride a407)) (api_Ride.Stood (calls_cage.Ride a407)) (1 : Int) (api_Car.Move (calls_cage.Car a407)) (api_Ride.Wants (calls_cage.Ride a407)))))
     else
      calls_cage_ahead N a407 (fun r410 =>
      bif w64 (↑(BitVec.toNat (BitVec.ofInt (IntKind.bits IntKind.i64) (api_Ride.Wants (calls_cage.Ride a407)) &&& BitVec.ofInt (IntKind.bits IntKind.i64) r410)) : Int) == (0 : Int) then
       k false (calls_cage.mk (calls_cage.Car a407) (api_Ride.mk (api_Ride.Floor (calls_cage.Ride a407)) (!api_Ride.Up (calls_cage.Ride a407)) (api_Ride.Stood (calls_cage.Ride a407)) (1 : Int) (api_Car.Move (calls_cage.Car a407)) (api_Ride.Wants (calls_cage.Ride a407))))
      else
       k false (calls_cage.mk (calls_cage.Car a407) (api_Ride.mk (api_Ride.Floor (calls_cage.Ride a407)) (api_Ride.Up (calls_cage.Ride a407)) (api_Ride.Stood (calls_cage.Ride a407)) (1 : Int) (api_Car.Move (calls_cage.Car a407)) (api_Ride.Wants (calls_cage.Ride a407)))))
noncomputable def calls_cage_begins {R : Type} : Nat → calls_cage → (Bool → calls_cage → Option R) → Option R := lock (@calls_cage_begins_m R)
theorem calls_cage_begins_def {R : Type} (N : Nat) (a407 : calls_cage) (k : Bool → calls_cage → Option R) : calls_cage_begins N a407 k = calls_cage_begins_m N a407 k := by unfold calls_cage_begins; rw [lock_eq]
def calls_cage_begins_sp : Sp := ⟨[rPtr 0 0], [(0, eBlkC calls_cageC)]⟩
theorem calls_cage_begins_sp_ok : calls_cage_begins_sp.Ok := ⟨(allCons (rPtr_ok 0 0) allNil), (eCons (eBlkC_ok calls_cageC_ok calls_cageC_len) eNil)⟩
def calls_cage_begins_rs : Sp := ⟨[rBool], [(0, eBlkC calls_cageC)]⟩
theorem calls_cage_begins_rs_ok : calls_cage_begins_rs.Ok := ⟨(allCons rBool_ok allNil), (eCons (eBlkC_ok calls_cageC_ok calls_cageC_len) eNil)⟩
def calls_cage_begins_run {R : Type} (N : Nat) (args : List SV) (T : Tab) (kf : SV × Tab → Option R) : Option R :=
  calls_cage_begins_m N (Cod.dec calls_cageC (lget (entCs (entAt T 0)))) (fun q0 q1 => kf (lget [.bool q0] 0, [(0, .blk (Cod.enc calls_cageC q1))]))
def calls_cage_begins_lp {R : Type} (N : Nat) : Lp R := fun body S k => Option.none
noncomputable def calls_cage_begins_go {R : Type} (N : Nat) (args : List SV) (T : Tab) (kf : SV × Tab → Option R) : Option R :=
  calls_cage_begins N (Cod.dec calls_cageC (lget (entCs (entAt T 0)))) (fun q0 q1 => kf (lget [.bool q0] 0, [(0, .blk (Cod.enc calls_cageC q1))]))
noncomputable def calls_cage_begins_cal {R : Type} (N : Nat) : Cal R := callM (calls_cage_ahead_cal N) 119 1 calls_cage_begins_sp (calls_cage_begins_go N)
theorem calls_cage_begins_cal_ok {R : Type} (N : Nat) : CalOk E.P (calls_cage_begins_cal (R := R) N) :=
  callM_ok hE (calls_cage_ahead_cal_ok N) (lp := calls_cage_begins_lp N) (jn := noJn) (keys := []) kNil (by kernel_rfl) (js := []) jNil (by kernel_rfl) calls_cage_begins_sp_ok calls_cage_begins_rs_ok (fun args T kf => Eq.trans (calls_cage_begins_def N (Cod.dec calls_cageC (lget (entCs (entAt T 0)))) (fun q0 q1 => kf (lget [.bool q0] 0, [(0, .blk (Cod.enc calls_cageC q1))]))) (by kernel_rfl : calls_cage_begins_run N args T kf = fnM E (calls_cage_ahead_cal N) (calls_cage_begins_lp N) (noJn) 119 (calls_cage_begins_sp.vs args) (calls_cage_begins_sp.tab T) 1 (resK calls_cage_begins_rs kf)))
def calls_cage_tick_L3 : LoopSp := ⟨⟨[0, 4, 9, 10, 11], ⟨((rPtr 0 0) :: (dr 3 ((rInt .i64) :: (dr 4 ((rSl intC) :: (rInt .i64) :: (rInt .i64) :: (dr 22 [])))))), [(0, eBlkC calls_cageC)]⟩, 1⟩, [(some 0, ⟨[0, 4], ⟨((rPtr 0 0) :: (dr 3 ((rInt .i64) :: (dr 29 [])))), [(0, eBlkC calls_cageC)]⟩, 1⟩)]⟩
theorem calls_cage_tick_L3_ok : calls_cage_tick_L3.Ok := ⟨⟨(allCons (rPtr_ok 0 0) (drCons 3 (allCons (rInt_ok .i64) (drCons 4 (allCons (rSl_ok intC_ok) (allCons (rInt_ok .i64) (allCons (rInt_ok .i64) (drCons 22 allNil)))))))), (eCons (eBlkC_ok calls_cageC_ok calls_cageC_len) eNil)⟩, (xCons ⟨(allCons (rPtr_ok 0 0) (drCons 3 (allCons (rInt_ok .i64) (drCons 29 allNil)))), (eCons (eBlkC_ok calls_cageC_ok calls_cageC_len) eNil)⟩ xNil)⟩
def calls_cage_tick_h3 (v396 : Int) (v397 : Arr Int) (v398 : Int) (v399 : Int) (v400 : calls_cage) : St := ⟨((.ptr 0 0) :: (un 3 ((.int .i64 v396) :: (un 4 ((slC intC v397) :: (.int .i64 v398) :: (.int .i64 v399) :: (un 22 [])))))), [(0, .blk (Cod.enc calls_cageC v400))], 1⟩
def calls_cage_tick_x3_0 (q0 : Int) (q1 : calls_cage) : St := ⟨((.ptr 0 0) :: (un 3 ((.int .i64 q0) :: (un 29 [])))), [(0, .blk (Cod.enc calls_cageC q1))], 1⟩
def calls_cage_tick_b3 {R : Type} (N : Nat) (rc : Int → Arr Int → Int → Int → calls_cage → Option R) (v396 : Int) (v397 : Arr Int) (v398 : Int) (v399 : Int) (v400 : calls_cage) (k0 : Int → calls_cage → Option R) : Option R :=
  bif decide (v399 < v398) then
   bif decide ((0 : Int) ≤ v399) && decide (v399 < (↑(Arr.n v397) : Int)) then
    calls_cage_press N (Arr.f v397 (Int.toNat v399)) v400 (fun r403 r404 =>
    bif r403 then
     bif decide (Arr.f v397 (Int.toNat v399) < (0 : Int)) then
      Option.none
     else
      rc (w64 (↑(BitVec.toNat (BitVec.ofInt (IntKind.bits IntKind.i64) v396 ||| BitVec.ofInt (IntKind.bits IntKind.i64) (w64 ((1 : Int) * (2 : Int) ^ min (Int.toNat (Arr.f v397 (Int.toNat v399))) (IntKind.bits IntKind.i64))))) : Int)) v397 v398 (w64 (v399 + (1 : Int))) r404
    else
     rc v396 v397 v398 (w64 (v399 + (1 : Int))) r404)
   else
    Option.none
  else
   k0 v396 v400
def calls_cage_tick_l3 {R : Type} (N : Nat) : Nat → Int → Arr Int → Int → Int → calls_cage → (Int → calls_cage → Option R) → Option R
  | 0, _, _, _, _, _, _ => Option.none
  | n + 1, v396, v397, v398, v399, v400, k0 => calls_cage_tick_b3 N (fun v396 v397 v398 v399 v400 => calls_cage_tick_l3 N n v396 v397 v398 v399 v400 k0) v396 v397 v398 v399 v400 k0
def calls_cage_tick_m {R : Type} (N : Nat) (a392 : Arr Int) (a393 : calls_cage) (k : Int → calls_cage → Option R) : Option R :=
  calls_cage_end N a393 (fun r395 =>
  calls_cage_tick_l3 N N (0 : Int) a392 ((↑(Arr.n a392) : Int)) (0 : Int) r395 (fun r405 r406 =>
   calls_cage_begins N r406 (fun r411 r412 =>
   bif r411 then
    bif decide (api_Ride.Floor (calls_cage.Ride r412) < (0 : Int)) then
     Option.none
    else
     k (w64 (↑(BitVec.toNat (BitVec.ofInt (IntKind.bits IntKind.i64) r405 ||| BitVec.ofInt (IntKind.bits IntKind.i64) (w64 ((1 : Int) * (2 : Int) ^ min (Int.toNat (api_Ride.Floor (calls_cage.Ride r412))) (IntKind.bits IntKind.i64))))) : Int)) r412
   else
    k r405 r412)))
noncomputable def calls_cage_tick {R : Type} : Nat → Arr Int → calls_cage → (Int → calls_cage → Option R) → Option R := lock (@calls_cage_tick_m R)
theorem calls_cage_tick_def {R : Type} (N : Nat) (a392 : Arr Int) (a393 : calls_cage) (k : Int → calls_cage → Option R) : calls_cage_tick N a392 a393 k = calls_cage_tick_m N a392 a393 k := by unfold calls_cage_tick; rw [lock_eq]
def calls_cage_tick_sp : Sp := ⟨[rPtr 0 0, rSl intC], [(0, eBlkC calls_cageC)]⟩
theorem calls_cage_tick_sp_ok : calls_cage_tick_sp.Ok := ⟨(allCons (rPtr_ok 0 0) (allCons (rSl_ok intC_ok) allNil)), (eCons (eBlkC_ok calls_cageC_ok calls_cageC_len) eNil)⟩
def calls_cage_tick_rs : Sp := ⟨[rInt .i64], [(0, eBlkC calls_cageC)]⟩
theorem calls_cage_tick_rs_ok : calls_cage_tick_rs.Ok := ⟨(allCons (rInt_ok .i64) allNil), (eCons (eBlkC_ok calls_cageC_ok calls_cageC_len) eNil)⟩
def calls_cage_tick_run {R : Type} (N : Nat) (args : List SV) (T : Tab) (kf : SV × Tab → Option R) : Option R :=
  calls_cage_tick_m N (lstC intC (lget args 1)) (Cod.dec calls_cageC (lget (entCs (entAt T 0)))) (fun q0 q1 => kf (lget [.int .i64 q0] 0, [(0, .blk (Cod.enc calls_cageC q1))]))
def calls_cage_tick_d3 {R : Type} (N : Nat) (S0 : St) (k : Exit → St → Option R) : Option R :=
  calls_cage_tick_l3 N N (toI (lget S0.tmps 4)) (lstC intC (lget S0.tmps 9)) (toI (lget S0.tmps 10)) (toI (lget S0.tmps 11)) (Cod.dec calls_cageC (lget (entCs (entAt S0.tab 0)))) (fun q0 q1 => k (.exit 0) (calls_cage_tick_x3_0 q0 q1))
def calls_cage_tick_lp {R : Type} (N : Nat) : Lp R := fun body S k => bif (Go.Sx.keyOf body).getD 0 == 3 then (calls_cage_tick_L3.head.raw 1 S (fun S0 => calls_cage_tick_d3 N S0 k)) else Option.none
theorem calls_cage_tick_l3_eq {R : Type} (N : Nat) (k : Exit → St → Option R) (n : Nat) : ∀ (v0 : Int) (v1 : Arr Int) (v2 : Int) (v3 : Int) (v4 : calls_cage), loopM E.Θ (calls_cage_begins_cal N) (calls_cage_tick_lp N) (noJn) 1 calls_cage_tick_L3 (bodyAt E 84 3) n (calls_cage_tick_h3 v0 v1 v2 v3 v4) k = calls_cage_tick_l3 N n v0 v1 v2 v3 v4 (fun q0 q1 => k (.exit 0) (calls_cage_tick_x3_0 q0 q1)) := by
  induction n with
  | zero => intro v0 v1 v2 v3 v4; rfl
  | succ n ih =>
    intro v0 v1 v2 v3 v4
    refine Eq.trans (b := calls_cage_tick_b3 N (fun v0 v1 v2 v3 v4 => loopM E.Θ (calls_cage_begins_cal N) (calls_cage_tick_lp N) (noJn) 1 calls_cage_tick_L3 (bodyAt E 84 3) n (calls_cage_tick_h3 v0 v1 v2 v3 v4) k) v0 v1 v2 v3 v4 (fun q0 q1 => k (.exit 0) (calls_cage_tick_x3_0 q0 q1))) (by kernel_rfl) ?_
    have h : (fun (v0 : Int) (v1 : Arr Int) (v2 : Int) (v3 : Int) (v4 : calls_cage) => loopM E.Θ (calls_cage_begins_cal N) (calls_cage_tick_lp N) (noJn) 1 calls_cage_tick_L3 (bodyAt E 84 3) n (calls_cage_tick_h3 v0 v1 v2 v3 v4) k) = (fun (v0 : Int) (v1 : Arr Int) (v2 : Int) (v3 : Int) (v4 : calls_cage) => calls_cage_tick_l3 N n v0 v1 v2 v3 v4 (fun q0 q1 => k (.exit 0) (calls_cage_tick_x3_0 q0 q1))) := funext fun v0 => funext fun v1 => funext fun v2 => funext fun v3 => funext fun v4 => ih v0 v1 v2 v3 v4
    rw [h]
    rfl
theorem calls_cage_tick_k3 {R : Type} (N : Nat) : LpKey (R := R) E 84 1 (calls_cage_tick_lp N) 3 :=
  lpKey_of hE (calls_cage_begins_cal_ok N) (lp := calls_cage_tick_lp N) (jn := noJn) calls_cage_tick_L3_ok [] kNil (by kernel_rfl) [] jNil (by kernel_rfl) N fun S k =>
    Eq.trans (b := calls_cage_tick_L3.head.raw 1 S (fun S0 => calls_cage_tick_d3 N S0 k)) (by kernel_rfl) (congrArg (calls_cage_tick_L3.head.raw 1 S) (funext fun S0 => Eq.trans (calls_cage_tick_l3_eq N k N (toI (lget S0.tmps 4)) (lstC intC (lget S0.tmps 9)) (toI (lget S0.tmps 10)) (toI (lget S0.tmps 11)) (Cod.dec calls_cageC (lget (entCs (entAt S0.tab 0))))).symm (by kernel_rfl)))
noncomputable def calls_cage_tick_go {R : Type} (N : Nat) (args : List SV) (T : Tab) (kf : SV × Tab → Option R) : Option R :=
  calls_cage_tick N (lstC intC (lget args 1)) (Cod.dec calls_cageC (lget (entCs (entAt T 0)))) (fun q0 q1 => kf (lget [.int .i64 q0] 0, [(0, .blk (Cod.enc calls_cageC q1))]))
noncomputable def calls_cage_tick_cal {R : Type} (N : Nat) : Cal R := callM (calls_cage_begins_cal N) 84 1 calls_cage_tick_sp (calls_cage_tick_go N)
theorem calls_cage_tick_cal_ok {R : Type} (N : Nat) : CalOk E.P (calls_cage_tick_cal (R := R) N) :=
  callM_ok hE (calls_cage_begins_cal_ok N) (lp := calls_cage_tick_lp N) (jn := noJn) (keys := [3]) (kCons (calls_cage_tick_k3 N) kNil) (by kernel_rfl) (js := []) jNil (by kernel_rfl) calls_cage_tick_sp_ok calls_cage_tick_rs_ok (fun args T kf => Eq.trans (calls_cage_tick_def N (lstC intC (lget args 1)) (Cod.dec calls_cageC (lget (entCs (entAt T 0)))) (fun q0 q1 => kf (lget [.int .i64 q0] 0, [(0, .blk (Cod.enc calls_cageC q1))]))) (by kernel_rfl : calls_cage_tick_run N args T kf = fnM E (calls_cage_begins_cal N) (calls_cage_tick_lp N) (noJn) 84 (calls_cage_tick_sp.vs args) (calls_cage_tick_sp.tab T) 1 (resK calls_cage_tick_rs kf)))
def calls_waits_L9 : LoopSp := ⟨⟨[1, 2, 7, 8, 9, 10, 11, 12], ⟨(dr 1 ((rSl api_PressC) :: (rFunc 90 0 []) :: (dr 4 ((rRow 0) :: (rRow 1) :: (rPtr 2 0) :: (rInt .i64) :: (rInt .i64) :: (rRow 3) :: (dr 102 []))))), [(0, eRow intC), (1, eFm .i64 intC), (2, eBlkC calls_cageC), (3, eRow intC)]⟩, 4⟩, [(some 2, ⟨[1, 2, 7, 8, 9, 10, 11, 12], ⟨(dr 1 ((rSl api_PressC) :: (rFunc 90 0 []) :: (dr 4 ((rRow 0) :: (rRow 1) :: (rPtr 2 0) :: (rInt .i64) :: (rInt .i64) :: (rRow 3) :: (dr 102 []))))), [(0, eRow intC), (1, eFm .i64 intC), (2, eBlkC calls_cageC), (3, eRow intC)]⟩, 4⟩)]⟩
theorem calls_waits_L9_ok : calls_waits_L9.Ok := ⟨⟨(drCons 1 (allCons (rSl_ok api_PressC_ok) (allCons (rFunc_ok 90 0 allNil) (drCons 4 (allCons (rRow_ok 0) (allCons (rRow_ok 1) (allCons (rPtr_ok 2 0) (allCons (rInt_ok .i64) (allCons (rInt_ok .i64) (allCons (rRow_ok 3) (drCons 102 allNil))))))))))), (eCons (eRow_ok intC_ok) (eCons (eFm_ok intC_ok) (eCons (eBlkC_ok calls_cageC_ok calls_cageC_len) (eCons (eRow_ok intC_ok) eNil))))⟩, (xCons ⟨(drCons 1 (allCons (rSl_ok api_PressC_ok) (allCons (rFunc_ok 90 0 allNil) (drCons 4 (allCons (rRow_ok 0) (allCons (rRow_ok 1) (allCons (rPtr_ok 2 0) (allCons (rInt_ok .i64) (allCons (rInt_ok .i64) (allCons (rRow_ok 3) (drCons 102 allNil))))))))))), (eCons (eRow_ok intC_ok) (eCons (eFm_ok intC_ok) (eCons (eBlkC_ok calls_cageC_ok calls_cageC_len) (eCons (eRow_ok intC_ok) eNil))))⟩ xNil)⟩
def calls_waits_h9 (v377 : Arr api_Press) (v378 : Int) (v379 : Int) (v380 : Bool) (v381 : Arr Int) (v382 : Fm Int) (v383 : calls_cage) (v384 : Bool) (v385 : Arr Int) : St := ⟨(un 1 ((slC api_PressC v377) :: (.func 90 0 []) :: (un 4 ((.row 0) :: (.row 1) :: (.ptr 2 0) :: (.int .i64 v378) :: (.int .i64 v379) :: (.row 3) :: (un 102 []))))), [(0, rowE intC v380 v381), (1, fmE .i64 intC v382), (2, .blk (Cod.enc calls_cageC v383)), (3, rowE intC v384 v385)], 4⟩
def calls_waits_x9_2 (v377 : Arr api_Press) (v379 : Int) (v380 : Bool) (v381 : Arr Int) (v383 : calls_cage) (q1 : Int) (q5 : Fm Int) (q7 : Bool) (q8 : Arr Int) : St := ⟨(un 1 ((slC api_PressC v377) :: (.func 90 0 []) :: (un 4 ((.row 0) :: (.row 1) :: (.ptr 2 0) :: (.int .i64 q1) :: (.int .i64 v379) :: (.row 3) :: (un 102 []))))), [(0, rowE intC v380 v381), (1, fmE .i64 intC q5), (2, .blk (Cod.enc calls_cageC v383)), (3, rowE intC q7 q8)], 4⟩
def calls_waits_b9 {R : Type} (N : Nat) (rc : Arr api_Press → Int → Int → Bool → Arr Int → Fm Int → calls_cage → Bool → Arr Int → Option R) (v377 : Arr api_Press) (v378 : Int) (v379 : Int) (v380 : Bool) (v381 : Arr Int) (v382 : Fm Int) (v383 : calls_cage) (v384 : Bool) (v385 : Arr Int) (k2 : Int → Fm Int → Bool → Arr Int → Option R) : Option R :=
  bif decide (v378 < (↑(Arr.n v377) : Int)) then
   bif decide ((0 : Int) ≤ v378) && decide (v378 < (↑(Arr.n v377) : Int)) then
    bif api_Press.At (Arr.f v377 (Int.toNat v378)) == v379 then
     calls_Waits_1 N v378 (fun r387 =>
     bif r387 then
      bif decide ((0 : Int) ≤ v378) && decide (v378 < (↑(Arr.n v377) : Int)) then
       bif decide ((0 : Int) ≤ v378) && decide (v378 < (↑(Arr.n v377) : Int)) then
        bif room (fmL v382 (api_Press.Floor (Arr.f v377 (Int.toNat v378))) + (1 : Nat)) then
         bif decide (api_Press.Floor (Arr.f v377 (Int.toNat v378)) = api_Press.Floor (Arr.f v377 (Int.toNat v378))) then
          bif decide ((0 : Int) ≤ v378) && decide (v378 < (↑(Arr.n v377) : Int)) then
           bif room (Arr.n v385 + (1 : Nat)) then
            rc v377 (w64 (v378 + (1 : Int))) v379 v380 v381 (fmD intC (fHs (api_Press.Floor (Arr.f v377 (Int.toNat v378))) (Fm.has v382)) (fLn (api_Press.Floor (Arr.f v377 (Int.toNat v378))) (fmL v382 (api_Press.Floor (Arr.f v377 (Int.toNat v378))) + (1 : Nat)) (fmL v382)) (fGt (api_Press.Floor (Arr.f v377 (Int.toNat v378))) (catC (fmL v382 (api_Press.Floor (Arr.f v377 (Int.toNat v378)))) (fmG intC v382 (api_Press.Floor (Arr.f v377 (Int.toNat v378)))) (litC [SV.int IntKind.i64 (0 : Int)] [[SV.int IntKind.i64 v378]])) (fmG intC v382))) v383 false (lst intC (Arr.n v385 + (1 : Nat)) (catC (Arr.n v385) (Cod.cell intC (Arr.f v385)) (litC [SV.int IntKind.i64 (0 : Int)] [[SV.int IntKind.i64 (api_Press.Floor (Arr.f v377 (Int.toNat v378)))]])))
           else
            Option.none
          else
           Option.none
         else
          Option.none
        else
         Option.none
       else
        Option.none
      else
       Option.none
     else
      rc v377 (w64 (v378 + (1 : Int))) v379 v380 v381 v382 v383 v384 v385)
    else
     k2 v378 v382 v384 v385
   else
    Option.none
  else
   k2 v378 v382 v384 v385
def calls_waits_l9 {R : Type} (N : Nat) : Nat → Arr api_Press → Int → Int → Bool → Arr Int → Fm Int → calls_cage → Bool → Arr Int → (Int → Fm Int → Bool → Arr Int → Option R) → Option R
  | 0, _, _, _, _, _, _, _, _, _, _ => Option.none
  | n + 1, v377, v378, v379, v380, v381, v382, v383, v384, v385, k2 => calls_waits_b9 N (fun v377 v378 v379 v380 v381 v382 v383 v384 v385 => calls_waits_l9 N n v377 v378 v379 v380 v381 v382 v383 v384 v385 k2) v377 v378 v379 v380 v381 v382 v383 v384 v385 k2
def calls_waits_L100000 : LoopSp := ⟨⟨[1, 2, 7, 8, 9, 10, 11, 13], ⟨(dr 1 ((rSl api_PressC) :: (rFunc 90 0 []) :: (dr 4 ((rRow 0) :: (rRow 1) :: (rPtr 2 0) :: (rInt .i64) :: (rInt .i64) :: (dr 1 ((rInt .i64) :: (dr 101 []))))))), [(0, eRow intC), (1, eFm .i64 intC), (2, eBlkC calls_cageC)]⟩, 3⟩, [(some 1000000, ⟨[1, 2, 7, 8, 9, 10, 11], ⟨(dr 1 ((rSl api_PressC) :: (rFunc 90 0 []) :: (dr 4 ((rRow 0) :: (rRow 1) :: (rPtr 2 0) :: (rInt .i64) :: (rInt .i64) :: (dr 103 []))))), [(0, eRow intC), (1, eFm .i64 intC), (2, eBlkC calls_cageC)]⟩, 5⟩)]⟩
theorem calls_waits_L100000_ok : calls_waits_L100000.Ok := ⟨⟨(drCons 1 (allCons (rSl_ok api_PressC_ok) (allCons (rFunc_ok 90 0 allNil) (drCons 4 (allCons (rRow_ok 0) (allCons (rRow_ok 1) (allCons (rPtr_ok 2 0) (allCons (rInt_ok .i64) (allCons (rInt_ok .i64) (drCons 1 (allCons (rInt_ok .i64) (drCons 101 allNil)))))))))))), (eCons (eRow_ok intC_ok) (eCons (eFm_ok intC_ok) (eCons (eBlkC_ok calls_cageC_ok calls_cageC_len) eNil)))⟩, (xCons ⟨(drCons 1 (allCons (rSl_ok api_PressC_ok) (allCons (rFunc_ok 90 0 allNil) (drCons 4 (allCons (rRow_ok 0) (allCons (rRow_ok 1) (allCons (rPtr_ok 2 0) (allCons (rInt_ok .i64) (allCons (rInt_ok .i64) (drCons 103 allNil)))))))))), (eCons (eRow_ok intC_ok) (eCons (eFm_ok intC_ok) (eCons (eBlkC_ok calls_cageC_ok calls_cageC_len) eNil)))⟩ xNil)⟩
def calls_waits_x100000_n (v415 : Arr api_Press) (v416 : Int) (v417 : Int) (v419 : Bool) (v422 : calls_cage) (q4 : Arr Int) (q5 : Fm Int) : St := ⟨(un 1 ((slC api_PressC v415) :: (.func 90 0 []) :: (un 4 ((.row 0) :: (.row 1) :: (.ptr 2 0) :: (.int .i64 v416) :: (.int .i64 v417) :: (un 103 []))))), [(0, rowE intC v419 q4), (1, fmE .i64 intC q5), (2, .blk (Cod.enc calls_cageC v422))], 5⟩
def calls_waits_j0_m {R : Type} (N : Nat) (v415 : Arr api_Press) (v416 : Int) (v417 : Int) (v418 : Int) (v419 : Bool) (v420 : Arr Int) (v421 : Fm Int) (v422 : calls_cage) (kn : Arr Int → Fm Int → Option R) : Option R :=
  waitsRound v415 v417 v418 v419 v420 v421 kn
noncomputable def calls_waits_j0 {R : Type} : Nat → Arr api_Press → Int → Int → Int → Bool → Arr Int → Fm Int → calls_cage → (Arr Int → Fm Int → Option R) → Option R := lock (@calls_waits_j0_m R)
theorem calls_waits_j0_def {R : Type} (N : Nat) (v415 : Arr api_Press) (v416 : Int) (v417 : Int) (v418 : Int) (v419 : Bool) (v420 : Arr Int) (v421 : Fm Int) (v422 : calls_cage) (kn : Arr Int → Fm Int → Option R) : calls_waits_j0 N v415 v416 v417 v418 v419 v420 v421 v422 kn = calls_waits_j0_m N v415 v416 v417 v418 v419 v420 v421 v422 kn := by unfold calls_waits_j0; rw [lock_eq]
def calls_waits_L6 : LoopSp := ⟨⟨[1, 2, 7, 8, 9, 10, 11], ⟨(dr 1 ((rSl api_PressC) :: (rFunc 90 0 []) :: (dr 4 ((rRow 0) :: (rRow 1) :: (rPtr 2 0) :: (rInt .i64) :: (rInt .i64) :: (dr 103 []))))), [(0, eRow intC), (1, eFm .i64 intC), (2, eBlkC calls_cageC)]⟩, 3⟩, [(some 0, ⟨[7], ⟨(dr 7 ((rRow 0) :: (dr 107 []))), [(0, eRow intC)]⟩, 1⟩)]⟩
theorem calls_waits_L6_ok : calls_waits_L6.Ok := ⟨⟨(drCons 1 (allCons (rSl_ok api_PressC_ok) (allCons (rFunc_ok 90 0 allNil) (drCons 4 (allCons (rRow_ok 0) (allCons (rRow_ok 1) (allCons (rPtr_ok 2 0) (allCons (rInt_ok .i64) (allCons (rInt_ok .i64) (drCons 103 allNil)))))))))), (eCons (eRow_ok intC_ok) (eCons (eFm_ok intC_ok) (eCons (eBlkC_ok calls_cageC_ok calls_cageC_len) eNil)))⟩, (xCons ⟨(drCons 7 (allCons (rRow_ok 0) (drCons 107 allNil))), (eCons (eRow_ok intC_ok) eNil)⟩ xNil)⟩
def calls_waits_h6 (v370 : Arr api_Press) (v371 : Int) (v372 : Int) (v373 : Bool) (v374 : Arr Int) (v375 : Fm Int) (v376 : calls_cage) : St := ⟨(un 1 ((slC api_PressC v370) :: (.func 90 0 []) :: (un 4 ((.row 0) :: (.row 1) :: (.ptr 2 0) :: (.int .i64 v371) :: (.int .i64 v372) :: (un 103 []))))), [(0, rowE intC v373 v374), (1, fmE .i64 intC v375), (2, .blk (Cod.enc calls_cageC v376))], 3⟩
def calls_waits_x6_0 (v373 : Bool) (q1 : Arr Int) : St := ⟨(un 7 ((.row 0) :: (un 107 []))), [(0, rowE intC v373 q1)], 1⟩
def calls_waits_b6 {R : Type} (N : Nat) (rc : Arr api_Press → Int → Int → Bool → Arr Int → Fm Int → calls_cage → Option R) (v370 : Arr api_Press) (v371 : Int) (v372 : Int) (v373 : Bool) (v374 : Arr Int) (v375 : Fm Int) (v376 : calls_cage) (k0 : Arr Int → Option R) : Option R :=
  bif decide (v371 < (↑(Arr.n v370) : Int)) then
   calls_waits_l9 N N v370 v371 v372 v373 v374 v375 v376 true (lst intC (0 : Nat) (zeroC [SV.int IntKind.i64 (0 : Int)])) (fun r388 r389 r390 r391 =>
    calls_cage_tick N r391 v376 (fun r413 r414 =>
    calls_waits_j0 N v370 r388 v372 r413 v373 v374 r389 r414 (fun r423 r424 =>
     rc v370 r388 (w64 (v372 + (1 : Int))) v373 r423 r424 r414)))
  else
   bif api_Ride.Wants (calls_cage.Ride v376) != (0 : Int) then
    calls_waits_l9 N N v370 v371 v372 v373 v374 v375 v376 true (lst intC (0 : Nat) (zeroC [SV.int IntKind.i64 (0 : Int)])) (fun r425 r426 r427 r428 =>
     calls_cage_tick N r428 v376 (fun r429 r430 =>
     calls_waits_j0 N v370 r425 v372 r429 v373 v374 r426 r430 (fun r431 r432 =>
      rc v370 r425 (w64 (v372 + (1 : Int))) v373 r431 r432 r430)))
   else
    k0 v374
def calls_waits_l6 {R : Type} (N : Nat) : Nat → Arr api_Press → Int → Int → Bool → Arr Int → Fm Int → calls_cage → (Arr Int → Option R) → Option R
  | 0, _, _, _, _, _, _, _, _ => Option.none
  | n + 1, v370, v371, v372, v373, v374, v375, v376, k0 => calls_waits_b6 N (fun v370 v371 v372 v373 v374 v375 v376 => calls_waits_l6 N n v370 v371 v372 v373 v374 v375 v376 k0) v370 v371 v372 v373 v374 v375 v376 k0
def calls_waits_m {R : Type} (N : Nat) (a366 : api_Car) (a367 : Arr api_Press) (k : Bool → Arr Int → Option R) : Option R :=
  bif decide ((↑(Arr.n a367) : Int) ≤ (↑(Arr.n a367) : Int)) && decide ((↑(Arr.n a367) : Int) ≤ (1073741824 : Int)) then
   calls_begin N a366 (fun r369 =>
   calls_waits_l6 N N a367 (0 : Int) (0 : Int) false (lst intC (Int.toNat (↑(Arr.n a367) : Int)) (zeroC [SV.int IntKind.i64 (0 : Int)])) (fmD intC noHs noLn (noGt [SV.int IntKind.i64 (0 : Int)])) r369 (fun r433 =>
    k false r433))
  else
   Option.none
noncomputable def calls_waits {R : Type} : Nat → api_Car → Arr api_Press → (Bool → Arr Int → Option R) → Option R := lock (@calls_waits_m R)
theorem calls_waits_def {R : Type} (N : Nat) (a366 : api_Car) (a367 : Arr api_Press) (k : Bool → Arr Int → Option R) : calls_waits N a366 a367 k = calls_waits_m N a366 a367 k := by unfold calls_waits; rw [lock_eq]
def calls_waits_sp : Sp := ⟨[rAgg api_CarC, rSl api_PressC, rFunc 90 0 []], []⟩
theorem calls_waits_sp_ok : calls_waits_sp.Ok := ⟨(allCons (rAgg_ok api_CarC_ok api_CarC_len) (allCons (rSl_ok api_PressC_ok) (allCons (rFunc_ok 90 0 allNil) allNil))), eNil⟩
def calls_waits_rs : Sp := ⟨[rRow 0], [(0, eRow intC)]⟩
theorem calls_waits_rs_ok : calls_waits_rs.Ok := ⟨(allCons (rRow_ok 0) allNil), (eCons (eRow_ok intC_ok) eNil)⟩
def calls_waits_run {R : Type} (N : Nat) (args : List SV) (T : Tab) (kf : SV × Tab → Option R) : Option R :=
  calls_waits_m N (Cod.dec api_CarC (lget (toCs (lget args 0)))) (lstC api_PressC (lget args 1)) (fun q0 q1 => kf (lget [.row 0] 0, [(0, rowE intC q0 q1)]))
def calls_waits_d100000 {R : Type} (N : Nat) (S0 : St) (k : Exit → St → Option R) : Option R :=
  calls_waits_j0 N (lstC api_PressC (lget S0.tmps 1)) (toI (lget S0.tmps 10)) (toI (lget S0.tmps 11)) (toI (lget S0.tmps 13)) (entNl (entAt S0.tab 0)) (lst intC (entN (entAt S0.tab 0)) (entC (entAt S0.tab 0))) (fmD intC (entFh (entAt S0.tab 1)) (entFl (entAt S0.tab 1)) (entFg (entAt S0.tab 1))) (Cod.dec calls_cageC (lget (entCs (entAt S0.tab 2)))) (fun q4 q5 => k .normal (calls_waits_x100000_n (lstC api_PressC (lget S0.tmps 1)) (toI (lget S0.tmps 10)) (toI (lget S0.tmps 11)) (entNl (entAt S0.tab 0)) (Cod.dec calls_cageC (lget (entCs (entAt S0.tab 2)))) q4 q5))
def calls_waits_d9 {R : Type} (N : Nat) (S0 : St) (k : Exit → St → Option R) : Option R :=
  calls_waits_l9 N N (lstC api_PressC (lget S0.tmps 1)) (toI (lget S0.tmps 10)) (toI (lget S0.tmps 11)) (entNl (entAt S0.tab 0)) (lst intC (entN (entAt S0.tab 0)) (entC (entAt S0.tab 0))) (fmD intC (entFh (entAt S0.tab 1)) (entFl (entAt S0.tab 1)) (entFg (entAt S0.tab 1))) (Cod.dec calls_cageC (lget (entCs (entAt S0.tab 2)))) (entNl (entAt S0.tab 3)) (lst intC (entN (entAt S0.tab 3)) (entC (entAt S0.tab 3))) (fun q1 q5 q7 q8 => k (.exit 2) (calls_waits_x9_2 (lstC api_PressC (lget S0.tmps 1)) (toI (lget S0.tmps 11)) (entNl (entAt S0.tab 0)) (lst intC (entN (entAt S0.tab 0)) (entC (entAt S0.tab 0))) (Cod.dec calls_cageC (lget (entCs (entAt S0.tab 2)))) q1 q5 q7 q8))
def calls_waits_d6 {R : Type} (N : Nat) (S0 : St) (k : Exit → St → Option R) : Option R :=
  calls_waits_l6 N N (lstC api_PressC (lget S0.tmps 1)) (toI (lget S0.tmps 10)) (toI (lget S0.tmps 11)) (entNl (entAt S0.tab 0)) (lst intC (entN (entAt S0.tab 0)) (entC (entAt S0.tab 0))) (fmD intC (entFh (entAt S0.tab 1)) (entFl (entAt S0.tab 1)) (entFg (entAt S0.tab 1))) (Cod.dec calls_cageC (lget (entCs (entAt S0.tab 2)))) (fun q1 => k (.exit 0) (calls_waits_x6_0 (entNl (entAt S0.tab 0)) q1))
def calls_waits_lp {R : Type} (N : Nat) : Lp R := fun body S k => bif (Go.Sx.keyOf body).getD 0 == 6 then (calls_waits_L6.head.raw 0 S (fun S0 => calls_waits_d6 N S0 k)) else bif (Go.Sx.keyOf body).getD 0 == 9 then (calls_waits_L9.head.raw 0 S (fun S0 => calls_waits_d9 N S0 k)) else Option.none
def calls_waits_jn {R : Type} (N : Nat) : Jn R := fun b => bif isJ 15 37 b then some (fun S k => calls_waits_L100000.head.raw 0 S (fun S0 => calls_waits_d100000 N S0 k)) else Option.none
theorem calls_waits_l6_eq {R : Type} (N : Nat) (k : Exit → St → Option R) (n : Nat) : ∀ (v0 : Arr api_Press) (v1 : Int) (v2 : Int) (v3 : Bool) (v4 : Arr Int) (v5 : Fm Int) (v6 : calls_cage), loopM E.Θ (calls_cage_tick_cal N) (calls_waits_lp N) (calls_waits_jn N) 0 calls_waits_L6 (bodyAt E 89 6) n (calls_waits_h6 v0 v1 v2 v3 v4 v5 v6) k = calls_waits_l6 N n v0 v1 v2 v3 v4 v5 v6 (fun q1 => k (.exit 0) (calls_waits_x6_0 v3 q1)) := by
  induction n with
  | zero => intro v0 v1 v2 v3 v4 v5 v6; rfl
  | succ n ih =>
    intro v0 v1 v2 v3 v4 v5 v6
    refine Eq.trans (b := calls_waits_b6 N (fun v0 v1 v2 v3 v4 v5 v6 => loopM E.Θ (calls_cage_tick_cal N) (calls_waits_lp N) (calls_waits_jn N) 0 calls_waits_L6 (bodyAt E 89 6) n (calls_waits_h6 v0 v1 v2 v3 v4 v5 v6) k) v0 v1 v2 v3 v4 v5 v6 (fun q1 => k (.exit 0) (calls_waits_x6_0 v3 q1))) (by kernel_rfl) ?_
    have h : (fun (v0 : Arr api_Press) (v1 : Int) (v2 : Int) (v3 : Bool) (v4 : Arr Int) (v5 : Fm Int) (v6 : calls_cage) => loopM E.Θ (calls_cage_tick_cal N) (calls_waits_lp N) (calls_waits_jn N) 0 calls_waits_L6 (bodyAt E 89 6) n (calls_waits_h6 v0 v1 v2 v3 v4 v5 v6) k) = (fun (v0 : Arr api_Press) (v1 : Int) (v2 : Int) (v3 : Bool) (v4 : Arr Int) (v5 : Fm Int) (v6 : calls_cage) => calls_waits_l6 N n v0 v1 v2 v3 v4 v5 v6 (fun q1 => k (.exit 0) (calls_waits_x6_0 v3 q1))) := funext fun v0 => funext fun v1 => funext fun v2 => funext fun v3 => funext fun v4 => funext fun v5 => funext fun v6 => ih v0 v1 v2 v3 v4 v5 v6
    rw [h]
    rfl
theorem calls_waits_l9_eq {R : Type} (N : Nat) (k : Exit → St → Option R) (n : Nat) : ∀ (v0 : Arr api_Press) (v1 : Int) (v2 : Int) (v3 : Bool) (v4 : Arr Int) (v5 : Fm Int) (v6 : calls_cage) (v7 : Bool) (v8 : Arr Int), loopM E.Θ (calls_cage_tick_cal N) (calls_waits_lp N) (calls_waits_jn N) 0 calls_waits_L9 (bodyAt E 89 9) n (calls_waits_h9 v0 v1 v2 v3 v4 v5 v6 v7 v8) k = calls_waits_l9 N n v0 v1 v2 v3 v4 v5 v6 v7 v8 (fun q1 q5 q7 q8 => k (.exit 2) (calls_waits_x9_2 v0 v2 v3 v4 v6 q1 q5 q7 q8)) := by
  induction n with
  | zero => intro v0 v1 v2 v3 v4 v5 v6 v7 v8; rfl
  | succ n ih =>
    intro v0 v1 v2 v3 v4 v5 v6 v7 v8
    refine Eq.trans (b := calls_waits_b9 N (fun v0 v1 v2 v3 v4 v5 v6 v7 v8 => loopM E.Θ (calls_cage_tick_cal N) (calls_waits_lp N) (calls_waits_jn N) 0 calls_waits_L9 (bodyAt E 89 9) n (calls_waits_h9 v0 v1 v2 v3 v4 v5 v6 v7 v8) k) v0 v1 v2 v3 v4 v5 v6 v7 v8 (fun q1 q5 q7 q8 => k (.exit 2) (calls_waits_x9_2 v0 v2 v3 v4 v6 q1 q5 q7 q8))) (by kernel_rfl) ?_
    have h : (fun (v0 : Arr api_Press) (v1 : Int) (v2 : Int) (v3 : Bool) (v4 : Arr Int) (v5 : Fm Int) (v6 : calls_cage) (v7 : Bool) (v8 : Arr Int) => loopM E.Θ (calls_cage_tick_cal N) (calls_waits_lp N) (calls_waits_jn N) 0 calls_waits_L9 (bodyAt E 89 9) n (calls_waits_h9 v0 v1 v2 v3 v4 v5 v6 v7 v8) k) = (fun (v0 : Arr api_Press) (v1 : Int) (v2 : Int) (v3 : Bool) (v4 : Arr Int) (v5 : Fm Int) (v6 : calls_cage) (v7 : Bool) (v8 : Arr Int) => calls_waits_l9 N n v0 v1 v2 v3 v4 v5 v6 v7 v8 (fun q1 q5 q7 q8 => k (.exit 2) (calls_waits_x9_2 v0 v2 v3 v4 v6 q1 q5 q7 q8))) := funext fun v0 => funext fun v1 => funext fun v2 => funext fun v3 => funext fun v4 => funext fun v5 => funext fun v6 => funext fun v7 => funext fun v8 => ih v0 v1 v2 v3 v4 v5 v6 v7 v8
    rw [h]
    rfl
theorem calls_waits_k16 {R : Type} (N : Nat) : LpKey (R := R) E 89 0 (calls_waits_lp N) 16 := lpKey_none fun S k => by kernel_rfl
theorem calls_waits_k20 {R : Type} (N : Nat) : LpKey (R := R) E 89 0 (calls_waits_lp N) 20 := lpKey_none fun S k => by kernel_rfl
theorem calls_waits_k9 {R : Type} (N : Nat) : LpKey (R := R) E 89 0 (calls_waits_lp N) 9 :=
  lpKey_of hE (calls_cage_tick_cal_ok N) (lp := calls_waits_lp N) (jn := calls_waits_jn N) calls_waits_L9_ok [] kNil (by kernel_rfl) [] jNil (by kernel_rfl) N fun S k =>
    Eq.trans (b := calls_waits_L9.head.raw 0 S (fun S0 => calls_waits_d9 N S0 k)) (by kernel_rfl) (congrArg (calls_waits_L9.head.raw 0 S) (funext fun S0 => Eq.trans (calls_waits_l9_eq N k N (lstC api_PressC (lget S0.tmps 1)) (toI (lget S0.tmps 10)) (toI (lget S0.tmps 11)) (entNl (entAt S0.tab 0)) (lst intC (entN (entAt S0.tab 0)) (entC (entAt S0.tab 0))) (fmD intC (entFh (entAt S0.tab 1)) (entFl (entAt S0.tab 1)) (entFg (entAt S0.tab 1))) (Cod.dec calls_cageC (lget (entCs (entAt S0.tab 2)))) (entNl (entAt S0.tab 3)) (lst intC (entN (entAt S0.tab 3)) (entC (entAt S0.tab 3)))).symm (by kernel_rfl)))
theorem calls_waits_q0 {R : Type} (N : Nat) : JnKey (R := R) E 89 0 (calls_waits_jn N) (15, 37) :=
  jnKey_hand calls_waits_L100000_ok.head (fun S k => calls_waits_L100000.head.raw 0 S (fun S0 => calls_waits_d100000 N S0 k)) (by kernel_rfl) (fun S0 k => calls_waits_d100000 N S0 k) (fun S k => rfl) fun S0 k r h =>
    waitsRound_ok0 (lstC api_PressC (lget S0.tmps 1)) (toI (lget S0.tmps 10)) (toI (lget S0.tmps 11)) (toI (lget S0.tmps 13)) (entNl (entAt S0.tab 0)) (lst intC (entN (entAt S0.tab 0)) (entC (entAt S0.tab 0))) (fmD intC (entFh (entAt S0.tab 1)) (entFl (entAt S0.tab 1)) (entFg (entAt S0.tab 1))) (Cod.dec calls_cageC (lget (entCs (entAt S0.tab 2)))) h (Eq.trans (calls_waits_j0_def N (lstC api_PressC (lget S0.tmps 1)) (toI (lget S0.tmps 10)) (toI (lget S0.tmps 11)) (toI (lget S0.tmps 13)) (entNl (entAt S0.tab 0)) (lst intC (entN (entAt S0.tab 0)) (entC (entAt S0.tab 0))) (fmD intC (entFh (entAt S0.tab 1)) (entFl (entAt S0.tab 1)) (entFg (entAt S0.tab 1))) (Cod.dec calls_cageC (lget (entCs (entAt S0.tab 2)))) (fun q4 q5 => k .normal (calls_waits_x100000_n (lstC api_PressC (lget S0.tmps 1)) (toI (lget S0.tmps 10)) (toI (lget S0.tmps 11)) (entNl (entAt S0.tab 0)) (Cod.dec calls_cageC (lget (entCs (entAt S0.tab 2)))) q4 q5))) (by kernel_rfl)) (by kernel_rfl)
theorem calls_waits_k6 {R : Type} (N : Nat) : LpKey (R := R) E 89 0 (calls_waits_lp N) 6 :=
  lpKey_of hE (calls_cage_tick_cal_ok N) (lp := calls_waits_lp N) (jn := calls_waits_jn N) calls_waits_L6_ok [9, 16, 20] (kCons (calls_waits_k9 N) (kCons (calls_waits_k16 N) (kCons (calls_waits_k20 N) kNil))) (by kernel_rfl) [(15, 37)] (jCons (calls_waits_q0 N) jNil) (by kernel_rfl) N fun S k =>
    Eq.trans (b := calls_waits_L6.head.raw 0 S (fun S0 => calls_waits_d6 N S0 k)) (by kernel_rfl) (congrArg (calls_waits_L6.head.raw 0 S) (funext fun S0 => Eq.trans (calls_waits_l6_eq N k N (lstC api_PressC (lget S0.tmps 1)) (toI (lget S0.tmps 10)) (toI (lget S0.tmps 11)) (entNl (entAt S0.tab 0)) (lst intC (entN (entAt S0.tab 0)) (entC (entAt S0.tab 0))) (fmD intC (entFh (entAt S0.tab 1)) (entFl (entAt S0.tab 1)) (entFg (entAt S0.tab 1))) (Cod.dec calls_cageC (lget (entCs (entAt S0.tab 2))))).symm (by kernel_rfl)))
noncomputable def calls_waits_go {R : Type} (N : Nat) (args : List SV) (T : Tab) (kf : SV × Tab → Option R) : Option R :=
  calls_waits N (Cod.dec api_CarC (lget (toCs (lget args 0)))) (lstC api_PressC (lget args 1)) (fun q0 q1 => kf (lget [.row 0] 0, [(0, rowE intC q0 q1)]))
noncomputable def calls_waits_cal {R : Type} (N : Nat) : Cal R := callM (calls_cage_tick_cal N) 89 0 calls_waits_sp (calls_waits_go N)
theorem calls_waits_cal_ok {R : Type} (N : Nat) : CalOk E.P (calls_waits_cal (R := R) N) :=
  callM_ok hE (calls_cage_tick_cal_ok N) (lp := calls_waits_lp N) (jn := calls_waits_jn N) (keys := [6, 9, 16, 20]) (kCons (calls_waits_k6 N) (kCons (calls_waits_k9 N) (kCons (calls_waits_k16 N) (kCons (calls_waits_k20 N) kNil)))) (by kernel_rfl) (js := [(15, 37)]) (jCons (calls_waits_q0 N) jNil) (by kernel_rfl) calls_waits_sp_ok calls_waits_rs_ok (fun args T kf => Eq.trans (calls_waits_def N (Cod.dec api_CarC (lget (toCs (lget args 0)))) (lstC api_PressC (lget args 1)) (fun q0 q1 => kf (lget [.row 0] 0, [(0, rowE intC q0 q1)]))) (by kernel_rfl : calls_waits_run N args T kf = fnM E (calls_cage_tick_cal N) (calls_waits_lp N) (calls_waits_jn N) 89 (calls_waits_sp.vs args) (calls_waits_sp.tab T) 0 (resK calls_waits_rs kf)))
def calls_Waits_m {R : Type} (N : Nat) (a345 : api_Car) (a346 : Arr api_Press) (k : Int → Bool → Arr Int → Option R) : Option R :=
  calls_Check N a345 a346 (fun r365 =>
  bif r365 != (0 : Int) then
   k r365 true (lst intC (0 : Nat) (zeroC [SV.int IntKind.i64 (0 : Int)]))
  else
   calls_waits N a345 a346 (fun r434 r435 =>
   k (0 : Int) r434 r435))
noncomputable def calls_Waits {R : Type} : Nat → api_Car → Arr api_Press → (Int → Bool → Arr Int → Option R) → Option R := lock (@calls_Waits_m R)
theorem calls_Waits_def {R : Type} (N : Nat) (a345 : api_Car) (a346 : Arr api_Press) (k : Int → Bool → Arr Int → Option R) : calls_Waits N a345 a346 k = calls_Waits_m N a345 a346 k := by unfold calls_Waits; rw [lock_eq]
def calls_Waits_sp : Sp := ⟨[rAgg api_CarC, rSl api_PressC], []⟩
theorem calls_Waits_sp_ok : calls_Waits_sp.Ok := ⟨(allCons (rAgg_ok api_CarC_ok api_CarC_len) (allCons (rSl_ok api_PressC_ok) allNil)), eNil⟩
def calls_Waits_rs : Sp := ⟨[rTup [rRow 0, rInt .i64]], [(0, eRow intC)]⟩
theorem calls_Waits_rs_ok : calls_Waits_rs.Ok := ⟨(allCons (rTup_ok (allCons (rRow_ok 0) (allCons (rInt_ok .i64) allNil))) allNil), (eCons (eRow_ok intC_ok) eNil)⟩
def calls_Waits_run {R : Type} (N : Nat) (args : List SV) (T : Tab) (kf : SV × Tab → Option R) : Option R :=
  calls_Waits_m N (Cod.dec api_CarC (lget (toCs (lget args 0)))) (lstC api_PressC (lget args 1)) (fun q0 q1 q2 => kf (lget [.tup [.row 0, .int .i64 q0]] 0, [(0, rowE intC q1 q2)]))
def calls_Waits_lp {R : Type} (N : Nat) : Lp R := fun body S k => Option.none
noncomputable def calls_Waits_go {R : Type} (N : Nat) (args : List SV) (T : Tab) (kf : SV × Tab → Option R) : Option R :=
  calls_Waits N (Cod.dec api_CarC (lget (toCs (lget args 0)))) (lstC api_PressC (lget args 1)) (fun q0 q1 q2 => kf (lget [.tup [.row 0, .int .i64 q0]] 0, [(0, rowE intC q1 q2)]))
noncomputable def calls_Waits_cal {R : Type} (N : Nat) : Cal R := callM (calls_waits_cal N) 38 0 calls_Waits_sp (calls_Waits_go N)
theorem calls_Waits_cal_ok {R : Type} (N : Nat) : CalOk E.P (calls_Waits_cal (R := R) N) :=
  callM_ok hE (calls_waits_cal_ok N) (lp := calls_Waits_lp N) (jn := noJn) (keys := []) kNil (by kernel_rfl) (js := []) jNil (by kernel_rfl) calls_Waits_sp_ok calls_Waits_rs_ok (fun args T kf => Eq.trans (calls_Waits_def N (Cod.dec api_CarC (lget (toCs (lget args 0)))) (lstC api_PressC (lget args 1)) (fun q0 q1 q2 => kf (lget [.tup [.row 0, .int .i64 q0]] 0, [(0, rowE intC q1 q2)]))) (by kernel_rfl : calls_Waits_run N args T kf = fnM E (calls_waits_cal N) (calls_Waits_lp N) (noJn) 38 (calls_Waits_sp.vs args) (calls_Waits_sp.tab T) 0 (resK calls_Waits_rs kf)))
end
end Go.Proofs.Ytpillmoddoccfab
