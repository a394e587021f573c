import Derived.Test.YtlphgonhenegoaaWr2
import Derived.Test.YtlphgonhenegoaaSxHR
set_option maxRecDepth 100000
set_option maxHeartbeats 0
set_option linter.unusedVariables false
namespace Go.Proofs.Ytlphgonhenegoaa
open Go.Sx
noncomputable section
def newelref07_from_m {R : Type} (N : Nat) (a0 : Int) (a1 : Int) (a2 : Int) (k : Bool → Option R) : Option R :=
  bif decide (a0 ≥ a1) then
   k (decide (a0 ≤ a2))
  else
   k false
noncomputable def newelref07_from {R : Type} : Nat → Int → Int → Int → (Bool → Option R) → Option R := lock (@newelref07_from_m R)
theorem newelref07_from_def {R : Type} (N : Nat) (a0 : Int) (a1 : Int) (a2 : Int) (k : Bool → Option R) : newelref07_from N a0 a1 a2 k = newelref07_from_m N a0 a1 a2 k := by unfold newelref07_from; rw [lock_eq]
def newelref07_from_sp : Sp := ⟨[rInt .i64, rInt .i64, rInt .i64], []⟩
theorem newelref07_from_sp_ok : newelref07_from_sp.Ok := ⟨(allCons (rInt_ok .i64) (allCons (rInt_ok .i64) (allCons (rInt_ok .i64) allNil))), eNil⟩
def newelref07_from_rs : Sp := ⟨[rBool], []⟩
theorem newelref07_from_rs_ok : newelref07_from_rs.Ok := ⟨(allCons rBool_ok allNil), eNil⟩
def newelref07_from_run {R : Type} (N : Nat) (args : List SV) (T : Tab) (kf : SV × Tab → Option R) : Option R :=
  newelref07_from_m N (toI (lget args 0)) (toI (lget args 1)) (toI (lget args 2)) (fun q0 => kf (lget [.bool q0] 0, []))
def newelref07_from_lp {R : Type} (N : Nat) : Lp R := fun body S k => Option.none
noncomputable def newelref07_from_go {R : Type} (N : Nat) (args : List SV) (T : Tab) (kf : SV × Tab → Option R) : Option R :=
  newelref07_from N (toI (lget args 0)) (toI (lget args 1)) (toI (lget args 2)) (fun q0 => kf (lget [.bool q0] 0, []))
noncomputable def newelref07_from_cal {R : Type} (N : Nat) : Cal R := callM (noCal E) 39 0 newelref07_from_sp (newelref07_from_go N)
theorem newelref07_from_cal_ok {R : Type} (N : Nat) : CalOk E.P (newelref07_from_cal (R := R) N) :=
  callM_ok hE (noCal_ok E) (lp := newelref07_from_lp N) (jn := noJn) (keys := []) kNil (by kernel_rfl) (js := []) jNil (by kernel_rfl) newelref07_from_sp_ok newelref07_from_rs_ok (fun args T kf => Eq.trans (newelref07_from_def N (toI (lget args 0)) (toI (lget args 1)) (toI (lget args 2)) (fun q0 => kf (lget [.bool q0] 0, []))) (by kernel_rfl : newelref07_from_run N args T kf = fnM E (noCal E) (newelref07_from_lp N) (noJn) 39 (newelref07_from_sp.vs args) (newelref07_from_sp.tab T) 0 (resK newelref07_from_rs kf)))
def calls_within_m {R : Type} (N : Nat) (a3 : Int) (a4 : Int) (a5 : Int) (k : Bool → Option R) : Option R :=
  bif decide (a3 ≥ a4) then
   k (decide (a3 ≤ a5))
  else
   k false
noncomputable def calls_within {R : Type} : Nat → Int → Int → Int → (Bool → Option R) → Option R := lock (@calls_within_m R)
theorem calls_within_def {R : Type} (N : Nat) (a3 : Int) (a4 : Int) (a5 : Int) (k : Bool → Option R) : calls_within N a3 a4 a5 k = calls_within_m N a3 a4 a5 k := by unfold calls_within; rw [lock_eq]
def calls_within_sp : Sp := ⟨[rInt .i64, rInt .i64, rInt .i64], []⟩
theorem calls_within_sp_ok : calls_within_sp.Ok := ⟨(allCons (rInt_ok .i64) (allCons (rInt_ok .i64) (allCons (rInt_ok .i64) allNil))), eNil⟩
def calls_within_rs : Sp := ⟨[rBool], []⟩
theorem calls_within_rs_ok : calls_within_rs.Ok := ⟨(allCons rBool_ok allNil), eNil⟩
def calls_within_run {R : Type} (N : Nat) (args : List SV) (T : Tab) (kf : SV × Tab → Option R) : Option R :=
  calls_within_m N (toI (lget args 0)) (toI (lget args 1)) (toI (lget args 2)) (fun q0 => kf (lget [.bool q0] 0, []))
def calls_within_lp {R : Type} (N : Nat) : Lp R := fun body S k => Option.none
noncomputable def calls_within_go {R : Type} (N : Nat) (args : List SV) (T : Tab) (kf : SV × Tab → Option R) : Option R :=
  calls_within N (toI (lget args 0)) (toI (lget args 1)) (toI (lget args 2)) (fun q0 => kf (lget [.bool q0] 0, []))
noncomputable def calls_within_cal {R : Type} (N : Nat) : Cal R := callM (newelref07_from_cal N) 44 0 calls_within_sp (calls_within_go N)
theorem calls_within_cal_ok {R : Type} (N : Nat) : CalOk E.P (calls_within_cal (R := R) N) :=
  callM_ok hE (newelref07_from_cal_ok N) (lp := calls_within_lp N) (jn := noJn) (keys := []) kNil (by kernel_rfl) (js := []) jNil (by kernel_rfl) calls_within_sp_ok calls_within_rs_ok (fun args T kf => Eq.trans (calls_within_def N (toI (lget args 0)) (toI (lget args 1)) (toI (lget args 2)) (fun q0 => kf (lget [.bool q0] 0, []))) (by kernel_rfl : calls_within_run N args T kf = fnM E (newelref07_from_cal N) (calls_within_lp N) (noJn) 44 (calls_within_sp.vs args) (calls_within_sp.tab T) 0 (resK calls_within_rs kf)))
def calls_valid_m {R : Type} (N : Nat) (a6 : api_Car) (k : Bool → Option R) : Option R :=
  calls_within N (api_Car.Start a6) (api_Car.Low a6) (api_Car.High a6) (fun r7 =>
  bif r7 then
   bif decide (api_Car.Low a6 ≥ (0 : Int)) then
    bif decide (api_Car.High a6 ≤ (5 : Int)) then
     calls_within N (api_Car.Move a6) (1 : Int) (3 : Int) (fun r8 =>
     bif r8 then
      calls_within N (api_Car.Stop a6) (1 : Int) (4 : Int) (fun r9 =>
      k r9)
     else
      k false)
    else
     k false
   else
    k false
  else
   k false)
noncomputable def calls_valid {R : Type} : Nat → api_Car → (Bool → Option R) → Option R := lock (@calls_valid_m R)
theorem calls_valid_def {R : Type} (N : Nat) (a6 : api_Car) (k : Bool → Option R) : calls_valid N a6 k = calls_valid_m N a6 k := by unfold calls_valid; rw [lock_eq]
def calls_valid_sp : Sp := ⟨[rAgg api_CarC], []⟩
theorem calls_valid_sp_ok : calls_valid_sp.Ok := ⟨(allCons (rAgg_ok api_CarC_ok api_CarC_len) allNil), eNil⟩
def calls_valid_rs : Sp := ⟨[rBool], []⟩
theorem calls_valid_rs_ok : calls_valid_rs.Ok := ⟨(allCons rBool_ok allNil), eNil⟩
def calls_valid_run {R : Type} (N : Nat) (args : List SV) (T : Tab) (kf : SV × Tab → Option R) : Option R :=
  calls_valid_m N (Cod.dec api_CarC (lget (toCs (lget args 0)))) (fun q0 => kf (lget [.bool q0] 0, []))
def calls_valid_lp {R : Type} (N : Nat) : Lp R := fun body S k => Option.none
noncomputable def calls_valid_go {R : Type} (N : Nat) (args : List SV) (T : Tab) (kf : SV × Tab → Option R) : Option R :=
  calls_valid N (Cod.dec api_CarC (lget (toCs (lget args 0)))) (fun q0 => kf (lget [.bool q0] 0, []))
noncomputable def calls_valid_cal {R : Type} (N : Nat) : Cal R := callM (calls_within_cal N) 42 0 calls_valid_sp (calls_valid_go N)
theorem calls_valid_cal_ok {R : Type} (N : Nat) : CalOk E.P (calls_valid_cal (R := R) N) :=
  callM_ok hE (calls_within_cal_ok N) (lp := calls_valid_lp N) (jn := noJn) (keys := []) kNil (by kernel_rfl) (js := []) jNil (by kernel_rfl) calls_valid_sp_ok calls_valid_rs_ok (fun args T kf => Eq.trans (calls_valid_def N (Cod.dec api_CarC (lget (toCs (lget args 0)))) (fun q0 => kf (lget [.bool q0] 0, []))) (by kernel_rfl : calls_valid_run N args T kf = fnM E (calls_within_cal N) (calls_valid_lp N) (noJn) 42 (calls_valid_sp.vs args) (calls_valid_sp.tab T) 0 (resK calls_valid_rs kf)))
def calls_timed_L3 : LoopSp := ⟨⟨[0, 3, 6, 7, 8], ⟨((rSl api_PressC) :: (dr 2 ((rInt .i64) :: (dr 2 ((rSl api_PressC) :: (rInt .i64) :: (rInt .i64) :: (dr 14 [])))))), []⟩, 0⟩, [(Option.none, ⟨[2], ⟨(dr 2 ((rBool) :: (dr 20 []))), []⟩, 0⟩), (some 0, ⟨[0], ⟨((rSl api_PressC) :: (dr 22 [])), []⟩, 0⟩)]⟩
theorem calls_timed_L3_ok : calls_timed_L3.Ok := ⟨⟨(allCons (rSl_ok api_PressC_ok) (drCons 2 (allCons (rInt_ok .i64) (drCons 2 (allCons (rSl_ok api_PressC_ok) (allCons (rInt_ok .i64) (allCons (rInt_ok .i64) (drCons 14 allNil)))))))), eNil⟩, (xCons ⟨(drCons 2 (allCons rBool_ok (drCons 20 allNil))), eNil⟩ (xCons ⟨(allCons (rSl_ok api_PressC_ok) (drCons 22 allNil)), eNil⟩ xNil))⟩
def calls_timed_h3 (v11 : Arr api_Press) (v12 : Int) (v13 : Arr api_Press) (v14 : Int) (v15 : Int) : St := ⟨((slC api_PressC v11) :: (un 2 ((.int .i64 v12) :: (un 2 ((slC api_PressC v13) :: (.int .i64 v14) :: (.int .i64 v15) :: (un 14 [])))))), [], 0⟩
def calls_timed_x3_r (q0 : Bool) : St := ⟨(un 2 ((.bool q0) :: (un 20 []))), [], 0⟩
def calls_timed_x3_0 (v11 : Arr api_Press) : St := ⟨((slC api_PressC v11) :: (un 22 [])), [], 0⟩
def calls_timed_b3 {R : Type} (N : Nat) (rc : Arr api_Press → Int → Arr api_Press → Int → Int → Option R) (v11 : Arr api_Press) (v12 : Int) (v13 : Arr api_Press) (v14 : Int) (v15 : Int) (kr : Bool → Option R) (k0 : Unit → Option R) : Option R :=
  bif decide (v15 < v14) then
   bif decide ((0 : Int) ≤ v15) && decide (v15 < (↑(Arr.n v13) : Int)) then
    calls_within N (api_Press.At (Arr.f v13 (Int.toNat v15))) v12 (500 : Int) (fun r16 =>
    bif !r16 then
     kr false
    else
     rc v11 (api_Press.At (Arr.f v13 (Int.toNat v15))) v13 v14 (w64 (v15 + (1 : Int))))
   else
    Option.none
  else
   k0 ()
def calls_timed_l3 {R : Type} (N : Nat) : Nat → Arr api_Press → Int → Arr api_Press → Int → Int → (Bool → Option R) → (Unit → Option R) → Option R
  | 0, _, _, _, _, _, _, _ => Option.none
  | n + 1, v11, v12, v13, v14, v15, kr, k0 => calls_timed_b3 N (fun v11 v12 v13 v14 v15 => calls_timed_l3 N n v11 v12 v13 v14 v15 kr k0) v11 v12 v13 v14 v15 kr k0
def calls_timed_m {R : Type} (N : Nat) (a10 : Arr api_Press) (k : Bool → Option R) : Option R :=
  calls_timed_l3 N N a10 (0 : Int) a10 ((↑(Arr.n a10) : Int)) (0 : Int) (fun r17 =>
   k r17) (fun (_ : Unit) =>
   k (decide ((↑(Arr.n a10) : Int) ≤ (200 : Int))))
noncomputable def calls_timed {R : Type} : Nat → Arr api_Press → (Bool → Option R) → Option R := lock (@calls_timed_m R)
theorem calls_timed_def {R : Type} (N : Nat) (a10 : Arr api_Press) (k : Bool → Option R) : calls_timed N a10 k = calls_timed_m N a10 k := by unfold calls_timed; rw [lock_eq]
def calls_timed_sp : Sp := ⟨[rSl api_PressC], []⟩
theorem calls_timed_sp_ok : calls_timed_sp.Ok := ⟨(allCons (rSl_ok api_PressC_ok) allNil), eNil⟩
def calls_timed_rs : Sp := ⟨[rBool], []⟩
theorem calls_timed_rs_ok : calls_timed_rs.Ok := ⟨(allCons rBool_ok allNil), eNil⟩
def calls_timed_run {R : Type} (N : Nat) (args : List SV) (T : Tab) (kf : SV × Tab → Option R) : Option R :=
  calls_timed_m N (lstC api_PressC (lget args 0)) (fun q0 => kf (lget [.bool q0] 0, []))
def calls_timed_d3 {R : Type} (N : Nat) (S0 : St) (k : Exit → St → Option R) : Option R :=
  calls_timed_l3 N N (lstC api_PressC (lget S0.tmps 0)) (toI (lget S0.tmps 3)) (lstC api_PressC (lget S0.tmps 6)) (toI (lget S0.tmps 7)) (toI (lget S0.tmps 8)) (fun q0 => k .ret (calls_timed_x3_r q0)) (fun (_ : Unit) => k (.exit 0) (calls_timed_x3_0 (lstC api_PressC (lget S0.tmps 0))))
def calls_timed_lp {R : Type} (N : Nat) : Lp R := fun body S k => bif (Go.Sx.keyOf body).getD 0 == 3 then (calls_timed_L3.head.raw 0 S (fun S0 => calls_timed_d3 N S0 k)) else Option.none
theorem calls_timed_l3_eq {R : Type} (N : Nat) (k : Exit → St → Option R) (n : Nat) : ∀ (v0 : Arr api_Press) (v1 : Int) (v2 : Arr api_Press) (v3 : Int) (v4 : Int), loopM E.Θ (calls_valid_cal N) (calls_timed_lp N) (noJn) 0 calls_timed_L3 (bodyAt E 43 3) n (calls_timed_h3 v0 v1 v2 v3 v4) k = calls_timed_l3 N n v0 v1 v2 v3 v4 (fun q0 => k .ret (calls_timed_x3_r q0)) (fun (_ : Unit) => k (.exit 0) (calls_timed_x3_0 v0)) := by
  induction n with
  | zero => intro v0 v1 v2 v3 v4; rfl
  | succ n ih =>
    intro v0 v1 v2 v3 v4
    refine Eq.trans (b := calls_timed_b3 N (fun v0 v1 v2 v3 v4 => loopM E.Θ (calls_valid_cal N) (calls_timed_lp N) (noJn) 0 calls_timed_L3 (bodyAt E 43 3) n (calls_timed_h3 v0 v1 v2 v3 v4) k) v0 v1 v2 v3 v4 (fun q0 => k .ret (calls_timed_x3_r q0)) (fun (_ : Unit) => k (.exit 0) (calls_timed_x3_0 v0))) (by kernel_rfl) ?_
    have h : (fun (v0 : Arr api_Press) (v1 : Int) (v2 : Arr api_Press) (v3 : Int) (v4 : Int) => loopM E.Θ (calls_valid_cal N) (calls_timed_lp N) (noJn) 0 calls_timed_L3 (bodyAt E 43 3) n (calls_timed_h3 v0 v1 v2 v3 v4) k) = (fun (v0 : Arr api_Press) (v1 : Int) (v2 : Arr api_Press) (v3 : Int) (v4 : Int) => calls_timed_l3 N n v0 v1 v2 v3 v4 (fun q0 => k .ret (calls_timed_x3_r q0)) (fun (_ : Unit) => k (.exit 0) (calls_timed_x3_0 v0))) := funext fun v0 => funext fun v1 => funext fun v2 => funext fun v3 => funext fun v4 => ih v0 v1 v2 v3 v4
    rw [h]
    rfl
theorem calls_timed_k3 {R : Type} (N : Nat) : LpKey (R := R) E 43 0 (calls_timed_lp N) 3 :=
  lpKey_of hE (calls_valid_cal_ok N) (lp := calls_timed_lp N) (jn := noJn) calls_timed_L3_ok [] kNil (by kernel_rfl) [] jNil (by kernel_rfl) N fun S k =>
    Eq.trans (b := calls_timed_L3.head.raw 0 S (fun S0 => calls_timed_d3 N S0 k)) (by kernel_rfl) (congrArg (calls_timed_L3.head.raw 0 S) (funext fun S0 => Eq.trans (calls_timed_l3_eq N k N (lstC api_PressC (lget S0.tmps 0)) (toI (lget S0.tmps 3)) (lstC api_PressC (lget S0.tmps 6)) (toI (lget S0.tmps 7)) (toI (lget S0.tmps 8))).symm (by kernel_rfl)))
noncomputable def calls_timed_go {R : Type} (N : Nat) (args : List SV) (T : Tab) (kf : SV × Tab → Option R) : Option R :=
  calls_timed N (lstC api_PressC (lget args 0)) (fun q0 => kf (lget [.bool q0] 0, []))
noncomputable def calls_timed_cal {R : Type} (N : Nat) : Cal R := callM (calls_valid_cal N) 43 0 calls_timed_sp (calls_timed_go N)
theorem calls_timed_cal_ok {R : Type} (N : Nat) : CalOk E.P (calls_timed_cal (R := R) N) :=
  callM_ok hE (calls_valid_cal_ok N) (lp := calls_timed_lp N) (jn := noJn) (keys := [3]) (kCons (calls_timed_k3 N) kNil) (by kernel_rfl) (js := []) jNil (by kernel_rfl) calls_timed_sp_ok calls_timed_rs_ok (fun args T kf => Eq.trans (calls_timed_def N (lstC api_PressC (lget args 0)) (fun q0 => kf (lget [.bool q0] 0, []))) (by kernel_rfl : calls_timed_run N args T kf = fnM E (calls_valid_cal N) (calls_timed_lp N) (noJn) 43 (calls_timed_sp.vs args) (calls_timed_sp.tab T) 0 (resK calls_timed_rs kf)))
def newelref07_CheckCar_m {R : Type} (N : Nat) (a18 : api_Car) (k : Int → Option R) : Option R :=
  bif decide (api_Car.Low a18 < (0 : Int)) then
   k (70 : Int)
  else
   newelref07_from N (api_Car.Start a18) (api_Car.Low a18) (api_Car.High a18) (fun r19 =>
   bif !r19 then
    k (70 : Int)
   else
    bif decide (api_Car.High a18 > (5 : Int)) then
     k (70 : Int)
    else
     newelref07_from N (api_Car.Move a18) (1 : Int) (3 : Int) (fun r20 =>
     bif !r20 then
      k (70 : Int)
     else
      newelref07_from N (api_Car.Stop a18) (1 : Int) (4 : Int) (fun r21 =>
      bif !r21 then
       k (70 : Int)
      else
       k (0 : Int))))
noncomputable def newelref07_CheckCar {R : Type} : Nat → api_Car → (Int → Option R) → Option R := lock (@newelref07_CheckCar_m R)
theorem newelref07_CheckCar_def {R : Type} (N : Nat) (a18 : api_Car) (k : Int → Option R) : newelref07_CheckCar N a18 k = newelref07_CheckCar_m N a18 k := by unfold newelref07_CheckCar; rw [lock_eq]
def newelref07_CheckCar_sp : Sp := ⟨[rAgg api_CarC], []⟩
theorem newelref07_CheckCar_sp_ok : newelref07_CheckCar_sp.Ok := ⟨(allCons (rAgg_ok api_CarC_ok api_CarC_len) allNil), eNil⟩
def newelref07_CheckCar_rs : Sp := ⟨[rInt .i64], []⟩
theorem newelref07_CheckCar_rs_ok : newelref07_CheckCar_rs.Ok := ⟨(allCons (rInt_ok .i64) allNil), eNil⟩
def newelref07_CheckCar_run {R : Type} (N : Nat) (args : List SV) (T : Tab) (kf : SV × Tab → Option R) : Option R :=
  newelref07_CheckCar_m N (Cod.dec api_CarC (lget (toCs (lget args 0)))) (fun q0 => kf (lget [.int .i64 q0] 0, []))
def newelref07_CheckCar_lp {R : Type} (N : Nat) : Lp R := fun body S k => Option.none
noncomputable def newelref07_CheckCar_go {R : Type} (N : Nat) (args : List SV) (T : Tab) (kf : SV × Tab → Option R) : Option R :=
  newelref07_CheckCar N (Cod.dec api_CarC (lget (toCs (lget args 0)))) (fun q0 => kf (lget [.int .i64 q0] 0, []))
noncomputable def newelref07_CheckCar_cal {R : Type} (N : Nat) : Cal R := callM (calls_timed_cal N) 13 0 newelref07_CheckCar_sp (newelref07_CheckCar_go N)
theorem newelref07_CheckCar_cal_ok {R : Type} (N : Nat) : CalOk E.P (newelref07_CheckCar_cal (R := R) N) :=
  callM_ok hE (calls_timed_cal_ok N) (lp := newelref07_CheckCar_lp N) (jn := noJn) (keys := []) kNil (by kernel_rfl) (js := []) jNil (by kernel_rfl) newelref07_CheckCar_sp_ok newelref07_CheckCar_rs_ok (fun args T kf => Eq.trans (newelref07_CheckCar_def N (Cod.dec api_CarC (lget (toCs (lget args 0)))) (fun q0 => kf (lget [.int .i64 q0] 0, []))) (by kernel_rfl : newelref07_CheckCar_run N args T kf = fnM E (calls_timed_cal N) (newelref07_CheckCar_lp N) (noJn) 13 (newelref07_CheckCar_sp.vs args) (newelref07_CheckCar_sp.tab T) 0 (resK newelref07_CheckCar_rs kf)))
def newelref07_isPresses_L2 : LoopSp := ⟨⟨[0, 3], ⟨((rSl api_PressC) :: (dr 2 ((rInt .i64) :: (dr 34 [])))), []⟩, 0⟩, [(Option.none, ⟨[2], ⟨(dr 2 ((rBool) :: (dr 35 []))), []⟩, 0⟩), (some 0, ⟨[0], ⟨((rSl api_PressC) :: (dr 37 [])), []⟩, 0⟩)]⟩
theorem newelref07_isPresses_L2_ok : newelref07_isPresses_L2.Ok := ⟨⟨(allCons (rSl_ok api_PressC_ok) (drCons 2 (allCons (rInt_ok .i64) (drCons 34 allNil)))), eNil⟩, (xCons ⟨(drCons 2 (allCons rBool_ok (drCons 35 allNil))), eNil⟩ (xCons ⟨(allCons (rSl_ok api_PressC_ok) (drCons 37 allNil)), eNil⟩ xNil))⟩
def newelref07_isPresses_h2 (v23 : Arr api_Press) (v24 : Int) : St := ⟨((slC api_PressC v23) :: (un 2 ((.int .i64 v24) :: (un 34 [])))), [], 0⟩
def newelref07_isPresses_x2_r (q0 : Bool) : St := ⟨(un 2 ((.bool q0) :: (un 35 []))), [], 0⟩
def newelref07_isPresses_x2_0 (v23 : Arr api_Press) : St := ⟨((slC api_PressC v23) :: (un 37 [])), [], 0⟩
def newelref07_isPresses_b2 {R : Type} (N : Nat) (rc : Arr api_Press → Int → Option R) (v23 : Arr api_Press) (v24 : Int) (kr : Bool → Option R) (k0 : Unit → Option R) : Option R :=
  bif decide (v24 < (↑(Arr.n v23) : Int)) then
   bif decide ((0 : Int) ≤ v24) && decide (v24 < (↑(Arr.n v23) : Int)) then
    newelref07_from N (api_Press.At (Arr.f v23 (Int.toNat v24))) (0 : Int) (500 : Int) (fun r25 =>
    bif !r25 then
     kr false
    else
     bif decide (v24 > (0 : Int)) then
      bif decide ((0 : Int) ≤ v24) && decide (v24 < (↑(Arr.n v23) : Int)) then
       bif decide ((0 : Int) ≤ w64 (v24 - (1 : Int))) && decide (w64 (v24 - (1 : Int)) < (↑(Arr.n v23) : Int)) then
        bif decide (api_Press.At (Arr.f v23 (Int.toNat v24)) < api_Press.At (Arr.f v23 (Int.toNat (w64 (v24 - (1 : Int)))))) then
         kr false
        else
         rc v23 (w64 (v24 + (1 : Int)))
       else
        Option.none
      else
       Option.none
     else
      rc v23 (w64 (v24 + (1 : Int))))
   else
    Option.none
  else
   k0 ()
def newelref07_isPresses_l2 {R : Type} (N : Nat) : Nat → Arr api_Press → Int → (Bool → Option R) → (Unit → Option R) → Option R
  | 0, _, _, _, _ => Option.none
  | n + 1, v23, v24, kr, k0 => newelref07_isPresses_b2 N (fun v23 v24 => newelref07_isPresses_l2 N n v23 v24 kr k0) v23 v24 kr k0
def newelref07_isPresses_m {R : Type} (N : Nat) (a22 : Arr api_Press) (k : Bool → Option R) : Option R :=
  newelref07_isPresses_l2 N N a22 (0 : Int) (fun r26 =>
   k r26) (fun (_ : Unit) =>
   k (decide ((↑(Arr.n a22) : Int) ≤ (200 : Int))))
noncomputable def newelref07_isPresses {R : Type} : Nat → Arr api_Press → (Bool → Option R) → Option R := lock (@newelref07_isPresses_m R)
theorem newelref07_isPresses_def {R : Type} (N : Nat) (a22 : Arr api_Press) (k : Bool → Option R) : newelref07_isPresses N a22 k = newelref07_isPresses_m N a22 k := by unfold newelref07_isPresses; rw [lock_eq]
def newelref07_isPresses_sp : Sp := ⟨[rSl api_PressC], []⟩
theorem newelref07_isPresses_sp_ok : newelref07_isPresses_sp.Ok := ⟨(allCons (rSl_ok api_PressC_ok) allNil), eNil⟩
def newelref07_isPresses_rs : Sp := ⟨[rBool], []⟩
theorem newelref07_isPresses_rs_ok : newelref07_isPresses_rs.Ok := ⟨(allCons rBool_ok allNil), eNil⟩
def newelref07_isPresses_run {R : Type} (N : Nat) (args : List SV) (T : Tab) (kf : SV × Tab → Option R) : Option R :=
  newelref07_isPresses_m N (lstC api_PressC (lget args 0)) (fun q0 => kf (lget [.bool q0] 0, []))
def newelref07_isPresses_d2 {R : Type} (N : Nat) (S0 : St) (k : Exit → St → Option R) : Option R :=
  newelref07_isPresses_l2 N N (lstC api_PressC (lget S0.tmps 0)) (toI (lget S0.tmps 3)) (fun q0 => k .ret (newelref07_isPresses_x2_r q0)) (fun (_ : Unit) => k (.exit 0) (newelref07_isPresses_x2_0 (lstC api_PressC (lget S0.tmps 0))))
def newelref07_isPresses_lp {R : Type} (N : Nat) : Lp R := fun body S k => bif (Go.Sx.keyOf body).getD 0 == 2 then (newelref07_isPresses_L2.head.raw 0 S (fun S0 => newelref07_isPresses_d2 N S0 k)) else Option.none
theorem newelref07_isPresses_l2_eq {R : Type} (N : Nat) (k : Exit → St → Option R) (n : Nat) : ∀ (v0 : Arr api_Press) (v1 : Int), loopM E.Θ (newelref07_CheckCar_cal N) (newelref07_isPresses_lp N) (noJn) 0 newelref07_isPresses_L2 (bodyAt E 45 2) n (newelref07_isPresses_h2 v0 v1) k = newelref07_isPresses_l2 N n v0 v1 (fun q0 => k .ret (newelref07_isPresses_x2_r q0)) (fun (_ : Unit) => k (.exit 0) (newelref07_isPresses_x2_0 v0)) := by
  induction n with
  | zero => intro v0 v1; rfl
  | succ n ih =>
    intro v0 v1
    refine Eq.trans (b := newelref07_isPresses_b2 N (fun v0 v1 => loopM E.Θ (newelref07_CheckCar_cal N) (newelref07_isPresses_lp N) (noJn) 0 newelref07_isPresses_L2 (bodyAt E 45 2) n (newelref07_isPresses_h2 v0 v1) k) v0 v1 (fun q0 => k .ret (newelref07_isPresses_x2_r q0)) (fun (_ : Unit) => k (.exit 0) (newelref07_isPresses_x2_0 v0))) (by kernel_rfl) ?_
    have h : (fun (v0 : Arr api_Press) (v1 : Int) => loopM E.Θ (newelref07_CheckCar_cal N) (newelref07_isPresses_lp N) (noJn) 0 newelref07_isPresses_L2 (bodyAt E 45 2) n (newelref07_isPresses_h2 v0 v1) k) = (fun (v0 : Arr api_Press) (v1 : Int) => newelref07_isPresses_l2 N n v0 v1 (fun q0 => k .ret (newelref07_isPresses_x2_r q0)) (fun (_ : Unit) => k (.exit 0) (newelref07_isPresses_x2_0 v0))) := funext fun v0 => funext fun v1 => ih v0 v1
    rw [h]
    rfl
theorem newelref07_isPresses_k2 {R : Type} (N : Nat) : LpKey (R := R) E 45 0 (newelref07_isPresses_lp N) 2 :=
  lpKey_of hE (newelref07_CheckCar_cal_ok N) (lp := newelref07_isPresses_lp N) (jn := noJn) newelref07_isPresses_L2_ok [] kNil (by kernel_rfl) [] jNil (by kernel_rfl) N fun S k =>
    Eq.trans (b := newelref07_isPresses_L2.head.raw 0 S (fun S0 => newelref07_isPresses_d2 N S0 k)) (by kernel_rfl) (congrArg (newelref07_isPresses_L2.head.raw 0 S) (funext fun S0 => Eq.trans (newelref07_isPresses_l2_eq N k N (lstC api_PressC (lget S0.tmps 0)) (toI (lget S0.tmps 3))).symm (by kernel_rfl)))
noncomputable def newelref07_isPresses_go {R : Type} (N : Nat) (args : List SV) (T : Tab) (kf : SV × Tab → Option R) : Option R :=
  newelref07_isPresses N (lstC api_PressC (lget args 0)) (fun q0 => kf (lget [.bool q0] 0, []))
noncomputable def newelref07_isPresses_cal {R : Type} (N : Nat) : Cal R := callM (newelref07_CheckCar_cal N) 45 0 newelref07_isPresses_sp (newelref07_isPresses_go N)
theorem newelref07_isPresses_cal_ok {R : Type} (N : Nat) : CalOk E.P (newelref07_isPresses_cal (R := R) N) :=
  callM_ok hE (newelref07_CheckCar_cal_ok N) (lp := newelref07_isPresses_lp N) (jn := noJn) (keys := [2]) (kCons (newelref07_isPresses_k2 N) kNil) (by kernel_rfl) (js := []) jNil (by kernel_rfl) newelref07_isPresses_sp_ok newelref07_isPresses_rs_ok (fun args T kf => Eq.trans (newelref07_isPresses_def N (lstC api_PressC (lget args 0)) (fun q0 => kf (lget [.bool q0] 0, []))) (by kernel_rfl : newelref07_isPresses_run N args T kf = fnM E (newelref07_CheckCar_cal N) (newelref07_isPresses_lp N) (noJn) 45 (newelref07_isPresses_sp.vs args) (newelref07_isPresses_sp.tab T) 0 (resK newelref07_isPresses_rs kf)))
def calls_Check_L6 : LoopSp := ⟨⟨[2, 13, 14, 15], ⟨(dr 2 ((rPtr 0 0) :: (dr 10 ((rSl api_PressC) :: (rInt .i64) :: (rInt .i64) :: (dr 12 []))))), [(0, eBlkC api_CarC)]⟩, 1⟩, [(Option.none, ⟨[4], ⟨(dr 4 ((rInt .i64) :: (dr 23 []))), []⟩, 0⟩), (some 0, ⟨[], ⟨(dr 28 []), []⟩, 0⟩)]⟩
theorem calls_Check_L6_ok : calls_Check_L6.Ok := ⟨⟨(drCons 2 (allCons (rPtr_ok 0 0) (drCons 10 (allCons (rSl_ok api_PressC_ok) (allCons (rInt_ok .i64) (allCons (rInt_ok .i64) (drCons 12 allNil))))))), (eCons (eBlkC_ok api_CarC_ok api_CarC_len) eNil)⟩, (xCons ⟨(drCons 4 (allCons (rInt_ok .i64) (drCons 23 allNil))), eNil⟩ (xCons ⟨(drCons 28 allNil), eNil⟩ xNil))⟩
def calls_Check_h6 (v31 : Arr api_Press) (v32 : Int) (v33 : Int) (v34 : api_Car) : St := ⟨(un 2 ((.ptr 0 0) :: (un 10 ((slC api_PressC v31) :: (.int .i64 v32) :: (.int .i64 v33) :: (un 12 []))))), [(0, .blk (Cod.enc api_CarC v34))], 1⟩
def calls_Check_x6_r (q0 : Int) : St := ⟨(un 4 ((.int .i64 q0) :: (un 23 []))), [], 0⟩
def calls_Check_x6_0  : St := ⟨(un 28 []), [], 0⟩
def calls_Check_b6 {R : Type} (N : Nat) (rc : Arr api_Press → Int → Int → api_Car → Option R) (v31 : Arr api_Press) (v32 : Int) (v33 : Int) (v34 : api_Car) (kr : Int → Option R) (k0 : Unit → Option R) : Option R :=
  bif decide (v33 < v32) then
   bif decide ((0 : Int) ≤ v33) && decide (v33 < (↑(Arr.n v31) : Int)) then
    calls_within N (api_Press.Floor (Arr.f v31 (Int.toNat v33))) (api_Car.Low v34) (api_Car.High v34) (fun r35 =>
    bif !r35 then
     kr (71 : Int)
    else
     rc v31 v32 (w64 (v33 + (1 : Int))) v34)
   else
    Option.none
  else
   k0 ()
def calls_Check_l6 {R : Type} (N : Nat) : Nat → Arr api_Press → Int → Int → api_Car → (Int → Option R) → (Unit → Option R) → Option R
  | 0, _, _, _, _, _, _ => Option.none
  | n + 1, v31, v32, v33, v34, kr, k0 => calls_Check_b6 N (fun v31 v32 v33 v34 => calls_Check_l6 N n v31 v32 v33 v34 kr k0) v31 v32 v33 v34 kr k0
def calls_Check_m {R : Type} (N : Nat) (a27 : api_Car) (a28 : Arr api_Press) (k : Int → Option R) : Option R :=
  calls_valid N a27 (fun r29 =>
  bif !r29 then
   k (70 : Int)
  else
   calls_timed N a28 (fun r30 =>
   bif !r30 then
    k (71 : Int)
   else
    calls_Check_l6 N N a28 ((↑(Arr.n a28) : Int)) (0 : Int) a27 (fun r36 =>
     k r36) (fun (_ : Unit) =>
     k (0 : Int))))
noncomputable def calls_Check {R : Type} : Nat → api_Car → Arr api_Press → (Int → Option R) → Option R := lock (@calls_Check_m R)
theorem calls_Check_def {R : Type} (N : Nat) (a27 : api_Car) (a28 : Arr api_Press) (k : Int → Option R) : calls_Check N a27 a28 k = calls_Check_m N a27 a28 k := by unfold calls_Check; rw [lock_eq]
def calls_Check_sp : Sp := ⟨[rAgg api_CarC, rSl api_PressC], []⟩
theorem calls_Check_sp_ok : calls_Check_sp.Ok := ⟨(allCons (rAgg_ok api_CarC_ok api_CarC_len) (allCons (rSl_ok api_PressC_ok) allNil)), eNil⟩
def calls_Check_rs : Sp := ⟨[rInt .i64], []⟩
theorem calls_Check_rs_ok : calls_Check_rs.Ok := ⟨(allCons (rInt_ok .i64) allNil), eNil⟩
def calls_Check_run {R : Type} (N : Nat) (args : List SV) (T : Tab) (kf : SV × Tab → Option R) : Option R :=
  calls_Check_m N (Cod.dec api_CarC (lget (toCs (lget args 0)))) (lstC api_PressC (lget args 1)) (fun q0 => kf (lget [.int .i64 q0] 0, []))
def calls_Check_d6 {R : Type} (N : Nat) (S0 : St) (k : Exit → St → Option R) : Option R :=
  calls_Check_l6 N N (lstC api_PressC (lget S0.tmps 13)) (toI (lget S0.tmps 14)) (toI (lget S0.tmps 15)) (Cod.dec api_CarC (lget (entCs (entAt S0.tab 0)))) (fun q0 => k .ret (calls_Check_x6_r q0)) (fun (_ : Unit) => k (.exit 0) (calls_Check_x6_0 ))
def calls_Check_lp {R : Type} (N : Nat) : Lp R := fun body S k => bif (Go.Sx.keyOf body).getD 0 == 6 then (calls_Check_L6.head.raw 0 S (fun S0 => calls_Check_d6 N S0 k)) else Option.none
theorem calls_Check_l6_eq {R : Type} (N : Nat) (k : Exit → St → Option R) (n : Nat) : ∀ (v0 : Arr api_Press) (v1 : Int) (v2 : Int) (v3 : api_Car), loopM E.Θ (newelref07_isPresses_cal N) (calls_Check_lp N) (noJn) 0 calls_Check_L6 (bodyAt E 17 6) n (calls_Check_h6 v0 v1 v2 v3) k = calls_Check_l6 N n v0 v1 v2 v3 (fun q0 => k .ret (calls_Check_x6_r q0)) (fun (_ : Unit) => k (.exit 0) (calls_Check_x6_0 )) := by
  induction n with
  | zero => intro v0 v1 v2 v3; rfl
  | succ n ih =>
    intro v0 v1 v2 v3
    refine Eq.trans (b := calls_Check_b6 N (fun v0 v1 v2 v3 => loopM E.Θ (newelref07_isPresses_cal N) (calls_Check_lp N) (noJn) 0 calls_Check_L6 (bodyAt E 17 6) n (calls_Check_h6 v0 v1 v2 v3) k) v0 v1 v2 v3 (fun q0 => k .ret (calls_Check_x6_r q0)) (fun (_ : Unit) => k (.exit 0) (calls_Check_x6_0 ))) (by kernel_rfl) ?_
    have h : (fun (v0 : Arr api_Press) (v1 : Int) (v2 : Int) (v3 : api_Car) => loopM E.Θ (newelref07_isPresses_cal N) (calls_Check_lp N) (noJn) 0 calls_Check_L6 (bodyAt E 17 6) n (calls_Check_h6 v0 v1 v2 v3) k) = (fun (v0 : Arr api_Press) (v1 : Int) (v2 : Int) (v3 : api_Car) => calls_Check_l6 N n v0 v1 v2 v3 (fun q0 => k .ret (calls_Check_x6_r q0)) (fun (_ : Unit) => k (.exit 0) (calls_Check_x6_0 ))) := funext fun v0 => funext fun v1 => funext fun v2 => funext fun v3 => ih v0 v1 v2 v3
    rw [h]
    rfl
theorem calls_Check_k6 {R : Type} (N : Nat) : LpKey (R := R) E 17 0 (calls_Check_lp N) 6 :=
  lpKey_of hE (newelref07_isPresses_cal_ok N) (lp := calls_Check_lp N) (jn := noJn) calls_Check_L6_ok [] kNil (by kernel_rfl) [] jNil (by kernel_rfl) N fun S k =>
    Eq.trans (b := calls_Check_L6.head.raw 0 S (fun S0 => calls_Check_d6 N S0 k)) (by kernel_rfl) (congrArg (calls_Check_L6.head.raw 0 S) (funext fun S0 => Eq.trans (calls_Check_l6_eq N k N (lstC api_PressC (lget S0.tmps 13)) (toI (lget S0.tmps 14)) (toI (lget S0.tmps 15)) (Cod.dec api_CarC (lget (entCs (entAt S0.tab 0))))).symm (by kernel_rfl)))
noncomputable def calls_Check_go {R : Type} (N : Nat) (args : List SV) (T : Tab) (kf : SV × Tab → Option R) : Option R :=
  calls_Check N (Cod.dec api_CarC (lget (toCs (lget args 0)))) (lstC api_PressC (lget args 1)) (fun q0 => kf (lget [.int .i64 q0] 0, []))
noncomputable def calls_Check_cal {R : Type} (N : Nat) : Cal R := callM (newelref07_isPresses_cal N) 17 0 calls_Check_sp (calls_Check_go N)
theorem calls_Check_cal_ok {R : Type} (N : Nat) : CalOk E.P (calls_Check_cal (R := R) N) :=
  callM_ok hE (newelref07_isPresses_cal_ok N) (lp := calls_Check_lp N) (jn := noJn) (keys := [6]) (kCons (calls_Check_k6 N) kNil) (by kernel_rfl) (js := []) jNil (by kernel_rfl) calls_Check_sp_ok calls_Check_rs_ok (fun args T kf => Eq.trans (calls_Check_def N (Cod.dec api_CarC (lget (toCs (lget args 0)))) (lstC api_PressC (lget args 1)) (fun q0 => kf (lget [.int .i64 q0] 0, []))) (by kernel_rfl : calls_Check_run N args T kf = fnM E (newelref07_isPresses_cal N) (calls_Check_lp N) (noJn) 17 (calls_Check_sp.vs args) (calls_Check_sp.tab T) 0 (resK calls_Check_rs kf)))
def calls_begin_m {R : Type} (N : Nat) (a158 : api_Car) (k : calls_cage → Option R) : Option R :=
  k (calls_cage.mk a158 (api_Ride.mk (api_Car.Start a158) true false (0 : Int) (0 : Int) (0 : Int)))
noncomputable def calls_begin {R : Type} : Nat → api_Car → (calls_cage → Option R) → Option R := lock (@calls_begin_m R)
theorem calls_begin_def {R : Type} (N : Nat) (a158 : api_Car) (k : calls_cage → Option R) : calls_begin N a158 k = calls_begin_m N a158 k := by unfold calls_begin; rw [lock_eq]
def calls_begin_sp : Sp := ⟨[rAgg api_CarC], []⟩
theorem calls_begin_sp_ok : calls_begin_sp.Ok := ⟨(allCons (rAgg_ok api_CarC_ok api_CarC_len) allNil), eNil⟩
def calls_begin_rs : Sp := ⟨[rPtr 0 0], [(0, eBlkC calls_cageC)]⟩
theorem calls_begin_rs_ok : calls_begin_rs.Ok := ⟨(allCons (rPtr_ok 0 0) allNil), (eCons (eBlkC_ok calls_cageC_ok calls_cageC_len) eNil)⟩
def calls_begin_run {R : Type} (N : Nat) (args : List SV) (T : Tab) (kf : SV × Tab → Option R) : Option R :=
  calls_begin_m N (Cod.dec api_CarC (lget (toCs (lget args 0)))) (fun q0 => kf (lget [.ptr 0 0] 0, [(0, .blk (Cod.enc calls_cageC q0))]))
def calls_begin_lp {R : Type} (N : Nat) : Lp R := fun body S k => Option.none
noncomputable def calls_begin_go {R : Type} (N : Nat) (args : List SV) (T : Tab) (kf : SV × Tab → Option R) : Option R :=
  calls_begin N (Cod.dec api_CarC (lget (toCs (lget args 0)))) (fun q0 => kf (lget [.ptr 0 0] 0, [(0, .blk (Cod.enc calls_cageC q0))]))
noncomputable def calls_begin_cal {R : Type} (N : Nat) : Cal R := callM (calls_Check_cal N) 46 0 calls_begin_sp (calls_begin_go N)
theorem calls_begin_cal_ok {R : Type} (N : Nat) : CalOk E.P (calls_begin_cal (R := R) N) :=
  callM_ok hE (calls_Check_cal_ok N) (lp := calls_begin_lp N) (jn := noJn) (keys := []) kNil (by kernel_rfl) (js := []) jNil (by kernel_rfl) calls_begin_sp_ok calls_begin_rs_ok (fun args T kf => Eq.trans (calls_begin_def N (Cod.dec api_CarC (lget (toCs (lget args 0)))) (fun q0 => kf (lget [.ptr 0 0] 0, [(0, .blk (Cod.enc calls_cageC q0))]))) (by kernel_rfl : calls_begin_run N args T kf = fnM E (calls_Check_cal N) (calls_begin_lp N) (noJn) 46 (calls_begin_sp.vs args) (calls_begin_sp.tab T) 0 (resK calls_begin_rs kf)))
def calls_Waits_1_m {R : Type} (N : Nat) (a176 : Int) (k : Bool → Option R) : Option R :=
  k true
noncomputable def calls_Waits_1 {R : Type} : Nat → Int → (Bool → Option R) → Option R := lock (@calls_Waits_1_m R)
theorem calls_Waits_1_def {R : Type} (N : Nat) (a176 : Int) (k : Bool → Option R) : calls_Waits_1 N a176 k = calls_Waits_1_m N a176 k := by unfold calls_Waits_1; rw [lock_eq]
def calls_Waits_1_sp : Sp := ⟨[rInt .i64], []⟩
theorem calls_Waits_1_sp_ok : calls_Waits_1_sp.Ok := ⟨(allCons (rInt_ok .i64) allNil), eNil⟩
def calls_Waits_1_rs : Sp := ⟨[rBool], []⟩
theorem calls_Waits_1_rs_ok : calls_Waits_1_rs.Ok := ⟨(allCons rBool_ok allNil), eNil⟩
def calls_Waits_1_run {R : Type} (N : Nat) (args : List SV) (T : Tab) (kf : SV × Tab → Option R) : Option R :=
  calls_Waits_1_m N (toI (lget args 0)) (fun q0 => kf (lget [.bool q0] 0, []))
def calls_Waits_1_lp {R : Type} (N : Nat) : Lp R := fun body S k => Option.none
noncomputable def calls_Waits_1_go {R : Type} (N : Nat) (args : List SV) (T : Tab) (kf : SV × Tab → Option R) : Option R :=
  calls_Waits_1 N (toI (lget args 0)) (fun q0 => kf (lget [.bool q0] 0, []))
noncomputable def calls_Waits_1_cal {R : Type} (N : Nat) : Cal R := callM (calls_begin_cal N) 52 0 calls_Waits_1_sp (calls_Waits_1_go N)
theorem calls_Waits_1_cal_ok {R : Type} (N : Nat) : CalOk E.P (calls_Waits_1_cal (R := R) N) :=
  callM_ok hE (calls_begin_cal_ok N) (lp := calls_Waits_1_lp N) (jn := noJn) (keys := []) kNil (by kernel_rfl) (js := []) jNil (by kernel_rfl) calls_Waits_1_sp_ok calls_Waits_1_rs_ok (fun args T kf => Eq.trans (calls_Waits_1_def N (toI (lget args 0)) (fun q0 => kf (lget [.bool q0] 0, []))) (by kernel_rfl : calls_Waits_1_run N args T kf = fnM E (calls_begin_cal N) (calls_Waits_1_lp N) (noJn) 52 (calls_Waits_1_sp.vs args) (calls_Waits_1_sp.tab T) 0 (resK calls_Waits_1_rs kf)))
def calls_cage_end_m {R : Type} (N : Nat) (a184 : calls_cage) (k : calls_cage → Option R) : Option R :=
  bif api_Ride.Doing (calls_cage.Ride a184) == (0 : Int) then
   k a184
  else
   bif decide (w64 (api_Ride.Left (calls_cage.Ride a184) - (1 : Int)) > (0 : Int)) then
    k (calls_cage.mk (calls_cage.Car a184) (api_Ride.mk (api_Ride.Floor (calls_cage.Ride a184)) (api_Ride.Up (calls_cage.Ride a184)) (api_Ride.Stood (calls_cage.Ride a184)) (api_Ride.Doing (calls_cage.Ride a184)) (w64 (api_Ride.Left (calls_cage.Ride a184) - (1 : Int))) (api_Ride.Wants (calls_cage.Ride a184))))
   else
    bif api_Ride.Doing (calls_cage.Ride a184) == (1 : Int) then
     bif api_Ride.Up (calls_cage.Ride a184) then
      k (calls_cage.mk (calls_cage.Car a184) (api_Ride.mk (w64 (api_Ride.Floor (calls_cage.Ride a184) + (1 : Int))) (api_Ride.Up (calls_cage.Ride a184)) false (0 : Int) (w64 (api_Ride.Left (calls_cage.Ride a184) - (1 : Int))) (api_Ride.Wants (calls_cage.Ride a184))))
     else
      k (calls_cage.mk (calls_cage.Car a184) (api_Ride.mk (w64 (api_Ride.Floor (calls_cage.Ride a184) - (1 : Int))) (api_Ride.Up (calls_cage.Ride a184)) false (0 : Int) (w64 (api_Ride.Left (calls_cage.Ride a184) - (1 : Int))) (api_Ride.Wants (calls_cage.Ride a184))))
    else
     k (calls_cage.mk (calls_cage.Car a184) (api_Ride.mk (api_Ride.Floor (calls_cage.Ride a184)) (api_Ride.Up (calls_cage.Ride a184)) (api_Ride.Stood (calls_cage.Ride a184)) (0 : Int) (w64 (api_Ride.Left (calls_cage.Ride a184) - (1 : Int))) (api_Ride.Wants (calls_cage.Ride a184))))
noncomputable def calls_cage_end {R : Type} : Nat → calls_cage → (calls_cage → Option R) → Option R := lock (@calls_cage_end_m R)
theorem calls_cage_end_def {R : Type} (N : Nat) (a184 : calls_cage) (k : calls_cage → Option R) : calls_cage_end N a184 k = calls_cage_end_m N a184 k := by unfold calls_cage_end; rw [lock_eq]
def calls_cage_end_sp : Sp := ⟨[rPtr 0 0], [(0, eBlkC calls_cageC)]⟩
theorem calls_cage_end_sp_ok : calls_cage_end_sp.Ok := ⟨(allCons (rPtr_ok 0 0) allNil), (eCons (eBlkC_ok calls_cageC_ok calls_cageC_len) eNil)⟩
def calls_cage_end_rs : Sp := ⟨[rTup []], [(0, eBlkC calls_cageC)]⟩
theorem calls_cage_end_rs_ok : calls_cage_end_rs.Ok := ⟨(allCons (rTup_ok allNil) allNil), (eCons (eBlkC_ok calls_cageC_ok calls_cageC_len) eNil)⟩
def calls_cage_end_run {R : Type} (N : Nat) (args : List SV) (T : Tab) (kf : SV × Tab → Option R) : Option R :=
  calls_cage_end_m N (Cod.dec calls_cageC (lget (entCs (entAt T 0)))) (fun q0 => kf (lget [.tup []] 0, [(0, .blk (Cod.enc calls_cageC q0))]))
def calls_cage_end_lp {R : Type} (N : Nat) : Lp R := fun body S k => Option.none
noncomputable def calls_cage_end_go {R : Type} (N : Nat) (args : List SV) (T : Tab) (kf : SV × Tab → Option R) : Option R :=
  calls_cage_end N (Cod.dec calls_cageC (lget (entCs (entAt T 0)))) (fun q0 => kf (lget [.tup []] 0, [(0, .blk (Cod.enc calls_cageC q0))]))
noncomputable def calls_cage_end_cal {R : Type} (N : Nat) : Cal R := callM (calls_Waits_1_cal N) 70 1 calls_cage_end_sp (calls_cage_end_go N)
theorem calls_cage_end_cal_ok {R : Type} (N : Nat) : CalOk E.P (calls_cage_end_cal (R := R) N) :=
  callM_ok hE (calls_Waits_1_cal_ok N) (lp := calls_cage_end_lp N) (jn := noJn) (keys := []) kNil (by kernel_rfl) (js := []) jNil (by kernel_rfl) calls_cage_end_sp_ok calls_cage_end_rs_ok (fun args T kf => Eq.trans (calls_cage_end_def N (Cod.dec calls_cageC (lget (entCs (entAt T 0)))) (fun q0 => kf (lget [.tup []] 0, [(0, .blk (Cod.enc calls_cageC q0))]))) (by kernel_rfl : calls_cage_end_run N args T kf = fnM E (calls_Waits_1_cal N) (calls_cage_end_lp N) (noJn) 70 (calls_cage_end_sp.vs args) (calls_cage_end_sp.tab T) 1 (resK calls_cage_end_rs kf)))
def calls_cage_press_m {R : Type} (N : Nat) (a191 : Int) (a192 : calls_cage) (k : Bool → calls_cage → Option R) : Option R :=
  bif api_Ride.Doing (calls_cage.Ride a192) == (2 : Int) then
   bif a191 == api_Ride.Floor (calls_cage.Ride a192) then
    k true a192
   else
    bif decide (a191 < (0 : Int)) then
     Option.none
    else
     k false (calls_cage.mk (calls_cage.Car a192) (api_Ride.mk (api_Ride.Floor (calls_cage.Ride a192)) (api_Ride.Up (calls_cage.Ride a192)) (api_Ride.Stood (calls_cage.Ride a192)) (api_Ride.Doing (calls_cage.Ride a192)) (api_Ride.Left (calls_cage.Ride a192)) (w64 (↑(BitVec.toNat (BitVec.ofInt (IntKind.bits IntKind.i64) (api_Ride.Wants (calls_cage.Ride a192)) ||| BitVec.ofInt (IntKind.bits IntKind.i64) (w64 ((1 : Int) * (2 : Int) ^ min (Int.toNat a191) (IntKind.bits IntKind.i64))))) : Int))))
  else
   bif decide (a191 < (0 : Int)) then
    Option.none
   else
    k false (calls_cage.mk (calls_cage.Car a192) (api_Ride.mk (api_Ride.Floor (calls_cage.Ride a192)) (api_Ride.Up (calls_cage.Ride a192)) (api_Ride.Stood (calls_cage.Ride a192)) (api_Ride.Doing (calls_cage.Ride a192)) (api_Ride.Left (calls_cage.Ride a192)) (w64 (↑(BitVec.toNat (BitVec.ofInt (IntKind.bits IntKind.i64) (api_Ride.Wants (calls_cage.Ride a192)) ||| BitVec.ofInt (IntKind.bits IntKind.i64) (w64 ((1 : Int) * (2 : Int) ^ min (Int.toNat a191) (IntKind.bits IntKind.i64))))) : Int))))
noncomputable def calls_cage_press {R : Type} : Nat → Int → calls_cage → (Bool → calls_cage → Option R) → Option R := lock (@calls_cage_press_m R)
theorem calls_cage_press_def {R : Type} (N : Nat) (a191 : Int) (a192 : calls_cage) (k : Bool → calls_cage → Option R) : calls_cage_press N a191 a192 k = calls_cage_press_m N a191 a192 k := by unfold calls_cage_press; rw [lock_eq]
def calls_cage_press_sp : Sp := ⟨[rPtr 0 0, rInt .i64], [(0, eBlkC calls_cageC)]⟩
theorem calls_cage_press_sp_ok : calls_cage_press_sp.Ok := ⟨(allCons (rPtr_ok 0 0) (allCons (rInt_ok .i64) allNil)), (eCons (eBlkC_ok calls_cageC_ok calls_cageC_len) eNil)⟩
def calls_cage_press_rs : Sp := ⟨[rBool], [(0, eBlkC calls_cageC)]⟩
theorem calls_cage_press_rs_ok : calls_cage_press_rs.Ok := ⟨(allCons rBool_ok allNil), (eCons (eBlkC_ok calls_cageC_ok calls_cageC_len) eNil)⟩
def calls_cage_press_run {R : Type} (N : Nat) (args : List SV) (T : Tab) (kf : SV × Tab → Option R) : Option R :=
  calls_cage_press_m N (toI (lget args 1)) (Cod.dec calls_cageC (lget (entCs (entAt T 0)))) (fun q0 q1 => kf (lget [.bool q0] 0, [(0, .blk (Cod.enc calls_cageC q1))]))
def calls_cage_press_lp {R : Type} (N : Nat) : Lp R := fun body S k => Option.none
noncomputable def calls_cage_press_go {R : Type} (N : Nat) (args : List SV) (T : Tab) (kf : SV × Tab → Option R) : Option R :=
  calls_cage_press N (toI (lget args 1)) (Cod.dec calls_cageC (lget (entCs (entAt T 0)))) (fun q0 q1 => kf (lget [.bool q0] 0, [(0, .blk (Cod.enc calls_cageC q1))]))
noncomputable def calls_cage_press_cal {R : Type} (N : Nat) : Cal R := callM (calls_cage_end_cal N) 71 1 calls_cage_press_sp (calls_cage_press_go N)
theorem calls_cage_press_cal_ok {R : Type} (N : Nat) : CalOk E.P (calls_cage_press_cal (R := R) N) :=
  callM_ok hE (calls_cage_end_cal_ok N) (lp := calls_cage_press_lp N) (jn := noJn) (keys := []) kNil (by kernel_rfl) (js := []) jNil (by kernel_rfl) calls_cage_press_sp_ok calls_cage_press_rs_ok (fun args T kf => Eq.trans (calls_cage_press_def N (toI (lget args 1)) (Cod.dec calls_cageC (lget (entCs (entAt T 0)))) (fun q0 q1 => kf (lget [.bool q0] 0, [(0, .blk (Cod.enc calls_cageC q1))]))) (by kernel_rfl : calls_cage_press_run N args T kf = fnM E (calls_cage_end_cal N) (calls_cage_press_lp N) (noJn) 71 (calls_cage_press_sp.vs args) (calls_cage_press_sp.tab T) 1 (resK calls_cage_press_rs kf)))
def calls_cage_ahead_m {R : Type} (N : Nat) (a198 : calls_cage) (k : Int → Option R) : Option R :=
  bif decide (api_Ride.Floor (calls_cage.Ride a198) < (0 : Int)) then
   Option.none
  else
   bif api_Ride.Up (calls_cage.Ride a198) then
    bif decide (api_Ride.Floor (calls_cage.Ride a198) < (0 : Int)) then
     Option.none
    else
     k (w64 (↑(BitVec.toNat (BitVec.ofInt (IntKind.bits IntKind.i64) (if IntKind.signed IntKind.i64 = true then (-1 : Int) else IntKind.max IntKind.i64) ^^^ BitVec.ofInt (IntKind.bits IntKind.i64) (w64 (↑(BitVec.toNat (BitVec.ofInt (IntKind.bits IntKind.i64) (w64 (w64 ((1 : Int) * (2 : Int) ^ min (Int.toNat (api_Ride.Floor (calls_cage.Ride a198))) (IntKind.bits IntKind.i64)) - (1 : Int))) ||| BitVec.ofInt (IntKind.bits IntKind.i64) (w64 ((1 : Int) * (2 : Int) ^ min (Int.toNat (api_Ride.Floor (calls_cage.Ride a198))) (IntKind.bits IntKind.i64))))) : Int)))) : Int))
   else
    k (w64 (w64 ((1 : Int) * (2 : Int) ^ min (Int.toNat (api_Ride.Floor (calls_cage.Ride a198))) (IntKind.bits IntKind.i64)) - (1 : Int)))
noncomputable def calls_cage_ahead {R : Type} : Nat → calls_cage → (Int → Option R) → Option R := lock (@calls_cage_ahead_m R)
theorem calls_cage_ahead_def {R : Type} (N : Nat) (a198 : calls_cage) (k : Int → Option R) : calls_cage_ahead N a198 k = calls_cage_ahead_m N a198 k := by unfold calls_cage_ahead; rw [lock_eq]
def calls_cage_ahead_sp : Sp := ⟨[rEptr calls_cageC], []⟩
theorem calls_cage_ahead_sp_ok : calls_cage_ahead_sp.Ok := ⟨(allCons (rEptr_ok calls_cageC_ok) allNil), eNil⟩
def calls_cage_ahead_rs : Sp := ⟨[rInt .i64], []⟩
theorem calls_cage_ahead_rs_ok : calls_cage_ahead_rs.Ok := ⟨(allCons (rInt_ok .i64) allNil), eNil⟩
def calls_cage_ahead_run {R : Type} (N : Nat) (args : List SV) (T : Tab) (kf : SV × Tab → Option R) : Option R :=
  calls_cage_ahead_m N (Cod.dec calls_cageC (toE (lget args 0))) (fun q0 => kf (lget [.int .i64 q0] 0, []))
def calls_cage_ahead_lp {R : Type} (N : Nat) : Lp R := fun body S k => Option.none
noncomputable def calls_cage_ahead_go {R : Type} (N : Nat) (args : List SV) (T : Tab) (kf : SV × Tab → Option R) : Option R :=
  calls_cage_ahead N (Cod.dec calls_cageC (toE (lget args 0))) (fun q0 => kf (lget [.int .i64 q0] 0, []))
noncomputable def calls_cage_ahead_cal {R : Type} (N : Nat) : Cal R := callM (calls_cage_press_cal N) 73 0 calls_cage_ahead_sp (calls_cage_ahead_go N)
theorem calls_cage_ahead_cal_ok {R : Type} (N : Nat) : CalOk E.P (calls_cage_ahead_cal (R := R) N) :=
  callM_ok hE (calls_cage_press_cal_ok N) (lp := calls_cage_ahead_lp N) (jn := noJn) (keys := []) kNil (by kernel_rfl) (js := []) jNil (by kernel_rfl) calls_cage_ahead_sp_ok calls_cage_ahead_rs_ok (fun args T kf => Eq.trans (calls_cage_ahead_def N (Cod.dec calls_cageC (toE (lget args 0))) (fun q0 => kf (lget [.int .i64 q0] 0, []))) (by kernel_rfl : calls_cage_ahead_run N args T kf = fnM E (calls_cage_press_cal N) (calls_cage_ahead_lp N) (noJn) 73 (calls_cage_ahead_sp.vs args) (calls_cage_ahead_sp.tab T) 0 (resK calls_cage_ahead_rs kf)))
def calls_cage_begins_m {R : Type} (N : Nat) (a197 : calls_cage) (k : Bool → calls_cage → Option R) : Option R :=
  bif api_Ride.Doing (calls_cage.Ride a197) != (0 : Int) then
   k false a197
  else
   bif api_Ride.Wants (calls_cage.Ride a197) == (0 : Int) then
    k false a197
   else
    bif decide (api_Ride.Floor (calls_cage.Ride a197) < (0 : Int)) then
     Option.none
    else
     bif w64 (↑(BitVec.toNat (BitVec.ofInt (IntKind.bits IntKind.i64) (api_Ride.Wants (calls_cage.Ride a197)) &&& BitVec.ofInt (IntKind.bits IntKind.i64) (w64 ((1 : Int) * (2 : Int) ^ min (Int.toNat (api_Ride.Floor (calls_cage.Ride a197))) (IntKind.bits IntKind.i64))))) : Int) != (0 : Int) then
      bif !api_Ride.Stood (calls_cage.Ride a197) then
       k true (calls_cage.mk (calls_cage.Car a197) (api_Ride.mk (api_Ride.Floor (calls_cage.Ride a197)) (api_Ride.Up (calls_cage.Ride a197)) true (2 : Int) (api_Car.Stop (calls_cage.Car a197)) (w64 (↑(BitVec.toNat (BitVec.ofInt (IntKind.bits IntKind.i64) (api_Ride.Wants (calls_cage.Ride a197)) &&& ~~~BitVec.ofInt (IntKind.bits IntKind.i64) (w64 ((1 : Int) * (2 : Int) ^ min (Int.toNat (api_Ride.Floor (calls_cage.Ride a197))) (IntKind.bits IntKind.i64))))) : Int))))
      else
       bif api_Ride.Wants (calls_cage.Ride a197) == w64 ((1 : Int) * (2 : Int) ^ min (Int.toNat (api_Ride.Floor (calls_cage.Ride a197))) (IntKind.bits IntKind.i64)) then
        k true (calls_cage.mk (calls_cage.Car a197) (api_Ride.mk (api_Ride.Floor (calls_cage.Ride a197)) (api_Ride.Up (calls_cage.Ride a197)) true (2 : Int) (api_Car.Stop (calls_cage.Car a197)) (w64 (↑(BitVec.toNat (BitVec.ofInt (IntKind.bits IntKind.i64) (api_Ride.Wants (calls_cage.Ride a197)) &&& ~~~BitVec.ofInt (IntKind.bits IntKind.i64) (w64 ((1 : Int) * (2 : Int) ^ min (Int.toNat (api_Ride.Floor (calls_cage.Ride a197))) (IntKind.bits IntKind.i64))))) : Int))))
       else
        calls_cage_ahead N a197 (fun r199 =>
        bif w64 (↑(BitVec.toNat (BitVec.ofInt (IntKind.bits IntKind.i64) (api_Ride.Wants (calls_cage.Ride a197)) &&& BitVec.ofInt (IntKind.bits IntKind.i64) r199)) : Int) == (0 : Int) then
         k false (calls_cage.mk (calls_cage.Car a197) (api_Ride.mk (api_Ride.Floor (calls_cage.Ride a197)) (!api_Ride.Up (calls_cage.Ride a197)) (api_Ride.Stood (calls_cage.Ride a197)) (1 : Int) (api_Car.Move (calls_cage.Car a197)) (api_Ride.Wants (calls_cage.Ride a197))))
        else
         k false (calls_cage.mk (calls_cage.Car a197) (api_Ride.mk (api_Ride.Floor (calls_cage.Ride a197)) (api_Ride.Up (calls_cage.Ride a197)) (api_Ride.Stood (calls_cage.Ride a197)) (1 : Int) (api_Car.Move (calls_cage.Car a197)) (api_Ride.Wants (calls_cage.Ride a197)))))
     else
      calls_cage_ahead N a197 (fun r200 =>
      bif w64 (↑(BitVec.toNat (BitVec.ofInt (IntKind.bits IntKind.i64) (api_Ride.Wants (calls_cage.Ride a197)) &&& BitVec.ofInt (IntKind.bits IntKind.i64) r200)) : Int) == (0 : Int) then
       k false (calls_cage.mk (calls_cage.Car a197) (api_Ride.mk (api_Ride.Floor (calls_cage.Ride a197)) (!api_Ride.Up (calls_cage.Ride a197)) (api_Ride.Stood (calls_cage.Ride a197)) (1 : Int) (api_Car.Move (calls_cage.Car a197)) (api_Ride.Wants (calls_cage.Ride a197))))
      else
       k false (calls_cage.mk (calls_cage.Car a197) (api_Ride.mk (api_Ride.Floor (calls_cage.Ride a197)) (api_Ride.Up (calls_cage.Ride a197)) (api_Ride.Stood (calls_cage.Ride a197)) (1 : Int) (api_Car.Move (calls_cage.Car a197)) (api_Ride.Wants (calls_cage.Ride a197)))))
noncomputable def calls_cage_begins {R : Type} : Nat → calls_cage → (Bool → calls_cage → Option R) → Option R := lock (@calls_cage_begins_m R)
theorem calls_cage_begins_def {R : Type} (N : Nat) (a197 : calls_cage) (k : Bool → calls_cage → Option R) : calls_cage_begins N a197 k = calls_cage_begins_m N a197 k := by unfold calls_cage_begins; rw [lock_eq]
def calls_cage_begins_sp : Sp := ⟨[rPtr 0 0], [(0, eBlkC calls_cageC)]⟩
theorem calls_cage_begins_sp_ok : calls_cage_begins_sp.Ok := ⟨(allCons (rPtr_ok 0 0) allNil), (eCons (eBlkC_ok calls_cageC_ok calls_cageC_len) eNil)⟩
def calls_cage_begins_rs : Sp := ⟨[rBool], [(0, eBlkC calls_cageC)]⟩
theorem calls_cage_begins_rs_ok : calls_cage_begins_rs.Ok := ⟨(allCons rBool_ok allNil), (eCons (eBlkC_ok calls_cageC_ok calls_cageC_len) eNil)⟩
def calls_cage_begins_run {R : Type} (N : Nat) (args : List SV) (T : Tab) (kf : SV × Tab → Option R) : Option R :=
  calls_cage_begins_m N (Cod.dec calls_cageC (lget (entCs (entAt T 0)))) (fun q0 q1 => kf (lget [.bool q0] 0, [(0, .blk (Cod.enc calls_cageC q1))]))
def calls_cage_begins_lp {R : Type} (N : Nat) : Lp R := fun body S k => Option.none
noncomputable def calls_cage_begins_go {R : Type} (N : Nat) (args : List SV) (T : Tab) (kf : SV × Tab → Option R) : Option R :=
  calls_cage_begins N (Cod.dec calls_cageC (lget (entCs (entAt T 0)))) (fun q0 q1 => kf (lget [.bool q0] 0, [(0, .blk (Cod.enc calls_cageC q1))]))
noncomputable def calls_cage_begins_cal {R : Type} (N : Nat) : Cal R := callM (calls_cage_ahead_cal N) 72 1 calls_cage_begins_sp (calls_cage_begins_go N)
theorem calls_cage_begins_cal_ok {R : Type} (N : Nat) : CalOk E.P (calls_cage_begins_cal (R := R) N) :=
  callM_ok hE (calls_cage_ahead_cal_ok N) (lp := calls_cage_begins_lp N) (jn := noJn) (keys := []) kNil (by kernel_rfl) (js := []) jNil (by kernel_rfl) calls_cage_begins_sp_ok calls_cage_begins_rs_ok (fun args T kf => Eq.trans (calls_cage_begins_def N (Cod.dec calls_cageC (lget (entCs (entAt T 0)))) (fun q0 q1 => kf (lget [.bool q0] 0, [(0, .blk (Cod.enc calls_cageC q1))]))) (by kernel_rfl : calls_cage_begins_run N args T kf = fnM E (calls_cage_ahead_cal N) (calls_cage_begins_lp N) (noJn) 72 (calls_cage_begins_sp.vs args) (calls_cage_begins_sp.tab T) 1 (resK calls_cage_begins_rs kf)))
def calls_cage_tick_L3 : LoopSp := ⟨⟨[0, 4, 9, 10, 11], ⟨((rPtr 0 0) :: (dr 3 ((rInt .i64) :: (dr 4 ((rSl intC) :: (rInt .i64) :: (rInt .i64) :: (dr 22 [])))))), [(0, eBlkC calls_cageC)]⟩, 1⟩, [(some 0, ⟨[0, 4], ⟨((rPtr 0 0) :: (dr 3 ((rInt .i64) :: (dr 29 [])))), [(0, eBlkC calls_cageC)]⟩, 1⟩)]⟩
theorem calls_cage_tick_L3_ok : calls_cage_tick_L3.Ok := ⟨⟨(allCons (rPtr_ok 0 0) (drCons 3 (allCons (rInt_ok .i64) (drCons 4 (allCons (rSl_ok intC_ok) (allCons (rInt_ok .i64) (allCons (rInt_ok .i64) (drCons 22 allNil)))))))), (eCons (eBlkC_ok calls_cageC_ok calls_cageC_len) eNil)⟩, (xCons ⟨(allCons (rPtr_ok 0 0) (drCons 3 (allCons (rInt_ok .i64) (drCons 29 allNil)))), (eCons (eBlkC_ok calls_cageC_ok calls_cageC_len) eNil)⟩ xNil)⟩
def calls_cage_tick_h3 (v186 : Int) (v187 : Arr Int) (v188 : Int) (v189 : Int) (v190 : calls_cage) : St := ⟨((.ptr 0 0) :: (un 3 ((.int .i64 v186) :: (un 4 ((slC intC v187) :: (.int .i64 v188) :: (.int .i64 v189) :: (un 22 [])))))), [(0, .blk (Cod.enc calls_cageC v190))], 1⟩
def calls_cage_tick_x3_0 (q0 : Int) (q1 : calls_cage) : St := ⟨((.ptr 0 0) :: (un 3 ((.int .i64 q0) :: (un 29 [])))), [(0, .blk (Cod.enc calls_cageC q1))], 1⟩
def calls_cage_tick_b3 {R : Type} (N : Nat) (rc : Int → Arr Int → Int → Int → calls_cage → Option R) (v186 : Int) (v187 : Arr Int) (v188 : Int) (v189 : Int) (v190 : calls_cage) (k0 : Int → calls_cage → Option R) : Option R :=
  bif decide (v189 < v188) then
   bif decide ((0 : Int) ≤ v189) && decide (v189 < (↑(Arr.n v187) : Int)) then
    calls_cage_press N (Arr.f v187 (Int.toNat v189)) v190 (fun r193 r194 =>
    bif r193 then
     bif decide (Arr.f v187 (Int.toNat v189) < (0 : Int)) then
      Option.none
     else
      rc (w64 (↑(BitVec.toNat (BitVec.ofInt (IntKind.bits IntKind.i64) v186 ||| BitVec.ofInt (IntKind.bits IntKind.i64) (w64 ((1 : Int) * (2 : Int) ^ min (Int.toNat (Arr.f v187 (Int.toNat v189))) (IntKind.bits IntKind.i64))))) : Int)) v187 v188 (w64 (v189 + (1 : Int))) r194
    else
     rc v186 v187 v188 (w64 (v189 + (1 : Int))) r194)
   else
    Option.none
  else
   k0 v186 v190
def calls_cage_tick_l3 {R : Type} (N : Nat) : Nat → Int → Arr Int → Int → Int → calls_cage → (Int → calls_cage → Option R) → Option R
  | 0, _, _, _, _, _, _ => Option.none
  | n + 1, v186, v187, v188, v189, v190, k0 => calls_cage_tick_b3 N (fun v186 v187 v188 v189 v190 => calls_cage_tick_l3 N n v186 v187 v188 v189 v190 k0) v186 v187 v188 v189 v190 k0
def calls_cage_tick_m {R : Type} (N : Nat) (a182 : Arr Int) (a183 : calls_cage) (k : Int → calls_cage → Option R) : Option R :=
  calls_cage_end N a183 (fun r185 =>
  calls_cage_tick_l3 N N (0 : Int) a182 ((↑(Arr.n a182) : Int)) (0 : Int) r185 (fun r195 r196 =>
   calls_cage_begins N r196 (fun r201 r202 =>
   bif r201 then
    bif decide (api_Ride.Floor (calls_cage.Ride r202) < (0 : Int)) then
     Option.none
    else
     k (w64 (↑(BitVec.toNat (BitVec.ofInt (IntKind.bits IntKind.i64) r195 ||| BitVec.ofInt (IntKind.bits IntKind.i64) (w64 ((1 : Int) * (2 : Int) ^ min (Int.toNat (api_Ride.Floor (calls_cage.Ride r202))) (IntKind.bits IntKind.i64))))) : Int)) r202
   else
    k r195 r202)))
noncomputable def calls_cage_tick {R : Type} : Nat → Arr Int → calls_cage → (Int → calls_cage → Option R) → Option R := lock (@calls_cage_tick_m R)
theorem calls_cage_tick_def {R : Type} (N : Nat) (a182 : Arr Int) (a183 : calls_cage) (k : Int → calls_cage → Option R) : calls_cage_tick N a182 a183 k = calls_cage_tick_m N a182 a183 k := by unfold calls_cage_tick; rw [lock_eq]
def calls_cage_tick_sp : Sp := ⟨[rPtr 0 0, rSl intC], [(0, eBlkC calls_cageC)]⟩
theorem calls_cage_tick_sp_ok : calls_cage_tick_sp.Ok := ⟨(allCons (rPtr_ok 0 0) (allCons (rSl_ok intC_ok) allNil)), (eCons (eBlkC_ok calls_cageC_ok calls_cageC_len) eNil)⟩
def calls_cage_tick_rs : Sp := ⟨[rInt .i64], [(0, eBlkC calls_cageC)]⟩
theorem calls_cage_tick_rs_ok : calls_cage_tick_rs.Ok := ⟨(allCons (rInt_ok .i64) allNil), (eCons (eBlkC_ok calls_cageC_ok calls_cageC_len) eNil)⟩
def calls_cage_tick_run {R : Type} (N : Nat) (args : List SV) (T : Tab) (kf : SV × Tab → Option R) : Option R :=
  calls_cage_tick_m N (lstC intC (lget args 1)) (Cod.dec calls_cageC (lget (entCs (entAt T 0)))) (fun q0 q1 => kf (lget [.int .i64 q0] 0, [(0, .blk (Cod.enc calls_cageC q1))]))
def calls_cage_tick_d3 {R : Type} (N : Nat) (S0 : St) (k : Exit → St → Option R) : Option R :=
  calls_cage_tick_l3 N N (toI (lget S0.tmps 4)) (lstC intC (lget S0.tmps 9)) (toI (lget S0.tmps 10)) (toI (lget S0.tmps 11)) (Cod.dec calls_cageC (lget (entCs (entAt S0.tab 0)))) (fun q0 q1 => k (.exit 0) (calls_cage_tick_x3_0 q0 q1))
def calls_cage_tick_lp {R : Type} (N : Nat) : Lp R := fun body S k => bif (Go.Sx.keyOf body).getD 0 == 3 then (calls_cage_tick_L3.head.raw 1 S (fun S0 => calls_cage_tick_d3 N S0 k)) else Option.none
theorem calls_cage_tick_l3_eq {R : Type} (N : Nat) (k : Exit → St → Option R) (n : Nat) : ∀ (v0 : Int) (v1 : Arr Int) (v2 : Int) (v3 : Int) (v4 : calls_cage), loopM E.Θ (calls_cage_begins_cal N) (calls_cage_tick_lp N) (noJn) 1 calls_cage_tick_L3 (bodyAt E 47 3) n (calls_cage_tick_h3 v0 v1 v2 v3 v4) k = calls_cage_tick_l3 N n v0 v1 v2 v3 v4 (fun q0 q1 => k (.exit 0) (calls_cage_tick_x3_0 q0 q1)) := by
  induction n with
  | zero => intro v0 v1 v2 v3 v4; rfl
  | succ n ih =>
    intro v0 v1 v2 v3 v4
    refine Eq.trans (b := calls_cage_tick_b3 N (fun v0 v1 v2 v3 v4 => loopM E.Θ (calls_cage_begins_cal N) (calls_cage_tick_lp N) (noJn) 1 calls_cage_tick_L3 (bodyAt E 47 3) n (calls_cage_tick_h3 v0 v1 v2 v3 v4) k) v0 v1 v2 v3 v4 (fun q0 q1 => k (.exit 0) (calls_cage_tick_x3_0 q0 q1))) (by kernel_rfl) ?_
    have h : (fun (v0 : Int) (v1 : Arr Int) (v2 : Int) (v3 : Int) (v4 : calls_cage) => loopM E.Θ (calls_cage_begins_cal N) (calls_cage_tick_lp N) (noJn) 1 calls_cage_tick_L3 (bodyAt E 47 3) n (calls_cage_tick_h3 v0 v1 v2 v3 v4) k) = (fun (v0 : Int) (v1 : Arr Int) (v2 : Int) (v3 : Int) (v4 : calls_cage) => calls_cage_tick_l3 N n v0 v1 v2 v3 v4 (fun q0 q1 => k (.exit 0) (calls_cage_tick_x3_0 q0 q1))) := funext fun v0 => funext fun v1 => funext fun v2 => funext fun v3 => funext fun v4 => ih v0 v1 v2 v3 v4
    rw [h]
    rfl
theorem calls_cage_tick_k3 {R : Type} (N : Nat) : LpKey (R := R) E 47 1 (calls_cage_tick_lp N) 3 :=
  lpKey_of hE (calls_cage_begins_cal_ok N) (lp := calls_cage_tick_lp N) (jn := noJn) calls_cage_tick_L3_ok [] kNil (by kernel_rfl) [] jNil (by kernel_rfl) N fun S k =>
    Eq.trans (b := calls_cage_tick_L3.head.raw 1 S (fun S0 => calls_cage_tick_d3 N S0 k)) (by kernel_rfl) (congrArg (calls_cage_tick_L3.head.raw 1 S) (funext fun S0 => Eq.trans (calls_cage_tick_l3_eq N k N (toI (lget S0.tmps 4)) (lstC intC (lget S0.tmps 9)) (toI (lget S0.tmps 10)) (toI (lget S0.tmps 11)) (Cod.dec calls_cageC (lget (entCs (entAt S0.tab 0))))).symm (by kernel_rfl)))
noncomputable def calls_cage_tick_go {R : Type} (N : Nat) (args : List SV) (T : Tab) (kf : SV × Tab → Option R) : Option R :=
  calls_cage_tick N (lstC intC (lget args 1)) (Cod.dec calls_cageC (lget (entCs (entAt T 0)))) (fun q0 q1 => kf (lget [.int .i64 q0] 0, [(0, .blk (Cod.enc calls_cageC q1))]))
noncomputable def calls_cage_tick_cal {R : Type} (N : Nat) : Cal R := callM (calls_cage_begins_cal N) 47 1 calls_cage_tick_sp (calls_cage_tick_go N)
theorem calls_cage_tick_cal_ok {R : Type} (N : Nat) : CalOk E.P (calls_cage_tick_cal (R := R) N) :=
  callM_ok hE (calls_cage_begins_cal_ok N) (lp := calls_cage_tick_lp N) (jn := noJn) (keys := [3]) (kCons (calls_cage_tick_k3 N) kNil) (by kernel_rfl) (js := []) jNil (by kernel_rfl) calls_cage_tick_sp_ok calls_cage_tick_rs_ok (fun args T kf => Eq.trans (calls_cage_tick_def N (lstC intC (lget args 1)) (Cod.dec calls_cageC (lget (entCs (entAt T 0)))) (fun q0 q1 => kf (lget [.int .i64 q0] 0, [(0, .blk (Cod.enc calls_cageC q1))]))) (by kernel_rfl : calls_cage_tick_run N args T kf = fnM E (calls_cage_begins_cal N) (calls_cage_tick_lp N) (noJn) 47 (calls_cage_tick_sp.vs args) (calls_cage_tick_sp.tab T) 1 (resK calls_cage_tick_rs kf)))
def calls_waits_L9 : LoopSp := ⟨⟨[1, 2, 7, 8, 9, 10, 11, 12], ⟨(dr 1 ((rSl api_PressC) :: (rFunc 52 0 []) :: (dr 4 ((rRow 0) :: (rRow 1) :: (rPtr 2 0) :: (rInt .i64) :: (rInt .i64) :: (rRow 3) :: (dr 102 []))))), [(0, eRow intC), (1, eFm .i64 intC), (2, eBlkC calls_cageC), (3, eRow intC)]⟩, 4⟩, [(some 2, ⟨[1, 2, 7, 8, 9, 10, 11, 12], ⟨(dr 1 ((rSl api_PressC) :: (rFunc 52 0 []) :: (dr 4 ((rRow 0) :: (rRow 1) :: (rPtr 2 0) :: (rInt .i64) :: (rInt .i64) :: (rRow 3) :: (dr 102 []))))), [(0, eRow intC), (1, eFm .i64 intC), (2, eBlkC calls_cageC), (3, eRow intC)]⟩, 4⟩)]⟩
theorem calls_waits_L9_ok : calls_waits_L9.Ok := ⟨⟨(drCons 1 (allCons (rSl_ok api_PressC_ok) (allCons (rFunc_ok 52 0 allNil) (drCons 4 (allCons (rRow_ok 0) (allCons (rRow_ok 1) (allCons (rPtr_ok 2 0) (allCons (rInt_ok .i64) (allCons (rInt_ok .i64) (allCons (rRow_ok 3) (drCons 102 allNil))))))))))), (eCons (eRow_ok intC_ok) (eCons (eFm_ok intC_ok) (eCons (eBlkC_ok calls_cageC_ok calls_cageC_len) (eCons (eRow_ok intC_ok) eNil))))⟩, (xCons ⟨(drCons 1 (allCons (rSl_ok api_PressC_ok) (allCons (rFunc_ok 52 0 allNil) (drCons 4 (allCons (rRow_ok 0) (allCons (rRow_ok 1) (allCons (rPtr_ok 2 0) (allCons (rInt_ok .i64) (allCons (rInt_ok .i64) (allCons (rRow_ok 3) (drCons 102 allNil))))))))))), (eCons (eRow_ok intC_ok) (eCons (eFm_ok intC_ok) (eCons (eBlkC_ok calls_cageC_ok calls_cageC_len) (eCons (eRow_ok intC_ok) eNil))))⟩ xNil)⟩
def calls_waits_h9 (v167 : Arr api_Press) (v168 : Int) (v169 : Int) (v170 : Bool) (v171 : Arr Int) (v172 : Fm Int) (v173 : calls_cage) (v174 : Bool) (v175 : Arr Int) : St := ⟨(un 1 ((slC api_PressC v167) :: (.func 52 0 []) :: (un 4 ((.row 0) :: (.row 1) :: (.ptr 2 0) :: (.int .i64 v168) :: (.int .i64 v169) :: (.row 3) :: (un 102 []))))), [(0, rowE intC v170 v171), (1, fmE .i64 intC v172), (2, .blk (Cod.enc calls_cageC v173)), (3, rowE intC v174 v175)], 4⟩
def calls_waits_x9_2 (v167 : Arr api_Press) (v169 : Int) (v170 : Bool) (v171 : Arr Int) (v173 : calls_cage) (q1 : Int) (q5 : Fm Int) (q7 : Bool) (q8 : Arr Int) : St := ⟨(un 1 ((slC api_PressC v167) :: (.func 52 0 []) :: (un 4 ((.row 0) :: (.row 1) :: (.ptr 2 0) :: (.int .i64 q1) :: (.int .i64 v169) :: (.row 3) :: (un 102 []))))), [(0, rowE intC v170 v171), (1, fmE .i64 intC q5), (2, .blk (Cod.enc calls_cageC v173)), (3, rowE intC q7 q8)], 4⟩
def calls_waits_b9 {R : Type} (N : Nat) (rc : Arr api_Press → Int → Int → Bool → Arr Int → Fm Int → calls_cage → Bool → Arr Int → Option R) (v167 : Arr api_Press) (v168 : Int) (v169 : Int) (v170 : Bool) (v171 : Arr Int) (v172 : Fm Int) (v173 : calls_cage) (v174 : Bool) (v175 : Arr Int) (k2 : Int → Fm Int → Bool → Arr Int → Option R) : Option R :=
  bif decide (v168 < (↑(Arr.n v167) : Int)) then
   bif decide ((0 : Int) ≤ v168) && decide (v168 < (↑(Arr.n v167) : Int)) then
    bif api_Press.At (Arr.f v167 (Int.toNat v168)) == v169 then
     calls_Waits_1 N v168 (fun r177 =>
     bif r177 then
      bif decide ((0 : Int) ≤ v168) && decide (v168 < (↑(Arr.n v167) : Int)) then
       bif decide ((0 : Int) ≤ v168) && decide (v168 < (↑(Arr.n v167) : Int)) then
        bif room (fmL v172 (api_Press.Floor (Arr.f v167 (Int.toNat v168))) + (1 : Nat)) then
         bif decide (api_Press.Floor (Arr.f v167 (Int.toNat v168)) = api_Press.Floor (Arr.f v167 (Int.toNat v168))) then
          bif decide ((0 : Int) ≤ v168) && decide (v168 < (↑(Arr.n v167) : Int)) then
           bif room (Arr.n v175 + (1 : Nat)) then
            rc v167 (w64 (v168 + (1 : Int))) v169 v170 v171 (fmD intC (fHs (api_Press.Floor (Arr.f v167 (Int.toNat v168))) (Fm.has v172)) (fLn (api_Press.Floor (Arr.f v167 (Int.toNat v168))) (fmL v172 (api_Press.Floor (Arr.f v167 (Int.toNat v168))) + (1 : Nat)) (fmL v172)) (fGt (api_Press.Floor (Arr.f v167 (Int.toNat v168))) (catC (fmL v172 (api_Press.Floor (Arr.f v167 (Int.toNat v168)))) (fmG intC v172 (api_Press.Floor (Arr.f v167 (Int.toNat v168)))) (litC [SV.int IntKind.i64 (0 : Int)] [[SV.int IntKind.i64 v168]])) (fmG intC v172))) v173 false (lst intC (Arr.n v175 + (1 : Nat)) (catC (Arr.n v175) (Cod.cell intC (Arr.f v175)) (litC [SV.int IntKind.i64 (0 : Int)] [[SV.int IntKind.i64 (api_Press.Floor (Arr.f v167 (Int.toNat v168)))]])))
           else
            Option.none
          else
           Option.none
         else
          Option.none
        else
         Option.none
       else
        Option.none
      else
       Option.none
     else
      rc v167 (w64 (v168 + (1 : Int))) v169 v170 v171 v172 v173 v174 v175)
    else
     k2 v168 v172 v174 v175
   else
    Option.none
  else
   k2 v168 v172 v174 v175
def calls_waits_l9 {R : Type} (N : Nat) : Nat → Arr api_Press → Int → Int → Bool → Arr Int → Fm Int → calls_cage → Bool → Arr Int → (Int → Fm Int → Bool → Arr Int → Option R) → Option R
  | 0, _, _, _, _, _, _, _, _, _, _ => Option.none
  | n + 1, v167, v168, v169, v170, v171, v172, v173, v174, v175, k2 => calls_waits_b9 N (fun v167 v168 v169 v170 v171 v172 v173 v174 v175 => calls_waits_l9 N n v167 v168 v169 v170 v171 v172 v173 v174 v175 k2) v167 v168 v169 v170 v171 v172 v173 v174 v175 k2
def calls_waits_L100000 : LoopSp := ⟨⟨[1, 2, 7, 8, 9, 10, 11, 13], ⟨(dr 1 ((rSl api_PressC) :: (rFunc 52 0 []) :: (dr 4 ((rRow 0) :: (rRow 1) :: (rPtr 2 0) :: (rInt .i64) :: (rInt .i64) :: (dr 1 ((rInt .i64) :: (dr 101 []))))))), [(0, eRow intC), (1, eFm .i64 intC), (2, eBlkC calls_cageC)]⟩, 3⟩, [(some 1000000, ⟨[1, 2, 7, 8, 9, 10, 11], ⟨(dr 1 ((rSl api_PressC) :: (rFunc 52 0 []) :: (dr 4 ((rRow 0) :: (rRow 1) :: (rPtr 2 0) :: (rInt .i64) :: (rInt .i64) :: (dr 103 []))))), [(0, eRow intC), (1, eFm .i64 intC), (2, eBlkC calls_cageC)]⟩, 5⟩)]⟩
theorem calls_waits_L100000_ok : calls_waits_L100000.Ok := ⟨⟨(drCons 1 (allCons (rSl_ok api_PressC_ok) (allCons (rFunc_ok 52 0 allNil) (drCons 4 (allCons (rRow_ok 0) (allCons (rRow_ok 1) (allCons (rPtr_ok 2 0) (allCons (rInt_ok .i64) (allCons (rInt_ok .i64) (drCons 1 (allCons (rInt_ok .i64) (drCons 101 allNil)))))))))))), (eCons (eRow_ok intC_ok) (eCons (eFm_ok intC_ok) (eCons (eBlkC_ok calls_cageC_ok calls_cageC_len) eNil)))⟩, (xCons ⟨(drCons 1 (allCons (rSl_ok api_PressC_ok) (allCons (rFunc_ok 52 0 allNil) (drCons 4 (allCons (rRow_ok 0) (allCons (rRow_ok 1) (allCons (rPtr_ok 2 0) (allCons (rInt_ok .i64) (allCons (rInt_ok .i64) (drCons 103 allNil)))))))))), (eCons (eRow_ok intC_ok) (eCons (eFm_ok intC_ok) (eCons (eBlkC_ok calls_cageC_ok calls_cageC_len) eNil)))⟩ xNil)⟩
def calls_waits_x100000_n (v205 : Arr api_Press) (v206 : Int) (v207 : Int) (v209 : Bool) (v212 : calls_cage) (q4 : Arr Int) (q5 : Fm Int) : St := ⟨(un 1 ((slC api_PressC v205) :: (.func 52 0 []) :: (un 4 ((.row 0) :: (.row 1) :: (.ptr 2 0) :: (.int .i64 v206) :: (.int .i64 v207) :: (un 103 []))))), [(0, rowE intC v209 q4), (1, fmE .i64 intC q5), (2, .blk (Cod.enc calls_cageC v212))], 5⟩
def calls_waits_j0_m {R : Type} (N : Nat) (v205 : Arr api_Press) (v206 : Int) (v207 : Int) (v208 : Int) (v209 : Bool) (v210 : Arr Int) (v211 : Fm Int) (v212 : calls_cage) (kn : Arr Int → Fm Int → Option R) : Option R :=
  waitsRound v205 v207 v208 v209 v210 v211 kn
noncomputable def calls_waits_j0 {R : Type} : Nat → Arr api_Press → Int → Int → Int → Bool → Arr Int → Fm Int → calls_cage → (Arr Int → Fm Int → Option R) → Option R := lock (@calls_waits_j0_m R)
theorem calls_waits_j0_def {R : Type} (N : Nat) (v205 : Arr api_Press) (v206 : Int) (v207 : Int) (v208 : Int) (v209 : Bool) (v210 : Arr Int) (v211 : Fm Int) (v212 : calls_cage) (kn : Arr Int → Fm Int → Option R) : calls_waits_j0 N v205 v206 v207 v208 v209 v210 v211 v212 kn = calls_waits_j0_m N v205 v206 v207 v208 v209 v210 v211 v212 kn := by unfold calls_waits_j0; rw [lock_eq]
def calls_waits_L6 : LoopSp := ⟨⟨[1, 2, 7, 8, 9, 10, 11], ⟨(dr 1 ((rSl api_PressC) :: (rFunc 52 0 []) :: (dr 4 ((rRow 0) :: (rRow 1) :: (rPtr 2 0) :: (rInt .i64) :: (rInt .i64) :: (dr 103 []))))), [(0, eRow intC), (1, eFm .i64 intC), (2, eBlkC calls_cageC)]⟩, 3⟩, [(some 0, ⟨[7], ⟨(dr 7 ((rRow 0) :: (dr 107 []))), [(0, eRow intC)]⟩, 1⟩)]⟩
theorem calls_waits_L6_ok : calls_waits_L6.Ok := ⟨⟨(drCons 1 (allCons (rSl_ok api_PressC_ok) (allCons (rFunc_ok 52 0 allNil) (drCons 4 (allCons (rRow_ok 0) (allCons (rRow_ok 1) (allCons (rPtr_ok 2 0) (allCons (rInt_ok .i64) (allCons (rInt_ok .i64) (drCons 103 allNil)))))))))), (eCons (eRow_ok intC_ok) (eCons (eFm_ok intC_ok) (eCons (eBlkC_ok calls_cageC_ok calls_cageC_len) eNil)))⟩, (xCons ⟨(drCons 7 (allCons (rRow_ok 0) (drCons 107 allNil))), (eCons (eRow_ok intC_ok) eNil)⟩ xNil)⟩
def calls_waits_h6 (v160 : Arr api_Press) (v161 : Int) (v162 : Int) (v163 : Bool) (v164 : Arr Int) (v165 : Fm Int) (v166 : calls_cage) : St := ⟨(un 1 ((slC api_PressC v160) :: (.func 52 0 []) :: (un 4 ((.row 0) :: (.row 1) :: (.ptr 2 0) :: (.int .i64 v161) :: (.int .i64 v162) :: (un 103 []))))), [(0, rowE intC v163 v164), (1, fmE .i64 intC v165), (2, .blk (Cod.enc calls_cageC v166))], 3⟩
def calls_waits_x6_0 (v163 : Bool) (q1 : Arr Int) : St := ⟨(un 7 ((.row 0) :: (un 107 []))), [(0, rowE intC v163 q1)], 1⟩
def calls_waits_b6 {R : Type} (N : Nat) (rc : Arr api_Press → Int → Int → Bool → Arr Int → Fm Int → calls_cage → Option R) (v160 : Arr api_Press) (v161 : Int) (v162 : Int) (v163 : Bool) (v164 : Arr Int) (v165 : Fm Int) (v166 : calls_cage) (k0 : Arr Int → Option R) : Option R :=
  bif decide (v161 < (↑(Arr.n v160) : Int)) then
   calls_waits_l9 N N v160 v161 v162 v163 v164 v165 v166 true (lst intC (0 : Nat) (zeroC [SV.int IntKind.i64 (0 : Int)])) (fun r178 r179 r180 r181 =>
    calls_cage_tick N r181 v166 (fun r203 r204 =>
    calls_waits_j0 N v160 r178 v162 r203 v163 v164 r179 r204 (fun r213 r214 =>
     rc v160 r178 (w64 (v162 + (1 : Int))) v163 r213 r214 r204)))
  else
   bif api_Ride.Wants (calls_cage.Ride v166) != (0 : Int) then
    calls_waits_l9 N N v160 v161 v162 v163 v164 v165 v166 true (lst intC (0 : Nat) (zeroC [SV.int IntKind.i64 (0 : Int)])) (fun r215 r216 r217 r218 =>
     calls_cage_tick N r218 v166 (fun r219 r220 =>
     calls_waits_j0 N v160 r215 v162 r219 v163 v164 r216 r220 (fun r221 r222 =>
      rc v160 r215 (w64 (v162 + (1 : Int))) v163 r221 r222 r220)))
   else
    k0 v164
def calls_waits_l6 {R : Type} (N : Nat) : Nat → Arr api_Press → Int → Int → Bool → Arr Int → Fm Int → calls_cage → (Arr Int → Option R) → Option R
  | 0, _, _, _, _, _, _, _, _ => Option.none
  | n + 1, v160, v161, v162, v163, v164, v165, v166, k0 => calls_waits_b6 N (fun v160 v161 v162 v163 v164 v165 v166 => calls_waits_l6 N n v160 v161 v162 v163 v164 v165 v166 k0) v160 v161 v162 v163 v164 v165 v166 k0
def calls_waits_m {R : Type} (N : Nat) (a156 : api_Car) (a157 : Arr api_Press) (k : Bool → Arr Int → Option R) : Option R :=
  bif decide ((↑(Arr.n a157) : Int) ≤ (↑(Arr.n a157) : Int)) && decide ((↑(Arr.n a157) : Int) ≤ (1073741824 : Int)) then
   calls_begin N a156 (fun r159 =>
   calls_waits_l6 N N a157 (0 : Int) (0 : Int) false (lst intC (Int.toNat (↑(Arr.n a157) : Int)) (zeroC [SV.int IntKind.i64 (0 : Int)])) (fmD intC noHs noLn (noGt [SV.int IntKind.i64 (0 : Int)])) r159 (fun r223 =>
    k false r223))
  else
   Option.none
noncomputable def calls_waits {R : Type} : Nat → api_Car → Arr api_Press → (Bool → Arr Int → Option R) → Option R := lock (@calls_waits_m R)
theorem calls_waits_def {R : Type} (N : Nat) (a156 : api_Car) (a157 : Arr api_Press) (k : Bool → Arr Int → Option R) : calls_waits N a156 a157 k = calls_waits_m N a156 a157 k := by unfold calls_waits; rw [lock_eq]
def calls_waits_sp : Sp := ⟨[rAgg api_CarC, rSl api_PressC, rFunc 52 0 []], []⟩
theorem calls_waits_sp_ok : calls_waits_sp.Ok := ⟨(allCons (rAgg_ok api_CarC_ok api_CarC_len) (allCons (rSl_ok api_PressC_ok) (allCons (rFunc_ok 52 0 allNil) allNil))), eNil⟩
def calls_waits_rs : Sp := ⟨[rRow 0], [(0, eRow intC)]⟩
theorem calls_waits_rs_ok : calls_waits_rs.Ok := ⟨(allCons (rRow_ok 0) allNil), (eCons (eRow_ok intC_ok) eNil)⟩
def calls_waits_run {R : Type} (N : Nat) (args : List SV) (T : Tab) (kf : SV × Tab → Option R) : Option R :=
  calls_waits_m N (Cod.dec api_CarC (lget (toCs (lget args 0)))) (lstC api_PressC (lget args 1)) (fun q0 q1 => kf (lget [.row 0] 0, [(0, rowE intC q0 q1)]))
def calls_waits_d100000 {R : Type} (N : Nat) (S0 : St) (k : Exit → St → Option R) : Option R :=
  calls_waits_j0 N (lstC api_PressC (lget S0.tmps 1)) (toI (lget S0.tmps 10)) (toI (lget S0.tmps 11)) (toI (lget S0.tmps 13)) (entNl (entAt S0.tab 0)) (lst intC (entN (entAt S0.tab 0)) (entC (entAt S0.tab 0))) (fmD intC (entFh (entAt S0.tab 1)) (entFl (entAt S0.tab 1)) (entFg (entAt S0.tab 1))) (Cod.dec calls_cageC (lget (entCs (entAt S0.tab 2)))) (fun q4 q5 => k .normal (calls_waits_x100000_n (lstC api_PressC (lget S0.tmps 1)) (toI (lget S0.tmps 10)) (toI (lget S0.tmps 11)) (entNl (entAt S0.tab 0)) (Cod.dec calls_cageC (lget (entCs (entAt S0.tab 2)))) q4 q5))
def calls_waits_d9 {R : Type} (N : Nat) (S0 : St) (k : Exit → St → Option R) : Option R :=
  calls_waits_l9 N N (lstC api_PressC (lget S0.tmps 1)) (toI (lget S0.tmps 10)) (toI (lget S0.tmps 11)) (entNl (entAt S0.tab 0)) (lst intC (entN (entAt S0.tab 0)) (entC (entAt S0.tab 0))) (fmD intC (entFh (entAt S0.tab 1)) (entFl (entAt S0.tab 1)) (entFg (entAt S0.tab 1))) (Cod.dec calls_cageC (lget (entCs (entAt S0.tab 2)))) (entNl (entAt S0.tab 3)) (lst intC (entN (entAt S0.tab 3)) (entC (entAt S0.tab 3))) (fun q1 q5 q7 q8 => k (.exit 2) (calls_waits_x9_2 (lstC api_PressC (lget S0.tmps 1)) (toI (lget S0.tmps 11)) (entNl (entAt S0.tab 0)) (lst intC (entN (entAt S0.tab 0)) (entC (entAt S0.tab 0))) (Cod.dec calls_cageC (lget (entCs (entAt S0.tab 2)))) q1 q5 q7 q8))
def calls_waits_d6 {R : Type} (N : Nat) (S0 : St) (k : Exit → St → Option R) : Option R :=
  calls_waits_l6 N N (lstC api_PressC (lget S0.tmps 1)) (toI (lget S0.tmps 10)) (toI (lget S0.tmps 11)) (entNl (entAt S0.tab 0)) (lst intC (entN (entAt S0.tab 0)) (entC (entAt S0.tab 0))) (fmD intC (entFh (entAt S0.tab 1)) (entFl (entAt S0.tab 1)) (entFg (entAt S0.tab 1))) (Cod.dec calls_cageC (lget (entCs (entAt S0.tab 2)))) (fun q1 => k (.exit 0) (calls_waits_x6_0 (entNl (entAt S0.tab 0)) q1))
def calls_waits_lp {R : Type} (N : Nat) : Lp R := fun body S k => bif (Go.Sx.keyOf body).getD 0 == 6 then (calls_waits_L6.head.raw 0 S (fun S0 => calls_waits_d6 N S0 k)) else bif (Go.Sx.keyOf body).getD 0 == 9 then (calls_waits_L9.head.raw 0 S (fun S0 => calls_waits_d9 N S0 k)) else Option.none
def calls_waits_jn {R : Type} (N : Nat) : Jn R := fun b => bif isJ 15 37 b then some (fun S k => calls_waits_L100000.head.raw 0 S (fun S0 => calls_waits_d100000 N S0 k)) else Option.none
theorem calls_waits_l6_eq {R : Type} (N : Nat) (k : Exit → St → Option R) (n : Nat) : ∀ (v0 : Arr api_Press) (v1 : Int) (v2 : Int) (v3 : Bool) (v4 : Arr Int) (v5 : Fm Int) (v6 : calls_cage), loopM E.Θ (calls_cage_tick_cal N) (calls_waits_lp N) (calls_waits_jn N) 0 calls_waits_L6 (bodyAt E 51 6) n (calls_waits_h6 v0 v1 v2 v3 v4 v5 v6) k = calls_waits_l6 N n v0 v1 v2 v3 v4 v5 v6 (fun q1 => k (.exit 0) (calls_waits_x6_0 v3 q1)) := by
  induction n with
  | zero => intro v0 v1 v2 v3 v4 v5 v6; rfl
  | succ n ih =>
    intro v0 v1 v2 v3 v4 v5 v6
    refine Eq.trans (b := calls_waits_b6 N (fun v0 v1 v2 v3 v4 v5 v6 => loopM E.Θ (calls_cage_tick_cal N) (calls_waits_lp N) (calls_waits_jn N) 0 calls_waits_L6 (bodyAt E 51 6) n (calls_waits_h6 v0 v1 v2 v3 v4 v5 v6) k) v0 v1 v2 v3 v4 v5 v6 (fun q1 => k (.exit 0) (calls_waits_x6_0 v3 q1))) (by kernel_rfl) ?_
    have h : (fun (v0 : Arr api_Press) (v1 : Int) (v2 : Int) (v3 : Bool) (v4 : Arr Int) (v5 : Fm Int) (v6 : calls_cage) => loopM E.Θ (calls_cage_tick_cal N) (calls_waits_lp N) (calls_waits_jn N) 0 calls_waits_L6 (bodyAt E 51 6) n (calls_waits_h6 v0 v1 v2 v3 v4 v5 v6) k) = (fun (v0 : Arr api_Press) (v1 : Int) (v2 : Int) (v3 : Bool) (v4 : Arr Int) (v5 : Fm Int) (v6 : calls_cage) => calls_waits_l6 N n v0 v1 v2 v3 v4 v5 v6 (fun q1 => k (.exit 0) (calls_waits_x6_0 v3 q1))) := funext fun v0 => funext fun v1 => funext fun v2 => funext fun v3 => funext fun v4 => funext fun v5 => funext fun v6 => ih v0 v1 v2 v3 v4 v5 v6
    rw [h]
    rfl
theorem calls_waits_l9_eq {R : Type} (N : Nat) (k : Exit → St → Option R) (n : Nat) : ∀ (v0 : Arr api_Press) (v1 : Int) (v2 : Int) (v3 : Bool) (v4 : Arr Int) (v5 : Fm Int) (v6 : calls_cage) (v7 : Bool) (v8 : Arr Int), loopM E.Θ (calls_cage_tick_cal N) (calls_waits_lp N) (calls_waits_jn N) 0 calls_waits_L9 (bodyAt E 51 9) n (calls_waits_h9 v0 v1 v2 v3 v4 v5 v6 v7 v8) k = calls_waits_l9 N n v0 v1 v2 v3 v4 v5 v6 v7 v8 (fun q1 q5 q7 q8 => k (.exit 2) (calls_waits_x9_2 v0 v2 v3 v4 v6 q1 q5 q7 q8)) := by
  induction n with
  | zero => intro v0 v1 v2 v3 v4 v5 v6 v7 v8; rfl
  | succ n ih =>
    intro v0 v1 v2 v3 v4 v5 v6 v7 v8
    refine Eq.trans (b := calls_waits_b9 N (fun v0 v1 v2 v3 v4 v5 v6 v7 v8 => loopM E.Θ (calls_cage_tick_cal N) (calls_waits_lp N) (calls_waits_jn N) 0 calls_waits_L9 (bodyAt E 51 9) n (calls_waits_h9 v0 v1 v2 v3 v4 v5 v6 v7 v8) k) v0 v1 v2 v3 v4 v5 v6 v7 v8 (fun q1 q5 q7 q8 => k (.exit 2) (calls_waits_x9_2 v0 v2 v3 v4 v6 q1 q5 q7 q8))) (by kernel_rfl) ?_
    have h : (fun (v0 : Arr api_Press) (v1 : Int) (v2 : Int) (v3 : Bool) (v4 : Arr Int) (v5 : Fm Int) (v6 : calls_cage) (v7 : Bool) (v8 : Arr Int) => loopM E.Θ (calls_cage_tick_cal N) (calls_waits_lp N) (calls_waits_jn N) 0 calls_waits_L9 (bodyAt E 51 9) n (calls_waits_h9 v0 v1 v2 v3 v4 v5 v6 v7 v8) k) = (fun (v0 : Arr api_Press) (v1 : Int) (v2 : Int) (v3 : Bool) (v4 : Arr Int) (v5 : Fm Int) (v6 : calls_cage) (v7 : Bool) (v8 : Arr Int) => calls_waits_l9 N n v0 v1 v2 v3 v4 v5 v6 v7 v8 (fun q1 q5 q7 q8 => k (.exit 2) (calls_waits_x9_2 v0 v2 v3 v4 v6 q1 q5 q7 q8))) := funext fun v0 => funext fun v1 => funext fun v2 => funext fun v3 => funext fun v4 => funext fun v5 => funext fun v6 => funext fun v7 => funext fun v8 => ih v0 v1 v2 v3 v4 v5 v6 v7 v8
    rw [h]
    rfl
theorem calls_waits_k16 {R : Type} (N : Nat) : LpKey (R := R) E 51 0 (calls_waits_lp N) 16 := lpKey_none fun S k => by kernel_rfl
theorem calls_waits_k20 {R : Type} (N : Nat) : LpKey (R := R) E 51 0 (calls_waits_lp N) 20 := lpKey_none fun S k => by kernel_rfl
theorem calls_waits_k9 {R : Type} (N : Nat) : LpKey (R := R) E 51 0 (calls_waits_lp N) 9 :=
  lpKey_of hE (calls_cage_tick_cal_ok N) (lp := calls_waits_lp N) (jn := calls_waits_jn N) calls_waits_L9_ok [] kNil (by kernel_rfl) [] jNil (by kernel_rfl) N fun S k =>
    Eq.trans (b := calls_waits_L9.head.raw 0 S (fun S0 => calls_waits_d9 N S0 k)) (by kernel_rfl) (congrArg (calls_waits_L9.head.raw 0 S) (funext fun S0 => Eq.trans (calls_waits_l9_eq N k N (lstC api_PressC (lget S0.tmps 1)) (toI (lget S0.tmps 10)) (toI (lget S0.tmps 11)) (entNl (entAt S0.tab 0)) (lst intC (entN (entAt S0.tab 0)) (entC (entAt S0.tab 0))) (fmD intC (entFh (entAt S0.tab 1)) (entFl (entAt S0.tab 1)) (entFg (entAt S0.tab 1))) (Cod.dec calls_cageC (lget (entCs (entAt S0.tab 2)))) (entNl (entAt S0.tab 3)) (lst intC (entN (entAt S0.tab 3)) (entC (entAt S0.tab 3)))).symm (by kernel_rfl)))
theorem calls_waits_q0 {R : Type} (N : Nat) : JnKey (R := R) E 51 0 (calls_waits_jn N) (15, 37) :=
  jnKey_hand calls_waits_L100000_ok.head (fun S k => calls_waits_L100000.head.raw 0 S (fun S0 => calls_waits_d100000 N S0 k)) (by kernel_rfl) (fun S0 k => calls_waits_d100000 N S0 k) (fun S k => rfl) fun S0 k r h =>
    waitsRound_ok0 (lstC api_PressC (lget S0.tmps 1)) (toI (lget S0.tmps 10)) (toI (lget S0.tmps 11)) (toI (lget S0.tmps 13)) (entNl (entAt S0.tab 0)) (lst intC (entN (entAt S0.tab 0)) (entC (entAt S0.tab 0))) (fmD intC (entFh (entAt S0.tab 1)) (entFl (entAt S0.tab 1)) (entFg (entAt S0.tab 1))) (Cod.dec calls_cageC (lget (entCs (entAt S0.tab 2)))) h (Eq.trans (calls_waits_j0_def N (lstC api_PressC (lget S0.tmps 1)) (toI (lget S0.tmps 10)) (toI (lget S0.tmps 11)) (toI (lget S0.tmps 13)) (entNl (entAt S0.tab 0)) (lst intC (entN (entAt S0.tab 0)) (entC (entAt S0.tab 0))) (fmD intC (entFh (entAt S0.tab 1)) (entFl (entAt S0.tab 1)) (entFg (entAt S0.tab 1))) (Cod.dec calls_cageC (lget (entCs (entAt S0.tab 2)))) (fun q4 q5 => k .normal (calls_waits_x100000_n (lstC api_PressC (lget S0.tmps 1)) (toI (lget S0.tmps 10)) (toI (lget S0.tmps 11)) (entNl (entAt S0.tab 0)) (Cod.dec calls_cageC (lget (entCs (entAt S0.tab 2)))) q4 q5))) (by kernel_rfl)) (by kernel_rfl)
theorem calls_waits_k6 {R : Type} (N : Nat) : LpKey (R := R) E 51 0 (calls_waits_lp N) 6 :=
  lpKey_of hE (calls_cage_tick_cal_ok N) (lp := calls_waits_lp N) (jn := calls_waits_jn N) calls_waits_L6_ok [9, 16, 20] (kCons (calls_waits_k9 N) (kCons (calls_waits_k16 N) (kCons (calls_waits_k20 N) kNil))) (by kernel_rfl) [(15, 37)] (jCons (calls_waits_q0 N) jNil) (by kernel_rfl) N fun S k =>
    Eq.trans (b := calls_waits_L6.head.raw 0 S (fun S0 => calls_waits_d6 N S0 k)) (by kernel_rfl) (congrArg (calls_waits_L6.head.raw 0 S) (funext fun S0 => Eq.trans (calls_waits_l6_eq N k N (lstC api_PressC (lget S0.tmps 1)) (toI (lget S0.tmps 10)) (toI (lget S0.tmps 11)) (entNl (entAt S0.tab 0)) (lst intC (entN (entAt S0.tab 0)) (entC (entAt S0.tab 0))) (fmD intC (entFh (entAt S0.tab 1)) (entFl (entAt S0.tab 1)) (entFg (entAt S0.tab 1))) (Cod.dec calls_cageC (lget (entCs (entAt S0.tab 2))))).symm (by kernel_rfl)))
noncomputable def calls_waits_go {R : Type} (N : Nat) (args : List SV) (T : Tab) (kf : SV × Tab → Option R) : Option R :=
  calls_waits N (Cod.dec api_CarC (lget (toCs (lget args 0)))) (lstC api_PressC (lget args 1)) (fun q0 q1 => kf (lget [.row 0] 0, [(0, rowE intC q0 q1)]))
noncomputable def calls_waits_cal {R : Type} (N : Nat) : Cal R := callM (calls_cage_tick_cal N) 51 0 calls_waits_sp (calls_waits_go N)
theorem calls_waits_cal_ok {R : Type} (N : Nat) : CalOk E.P (calls_waits_cal (R := R) N) :=
  callM_ok hE (calls_cage_tick_cal_ok N) (lp := calls_waits_lp N) (jn := calls_waits_jn N) (keys := [6, 9, 16, 20]) (kCons (calls_waits_k6 N) (kCons (calls_waits_k9 N) (kCons (calls_waits_k16 N) (kCons (calls_waits_k20 N) kNil)))) (by kernel_rfl) (js := [(15, 37)]) (jCons (calls_waits_q0 N) jNil) (by kernel_rfl) calls_waits_sp_ok calls_waits_rs_ok (fun args T kf => Eq.trans (calls_waits_def N (Cod.dec api_CarC (lget (toCs (lget args 0)))) (lstC api_PressC (lget args 1)) (fun q0 q1 => kf (lget [.row 0] 0, [(0, rowE intC q0 q1)]))) (by kernel_rfl : calls_waits_run N args T kf = fnM E (calls_cage_tick_cal N) (calls_waits_lp N) (calls_waits_jn N) 51 (calls_waits_sp.vs args) (calls_waits_sp.tab T) 0 (resK calls_waits_rs kf)))
def calls_Waits_m {R : Type} (N : Nat) (a153 : api_Car) (a154 : Arr api_Press) (k : Int → Bool → Arr Int → Option R) : Option R :=
  calls_Check N a153 a154 (fun r155 =>
  bif r155 != (0 : Int) then
   k r155 true (lst intC (0 : Nat) (zeroC [SV.int IntKind.i64 (0 : Int)]))
  else
   calls_waits N a153 a154 (fun r224 r225 =>
   k (0 : Int) r224 r225))
noncomputable def calls_Waits {R : Type} : Nat → api_Car → Arr api_Press → (Int → Bool → Arr Int → Option R) → Option R := lock (@calls_Waits_m R)
theorem calls_Waits_def {R : Type} (N : Nat) (a153 : api_Car) (a154 : Arr api_Press) (k : Int → Bool → Arr Int → Option R) : calls_Waits N a153 a154 k = calls_Waits_m N a153 a154 k := by unfold calls_Waits; rw [lock_eq]
def calls_Waits_sp : Sp := ⟨[rAgg api_CarC, rSl api_PressC], []⟩
theorem calls_Waits_sp_ok : calls_Waits_sp.Ok := ⟨(allCons (rAgg_ok api_CarC_ok api_CarC_len) (allCons (rSl_ok api_PressC_ok) allNil)), eNil⟩
def calls_Waits_rs : Sp := ⟨[rTup [rRow 0, rInt .i64]], [(0, eRow intC)]⟩
theorem calls_Waits_rs_ok : calls_Waits_rs.Ok := ⟨(allCons (rTup_ok (allCons (rRow_ok 0) (allCons (rInt_ok .i64) allNil))) allNil), (eCons (eRow_ok intC_ok) eNil)⟩
def calls_Waits_run {R : Type} (N : Nat) (args : List SV) (T : Tab) (kf : SV × Tab → Option R) : Option R :=
  calls_Waits_m N (Cod.dec api_CarC (lget (toCs (lget args 0)))) (lstC api_PressC (lget args 1)) (fun q0 q1 q2 => kf (lget [.tup [.row 0, .int .i64 q0]] 0, [(0, rowE intC q1 q2)]))
def calls_Waits_lp {R : Type} (N : Nat) : Lp R := fun body S k => Option.none
noncomputable def calls_Waits_go {R : Type} (N : Nat) (args : List SV) (T : Tab) (kf : SV × Tab → Option R) : Option R :=
  calls_Waits N (Cod.dec api_CarC (lget (toCs (lget args 0)))) (lstC api_PressC (lget args 1)) (fun q0 q1 q2 => kf (lget [.tup [.row 0, .int .i64 q0]] 0, [(0, rowE intC q1 q2)]))
noncomputable def calls_Waits_cal {R : Type} (N : Nat) : Cal R := callM (calls_waits_cal N) 22 0 calls_Waits_sp (calls_Waits_go N)
theorem calls_Waits_cal_ok {R : Type} (N : Nat) : CalOk E.P (calls_Waits_cal (R := R) N) :=
  callM_ok hE (calls_waits_cal_ok N) (lp := calls_Waits_lp N) (jn := noJn) (keys := []) kNil (by kernel_rfl) (js := []) jNil (by kernel_rfl) calls_Waits_sp_ok calls_Waits_rs_ok (fun args T kf => Eq.trans (calls_Waits_def N (Cod.dec api_CarC (lget (toCs (lget args 0)))) (lstC api_PressC (lget args 1)) (fun q0 q1 q2 => kf (lget [.tup [.row 0, .int .i64 q0]] 0, [(0, rowE intC q1 q2)]))) (by kernel_rfl : calls_Waits_run N args T kf = fnM E (calls_waits_cal N) (calls_Waits_lp N) (noJn) 22 (calls_Waits_sp.vs args) (calls_Waits_sp.tab T) 0 (resK calls_Waits_rs kf)))
def newellaw07_sameInts_L4 : LoopSp := ⟨⟨[0, 1, 5], ⟨((rSl intC) :: (rSl intC) :: (dr 3 ((rInt .i64) :: (dr 20 [])))), []⟩, 0⟩, [(Option.none, ⟨[4], ⟨(dr 4 ((rBool) :: (dr 21 []))), []⟩, 0⟩), (some 0, ⟨[], ⟨(dr 26 []), []⟩, 0⟩)]⟩
theorem newellaw07_sameInts_L4_ok : newellaw07_sameInts_L4.Ok := ⟨⟨(allCons (rSl_ok intC_ok) (allCons (rSl_ok intC_ok) (drCons 3 (allCons (rInt_ok .i64) (drCons 20 allNil))))), eNil⟩, (xCons ⟨(drCons 4 (allCons rBool_ok (drCons 21 allNil))), eNil⟩ (xCons ⟨(drCons 26 allNil), eNil⟩ xNil))⟩
def newellaw07_sameInts_h4 (v256 : Arr Int) (v257 : Arr Int) (v258 : Int) : St := ⟨((slC intC v256) :: (slC intC v257) :: (un 3 ((.int .i64 v258) :: (un 20 [])))), [], 0⟩
def newellaw07_sameInts_x4_r (q0 : Bool) : St := ⟨(un 4 ((.bool q0) :: (un 21 []))), [], 0⟩
def newellaw07_sameInts_x4_0  : St := ⟨(un 26 []), [], 0⟩
def newellaw07_sameInts_b4 {R : Type} (N : Nat) (rc : Arr Int → Arr Int → Int → Option R) (v256 : Arr Int) (v257 : Arr Int) (v258 : Int) (kr : Bool → Option R) (k0 : Unit → Option R) : Option R :=
  bif decide (v258 < (↑(Arr.n v256) : Int)) then
   bif decide ((0 : Int) ≤ v258) && decide (v258 < (↑(Arr.n v256) : Int)) then
    bif decide ((0 : Int) ≤ v258) && decide (v258 < (↑(Arr.n v257) : Int)) then
     bif Arr.f v256 (Int.toNat v258) != Arr.f v257 (Int.toNat v258) then
      kr false
     else
      rc v256 v257 (w64 (v258 + (1 : Int)))
    else
     Option.none
   else
    Option.none
  else
   k0 ()
def newellaw07_sameInts_l4 {R : Type} (N : Nat) : Nat → Arr Int → Arr Int → Int → (Bool → Option R) → (Unit → Option R) → Option R
  | 0, _, _, _, _, _ => Option.none
  | n + 1, v256, v257, v258, kr, k0 => newellaw07_sameInts_b4 N (fun v256 v257 v258 => newellaw07_sameInts_l4 N n v256 v257 v258 kr k0) v256 v257 v258 kr k0
def newellaw07_sameInts_m {R : Type} (N : Nat) (a254 : Arr Int) (a255 : Arr Int) (k : Bool → Option R) : Option R :=
  bif (↑(Arr.n a254) : Int) != (↑(Arr.n a255) : Int) then
   k false
  else
   newellaw07_sameInts_l4 N N a254 a255 (0 : Int) (fun r259 =>
    k r259) (fun (_ : Unit) =>
    k true)
noncomputable def newellaw07_sameInts {R : Type} : Nat → Arr Int → Arr Int → (Bool → Option R) → Option R := lock (@newellaw07_sameInts_m R)
theorem newellaw07_sameInts_def {R : Type} (N : Nat) (a254 : Arr Int) (a255 : Arr Int) (k : Bool → Option R) : newellaw07_sameInts N a254 a255 k = newellaw07_sameInts_m N a254 a255 k := by unfold newellaw07_sameInts; rw [lock_eq]
def newellaw07_sameInts_sp : Sp := ⟨[rSl intC, rSl intC], []⟩
theorem newellaw07_sameInts_sp_ok : newellaw07_sameInts_sp.Ok := ⟨(allCons (rSl_ok intC_ok) (allCons (rSl_ok intC_ok) allNil)), eNil⟩
def newellaw07_sameInts_rs : Sp := ⟨[rBool], []⟩
theorem newellaw07_sameInts_rs_ok : newellaw07_sameInts_rs.Ok := ⟨(allCons rBool_ok allNil), eNil⟩
def newellaw07_sameInts_run {R : Type} (N : Nat) (args : List SV) (T : Tab) (kf : SV × Tab → Option R) : Option R :=
  newellaw07_sameInts_m N (lstC intC (lget args 0)) (lstC intC (lget args 1)) (fun q0 => kf (lget [.bool q0] 0, []))
def newellaw07_sameInts_d4 {R : Type} (N : Nat) (S0 : St) (k : Exit → St → Option R) : Option R :=
  newellaw07_sameInts_l4 N N (lstC intC (lget S0.tmps 0)) (lstC intC (lget S0.tmps 1)) (toI (lget S0.tmps 5)) (fun q0 => k .ret (newellaw07_sameInts_x4_r q0)) (fun (_ : Unit) => k (.exit 0) (newellaw07_sameInts_x4_0 ))
def newellaw07_sameInts_lp {R : Type} (N : Nat) : Lp R := fun body S k => bif (Go.Sx.keyOf body).getD 0 == 4 then (newellaw07_sameInts_L4.head.raw 0 S (fun S0 => newellaw07_sameInts_d4 N S0 k)) else Option.none
theorem newellaw07_sameInts_l4_eq {R : Type} (N : Nat) (k : Exit → St → Option R) (n : Nat) : ∀ (v0 : Arr Int) (v1 : Arr Int) (v2 : Int), loopM E.Θ (calls_Waits_cal N) (newellaw07_sameInts_lp N) (noJn) 0 newellaw07_sameInts_L4 (bodyAt E 24 4) n (newellaw07_sameInts_h4 v0 v1 v2) k = newellaw07_sameInts_l4 N n v0 v1 v2 (fun q0 => k .ret (newellaw07_sameInts_x4_r q0)) (fun (_ : Unit) => k (.exit 0) (newellaw07_sameInts_x4_0 )) := by
  induction n with
  | zero => intro v0 v1 v2; rfl
  | succ n ih =>
    intro v0 v1 v2
    refine Eq.trans (b := newellaw07_sameInts_b4 N (fun v0 v1 v2 => loopM E.Θ (calls_Waits_cal N) (newellaw07_sameInts_lp N) (noJn) 0 newellaw07_sameInts_L4 (bodyAt E 24 4) n (newellaw07_sameInts_h4 v0 v1 v2) k) v0 v1 v2 (fun q0 => k .ret (newellaw07_sameInts_x4_r q0)) (fun (_ : Unit) => k (.exit 0) (newellaw07_sameInts_x4_0 ))) (by kernel_rfl) ?_
    have h : (fun (v0 : Arr Int) (v1 : Arr Int) (v2 : Int) => loopM E.Θ (calls_Waits_cal N) (newellaw07_sameInts_lp N) (noJn) 0 newellaw07_sameInts_L4 (bodyAt E 24 4) n (newellaw07_sameInts_h4 v0 v1 v2) k) = (fun (v0 : Arr Int) (v1 : Arr Int) (v2 : Int) => newellaw07_sameInts_l4 N n v0 v1 v2 (fun q0 => k .ret (newellaw07_sameInts_x4_r q0)) (fun (_ : Unit) => k (.exit 0) (newellaw07_sameInts_x4_0 ))) := funext fun v0 => funext fun v1 => funext fun v2 => ih v0 v1 v2
    rw [h]
    rfl
theorem newellaw07_sameInts_k4 {R : Type} (N : Nat) : LpKey (R := R) E 24 0 (newellaw07_sameInts_lp N) 4 :=
  lpKey_of hE (calls_Waits_cal_ok N) (lp := newellaw07_sameInts_lp N) (jn := noJn) newellaw07_sameInts_L4_ok [] kNil (by kernel_rfl) [] jNil (by kernel_rfl) N fun S k =>
    Eq.trans (b := newellaw07_sameInts_L4.head.raw 0 S (fun S0 => newellaw07_sameInts_d4 N S0 k)) (by kernel_rfl) (congrArg (newellaw07_sameInts_L4.head.raw 0 S) (funext fun S0 => Eq.trans (newellaw07_sameInts_l4_eq N k N (lstC intC (lget S0.tmps 0)) (lstC intC (lget S0.tmps 1)) (toI (lget S0.tmps 5))).symm (by kernel_rfl)))
noncomputable def newellaw07_sameInts_go {R : Type} (N : Nat) (args : List SV) (T : Tab) (kf : SV × Tab → Option R) : Option R :=
  newellaw07_sameInts N (lstC intC (lget args 0)) (lstC intC (lget args 1)) (fun q0 => kf (lget [.bool q0] 0, []))
noncomputable def newellaw07_sameInts_cal {R : Type} (N : Nat) : Cal R := callM (calls_Waits_cal N) 24 0 newellaw07_sameInts_sp (newellaw07_sameInts_go N)
theorem newellaw07_sameInts_cal_ok {R : Type} (N : Nat) : CalOk E.P (newellaw07_sameInts_cal (R := R) N) :=
  callM_ok hE (calls_Waits_cal_ok N) (lp := newellaw07_sameInts_lp N) (jn := noJn) (keys := [4]) (kCons (newellaw07_sameInts_k4 N) kNil) (by kernel_rfl) (js := []) jNil (by kernel_rfl) newellaw07_sameInts_sp_ok newellaw07_sameInts_rs_ok (fun args T kf => Eq.trans (newellaw07_sameInts_def N (lstC intC (lget args 0)) (lstC intC (lget args 1)) (fun q0 => kf (lget [.bool q0] 0, []))) (by kernel_rfl : newellaw07_sameInts_run N args T kf = fnM E (calls_Waits_cal N) (newellaw07_sameInts_lp N) (noJn) 24 (newellaw07_sameInts_sp.vs args) (newellaw07_sameInts_sp.tab T) 0 (resK newellaw07_sameInts_rs kf)))
def calls_serves_m {R : Type} (N : Nat) (a271 : api_Car) (a272 : Int) (k : Int → Option R) : Option R :=
  calls_valid N a271 (fun r273 =>
  bif !r273 then
   k (70 : Int)
  else
   calls_within N a272 (api_Car.Low a271) (api_Car.High a271) (fun r274 =>
   bif !r274 then
    k (1 : Int)
   else
    k (0 : Int)))
noncomputable def calls_serves {R : Type} : Nat → api_Car → Int → (Int → Option R) → Option R := lock (@calls_serves_m R)
theorem calls_serves_def {R : Type} (N : Nat) (a271 : api_Car) (a272 : Int) (k : Int → Option R) : calls_serves N a271 a272 k = calls_serves_m N a271 a272 k := by unfold calls_serves; rw [lock_eq]
def calls_serves_sp : Sp := ⟨[rAgg api_CarC, rInt .i64], []⟩
theorem calls_serves_sp_ok : calls_serves_sp.Ok := ⟨(allCons (rAgg_ok api_CarC_ok api_CarC_len) (allCons (rInt_ok .i64) allNil)), eNil⟩
def calls_serves_rs : Sp := ⟨[rInt .i64], []⟩
theorem calls_serves_rs_ok : calls_serves_rs.Ok := ⟨(allCons (rInt_ok .i64) allNil), eNil⟩
def calls_serves_run {R : Type} (N : Nat) (args : List SV) (T : Tab) (kf : SV × Tab → Option R) : Option R :=
  calls_serves_m N (Cod.dec api_CarC (lget (toCs (lget args 0)))) (toI (lget args 1)) (fun q0 => kf (lget [.int .i64 q0] 0, []))
def calls_serves_lp {R : Type} (N : Nat) : Lp R := fun body S k => Option.none
noncomputable def calls_serves_go {R : Type} (N : Nat) (args : List SV) (T : Tab) (kf : SV × Tab → Option R) : Option R :=
  calls_serves N (Cod.dec api_CarC (lget (toCs (lget args 0)))) (toI (lget args 1)) (fun q0 => kf (lget [.int .i64 q0] 0, []))
noncomputable def calls_serves_cal {R : Type} (N : Nat) : Cal R := callM (newellaw07_sameInts_cal N) 40 0 calls_serves_sp (calls_serves_go N)
theorem calls_serves_cal_ok {R : Type} (N : Nat) : CalOk E.P (calls_serves_cal (R := R) N) :=
  callM_ok hE (newellaw07_sameInts_cal_ok N) (lp := calls_serves_lp N) (jn := noJn) (keys := []) kNil (by kernel_rfl) (js := []) jNil (by kernel_rfl) calls_serves_sp_ok calls_serves_rs_ok (fun args T kf => Eq.trans (calls_serves_def N (Cod.dec api_CarC (lget (toCs (lget args 0)))) (toI (lget args 1)) (fun q0 => kf (lget [.int .i64 q0] 0, []))) (by kernel_rfl : calls_serves_run N args T kf = fnM E (newellaw07_sameInts_cal N) (calls_serves_lp N) (noJn) 40 (calls_serves_sp.vs args) (calls_serves_sp.tab T) 0 (resK calls_serves_rs kf)))
def calls_far_m {R : Type} (N : Nat) (a278 : api_Car) (a279 : Int) (k : Int → Bool → Option R) : Option R :=
  k (mxI (w64 (api_Car.High a278 - a279)) (w64 (a279 - api_Car.Low a278))) (decide (w64 (api_Car.High a278 - a279) ≥ w64 (a279 - api_Car.Low a278)))
noncomputable def calls_far {R : Type} : Nat → api_Car → Int → (Int → Bool → Option R) → Option R := lock (@calls_far_m R)
theorem calls_far_def {R : Type} (N : Nat) (a278 : api_Car) (a279 : Int) (k : Int → Bool → Option R) : calls_far N a278 a279 k = calls_far_m N a278 a279 k := by unfold calls_far; rw [lock_eq]
def calls_far_sp : Sp := ⟨[rAgg api_CarC, rInt .i64], []⟩
theorem calls_far_sp_ok : calls_far_sp.Ok := ⟨(allCons (rAgg_ok api_CarC_ok api_CarC_len) (allCons (rInt_ok .i64) allNil)), eNil⟩
def calls_far_rs : Sp := ⟨[rTup [rInt .i64, rBool]], []⟩
theorem calls_far_rs_ok : calls_far_rs.Ok := ⟨(allCons (rTup_ok (allCons (rInt_ok .i64) (allCons rBool_ok allNil))) allNil), eNil⟩
def calls_far_run {R : Type} (N : Nat) (args : List SV) (T : Tab) (kf : SV × Tab → Option R) : Option R :=
  calls_far_m N (Cod.dec api_CarC (lget (toCs (lget args 0)))) (toI (lget args 1)) (fun q0 q1 => kf (lget [.tup [.int .i64 q0, .bool q1]] 0, []))
def calls_far_lp {R : Type} (N : Nat) : Lp R := fun body S k => Option.none
noncomputable def calls_far_go {R : Type} (N : Nat) (args : List SV) (T : Tab) (kf : SV × Tab → Option R) : Option R :=
  calls_far N (Cod.dec api_CarC (lget (toCs (lget args 0)))) (toI (lget args 1)) (fun q0 q1 => kf (lget [.tup [.int .i64 q0, .bool q1]] 0, []))
noncomputable def calls_far_cal {R : Type} (N : Nat) : Cal R := callM (calls_serves_cal N) 54 0 calls_far_sp (calls_far_go N)
theorem calls_far_cal_ok {R : Type} (N : Nat) : CalOk E.P (calls_far_cal (R := R) N) :=
  callM_ok hE (calls_serves_cal_ok N) (lp := calls_far_lp N) (jn := noJn) (keys := []) kNil (by kernel_rfl) (js := []) jNil (by kernel_rfl) calls_far_sp_ok calls_far_rs_ok (fun args T kf => Eq.trans (calls_far_def N (Cod.dec api_CarC (lget (toCs (lget args 0)))) (toI (lget args 1)) (fun q0 q1 => kf (lget [.tup [.int .i64 q0, .bool q1]] 0, []))) (by kernel_rfl : calls_far_run N args T kf = fnM E (calls_serves_cal N) (calls_far_lp N) (noJn) 54 (calls_far_sp.vs args) (calls_far_sp.tab T) 0 (resK calls_far_rs kf)))
def calls_worst_m {R : Type} (N : Nat) (a276 : api_Car) (a277 : Int) (k : Int → Option R) : Option R :=
  calls_far N a276 a277 (fun r280 r281 =>
  bif r280 == (0 : Int) then
   k (0 : Int)
  else
   k (w64 (w64 (w64 ((2 : Int) * r280) * api_Car.Move a276) + w64 (w64 (w64 ((2 : Int) * r280) - (1 : Int)) * api_Car.Stop a276))))
noncomputable def calls_worst {R : Type} : Nat → api_Car → Int → (Int → Option R) → Option R := lock (@calls_worst_m R)
theorem calls_worst_def {R : Type} (N : Nat) (a276 : api_Car) (a277 : Int) (k : Int → Option R) : calls_worst N a276 a277 k = calls_worst_m N a276 a277 k := by unfold calls_worst; rw [lock_eq]
def calls_worst_sp : Sp := ⟨[rAgg api_CarC, rInt .i64], []⟩
theorem calls_worst_sp_ok : calls_worst_sp.Ok := ⟨(allCons (rAgg_ok api_CarC_ok api_CarC_len) (allCons (rInt_ok .i64) allNil)), eNil⟩
def calls_worst_rs : Sp := ⟨[rInt .i64], []⟩
theorem calls_worst_rs_ok : calls_worst_rs.Ok := ⟨(allCons (rInt_ok .i64) allNil), eNil⟩
def calls_worst_run {R : Type} (N : Nat) (args : List SV) (T : Tab) (kf : SV × Tab → Option R) : Option R :=
  calls_worst_m N (Cod.dec api_CarC (lget (toCs (lget args 0)))) (toI (lget args 1)) (fun q0 => kf (lget [.int .i64 q0] 0, []))
def calls_worst_lp {R : Type} (N : Nat) : Lp R := fun body S k => Option.none
noncomputable def calls_worst_go {R : Type} (N : Nat) (args : List SV) (T : Tab) (kf : SV × Tab → Option R) : Option R :=
  calls_worst N (Cod.dec api_CarC (lget (toCs (lget args 0)))) (toI (lget args 1)) (fun q0 => kf (lget [.int .i64 q0] 0, []))
noncomputable def calls_worst_cal {R : Type} (N : Nat) : Cal R := callM (calls_far_cal N) 41 0 calls_worst_sp (calls_worst_go N)
theorem calls_worst_cal_ok {R : Type} (N : Nat) : CalOk E.P (calls_worst_cal (R := R) N) :=
  callM_ok hE (calls_far_cal_ok N) (lp := calls_worst_lp N) (jn := noJn) (keys := []) kNil (by kernel_rfl) (js := []) jNil (by kernel_rfl) calls_worst_sp_ok calls_worst_rs_ok (fun args T kf => Eq.trans (calls_worst_def N (Cod.dec api_CarC (lget (toCs (lget args 0)))) (toI (lget args 1)) (fun q0 => kf (lget [.int .i64 q0] 0, []))) (by kernel_rfl : calls_worst_run N args T kf = fnM E (calls_far_cal N) (calls_worst_lp N) (noJn) 41 (calls_worst_sp.vs args) (calls_worst_sp.tab T) 0 (resK calls_worst_rs kf)))
def calls_Worst_m {R : Type} (N : Nat) (a269 : api_Car) (a270 : Int) (k : Int → Int → Option R) : Option R :=
  calls_serves N a269 a270 (fun r275 =>
  bif r275 != (0 : Int) then
   k (0 : Int) r275
  else
   calls_worst N a269 a270 (fun r282 =>
   k r282 (0 : Int)))
noncomputable def calls_Worst {R : Type} : Nat → api_Car → Int → (Int → Int → Option R) → Option R := lock (@calls_Worst_m R)
theorem calls_Worst_def {R : Type} (N : Nat) (a269 : api_Car) (a270 : Int) (k : Int → Int → Option R) : calls_Worst N a269 a270 k = calls_Worst_m N a269 a270 k := by unfold calls_Worst; rw [lock_eq]
def calls_Worst_sp : Sp := ⟨[rAgg api_CarC, rInt .i64], []⟩
theorem calls_Worst_sp_ok : calls_Worst_sp.Ok := ⟨(allCons (rAgg_ok api_CarC_ok api_CarC_len) (allCons (rInt_ok .i64) allNil)), eNil⟩
def calls_Worst_rs : Sp := ⟨[rTup [rInt .i64, rInt .i64]], []⟩
theorem calls_Worst_rs_ok : calls_Worst_rs.Ok := ⟨(allCons (rTup_ok (allCons (rInt_ok .i64) (allCons (rInt_ok .i64) allNil))) allNil), eNil⟩
def calls_Worst_run {R : Type} (N : Nat) (args : List SV) (T : Tab) (kf : SV × Tab → Option R) : Option R :=
  calls_Worst_m N (Cod.dec api_CarC (lget (toCs (lget args 0)))) (toI (lget args 1)) (fun q0 q1 => kf (lget [.tup [.int .i64 q0, .int .i64 q1]] 0, []))
def calls_Worst_lp {R : Type} (N : Nat) : Lp R := fun body S k => Option.none
noncomputable def calls_Worst_go {R : Type} (N : Nat) (args : List SV) (T : Tab) (kf : SV × Tab → Option R) : Option R :=
  calls_Worst N (Cod.dec api_CarC (lget (toCs (lget args 0)))) (toI (lget args 1)) (fun q0 q1 => kf (lget [.tup [.int .i64 q0, .int .i64 q1]] 0, []))
noncomputable def calls_Worst_cal {R : Type} (N : Nat) : Cal R := callM (calls_worst_cal N) 15 0 calls_Worst_sp (calls_Worst_go N)
theorem calls_Worst_cal_ok {R : Type} (N : Nat) : CalOk E.P (calls_Worst_cal (R := R) N) :=
  callM_ok hE (calls_worst_cal_ok N) (lp := calls_Worst_lp N) (jn := noJn) (keys := []) kNil (by kernel_rfl) (js := []) jNil (by kernel_rfl) calls_Worst_sp_ok calls_Worst_rs_ok (fun args T kf => Eq.trans (calls_Worst_def N (Cod.dec api_CarC (lget (toCs (lget args 0)))) (toI (lget args 1)) (fun q0 q1 => kf (lget [.tup [.int .i64 q0, .int .i64 q1]] 0, []))) (by kernel_rfl : calls_Worst_run N args T kf = fnM E (calls_worst_cal N) (calls_Worst_lp N) (noJn) 15 (calls_Worst_sp.vs args) (calls_Worst_sp.tab T) 0 (resK calls_Worst_rs kf)))
def newellaw07_works_m {R : Type} (N : Nat)  (k : Bool → Option R) : Option R :=
  calls_Waits N (api_Car.mk (0 : Int) (2 : Int) (0 : Int) (1 : Int) (1 : Int)) (lst api_PressC (3 : Nat) (litC [SV.int IntKind.i64 (0 : Int), SV.int IntKind.i64 (0 : Int)] [[SV.int IntKind.i64 (0 : Int), SV.int IntKind.i64 (2 : Int)], [SV.int IntKind.i64 (0 : Int), SV.int IntKind.i64 (1 : Int)], [SV.int IntKind.i64 (1 : Int), SV.int IntKind.i64 (0 : Int)]])) (fun r266 r267 r268 =>
  calls_Worst N (api_Car.mk (0 : Int) (2 : Int) (0 : Int) (1 : Int) (1 : Int)) (0 : Int) (fun r283 r284 =>
  bif r266 == (0 : Int) then
   bif r284 == (0 : Int) then
    newellaw07_sameInts N r268 (lst intC (3 : Nat) (litC [SV.int IntKind.i64 (0 : Int)] [[SV.int IntKind.i64 (3 : Int)], [SV.int IntKind.i64 (1 : Int)], [SV.int IntKind.i64 (5 : Int)]])) (fun r285 =>
    bif r285 then
     k (r283 == (7 : Int))
    else
     k false)
   else
    k false
  else
   k false))
noncomputable def newellaw07_works {R : Type} : Nat → (Bool → Option R) → Option R := lock (@newellaw07_works_m R)
theorem newellaw07_works_def {R : Type} (N : Nat)  (k : Bool → Option R) : newellaw07_works N  k = newellaw07_works_m N  k := by unfold newellaw07_works; rw [lock_eq]
def newellaw07_works_sp : Sp := ⟨[], []⟩
theorem newellaw07_works_sp_ok : newellaw07_works_sp.Ok := ⟨allNil, eNil⟩
def newellaw07_works_rs : Sp := ⟨[rBool], []⟩
theorem newellaw07_works_rs_ok : newellaw07_works_rs.Ok := ⟨(allCons rBool_ok allNil), eNil⟩
def newellaw07_works_run {R : Type} (N : Nat) (args : List SV) (T : Tab) (kf : SV × Tab → Option R) : Option R :=
  newellaw07_works_m N  (fun q0 => kf (lget [.bool q0] 0, []))
def newellaw07_works_lp {R : Type} (N : Nat) : Lp R := fun body S k => Option.none
noncomputable def newellaw07_works_go {R : Type} (N : Nat) (args : List SV) (T : Tab) (kf : SV × Tab → Option R) : Option R :=
  newellaw07_works N  (fun q0 => kf (lget [.bool q0] 0, []))
noncomputable def newellaw07_works_cal {R : Type} (N : Nat) : Cal R := callM (calls_Worst_cal N) 14 0 newellaw07_works_sp (newellaw07_works_go N)
theorem newellaw07_works_cal_ok {R : Type} (N : Nat) : CalOk E.P (newellaw07_works_cal (R := R) N) :=
  callM_ok hE (calls_Worst_cal_ok N) (lp := newellaw07_works_lp N) (jn := noJn) (keys := []) kNil (by kernel_rfl) (js := []) jNil (by kernel_rfl) newellaw07_works_sp_ok newellaw07_works_rs_ok (fun args T kf => Eq.trans (newellaw07_works_def N  (fun q0 => kf (lget [.bool q0] 0, []))) (by kernel_rfl : newellaw07_works_run N args T kf = fnM E (calls_Worst_cal N) (newellaw07_works_lp N) (noJn) 14 (newellaw07_works_sp.vs args) (newellaw07_works_sp.tab T) 0 (resK newellaw07_works_rs kf)))
end
end Go.Proofs.Ytlphgonhenegoaa
