import Derived.Test.YtlphgonhenegoaaWr0
import Derived.Test.YtlphgonhenegoaaSxHR
set_option maxRecDepth 100000
set_option maxHeartbeats 0
set_option linter.unusedVariables false
namespace Go.Proofs.Ytlphgonhenegoaa
open Go.Sx
noncomputable section
def r7from_m {R : Type} (N : Nat) (a0 : Int) (a1 : Int) (a2 : Int) (k : Bool → Option R) : Option R :=
 bif decide (a0 ≥ a1) then
 k (decide (a0 ≤ a2))
 else
 k false
noncomputable def r7from {R : Type} : Nat → Int → Int → Int → (Bool → Option R) → Option R := lock (@r7from_m R)
theorem r7from_def {R : Type} (N : Nat) (a0 : Int) (a1 : Int) (a2 : Int) (k : Bool → Option R) : r7from N a0 a1 a2 k = r7from_m N a0 a1 a2 k := by unfold r7from; rw [lock_eq]
def r7from_sp : Sp := ⟨[rInt .i64, rInt .i64, rInt .i64], []⟩
theorem r7from_sp_ok : r7from_sp.Ok := ⟨(allCons (rInt_ok .i64) (allCons (rInt_ok .i64) (allCons (rInt_ok .i64) allNil))), eNil⟩
def r7from_rs : Sp := ⟨[rBool], []⟩
theorem r7from_rs_ok : r7from_rs.Ok := ⟨(allCons rBool_ok allNil), eNil⟩
def r7from_run {R : Type} (N : Nat) (args : List SV) (T : Tab) (kf : SV × Tab → Option R) : Option R :=
  r7from_m N (toI (lget args 0)) (toI (lget args 1)) (toI (lget args 2)) (fun q0 => kf (lget [.bool q0] 0, []))
def r7from_lp {R : Type} (N : Nat) : Lp R := fun body S k => Option.none
noncomputable def r7from_go {R : Type} (N : Nat) (args : List SV) (T : Tab) (kf : SV × Tab → Option R) : Option R :=
  r7from N (toI (lget args 0)) (toI (lget args 1)) (toI (lget args 2)) (fun q0 => kf (lget [.bool q0] 0, []))
noncomputable def r7from_cal {R : Type} (N : Nat) : Cal R := callM (noCal E) 39 0 r7from_sp (r7from_go N)
theorem r7from_cal_ok {R : Type} (N : Nat) : CalOk E.P (r7from_cal (R := R) N) :=
  callM_ok hE (noCal_ok E) (lp := r7from_lp N) (jn := noJn) (keys := []) kNil (by kernel_rfl) (js := []) jNil (by kernel_rfl) r7from_sp_ok r7from_rs_ok (fun args T kf => Eq.trans (r7from_def N (toI (lget args 0)) (toI (lget args 1)) (toI (lget args 2)) (fun q0 => kf (lget [.bool q0] 0, []))) (by kernel_rfl : r7from_run N args T kf = fnM E (noCal E) (r7from_lp N) (noJn) 39 (r7from_sp.vs args) (r7from_sp.tab T) 0 (resK r7from_rs kf)))
def calls_within_m {R : Type} (N : Nat) (a3 : Int) (a4 : Int) (a5 : Int) (k : Bool → Option R) : Option R :=
 bif decide (a3 ≥ a4) then
 k (decide (a3 ≤ a5))
 else
 k false
noncomputable def calls_within {R : Type} : Nat → Int → Int → Int → (Bool → Option R) → Option R := lock (@calls_within_m R)
theorem calls_within_def {R : Type} (N : Nat) (a3 : Int) (a4 : Int) (a5 : Int) (k : Bool → Option R) : calls_within N a3 a4 a5 k = calls_within_m N a3 a4 a5 k := by unfold calls_within; rw [lock_eq]
def calls_within_sp : Sp := ⟨[rInt .i64, rInt .i64, rInt .i64], []⟩
theorem calls_within_sp_ok : calls_within_sp.Ok := ⟨(allCons (rInt_ok .i64) (allCons (rInt_ok .i64) (allCons (rInt_ok .i64) allNil))), eNil⟩
def calls_within_rs : Sp := ⟨[rBool], []⟩
theorem calls_within_rs_ok : calls_within_rs.Ok := ⟨(allCons rBool_ok allNil), eNil⟩
def calls_within_run {R : Type} (N : Nat) (args : List SV) (T : Tab) (kf : SV × Tab → Option R) : Option R :=
  calls_within_m N (toI (lget args 0)) (toI (lget args 1)) (toI (lget args 2)) (fun q0 => kf (lget [.bool q0] 0, []))
def calls_within_lp {R : Type} (N : Nat) : Lp R := fun body S k => Option.none
noncomputable def calls_within_go {R : Type} (N : Nat) (args : List SV) (T : Tab) (kf : SV × Tab → Option R) : Option R :=
  calls_within N (toI (lget args 0)) (toI (lget args 1)) (toI (lget args 2)) (fun q0 => kf (lget [.bool q0] 0, []))
noncomputable def calls_within_cal {R : Type} (N : Nat) : Cal R := callM (r7from_cal N) 44 0 calls_within_sp (calls_within_go N)
theorem calls_within_cal_ok {R : Type} (N : Nat) : CalOk E.P (calls_within_cal (R := R) N) :=
  callM_ok hE (r7from_cal_ok N) (lp := calls_within_lp N) (jn := noJn) (keys := []) kNil (by kernel_rfl) (js := []) jNil (by kernel_rfl) calls_within_sp_ok calls_within_rs_ok (fun args T kf => Eq.trans (calls_within_def N (toI (lget args 0)) (toI (lget args 1)) (toI (lget args 2)) (fun q0 => kf (lget [.bool q0] 0, []))) (by kernel_rfl : calls_within_run N args T kf = fnM E (r7from_cal N) (calls_within_lp N) (noJn) 44 (calls_within_sp.vs args) (calls_within_sp.tab T) 0 (resK calls_within_rs kf)))
def calls_valid_m {R : Type} (N : Nat) (a6 : api_Car) (k : Bool → Option R) : Option R :=
 calls_within N (api_Car.Start a6) (api_Car.Low a6) (api_Car.High a6) (fun r7 =>
 bif r7 then
 bif decide (api_Car.Low a6 ≥ (0 : Int)) then
 bif decide (api_Car.High a6 ≤ (5 : Int)) then
 calls_within N (api_Car.Move a6) (1 : Int) (3 : Int) (fun r8 =>
 bif r8 then
 calls_within N (api_Car.Stop a6) (1 : Int) (4 : Int) (fun r9 =>
 k r9)
 else
 k false)
 else
 k false
 else
 k false
 else
 k false)
noncomputable def calls_valid {R : Type} : Nat → api_Car → (Bool → Option R) → Option R := lock (@calls_valid_m R)
theorem calls_valid_def {R : Type} (N : Nat) (a6 : api_Car) (k : Bool → Option R) : calls_valid N a6 k = calls_valid_m N a6 k := by unfold calls_valid; rw [lock_eq]
def calls_valid_sp : Sp := ⟨[rAgg api_CarC], []⟩
theorem calls_valid_sp_ok : calls_valid_sp.Ok := ⟨(allCons (rAgg_ok api_CarC_ok api_CarC_len) allNil), eNil⟩
def calls_valid_rs : Sp := ⟨[rBool], []⟩
theorem calls_valid_rs_ok : calls_valid_rs.Ok := ⟨(allCons rBool_ok allNil), eNil⟩
def calls_valid_run {R : Type} (N : Nat) (args : List SV) (T : Tab) (kf : SV × Tab → Option R) : Option R :=
  calls_valid_m N (Cod.dec api_CarC (lget (toCs (lget args 0)))) (fun q0 => kf (lget [.bool q0] 0, []))
def calls_valid_lp {R : Type} (N : Nat) : Lp R := fun body S k => Option.none
noncomputable def calls_valid_go {R : Type} (N : Nat) (args : List SV) (T : Tab) (kf : SV × Tab → Option R) : Option R :=
  calls_valid N (Cod.dec api_CarC (lget (toCs (lget args 0)))) (fun q0 => kf (lget [.bool q0] 0, []))
noncomputable def calls_valid_cal {R : Type} (N : Nat) : Cal R := callM (calls_within_cal N) 42 0 calls_valid_sp (calls_valid_go N)
theorem calls_valid_cal_ok {R : Type} (N : Nat) : CalOk E.P (calls_valid_cal (R := R) N) :=
  callM_ok hE (calls_within_cal_ok N) (lp := calls_valid_lp N) (jn := noJn) (keys := []) kNil (by kernel_rfl) (js := []) jNil (by kernel_rfl) calls_valid_sp_ok calls_valid_rs_ok (fun args T kf => Eq.trans (calls_valid_def N (Cod.dec api_CarC (lget (toCs (lget args 0)))) (fun q0 => kf (lget [.bool q0] 0, []))) (by kernel_rfl : calls_valid_run N args T kf = fnM E (calls_within_cal N) (calls_valid_lp N) (noJn) 42 (calls_valid_sp.vs args) (calls_valid_sp.tab T) 0 (resK calls_valid_rs kf)))
def calls_timed_L3 : LoopSp := ⟨⟨[0, 3, 6, 7, 8], ⟨((rSl api_PressC) :: (dr 2 ((rInt .i64) :: (dr 2 ((rSl api_PressC) :: (rInt .i64) :: (rInt .i64) :: (dr 14 [])))))), []⟩, 0⟩, [(Option.none, ⟨[2], ⟨(dr 2 ((rBool) :: (dr 20 []))), []⟩, 0⟩), (some 0, ⟨[0], ⟨((rSl api_PressC) :: (dr 22 [])), []⟩, 0⟩)]⟩
theorem calls_timed_L3_ok : calls_timed_L3.Ok := ⟨⟨(allCons (rSl_ok api_PressC_ok) (drCons 2 (allCons (rInt_ok .i64) (drCons 2 (allCons (rSl_ok api_PressC_ok) (allCons (rInt_ok .i64) (allCons (rInt_ok .i64) (drCons 14 allNil)))))))), eNil⟩, (xCons ⟨(drCons 2 (allCons rBool_ok (drCons 20 allNil))), eNil⟩ (xCons ⟨(allCons (rSl_ok api_PressC_ok) (drCons 22 allNil)), eNil⟩ xNil))⟩
def calls_timed_h3 (v11 : Arr api_Press) (v12 : Int) (v13 : Arr api_Press) (v14 : Int) (v15 : Int) : St := ⟨((slC api_PressC v11) :: (un 2 ((.int .i64 v12) :: (un 2 ((slC api_PressC v13) :: (.int .i64 v14) :: (.int .i64 v15) :: (un 14 [])))))), [], 0⟩
def calls_timed_x3_r (q0 : Bool) : St := ⟨(un 2 ((.bool q0) :: (un 20 []))), [], 0⟩
def calls_timed_x3_0 (v11 : Arr api_Press) : St := ⟨((slC api_PressC v11) :: (un 22 [])), [], 0⟩
def calls_timed_b3 {R : Type} (N : Nat) (rc : Arr api_Press → Int → Arr api_Press → Int → Int → Option R) (v11 : Arr api_Press) (v12 : Int) (v13 : Arr api_Press) (v14 : Int) (v15 : Int) (kr : Bool → Option R) (k0 : Unit → Option R) : Option R :=
 bif decide (v15 < v14) then
 bif decide ((0 : Int) ≤ v15) && decide (v15 < (↑(Arr.n v13) : Int)) then
 calls_within N (api_Press.At (Arr.f v13 (Int.toNat v15))) v12 (500 : Int) (fun r16 =>
 bif !r16 then
 kr false
 else
 rc v11 (api_Press.At (Arr.f v13 (Int.toNat v15))) v13 v14 (w64 (v15 + (1 : Int))))
 else
 Option.none
 else
 k0 ()
def calls_timed_l3 {R : Type} (N : Nat) : Nat → Arr api_Press → Int → Arr api_Press → Int → Int → (Bool → Option R) → (Unit → Option R) → Option R
  | 0, _, _, _, _, _, _, _ => Option.none
  | n + 1, v11, v12, v13, v14, v15, kr, k0 => calls_timed_b3 N (fun v11 v12 v13 v14 v15 => calls_timed_l3 N n v11 v12 v13 v14 v15 kr k0) v11 v12 v13 v14 v15 kr k0
def calls_timed_m {R : Type} (N : Nat) (a10 : Arr api_Press) (k : Bool → Option R) : Option R :=
 calls_timed_l3 N N a10 (0 : Int) a10 ((↑(Arr.n a10) : Int)) (0 : Int) (fun r17 =>
 k r17) (fun (_ : Unit) =>
 k (decide ((↑(Arr.n a10) : Int) ≤ (200 : Int))))
noncomputable def calls_timed {R : Type} : Nat → Arr api_Press → (Bool → Option R) → Option R := lock (@calls_timed_m R)
theorem calls_timed_def {R : Type} (N : Nat) (a10 : Arr api_Press) (k : Bool → Option R) : calls_timed N a10 k = calls_timed_m N a10 k := by unfold calls_timed; rw [lock_eq]
def calls_timed_sp : Sp := ⟨[rSl api_PressC], []⟩
theorem calls_timed_sp_ok : calls_timed_sp.Ok := ⟨(allCons (rSl_ok api_PressC_ok) allNil), eNil⟩
def calls_timed_rs : Sp := ⟨[rBool], []⟩
theorem calls_timed_rs_ok : calls_timed_rs.Ok := ⟨(allCons rBool_ok allNil), eNil⟩
def calls_timed_run {R : Type} (N : Nat) (args : List SV) (T : Tab) (kf : SV × Tab → Option R) : Option R :=
  calls_timed_m N (lstC api_PressC (lget args 0)) (fun q0 => kf (lget [.bool q0] 0, []))
def calls_timed_d3 {R : Type} (N : Nat) (S0 : St) (k : Exit → St → Option R) : Option R :=
  calls_timed_l3 N N (lstC api_PressC (lget S0.tmps 0)) (toI (lget S0.tmps 3)) (lstC api_PressC (lget S0.tmps 6)) (toI (lget S0.tmps 7)) (toI (lget S0.tmps 8)) (fun q0 => k .ret (calls_timed_x3_r q0)) (fun (_ : Unit) => k (.exit 0) (calls_timed_x3_0 (lstC api_PressC (lget S0.tmps 0))))
def calls_timed_lp {R : Type} (N : Nat) : Lp R := fun body S k => bif (Go.Sx.keyOf body).getD 0 == 3 then (calls_timed_L3.head.raw 0 S (fun S0 => calls_timed_d3 N S0 k)) else Option.none
theorem calls_timed_l3_eq {R : Type} (N : Nat) (k : Exit → St → Option R) (n : Nat) : ∀ (v0 : Arr api_Press) (v1 : Int) (v2 : Arr api_Press) (v3 : Int) (v4 : Int), loopM E.Θ (calls_valid_cal N) (calls_timed_lp N) (noJn) 0 calls_timed_L3 (bodyAt E 43 3) n (calls_timed_h3 v0 v1 v2 v3 v4) k = calls_timed_l3 N n v0 v1 v2 v3 v4 (fun q0 => k .ret (calls_timed_x3_r q0)) (fun (_ : Unit) => k (.exit 0) (calls_timed_x3_0 v0)) := by
  induction n with
  | zero => intro v0 v1 v2 v3 v4; rfl
  | succ n ih =>
    intro v0 v1 v2 v3 v4
    refine Eq.trans (b := calls_timed_b3 N (fun v0 v1 v2 v3 v4 => loopM E.Θ (calls_valid_cal N) (calls_timed_lp N) (noJn) 0 calls_timed_L3 (bodyAt E 43 3) n (calls_timed_h3 v0 v1 v2 v3 v4) k) v0 v1 v2 v3 v4 (fun q0 => k .ret (calls_timed_x3_r q0)) (fun (_ : Unit) => k (.exit 0) (calls_timed_x3_0 v0))) (by kernel_rfl) ?_
    have h : (fun (v0 : Arr api_Press) (v1 : Int) (v2 : Arr api_Press) (v3 : Int) (v4 : Int) => loopM E.Θ (calls_valid_cal N) (calls_timed_lp N) (noJn) 0 calls_timed_L3 (bodyAt E 43 3) n (calls_timed_h3 v0 v1 v2 v3 v4) k) = (fun (v0 : Arr api_Press) (v1 : Int) (v2 : Arr api_Press) (v3 : Int) (v4 : Int) => calls_timed_l3 N n v0 v1 v2 v3 v4 (fun q0 => k .ret (calls_timed_x3_r q0)) (fun (_ : Unit) => k (.exit 0) (calls_timed_x3_0 v0))) := funext fun v0 => funext fun v1 => funext fun v2 => funext fun v3 => funext fun v4 => ih v0 v1 v2 v3 v4
    rw [h]
    rfl
theorem calls_timed_k3 {R : Type} (N : Nat) : LpKey (R := R) E 43 0 (calls_timed_lp N) 3 :=
  lpKey_of hE (calls_valid_cal_ok N) (lp := calls_timed_lp N) (jn := noJn) calls_timed_L3_ok [] kNil (by kernel_rfl) [] jNil (by kernel_rfl) N fun S k =>
    Eq.trans (b := calls_timed_L3.head.raw 0 S (fun S0 => calls_timed_d3 N S0 k)) (by kernel_rfl) (congrArg (calls_timed_L3.head.raw 0 S) (funext fun S0 => Eq.trans (calls_timed_l3_eq N k N (lstC api_PressC (lget S0.tmps 0)) (toI (lget S0.tmps 3)) (lstC api_PressC (lget S0.tmps 6)) (toI (lget S0.tmps 7)) (toI (lget S0.tmps 8))).symm (by kernel_rfl)))
noncomputable def calls_timed_go {R : Type} (N : Nat) (args : List SV) (T : Tab) (kf : SV × Tab → Option R) : Option R :=
  calls_timed N (lstC api_PressC (lget args 0)) (fun q0 => kf (lget [.bool q0] 0, []))
noncomputable def calls_timed_cal {R : Type} (N : Nat) : Cal R := callM (calls_valid_cal N) 43 0 calls_timed_sp (calls_timed_go N)
theorem calls_timed_cal_ok {R : Type} (N : Nat) : CalOk E.P (calls_timed_cal (R := R) N) :=
  callM_ok hE (calls_valid_cal_ok N) (lp := calls_timed_lp N) (jn := noJn) (keys := [3]) (kCons (calls_timed_k3 N) kNil) (by kernel_rfl) (js := []) jNil (by kernel_rfl) calls_timed_sp_ok calls_timed_rs_ok (fun args T kf => Eq.trans (calls_timed_def N (lstC api_PressC (lget args 0)) (fun q0 => kf (lget [.bool q0] 0, []))) (by kernel_rfl : calls_timed_run N args T kf = fnM E (calls_valid_cal N) (calls_timed_lp N) (noJn) 43 (calls_timed_sp.vs args) (calls_timed_sp.tab T) 0 (resK calls_timed_rs kf)))
def r7CheckCar_m {R : Type} (N : Nat) (a18 : api_Car) (k : Int → Option R) : Option R :=
 bif decide (api_Car.Low a18 < (0 : Int)) then
 k (70 : Int)
 else
 r7from N (api_Car.Start a18) (api_Car.Low a18) (api_Car.High a18) (fun r19 =>
 bif !r19 then
 k (70 : Int)
 else
 bif decide (api_Car.High a18 > (5 : Int)) then
 k (70 : Int)
 else
 r7from N (api_Car.Move a18) (1 : Int) (3 : Int) (fun r20 =>
 bif !r20 then
 k (70 : Int)
 else
 r7from N (api_Car.Stop a18) (1 : Int) (4 : Int) (fun r21 =>
 bif !r21 then
 k (70 : Int)
 else
 k (0 : Int))))
noncomputable def r7CheckCar {R : Type} : Nat → api_Car → (Int → Option R) → Option R := lock (@r7CheckCar_m R)
theorem r7CheckCar_def {R : Type} (N : Nat) (a18 : api_Car) (k : Int → Option R) : r7CheckCar N a18 k = r7CheckCar_m N a18 k := by unfold r7CheckCar; rw [lock_eq]
def r7CheckCar_sp : Sp := ⟨[rAgg api_CarC], []⟩
theorem r7CheckCar_sp_ok : r7CheckCar_sp.Ok := ⟨(allCons (rAgg_ok api_CarC_ok api_CarC_len) allNil), eNil⟩
def r7CheckCar_rs : Sp := ⟨[rInt .i64], []⟩
theorem r7CheckCar_rs_ok : r7CheckCar_rs.Ok := ⟨(allCons (rInt_ok .i64) allNil), eNil⟩
def r7CheckCar_run {R : Type} (N : Nat) (args : List SV) (T : Tab) (kf : SV × Tab → Option R) : Option R :=
  r7CheckCar_m N (Cod.dec api_CarC (lget (toCs (lget args 0)))) (fun q0 => kf (lget [.int .i64 q0] 0, []))
def r7CheckCar_lp {R : Type} (N : Nat) : Lp R := fun body S k => Option.none
noncomputable def r7CheckCar_go {R : Type} (N : Nat) (args : List SV) (T : Tab) (kf : SV × Tab → Option R) : Option R :=
  r7CheckCar N (Cod.dec api_CarC (lget (toCs (lget args 0)))) (fun q0 => kf (lget [.int .i64 q0] 0, []))
noncomputable def r7CheckCar_cal {R : Type} (N : Nat) : Cal R := callM (calls_timed_cal N) 13 0 r7CheckCar_sp (r7CheckCar_go N)
theorem r7CheckCar_cal_ok {R : Type} (N : Nat) : CalOk E.P (r7CheckCar_cal (R := R) N) :=
  callM_ok hE (calls_timed_cal_ok N) (lp := r7CheckCar_lp N) (jn := noJn) (keys := []) kNil (by kernel_rfl) (js := []) jNil (by kernel_rfl) r7CheckCar_sp_ok r7CheckCar_rs_ok (fun args T kf => Eq.trans (r7CheckCar_def N (Cod.dec api_CarC (lget (toCs (lget args 0)))) (fun q0 => kf (lget [.int .i64 q0] 0, []))) (by kernel_rfl : r7CheckCar_run N args T kf = fnM E (calls_timed_cal N) (r7CheckCar_lp N) (noJn) 13 (r7CheckCar_sp.vs args) (r7CheckCar_sp.tab T) 0 (resK r7CheckCar_rs kf)))
def r7isPresses_L2 : LoopSp := ⟨⟨[0, 3], ⟨((rSl api_PressC) :: (dr 2 ((rInt .i64) :: (dr 34 [])))), []⟩, 0⟩, [(Option.none, ⟨[2], ⟨(dr 2 ((rBool) :: (dr 35 []))), []⟩, 0⟩), (some 0, ⟨[0], ⟨((rSl api_PressC) :: (dr 37 [])), []⟩, 0⟩)]⟩
theorem r7isPresses_L2_ok : r7isPresses_L2.Ok := ⟨⟨(allCons (rSl_ok api_PressC_ok) (drCons 2 (allCons (rInt_ok .i64) (drCons 34 allNil)))), eNil⟩, (xCons ⟨(drCons 2 (allCons rBool_ok (drCons 35 allNil))), eNil⟩ (xCons ⟨(allCons (rSl_ok api_PressC_ok) (drCons 37 allNil)), eNil⟩ xNil))⟩
def r7isPresses_h2 (v23 : Arr api_Press) (v24 : Int) : St := ⟨((slC api_PressC v23) :: (un 2 ((.int .i64 v24) :: (un 34 [])))), [], 0⟩
def r7isPresses_x2_r (q0 : Bool) : St := ⟨(un 2 ((.bool q0) :: (un 35 []))), [], 0⟩
def r7isPresses_x2_0 (v23 : Arr api_Press) : St := ⟨((slC api_PressC v23) :: (un 37 [])), [], 0⟩
def r7isPresses_b2 {R : Type} (N : Nat) (rc : Arr api_Press → Int → Option R) (v23 : Arr api_Press) (v24 : Int) (kr : Bool → Option R) (k0 : Unit → Option R) : Option R :=
 bif decide (v24 < (↑(Arr.n v23) : Int)) then
 bif decide ((0 : Int) ≤ v24) && decide (v24 < (↑(Arr.n v23) : Int)) then
 r7from N (api_Press.At (Arr.f v23 (Int.toNat v24))) (0 : Int) (500 : Int) (fun r25 =>
 bif !r25 then
 kr false
 else
 bif decide (v24 > (0 : Int)) then
 bif decide ((0 : Int) ≤ v24) && decide (v24 < (↑(Arr.n v23) : Int)) then
 bif decide ((0 : Int) ≤ w64 (v24 - (1 : Int))) && decide (w64 (v24 - (1 : Int)) < (↑(Arr.n v23) : Int)) then
 bif decide (api_Press.At (Arr.f v23 (Int.toNat v24)) < api_Press.At (Arr.f v23 (Int.toNat (w64 (v24 - (1 : Int)))))) then
 kr false
 else
 rc v23 (w64 (v24 + (1 : Int)))
 else
 Option.none
 else
 Option.none
 else
 rc v23 (w64 (v24 + (1 : Int))))
 else
 Option.none
 else
 k0 ()
def r7isPresses_l2 {R : Type} (N : Nat) : Nat → Arr api_Press → Int → (Bool → Option R) → (Unit → Option R) → Option R
  | 0, _, _, _, _ => Option.none
  | n + 1, v23, v24, kr, k0 => r7isPresses_b2 N (fun v23 v24 => r7isPresses_l2 N n v23 v24 kr k0) v23 v24 kr k0
def r7isPresses_m {R : Type} (N : Nat) (a22 : Arr api_Press) (k : Bool → Option R) : Option R :=
 r7isPresses_l2 N N a22 (0 : Int) (fun r26 =>
 k r26) (fun (_ : Unit) =>
 k (decide ((↑(Arr.n a22) : Int) ≤ (200 : Int))))
noncomputable def r7isPresses {R : Type} : Nat → Arr api_Press → (Bool → Option R) → Option R := lock (@r7isPresses_m R)
theorem r7isPresses_def {R : Type} (N : Nat) (a22 : Arr api_Press) (k : Bool → Option R) : r7isPresses N a22 k = r7isPresses_m N a22 k := by unfold r7isPresses; rw [lock_eq]
def r7isPresses_sp : Sp := ⟨[rSl api_PressC], []⟩
theorem r7isPresses_sp_ok : r7isPresses_sp.Ok := ⟨(allCons (rSl_ok api_PressC_ok) allNil), eNil⟩
def r7isPresses_rs : Sp := ⟨[rBool], []⟩
theorem r7isPresses_rs_ok : r7isPresses_rs.Ok := ⟨(allCons rBool_ok allNil), eNil⟩
def r7isPresses_run {R : Type} (N : Nat) (args : List SV) (T : Tab) (kf : SV × Tab → Option R) : Option R :=
  r7isPresses_m N (lstC api_PressC (lget args 0)) (fun q0 => kf (lget [.bool q0] 0, []))
def r7isPresses_d2 {R : Type} (N : Nat) (S0 : St) (k : Exit → St → Option R) : Option R :=
  r7isPresses_l2 N N (lstC api_PressC (lget S0.tmps 0)) (toI (lget S0.tmps 3)) (fun q0 => k .ret (r7isPresses_x2_r q0)) (fun (_ : Unit) => k (.exit 0) (r7isPresses_x2_0 (lstC api_PressC (lget S0.tmps 0))))
def r7isPresses_lp {R : Type} (N : Nat) : Lp R := fun body S k => bif (Go.Sx.keyOf body).getD 0 == 2 then (r7isPresses_L2.head.raw 0 S (fun S0 => r7isPresses_d2 N S0 k)) else Option.none
theorem r7isPresses_l2_eq {R : Type} (N : Nat) (k : Exit → St → Option R) (n : Nat) : ∀ (v0 : Arr api_Press) (v1 : Int), loopM E.Θ (r7CheckCar_cal N) (r7isPresses_lp N) (noJn) 0 r7isPresses_L2 (bodyAt E 45 2) n (r7isPresses_h2 v0 v1) k = r7isPresses_l2 N n v0 v1 (fun q0 => k .ret (r7isPresses_x2_r q0)) (fun (_ : Unit) => k (.exit 0) (r7isPresses_x2_0 v0)) := by
  induction n with
  | zero => intro v0 v1; rfl
  | succ n ih =>
    intro v0 v1
    refine Eq.trans (b := r7isPresses_b2 N (fun v0 v1 => loopM E.Θ (r7CheckCar_cal N) (r7isPresses_lp N) (noJn) 0 r7isPresses_L2 (bodyAt E 45 2) n (r7isPresses_h2 v0 v1) k) v0 v1 (fun q0 => k .ret (r7isPresses_x2_r q0)) (fun (_ : Unit) => k (.exit 0) (r7isPresses_x2_0 v0))) (by kernel_rfl) ?_
    have h : (fun (v0 : Arr api_Press) (v1 : Int) => loopM E.Θ (r7CheckCar_cal N) (r7isPresses_lp N) (noJn) 0 r7isPresses_L2 (bodyAt E 45 2) n (r7isPresses_h2 v0 v1) k) = (fun (v0 : Arr api_Press) (v1 : Int) => r7isPresses_l2 N n v0 v1 (fun q0 => k .ret (r7isPresses_x2_r q0)) (fun (_ : Unit) => k (.exit 0) (r7isPresses_x2_0 v0))) := funext fun v0 => funext fun v1 => ih v0 v1
    rw [h]
    rfl
theorem r7isPresses_k2 {R : Type} (N : Nat) : LpKey (R := R) E 45 0 (r7isPresses_lp N) 2 :=
  lpKey_of hE (r7CheckCar_cal_ok N) (lp := r7isPresses_lp N) (jn := noJn) r7isPresses_L2_ok [] kNil (by kernel_rfl) [] jNil (by kernel_rfl) N fun S k =>
    Eq.trans (b := r7isPresses_L2.head.raw 0 S (fun S0 => r7isPresses_d2 N S0 k)) (by kernel_rfl) (congrArg (r7isPresses_L2.head.raw 0 S) (funext fun S0 => Eq.trans (r7isPresses_l2_eq N k N (lstC api_PressC (lget S0.tmps 0)) (toI (lget S0.tmps 3))).symm (by kernel_rfl)))
noncomputable def r7isPresses_go {R : Type} (N : Nat) (args : List SV) (T : Tab) (kf : SV × Tab → Option R) : Option R :=
  r7isPresses N (lstC api_PressC (lget args 0)) (fun q0 => kf (lget [.bool q0] 0, []))
noncomputable def r7isPresses_cal {R : Type} (N : Nat) : Cal R := callM (r7CheckCar_cal N) 45 0 r7isPresses_sp (r7isPresses_go N)
theorem r7isPresses_cal_ok {R : Type} (N : Nat) : CalOk E.P (r7isPresses_cal (R := R) N) :=
  callM_ok hE (r7CheckCar_cal_ok N) (lp := r7isPresses_lp N) (jn := noJn) (keys := [2]) (kCons (r7isPresses_k2 N) kNil) (by kernel_rfl) (js := []) jNil (by kernel_rfl) r7isPresses_sp_ok r7isPresses_rs_ok (fun args T kf => Eq.trans (r7isPresses_def N (lstC api_PressC (lget args 0)) (fun q0 => kf (lget [.bool q0] 0, []))) (by kernel_rfl : r7isPresses_run N args T kf = fnM E (r7CheckCar_cal N) (r7isPresses_lp N) (noJn) 45 (r7isPresses_sp.vs args) (r7isPresses_sp.tab T) 0 (resK r7isPresses_rs kf)))
def calls_Check_L6 : LoopSp := ⟨⟨[2, 13, 14, 15], ⟨(dr 2 ((rPtr 0 0) :: (dr 10 ((rSl api_PressC) :: (rInt .i64) :: (rInt .i64) :: (dr 12 []))))), [(0, eBlkC api_CarC)]⟩, 1⟩, [(Option.none, ⟨[4], ⟨(dr 4 ((rInt .i64) :: (dr 23 []))), []⟩, 0⟩), (some 0, ⟨[], ⟨(dr 28 []), []⟩, 0⟩)]⟩
theorem calls_Check_L6_ok : calls_Check_L6.Ok := ⟨⟨(drCons 2 (allCons (rPtr_ok 0 0) (drCons 10 (allCons (rSl_ok api_PressC_ok) (allCons (rInt_ok .i64) (allCons (rInt_ok .i64) (drCons 12 allNil))))))), (eCons (eBlkC_ok api_CarC_ok api_CarC_len) eNil)⟩, (xCons ⟨(drCons 4 (allCons (rInt_ok .i64) (drCons 23 allNil))), eNil⟩ (xCons ⟨(drCons 28 allNil), eNil⟩ xNil))⟩
def calls_Check_h6 (v31 : Arr api_Press) (v32 : Int) (v33 : Int) (v34 : api_Car) : St := ⟨(un 2 ((.ptr 0 0) :: (un 10 ((slC api_PressC v31) :: (.int .i64 v32) :: (.int .i64 v33) :: (un 12 []))))), [(0, .blk (Cod.enc api_CarC v34))], 1⟩
def calls_Check_x6_r (q0 : Int) : St := ⟨(un 4 ((.int .i64 q0) :: (un 23 []))), [], 0⟩
def calls_Check_x6_0  : St := ⟨(un 28 []), [], 0⟩
def calls_Check_b6 {R : Type} (N : Nat) (rc : Arr api_Press → Int → Int → api_Car → Option R) (v31 : Arr api_Press) (v32 : Int) (v33 : Int) (v34 : api_Car) (kr : Int → Option R) (k0 : Unit → Option R) : Option R :=
 bif decide (v33 < v32) then
 bif decide ((0 : Int) ≤ v33) && decide (v33 < (↑(Arr.n v31) : Int)) then
 calls_within N (api_Press.Floor (Arr.f v31 (Int.toNat v33))) (api_Car.Low v34) (api_Car.High v34) (fun r35 =>
 bif !r35 then
 kr (71 : Int)
 else
 rc v31 v32 (w64 (v33 + (1 : Int))) v34)
 else
 Option.none
 else
 k0 ()
def calls_Check_l6 {R : Type} (N : Nat) : Nat → Arr api_Press → Int → Int → api_Car → (Int → Option R) → (Unit → Option R) → Option R
  | 0, _, _, _, _, _, _ => Option.none
  | n + 1, v31, v32, v33, v34, kr, k0 => calls_Check_b6 N (fun v31 v32 v33 v34 => calls_Check_l6 N n v31 v32 v33 v34 kr k0) v31 v32 v33 v34 kr k0
def calls_Check_m {R : Type} (N : Nat) (a27 : api_Car) (a28 : Arr api_Press) (k : Int → Option R) : Option R :=
 calls_valid N a27 (fun r29 =>
 bif !r29 then
 k (70 : Int)
 else
 calls_timed N a28 (fun r30 =>
 bif !r30 then
 k (71 : Int)
 else
 calls_Check_l6 N N a28 ((↑(Arr.n a28) : Int)) (0 : Int) a27 (fun r36 =>
 k r36) (fun (_ : Unit) =>
 k (0 : Int))))
noncomputable def calls_Check {R : Type} : Nat → api_Car → Arr api_Press → (Int → Option R) → Option R := lock (@calls_Check_m R)
theorem calls_Check_def {R : Type} (N : Nat) (a27 : api_Car) (a28 : Arr api_Press) (k : Int → Option R) : calls_Check N a27 a28 k = calls_Check_m N a27 a28 k := by unfold calls_Check; rw [lock_eq]
def calls_Check_sp : Sp := ⟨[rAgg api_CarC, rSl api_PressC], []⟩
theorem calls_Check_sp_ok : calls_Check_sp.Ok := ⟨(allCons (rAgg_ok api_CarC_ok api_CarC_len) (allCons (rSl_ok api_PressC_ok) allNil)), eNil⟩
def calls_Check_rs : Sp := ⟨[rInt .i64], []⟩
theorem calls_Check_rs_ok : calls_Check_rs.Ok := ⟨(allCons (rInt_ok .i64) allNil), eNil⟩
def calls_Check_run {R : Type} (N : Nat) (args : List SV) (T : Tab) (kf : SV × Tab → Option R) : Option R :=
  calls_Check_m N (Cod.dec api_CarC (lget (toCs (lget args 0)))) (lstC api_PressC (lget args 1)) (fun q0 => kf (lget [.int .i64 q0] 0, []))
def calls_Check_d6 {R : Type} (N : Nat) (S0 : St) (k : Exit → St → Option R) : Option R :=
  calls_Check_l6 N N (lstC api_PressC (lget S0.tmps 13)) (toI (lget S0.tmps 14)) (toI (lget S0.tmps 15)) (Cod.dec api_CarC (lget (entCs (entAt S0.tab 0)))) (fun q0 => k .ret (calls_Check_x6_r q0)) (fun (_ : Unit) => k (.exit 0) (calls_Check_x6_0 ))
def calls_Check_lp {R : Type} (N : Nat) : Lp R := fun body S k => bif (Go.Sx.keyOf body).getD 0 == 6 then (calls_Check_L6.head.raw 0 S (fun S0 => calls_Check_d6 N S0 k)) else Option.none
theorem calls_Check_l6_eq {R : Type} (N : Nat) (k : Exit → St → Option R) (n : Nat) : ∀ (v0 : Arr api_Press) (v1 : Int) (v2 : Int) (v3 : api_Car), loopM E.Θ (r7isPresses_cal N) (calls_Check_lp N) (noJn) 0 calls_Check_L6 (bodyAt E 17 6) n (calls_Check_h6 v0 v1 v2 v3) k = calls_Check_l6 N n v0 v1 v2 v3 (fun q0 => k .ret (calls_Check_x6_r q0)) (fun (_ : Unit) => k (.exit 0) (calls_Check_x6_0 )) := by
  induction n with
  | zero => intro v0 v1 v2 v3; rfl
  | succ n ih =>
    intro v0 v1 v2 v3
    refine Eq.trans (b := calls_Check_b6 N (fun v0 v1 v2 v3 => loopM E.Θ (r7isPresses_cal N) (calls_Check_lp N) (noJn) 0 calls_Check_L6 (bodyAt E 17 6) n (calls_Check_h6 v0 v1 v2 v3) k) v0 v1 v2 v3 (fun q0 => k .ret (calls_Check_x6_r q0)) (fun (_ : Unit) => k (.exit 0) (calls_Check_x6_0 ))) (by kernel_rfl) ?_
    have h : (fun (v0 : Arr api_Press) (v1 : Int) (v2 : Int) (v3 : api_Car) => loopM E.Θ (r7isPresses_cal N) (calls_Check_lp N) (noJn) 0 calls_Check_L6 (bodyAt E 17 6) n (calls_Check_h6 v0 v1 v2 v3) k) = (fun (v0 : Arr api_Press) (v1 : Int) (v2 : Int) (v3 : api_Car) => calls_Check_l6 N n v0 v1 v2 v3 (fun q0 => k .ret (calls_Check_x6_r q0)) (fun (_ : Unit) => k (.exit 0) (calls_Check_x6_0 ))) := funext fun v0 => funext fun v1 => funext fun v2 => funext fun v3 => ih v0 v1 v2 v3
    rw [h]
    rfl
theorem calls_Check_k6 {R : Type} (N : Nat) : LpKey (R := R) E 17 0 (calls_Check_lp N) 6 :=
  lpKey_of hE (r7isPresses_cal_ok N) (lp := calls_Check_lp N) (jn := noJn) calls_Check_L6_ok [] kNil (by kernel_rfl) [] jNil (by kernel_rfl) N fun S k =>
    Eq.trans (b := calls_Check_L6.head.raw 0 S (fun S0 => calls_Check_d6 N S0 k)) (by kernel_rfl) (congrArg (calls_Check_L6.head.raw 0 S) (funext fun S0 => Eq.trans (calls_Check_l6_eq N k N (lstC api_PressC (lget S0.tmps 13)) (toI (lget S0.tmps 14)) (toI (lget S0.tmps 15)) (Cod.dec api_CarC (lget (entCs (entAt S0.tab 0))))).symm (by kernel_rfl)))
noncomputable def calls_Check_go {R : Type} (N : Nat) (args : List SV) (T : Tab) (kf : SV × Tab → Option R) : Option R :=
  calls_Check N (Cod.dec api_CarC (lget (toCs (lget args 0)))) (lstC api_PressC (lget args 1)) (fun q0 => kf (lget [.int .i64 q0] 0, []))
noncomputable def calls_Check_cal {R : Type} (N : Nat) : Cal R := callM (r7isPresses_cal N) 17 0 calls_Check_sp (calls_Check_go N)
theorem calls_Check_cal_ok {R : Type} (N : Nat) : CalOk E.P (calls_Check_cal (R := R) N) :=
  callM_ok hE (r7isPresses_cal_ok N) (lp := calls_Check_lp N) (jn := noJn) (keys := [6]) (kCons (calls_Check_k6 N) kNil) (by kernel_rfl) (js := []) jNil (by kernel_rfl) calls_Check_sp_ok calls_Check_rs_ok (fun args T kf => Eq.trans (calls_Check_def N (Cod.dec api_CarC (lget (toCs (lget args 0)))) (lstC api_PressC (lget args 1)) (fun q0 => kf (lget [.int .i64 q0] 0, []))) (by kernel_rfl : calls_Check_run N args T kf = fnM E (r7isPresses_cal N) (calls_Check_lp N) (noJn) 17 (calls_Check_sp.vs args) (calls_Check_sp.tab T) 0 (resK calls_Check_rs kf)))
def r7Begin_m {R : Type} (N : Nat) (a46 : api_Car) (k : api_Ride → Option R) : Option R :=
 k (api_Ride.mk (api_Car.Start a46) true false (0 : Int) (0 : Int) (0 : Int))
noncomputable def r7Begin {R : Type} : Nat → api_Car → (api_Ride → Option R) → Option R := lock (@r7Begin_m R)
theorem r7Begin_def {R : Type} (N : Nat) (a46 : api_Car) (k : api_Ride → Option R) : r7Begin N a46 k = r7Begin_m N a46 k := by unfold r7Begin; rw [lock_eq]
def r7Begin_sp : Sp := ⟨[rAgg api_CarC], []⟩
theorem r7Begin_sp_ok : r7Begin_sp.Ok := ⟨(allCons (rAgg_ok api_CarC_ok api_CarC_len) allNil), eNil⟩
def r7Begin_rs : Sp := ⟨[rAgg api_RideC], []⟩
theorem r7Begin_rs_ok : r7Begin_rs.Ok := ⟨(allCons (rAgg_ok api_RideC_ok api_RideC_len) allNil), eNil⟩
def r7Begin_run {R : Type} (N : Nat) (args : List SV) (T : Tab) (kf : SV × Tab → Option R) : Option R :=
  r7Begin_m N (Cod.dec api_CarC (lget (toCs (lget args 0)))) (fun q0 => kf (lget [.agg (Cod.enc api_RideC q0)] 0, []))
def r7Begin_lp {R : Type} (N : Nat) : Lp R := fun body S k => Option.none
noncomputable def r7Begin_go {R : Type} (N : Nat) (args : List SV) (T : Tab) (kf : SV × Tab → Option R) : Option R :=
  r7Begin N (Cod.dec api_CarC (lget (toCs (lget args 0)))) (fun q0 => kf (lget [.agg (Cod.enc api_RideC q0)] 0, []))
noncomputable def r7Begin_cal {R : Type} (N : Nat) : Cal R := callM (calls_Check_cal N) 48 0 r7Begin_sp (r7Begin_go N)
theorem r7Begin_cal_ok {R : Type} (N : Nat) : CalOk E.P (r7Begin_cal (R := R) N) :=
  callM_ok hE (calls_Check_cal_ok N) (lp := r7Begin_lp N) (jn := noJn) (keys := []) kNil (by kernel_rfl) (js := []) jNil (by kernel_rfl) r7Begin_sp_ok r7Begin_rs_ok (fun args T kf => Eq.trans (r7Begin_def N (Cod.dec api_CarC (lget (toCs (lget args 0)))) (fun q0 => kf (lget [.agg (Cod.enc api_RideC q0)] 0, []))) (by kernel_rfl : r7Begin_run N args T kf = fnM E (calls_Check_cal N) (r7Begin_lp N) (noJn) 48 (r7Begin_sp.vs args) (r7Begin_sp.tab T) 0 (resK r7Begin_rs kf)))
def r7wanted_m {R : Type} (N : Nat) (a47 : api_Ride) (a48 : Int) (k : Bool → Option R) : Option R :=
 bif decide (IntKind.wrap IntKind.u64 a48 < (0 : Int)) then
 Option.none
 else
 k (w64 (↑(BitVec.toNat (BitVec.ofInt (IntKind.bits IntKind.i64) (Int.fdiv (api_Ride.Wants a47) ((2 : Int) ^ min (Int.toNat (IntKind.wrap IntKind.u64 a48)) (IntKind.bits IntKind.i64))) &&& BitVec.ofInt (IntKind.bits IntKind.i64) (1 : Int))) : Int) == (1 : Int))
noncomputable def r7wanted {R : Type} : Nat → api_Ride → Int → (Bool → Option R) → Option R := lock (@r7wanted_m R)
theorem r7wanted_def {R : Type} (N : Nat) (a47 : api_Ride) (a48 : Int) (k : Bool → Option R) : r7wanted N a47 a48 k = r7wanted_m N a47 a48 k := by unfold r7wanted; rw [lock_eq]
def r7wanted_sp : Sp := ⟨[rAgg api_RideC, rInt .i64], []⟩
theorem r7wanted_sp_ok : r7wanted_sp.Ok := ⟨(allCons (rAgg_ok api_RideC_ok api_RideC_len) (allCons (rInt_ok .i64) allNil)), eNil⟩
def r7wanted_rs : Sp := ⟨[rBool], []⟩
theorem r7wanted_rs_ok : r7wanted_rs.Ok := ⟨(allCons rBool_ok allNil), eNil⟩
def r7wanted_run {R : Type} (N : Nat) (args : List SV) (T : Tab) (kf : SV × Tab → Option R) : Option R :=
  r7wanted_m N (Cod.dec api_RideC (lget (toCs (lget args 0)))) (toI (lget args 1)) (fun q0 => kf (lget [.bool q0] 0, []))
def r7wanted_lp {R : Type} (N : Nat) : Lp R := fun body S k => Option.none
noncomputable def r7wanted_go {R : Type} (N : Nat) (args : List SV) (T : Tab) (kf : SV × Tab → Option R) : Option R :=
  r7wanted N (Cod.dec api_RideC (lget (toCs (lget args 0)))) (toI (lget args 1)) (fun q0 => kf (lget [.bool q0] 0, []))
noncomputable def r7wanted_cal {R : Type} (N : Nat) : Cal R := callM (r7Begin_cal N) 60 0 r7wanted_sp (r7wanted_go N)
theorem r7wanted_cal_ok {R : Type} (N : Nat) : CalOk E.P (r7wanted_cal (R := R) N) :=
  callM_ok hE (r7Begin_cal_ok N) (lp := r7wanted_lp N) (jn := noJn) (keys := []) kNil (by kernel_rfl) (js := []) jNil (by kernel_rfl) r7wanted_sp_ok r7wanted_rs_ok (fun args T kf => Eq.trans (r7wanted_def N (Cod.dec api_RideC (lget (toCs (lget args 0)))) (toI (lget args 1)) (fun q0 => kf (lget [.bool q0] 0, []))) (by kernel_rfl : r7wanted_run N args T kf = fnM E (r7Begin_cal N) (r7wanted_lp N) (noJn) 60 (r7wanted_sp.vs args) (r7wanted_sp.tab T) 0 (resK r7wanted_rs kf)))
def r7ahead_L2 : LoopSp := ⟨⟨[1, 3], ⟨(dr 1 ((rPtr 0 0) :: (dr 1 ((rInt .i64) :: (dr 28 []))))), [(0, eBlkC api_RideC)]⟩, 1⟩, [(Option.none, ⟨[2], ⟨(dr 2 ((rBool) :: (dr 29 []))), []⟩, 0⟩), (some 0, ⟨[], ⟨(dr 32 []), []⟩, 0⟩)]⟩
theorem r7ahead_L2_ok : r7ahead_L2.Ok := ⟨⟨(drCons 1 (allCons (rPtr_ok 0 0) (drCons 1 (allCons (rInt_ok .i64) (drCons 28 allNil))))), (eCons (eBlkC_ok api_RideC_ok api_RideC_len) eNil)⟩, (xCons ⟨(drCons 2 (allCons rBool_ok (drCons 29 allNil))), eNil⟩ (xCons ⟨(drCons 32 allNil), eNil⟩ xNil))⟩
def r7ahead_h2 (v50 : Int) (v51 : api_Ride) : St := ⟨(un 1 ((.ptr 0 0) :: (un 1 ((.int .i64 v50) :: (un 28 []))))), [(0, .blk (Cod.enc api_RideC v51))], 1⟩
def r7ahead_x2_r (q0 : Bool) : St := ⟨(un 2 ((.bool q0) :: (un 29 []))), [], 0⟩
def r7ahead_x2_0  : St := ⟨(un 32 []), [], 0⟩
def r7ahead_b2 {R : Type} (N : Nat) (rc : Int → api_Ride → Option R) (v50 : Int) (v51 : api_Ride) (kr : Bool → Option R) (k0 : Unit → Option R) : Option R :=
 bif decide (v50 ≤ (5 : Int)) then
 r7wanted N v51 v50 (fun r52 =>
 bif r52 then
 bif api_Ride.Up v51 then
 bif decide (v50 > api_Ride.Floor v51) then
 kr true
 else
 bif !api_Ride.Up v51 then
 bif decide (v50 < api_Ride.Floor v51) then
 kr true
 else
 rc (w64 (v50 + (1 : Int))) v51
 else
 rc (w64 (v50 + (1 : Int))) v51
 else
 bif !api_Ride.Up v51 then
 bif decide (v50 < api_Ride.Floor v51) then
 kr true
 else
 rc (w64 (v50 + (1 : Int))) v51
 else
 rc (w64 (v50 + (1 : Int))) v51
 else
 rc (w64 (v50 + (1 : Int))) v51)
 else
 k0 ()
def r7ahead_l2 {R : Type} (N : Nat) : Nat → Int → api_Ride → (Bool → Option R) → (Unit → Option R) → Option R
  | 0, _, _, _, _ => Option.none
  | n + 1, v50, v51, kr, k0 => r7ahead_b2 N (fun v50 v51 => r7ahead_l2 N n v50 v51 kr k0) v50 v51 kr k0
def r7ahead_m {R : Type} (N : Nat) (a49 : api_Ride) (k : Bool → Option R) : Option R :=
 r7ahead_l2 N N (0 : Int) a49 (fun r53 =>
 k r53) (fun (_ : Unit) =>
 k false)
noncomputable def r7ahead {R : Type} : Nat → api_Ride → (Bool → Option R) → Option R := lock (@r7ahead_m R)
theorem r7ahead_def {R : Type} (N : Nat) (a49 : api_Ride) (k : Bool → Option R) : r7ahead N a49 k = r7ahead_m N a49 k := by unfold r7ahead; rw [lock_eq]
def r7ahead_sp : Sp := ⟨[rAgg api_RideC], []⟩
theorem r7ahead_sp_ok : r7ahead_sp.Ok := ⟨(allCons (rAgg_ok api_RideC_ok api_RideC_len) allNil), eNil⟩
def r7ahead_rs : Sp := ⟨[rBool], []⟩
theorem r7ahead_rs_ok : r7ahead_rs.Ok := ⟨(allCons rBool_ok allNil), eNil⟩
def r7ahead_run {R : Type} (N : Nat) (args : List SV) (T : Tab) (kf : SV × Tab → Option R) : Option R :=
  r7ahead_m N (Cod.dec api_RideC (lget (toCs (lget args 0)))) (fun q0 => kf (lget [.bool q0] 0, []))
def r7ahead_d2 {R : Type} (N : Nat) (S0 : St) (k : Exit → St → Option R) : Option R :=
  r7ahead_l2 N N (toI (lget S0.tmps 3)) (Cod.dec api_RideC (lget (entCs (entAt S0.tab 0)))) (fun q0 => k .ret (r7ahead_x2_r q0)) (fun (_ : Unit) => k (.exit 0) (r7ahead_x2_0 ))
def r7ahead_lp {R : Type} (N : Nat) : Lp R := fun body S k => bif (Go.Sx.keyOf body).getD 0 == 2 then (r7ahead_L2.head.raw 0 S (fun S0 => r7ahead_d2 N S0 k)) else Option.none
theorem r7ahead_l2_eq {R : Type} (N : Nat) (k : Exit → St → Option R) (n : Nat) : ∀ (v0 : Int) (v1 : api_Ride), loopM E.Θ (r7wanted_cal N) (r7ahead_lp N) (noJn) 0 r7ahead_L2 (bodyAt E 62 2) n (r7ahead_h2 v0 v1) k = r7ahead_l2 N n v0 v1 (fun q0 => k .ret (r7ahead_x2_r q0)) (fun (_ : Unit) => k (.exit 0) (r7ahead_x2_0 )) := by
  induction n with
  | zero => intro v0 v1; rfl
  | succ n ih =>
    intro v0 v1
    refine Eq.trans (b := r7ahead_b2 N (fun v0 v1 => loopM E.Θ (r7wanted_cal N) (r7ahead_lp N) (noJn) 0 r7ahead_L2 (bodyAt E 62 2) n (r7ahead_h2 v0 v1) k) v0 v1 (fun q0 => k .ret (r7ahead_x2_r q0)) (fun (_ : Unit) => k (.exit 0) (r7ahead_x2_0 ))) (by kernel_rfl) ?_
    have h : (fun (v0 : Int) (v1 : api_Ride) => loopM E.Θ (r7wanted_cal N) (r7ahead_lp N) (noJn) 0 r7ahead_L2 (bodyAt E 62 2) n (r7ahead_h2 v0 v1) k) = (fun (v0 : Int) (v1 : api_Ride) => r7ahead_l2 N n v0 v1 (fun q0 => k .ret (r7ahead_x2_r q0)) (fun (_ : Unit) => k (.exit 0) (r7ahead_x2_0 ))) := funext fun v0 => funext fun v1 => ih v0 v1
    rw [h]
    rfl
theorem r7ahead_k2 {R : Type} (N : Nat) : LpKey (R := R) E 62 0 (r7ahead_lp N) 2 :=
  lpKey_of hE (r7wanted_cal_ok N) (lp := r7ahead_lp N) (jn := noJn) r7ahead_L2_ok [] kNil (by kernel_rfl) [] jNil (by kernel_rfl) N fun S k =>
    Eq.trans (b := r7ahead_L2.head.raw 0 S (fun S0 => r7ahead_d2 N S0 k)) (by kernel_rfl) (congrArg (r7ahead_L2.head.raw 0 S) (funext fun S0 => Eq.trans (r7ahead_l2_eq N k N (toI (lget S0.tmps 3)) (Cod.dec api_RideC (lget (entCs (entAt S0.tab 0))))).symm (by kernel_rfl)))
noncomputable def r7ahead_go {R : Type} (N : Nat) (args : List SV) (T : Tab) (kf : SV × Tab → Option R) : Option R :=
  r7ahead N (Cod.dec api_RideC (lget (toCs (lget args 0)))) (fun q0 => kf (lget [.bool q0] 0, []))
noncomputable def r7ahead_cal {R : Type} (N : Nat) : Cal R := callM (r7wanted_cal N) 62 0 r7ahead_sp (r7ahead_go N)
theorem r7ahead_cal_ok {R : Type} (N : Nat) : CalOk E.P (r7ahead_cal (R := R) N) :=
  callM_ok hE (r7wanted_cal_ok N) (lp := r7ahead_lp N) (jn := noJn) (keys := [2]) (kCons (r7ahead_k2 N) kNil) (by kernel_rfl) (js := []) jNil (by kernel_rfl) r7ahead_sp_ok r7ahead_rs_ok (fun args T kf => Eq.trans (r7ahead_def N (Cod.dec api_RideC (lget (toCs (lget args 0)))) (fun q0 => kf (lget [.bool q0] 0, []))) (by kernel_rfl : r7ahead_run N args T kf = fnM E (r7wanted_cal N) (r7ahead_lp N) (noJn) 62 (r7ahead_sp.vs args) (r7ahead_sp.tab T) 0 (resK r7ahead_rs kf)))
def r7Tick_L100001 : LoopSp := ⟨⟨[2, 3, 4, 6, 8, 9], ⟨(dr 2 ((rInt .i64) :: (rPtr 0 0) :: (rPtr 1 0) :: (dr 1 ((rPtr 2 0) :: (dr 1 ((rInt .i64) :: (rInt .i64) :: (dr 101 []))))))), [(0, eBlkC api_CarC), (1, eBlkC api_RideC), (2, eBlkC api_RideC)]⟩, 3⟩, [(Option.none, ⟨[6, 7], ⟨(dr 6 ((rPtr 0 0) :: (rInt .i64) :: (dr 103 []))), [(0, eBlkC api_RideC)]⟩, 1⟩)]⟩
theorem r7Tick_L100001_ok : r7Tick_L100001.Ok := ⟨⟨(drCons 2 (allCons (rInt_ok .i64) (allCons (rPtr_ok 0 0) (allCons (rPtr_ok 1 0) (drCons 1 (allCons (rPtr_ok 2 0) (drCons 1 (allCons (rInt_ok .i64) (allCons (rInt_ok .i64) (drCons 101 allNil)))))))))), (eCons (eBlkC_ok api_CarC_ok api_CarC_len) (eCons (eBlkC_ok api_RideC_ok api_RideC_len) (eCons (eBlkC_ok api_RideC_ok api_RideC_len) eNil)))⟩, (xCons ⟨(drCons 6 (allCons (rPtr_ok 0 0) (allCons (rInt_ok .i64) (drCons 103 allNil)))), (eCons (eBlkC_ok api_RideC_ok api_RideC_len) eNil)⟩ xNil)⟩
def r7Tick_h100001 (v61 : Int) (v62 : Int) (v63 : Int) (v64 : api_Car) (v65 : api_Ride) (v66 : api_Ride) : St := ⟨(un 2 ((.int .i64 v61) :: (.ptr 0 0) :: (.ptr 1 0) :: (un 1 ((.ptr 2 0) :: (un 1 ((.int .i64 v62) :: (.int .i64 v63) :: (un 101 []))))))), [(0, .blk (Cod.enc api_CarC v64)), (1, .blk (Cod.enc api_RideC v65)), (2, .blk (Cod.enc api_RideC v66))], 3⟩
def r7Tick_x100001_r (q0 : Int) (q1 : api_Ride) : St := ⟨(un 6 ((.ptr 0 0) :: (.int .i64 q0) :: (un 103 []))), [(0, .blk (Cod.enc api_RideC q1))], 1⟩
def r7Tick_j1_m {R : Type} (N : Nat) (v61 : Int) (v62 : Int) (v63 : Int) (v64 : api_Car) (v65 : api_Ride) (v66 : api_Ride) (kr : Int → api_Ride → Option R) : Option R :=
 bif api_Ride.Doing v65 != (0 : Int) then
 kr v63 (api_Ride.mk (api_Ride.Floor v65) (api_Ride.Up v65) (api_Ride.Stood v65) (api_Ride.Doing v65) (api_Ride.Left v65) (w64 (↑(BitVec.toNat (BitVec.ofInt (IntKind.bits IntKind.i64) (api_Ride.Wants v65) ||| BitVec.ofInt (IntKind.bits IntKind.i64) v61)) : Int)))
 else
 bif w64 (↑(BitVec.toNat (BitVec.ofInt (IntKind.bits IntKind.i64) (api_Ride.Wants v65) ||| BitVec.ofInt (IntKind.bits IntKind.i64) v61)) : Int) == (0 : Int) then
 kr v63 (api_Ride.mk (api_Ride.Floor v65) (api_Ride.Up v65) (api_Ride.Stood v65) (api_Ride.Doing v65) (api_Ride.Left v65) (w64 (↑(BitVec.toNat (BitVec.ofInt (IntKind.bits IntKind.i64) (api_Ride.Wants v65) ||| BitVec.ofInt (IntKind.bits IntKind.i64) v61)) : Int)))
 else
 bif w64 (↑(BitVec.toNat (BitVec.ofInt (IntKind.bits IntKind.i64) (w64 (↑(BitVec.toNat (BitVec.ofInt (IntKind.bits IntKind.i64) (api_Ride.Wants v65) ||| BitVec.ofInt (IntKind.bits IntKind.i64) v61)) : Int)) &&& BitVec.ofInt (IntKind.bits IntKind.i64) v62)) : Int) != (0 : Int) then
 bif !api_Ride.Stood v65 then
 kr (w64 (↑(BitVec.toNat (BitVec.ofInt (IntKind.bits IntKind.i64) v63 ||| BitVec.ofInt (IntKind.bits IntKind.i64) v62)) : Int)) (api_Ride.mk (api_Ride.Floor v65) (api_Ride.Up v65) true (2 : Int) (api_Car.Stop v64) (w64 (↑(BitVec.toNat (BitVec.ofInt (IntKind.bits IntKind.i64) (w64 (↑(BitVec.toNat (BitVec.ofInt (IntKind.bits IntKind.i64) (api_Ride.Wants v65) ||| BitVec.ofInt (IntKind.bits IntKind.i64) v61)) : Int)) &&& ~~~BitVec.ofInt (IntKind.bits IntKind.i64) v62)) : Int)))
 else
 bif w64 (↑(BitVec.toNat (BitVec.ofInt (IntKind.bits IntKind.i64) (api_Ride.Wants v65) ||| BitVec.ofInt (IntKind.bits IntKind.i64) v61)) : Int) == v62 then
 kr (w64 (↑(BitVec.toNat (BitVec.ofInt (IntKind.bits IntKind.i64) v63 ||| BitVec.ofInt (IntKind.bits IntKind.i64) v62)) : Int)) (api_Ride.mk (api_Ride.Floor v65) (api_Ride.Up v65) true (2 : Int) (api_Car.Stop v64) (w64 (↑(BitVec.toNat (BitVec.ofInt (IntKind.bits IntKind.i64) (w64 (↑(BitVec.toNat (BitVec.ofInt (IntKind.bits IntKind.i64) (api_Ride.Wants v65) ||| BitVec.ofInt (IntKind.bits IntKind.i64) v61)) : Int)) &&& ~~~BitVec.ofInt (IntKind.bits IntKind.i64) v62)) : Int)))
 else
 r7ahead N (api_Ride.mk (api_Ride.Floor v65) (api_Ride.Up v65) (api_Ride.Stood v65) (api_Ride.Doing v65) (api_Ride.Left v65) (w64 (↑(BitVec.toNat (BitVec.ofInt (IntKind.bits IntKind.i64) (api_Ride.Wants v65) ||| BitVec.ofInt (IntKind.bits IntKind.i64) v61)) : Int))) (fun r67 =>
 bif !r67 then
 kr v63 (api_Ride.mk (api_Ride.Floor v65) (!api_Ride.Up v65) (api_Ride.Stood v65) (1 : Int) (api_Car.Move v64) (w64 (↑(BitVec.toNat (BitVec.ofInt (IntKind.bits IntKind.i64) (api_Ride.Wants v65) ||| BitVec.ofInt (IntKind.bits IntKind.i64) v61)) : Int)))
 else
 kr v63 (api_Ride.mk (api_Ride.Floor v65) (api_Ride.Up v65) (api_Ride.Stood v65) (1 : Int) (api_Car.Move v64) (w64 (↑(BitVec.toNat (BitVec.ofInt (IntKind.bits IntKind.i64) (api_Ride.Wants v65) ||| BitVec.ofInt (IntKind.bits IntKind.i64) v61)) : Int))))
 else
 r7ahead N (api_Ride.mk (api_Ride.Floor v65) (api_Ride.Up v65) (api_Ride.Stood v65) (api_Ride.Doing v65) (api_Ride.Left v65) (w64 (↑(BitVec.toNat (BitVec.ofInt (IntKind.bits IntKind.i64) (api_Ride.Wants v65) ||| BitVec.ofInt (IntKind.bits IntKind.i64) v61)) : Int))) (fun r68 =>
 bif !r68 then
 kr v63 (api_Ride.mk (api_Ride.Floor v65) (!api_Ride.Up v65) (api_Ride.Stood v65) (1 : Int) (api_Car.Move v64) (w64 (↑(BitVec.toNat (BitVec.ofInt (IntKind.bits IntKind.i64) (api_Ride.Wants v65) ||| BitVec.ofInt (IntKind.bits IntKind.i64) v61)) : Int)))
 else
 kr v63 (api_Ride.mk (api_Ride.Floor v65) (api_Ride.Up v65) (api_Ride.Stood v65) (1 : Int) (api_Car.Move v64) (w64 (↑(BitVec.toNat (BitVec.ofInt (IntKind.bits IntKind.i64) (api_Ride.Wants v65) ||| BitVec.ofInt (IntKind.bits IntKind.i64) v61)) : Int))))
noncomputable def r7Tick_j1 {R : Type} : Nat → Int → Int → Int → api_Car → api_Ride → api_Ride → (Int → api_Ride → Option R) → Option R := lock (@r7Tick_j1_m R)
theorem r7Tick_j1_def {R : Type} (N : Nat) (v61 : Int) (v62 : Int) (v63 : Int) (v64 : api_Car) (v65 : api_Ride) (v66 : api_Ride) (kr : Int → api_Ride → Option R) : r7Tick_j1 N v61 v62 v63 v64 v65 v66 kr = r7Tick_j1_m N v61 v62 v63 v64 v65 v66 kr := by unfold r7Tick_j1; rw [lock_eq]
def r7Tick_L100000 : LoopSp := ⟨⟨[2, 3, 4, 6], ⟨(dr 2 ((rInt .i64) :: (rPtr 0 0) :: (rPtr 1 0) :: (dr 1 ((rPtr 2 0) :: (dr 104 []))))), [(0, eBlkC api_CarC), (1, eBlkC api_RideC), (2, eBlkC api_RideC)]⟩, 3⟩, [(Option.none, ⟨[6, 7], ⟨(dr 6 ((rPtr 0 0) :: (rInt .i64) :: (dr 103 []))), [(0, eBlkC api_RideC)]⟩, 1⟩)]⟩
theorem r7Tick_L100000_ok : r7Tick_L100000.Ok := ⟨⟨(drCons 2 (allCons (rInt_ok .i64) (allCons (rPtr_ok 0 0) (allCons (rPtr_ok 1 0) (drCons 1 (allCons (rPtr_ok 2 0) (drCons 104 allNil))))))), (eCons (eBlkC_ok api_CarC_ok api_CarC_len) (eCons (eBlkC_ok api_RideC_ok api_RideC_len) (eCons (eBlkC_ok api_RideC_ok api_RideC_len) eNil)))⟩, (xCons ⟨(drCons 6 (allCons (rPtr_ok 0 0) (allCons (rInt_ok .i64) (drCons 103 allNil)))), (eCons (eBlkC_ok api_RideC_ok api_RideC_len) eNil)⟩ xNil)⟩
def r7Tick_h100000 (v57 : Int) (v58 : api_Car) (v59 : api_Ride) (v60 : api_Ride) : St := ⟨(un 2 ((.int .i64 v57) :: (.ptr 0 0) :: (.ptr 1 0) :: (un 1 ((.ptr 2 0) :: (un 104 []))))), [(0, .blk (Cod.enc api_CarC v58)), (1, .blk (Cod.enc api_RideC v59)), (2, .blk (Cod.enc api_RideC v60))], 3⟩
def r7Tick_x100000_r (q0 : Int) (q1 : api_Ride) : St := ⟨(un 6 ((.ptr 0 0) :: (.int .i64 q0) :: (un 103 []))), [(0, .blk (Cod.enc api_RideC q1))], 1⟩
def r7Tick_j0_m {R : Type} (N : Nat) (v57 : Int) (v58 : api_Car) (v59 : api_Ride) (v60 : api_Ride) (kr : Int → api_Ride → Option R) : Option R :=
 bif decide (IntKind.wrap IntKind.u64 (api_Ride.Floor v59) < (0 : Int)) then
 Option.none
 else
 bif api_Ride.Doing v59 == (2 : Int) then
 r7Tick_j1 N (w64 (↑(BitVec.toNat (BitVec.ofInt (IntKind.bits IntKind.i64) v57 &&& ~~~BitVec.ofInt (IntKind.bits IntKind.i64) (w64 ((1 : Int) * (2 : Int) ^ min (Int.toNat (IntKind.wrap IntKind.u64 (api_Ride.Floor v59))) (IntKind.bits IntKind.i64))))) : Int)) (w64 ((1 : Int) * (2 : Int) ^ min (Int.toNat (IntKind.wrap IntKind.u64 (api_Ride.Floor v59))) (IntKind.bits IntKind.i64))) (w64 (↑(BitVec.toNat (BitVec.ofInt (IntKind.bits IntKind.i64) v57 &&& BitVec.ofInt (IntKind.bits IntKind.i64) (w64 ((1 : Int) * (2 : Int) ^ min (Int.toNat (IntKind.wrap IntKind.u64 (api_Ride.Floor v59))) (IntKind.bits IntKind.i64))))) : Int)) v58 v59 v60 (fun r69 r70 =>
 kr r69 r70)
 else
 r7Tick_j1 N v57 (w64 ((1 : Int) * (2 : Int) ^ min (Int.toNat (IntKind.wrap IntKind.u64 (api_Ride.Floor v59))) (IntKind.bits IntKind.i64))) (0 : Int) v58 v59 v60 (fun r71 r72 =>
 kr r71 r72)
noncomputable def r7Tick_j0 {R : Type} : Nat → Int → api_Car → api_Ride → api_Ride → (Int → api_Ride → Option R) → Option R := lock (@r7Tick_j0_m R)
theorem r7Tick_j0_def {R : Type} (N : Nat) (v57 : Int) (v58 : api_Car) (v59 : api_Ride) (v60 : api_Ride) (kr : Int → api_Ride → Option R) : r7Tick_j0 N v57 v58 v59 v60 kr = r7Tick_j0_m N v57 v58 v59 v60 kr := by unfold r7Tick_j0; rw [lock_eq]
def r7Tick_m {R : Type} (N : Nat) (a54 : api_Car) (a55 : api_Ride) (a56 : Int) (k : api_Ride → Int → Option R) : Option R :=
 bif api_Ride.Doing a55 != (0 : Int) then
 bif w64 (api_Ride.Left a55 - (1 : Int)) == (0 : Int) then
 bif api_Ride.Doing a55 == (1 : Int) then
 bif api_Ride.Up a55 then
 bif w64 (api_Ride.Left a55 - (1 : Int)) == (0 : Int) then
 r7Tick_j0 N a56 a54 (api_Ride.mk (w64 (api_Ride.Floor a55 + (1 : Int))) (api_Ride.Up a55) false (0 : Int) (w64 (api_Ride.Left a55 - (1 : Int))) (api_Ride.Wants a55)) (api_Ride.mk (0 : Int) false false (0 : Int) (0 : Int) (0 : Int)) (fun r73 r74 =>
 k r74 r73)
 else
 r7Tick_j0 N a56 a54 (api_Ride.mk (w64 (api_Ride.Floor a55 + (1 : Int))) (api_Ride.Up a55) false (api_Ride.Doing a55) (w64 (api_Ride.Left a55 - (1 : Int))) (api_Ride.Wants a55)) (api_Ride.mk (0 : Int) false false (0 : Int) (0 : Int) (0 : Int)) (fun r75 r76 =>
 k r76 r75)
 else
 bif w64 (api_Ride.Left a55 - (1 : Int)) == (0 : Int) then
 r7Tick_j0 N a56 a54 (api_Ride.mk (w64 (api_Ride.Floor a55 - (1 : Int))) (api_Ride.Up a55) false (0 : Int) (w64 (api_Ride.Left a55 - (1 : Int))) (api_Ride.Wants a55)) (api_Ride.mk (0 : Int) false false (0 : Int) (0 : Int) (0 : Int)) (fun r77 r78 =>
 k r78 r77)
 else
 r7Tick_j0 N a56 a54 (api_Ride.mk (w64 (api_Ride.Floor a55 - (1 : Int))) (api_Ride.Up a55) false (api_Ride.Doing a55) (w64 (api_Ride.Left a55 - (1 : Int))) (api_Ride.Wants a55)) (api_Ride.mk (0 : Int) false false (0 : Int) (0 : Int) (0 : Int)) (fun r79 r80 =>
 k r80 r79)
 else
 bif w64 (api_Ride.Left a55 - (1 : Int)) == (0 : Int) then
 r7Tick_j0 N a56 a54 (api_Ride.mk (api_Ride.Floor a55) (api_Ride.Up a55) (api_Ride.Stood a55) (0 : Int) (w64 (api_Ride.Left a55 - (1 : Int))) (api_Ride.Wants a55)) (api_Ride.mk (0 : Int) false false (0 : Int) (0 : Int) (0 : Int)) (fun r81 r82 =>
 k r82 r81)
 else
 r7Tick_j0 N a56 a54 (api_Ride.mk (api_Ride.Floor a55) (api_Ride.Up a55) (api_Ride.Stood a55) (api_Ride.Doing a55) (w64 (api_Ride.Left a55 - (1 : Int))) (api_Ride.Wants a55)) (api_Ride.mk (0 : Int) false false (0 : Int) (0 : Int) (0 : Int)) (fun r83 r84 =>
 k r84 r83)
 else
 bif w64 (api_Ride.Left a55 - (1 : Int)) == (0 : Int) then
 r7Tick_j0 N a56 a54 (api_Ride.mk (api_Ride.Floor a55) (api_Ride.Up a55) (api_Ride.Stood a55) (0 : Int) (w64 (api_Ride.Left a55 - (1 : Int))) (api_Ride.Wants a55)) (api_Ride.mk (0 : Int) false false (0 : Int) (0 : Int) (0 : Int)) (fun r85 r86 =>
 k r86 r85)
 else
 r7Tick_j0 N a56 a54 (api_Ride.mk (api_Ride.Floor a55) (api_Ride.Up a55) (api_Ride.Stood a55) (api_Ride.Doing a55) (w64 (api_Ride.Left a55 - (1 : Int))) (api_Ride.Wants a55)) (api_Ride.mk (0 : Int) false false (0 : Int) (0 : Int) (0 : Int)) (fun r87 r88 =>
 k r88 r87)
 else
 r7Tick_j0 N a56 a54 a55 (api_Ride.mk (0 : Int) false false (0 : Int) (0 : Int) (0 : Int)) (fun r89 r90 =>
 k r90 r89)
noncomputable def r7Tick {R : Type} : Nat → api_Car → api_Ride → Int → (api_Ride → Int → Option R) → Option R := lock (@r7Tick_m R)
theorem r7Tick_def {R : Type} (N : Nat) (a54 : api_Car) (a55 : api_Ride) (a56 : Int) (k : api_Ride → Int → Option R) : r7Tick N a54 a55 a56 k = r7Tick_m N a54 a55 a56 k := by unfold r7Tick; rw [lock_eq]
def r7Tick_sp : Sp := ⟨[rAgg api_CarC, rAgg api_RideC, rInt .i64], []⟩
theorem r7Tick_sp_ok : r7Tick_sp.Ok := ⟨(allCons (rAgg_ok api_CarC_ok api_CarC_len) (allCons (rAgg_ok api_RideC_ok api_RideC_len) (allCons (rInt_ok .i64) allNil))), eNil⟩
def r7Tick_rs : Sp := ⟨[rTup [rAgg api_RideC, rInt .i64]], []⟩
theorem r7Tick_rs_ok : r7Tick_rs.Ok := ⟨(allCons (rTup_ok (allCons (rAgg_ok api_RideC_ok api_RideC_len) (allCons (rInt_ok .i64) allNil))) allNil), eNil⟩
def r7Tick_run {R : Type} (N : Nat) (args : List SV) (T : Tab) (kf : SV × Tab → Option R) : Option R :=
  r7Tick_m N (Cod.dec api_CarC (lget (toCs (lget args 0)))) (Cod.dec api_RideC (lget (toCs (lget args 1)))) (toI (lget args 2)) (fun q0 q1 => kf (lget [.tup [.agg (Cod.enc api_RideC q0), .int .i64 q1]] 0, []))
def r7Tick_d100001 {R : Type} (N : Nat) (S0 : St) (k : Exit → St → Option R) : Option R :=
  r7Tick_j1 N (toI (lget S0.tmps 2)) (toI (lget S0.tmps 8)) (toI (lget S0.tmps 9)) (Cod.dec api_CarC (lget (entCs (entAt S0.tab 0)))) (Cod.dec api_RideC (lget (entCs (entAt S0.tab 1)))) (Cod.dec api_RideC (lget (entCs (entAt S0.tab 2)))) (fun q0 q1 => k .ret (r7Tick_x100001_r q0 q1))
def r7Tick_d100000 {R : Type} (N : Nat) (S0 : St) (k : Exit → St → Option R) : Option R :=
  r7Tick_j0 N (toI (lget S0.tmps 2)) (Cod.dec api_CarC (lget (entCs (entAt S0.tab 0)))) (Cod.dec api_RideC (lget (entCs (entAt S0.tab 1)))) (Cod.dec api_RideC (lget (entCs (entAt S0.tab 2)))) (fun q0 q1 => k .ret (r7Tick_x100000_r q0 q1))
def r7Tick_lp {R : Type} (N : Nat) : Lp R := fun body S k => Option.none
def r7Tick_jn {R : Type} (N : Nat) : Jn R := fun b => bif isJ 10 51 b then some (fun S k => r7Tick_L100000.head.raw 0 S (fun S0 => r7Tick_d100000 N S0 k)) else bif isJ 15 39 b then some (fun S k => r7Tick_L100001.head.raw 0 S (fun S0 => r7Tick_d100001 N S0 k)) else Option.none
theorem r7Tick_j0_eq {R : Type} (N : Nat) (k : Exit → St → Option R) : ∀ (v0 : Int) (v1 : api_Car) (v2 : api_Ride) (v3 : api_Ride), joinM E.Θ (r7ahead_cal N) (r7Tick_lp N) (r7Tick_jn N) 0 r7Tick_L100000 (joinAt E 49 (10, 51)) (r7Tick_h100000 v0 v1 v2 v3) k = r7Tick_j0 N v0 v1 v2 v3 (fun q0 q1 => k .ret (r7Tick_x100000_r q0 q1)) := by
  intro v0 v1 v2 v3; exact Eq.trans (b := r7Tick_j0_m N v0 v1 v2 v3 (fun q0 q1 => k .ret (r7Tick_x100000_r q0 q1))) (by kernel_rfl) (r7Tick_j0_def N v0 v1 v2 v3 (fun q0 q1 => k .ret (r7Tick_x100000_r q0 q1))).symm
theorem r7Tick_j1_eq {R : Type} (N : Nat) (k : Exit → St → Option R) : ∀ (v0 : Int) (v1 : Int) (v2 : Int) (v3 : api_Car) (v4 : api_Ride) (v5 : api_Ride), joinM E.Θ (r7ahead_cal N) (r7Tick_lp N) (r7Tick_jn N) 0 r7Tick_L100001 (joinAt E 49 (15, 39)) (r7Tick_h100001 v0 v1 v2 v3 v4 v5) k = r7Tick_j1 N v0 v1 v2 v3 v4 v5 (fun q0 q1 => k .ret (r7Tick_x100001_r q0 q1)) := by
  intro v0 v1 v2 v3 v4 v5; exact Eq.trans (b := r7Tick_j1_m N v0 v1 v2 v3 v4 v5 (fun q0 q1 => k .ret (r7Tick_x100001_r q0 q1))) (by kernel_rfl) (r7Tick_j1_def N v0 v1 v2 v3 v4 v5 (fun q0 q1 => k .ret (r7Tick_x100001_r q0 q1))).symm
theorem r7Tick_q1 {R : Type} (N : Nat) : JnKey (R := R) E 49 0 (r7Tick_jn N) (15, 39) :=
  jnKey_of hE (r7ahead_cal_ok N) (lp := r7Tick_lp N) (jn := r7Tick_jn N) r7Tick_L100001_ok [] kNil (by kernel_rfl) [] jNil (by kernel_rfl) (fun S k => r7Tick_L100001.head.raw 0 S (fun S0 => r7Tick_d100001 N S0 k)) (by kernel_rfl) fun S k =>
    congrArg (r7Tick_L100001.head.raw 0 S) (funext fun S0 => Eq.trans (r7Tick_j1_eq N k (toI (lget S0.tmps 2)) (toI (lget S0.tmps 8)) (toI (lget S0.tmps 9)) (Cod.dec api_CarC (lget (entCs (entAt S0.tab 0)))) (Cod.dec api_RideC (lget (entCs (entAt S0.tab 1)))) (Cod.dec api_RideC (lget (entCs (entAt S0.tab 2))))).symm (by kernel_rfl))
theorem r7Tick_q0 {R : Type} (N : Nat) : JnKey (R := R) E 49 0 (r7Tick_jn N) (10, 51) :=
  jnKey_of hE (r7ahead_cal_ok N) (lp := r7Tick_lp N) (jn := r7Tick_jn N) r7Tick_L100000_ok [] kNil (by kernel_rfl) [(15, 39)] (jCons (r7Tick_q1 N) jNil) (by kernel_rfl) (fun S k => r7Tick_L100000.head.raw 0 S (fun S0 => r7Tick_d100000 N S0 k)) (by kernel_rfl) fun S k =>
    congrArg (r7Tick_L100000.head.raw 0 S) (funext fun S0 => Eq.trans (r7Tick_j0_eq N k (toI (lget S0.tmps 2)) (Cod.dec api_CarC (lget (entCs (entAt S0.tab 0)))) (Cod.dec api_RideC (lget (entCs (entAt S0.tab 1)))) (Cod.dec api_RideC (lget (entCs (entAt S0.tab 2))))).symm (by kernel_rfl))
noncomputable def r7Tick_go {R : Type} (N : Nat) (args : List SV) (T : Tab) (kf : SV × Tab → Option R) : Option R :=
  r7Tick N (Cod.dec api_CarC (lget (toCs (lget args 0)))) (Cod.dec api_RideC (lget (toCs (lget args 1)))) (toI (lget args 2)) (fun q0 q1 => kf (lget [.tup [.agg (Cod.enc api_RideC q0), .int .i64 q1]] 0, []))
noncomputable def r7Tick_cal {R : Type} (N : Nat) : Cal R := callM (r7ahead_cal N) 49 0 r7Tick_sp (r7Tick_go N)
theorem r7Tick_cal_ok {R : Type} (N : Nat) : CalOk E.P (r7Tick_cal (R := R) N) :=
  callM_ok hE (r7ahead_cal_ok N) (lp := r7Tick_lp N) (jn := r7Tick_jn N) (keys := []) kNil (by kernel_rfl) (js := [(10, 51), (15, 39)]) (jCons (r7Tick_q0 N) (jCons (r7Tick_q1 N) jNil)) (by kernel_rfl) r7Tick_sp_ok r7Tick_rs_ok (fun args T kf => Eq.trans (r7Tick_def N (Cod.dec api_CarC (lget (toCs (lget args 0)))) (Cod.dec api_RideC (lget (toCs (lget args 1)))) (toI (lget args 2)) (fun q0 q1 => kf (lget [.tup [.agg (Cod.enc api_RideC q0), .int .i64 q1]] 0, []))) (by kernel_rfl : r7Tick_run N args T kf = fnM E (r7ahead_cal N) (r7Tick_lp N) (r7Tick_jn N) 49 (r7Tick_sp.vs args) (r7Tick_sp.tab T) 0 (resK r7Tick_rs kf)))
def calls_begin_m {R : Type} (N : Nat) (a158 : api_Car) (k : calls_cage → Option R) : Option R :=
 k (calls_cage.mk a158 (api_Ride.mk (api_Car.Start a158) true false (0 : Int) (0 : Int) (0 : Int)))
noncomputable def calls_begin {R : Type} : Nat → api_Car → (calls_cage → Option R) → Option R := lock (@calls_begin_m R)
theorem calls_begin_def {R : Type} (N : Nat) (a158 : api_Car) (k : calls_cage → Option R) : calls_begin N a158 k = calls_begin_m N a158 k := by unfold calls_begin; rw [lock_eq]
def calls_begin_sp : Sp := ⟨[rAgg api_CarC], []⟩
theorem calls_begin_sp_ok : calls_begin_sp.Ok := ⟨(allCons (rAgg_ok api_CarC_ok api_CarC_len) allNil), eNil⟩
def calls_begin_rs : Sp := ⟨[rPtr 0 0], [(0, eBlkC calls_cageC)]⟩
theorem calls_begin_rs_ok : calls_begin_rs.Ok := ⟨(allCons (rPtr_ok 0 0) allNil), (eCons (eBlkC_ok calls_cageC_ok calls_cageC_len) eNil)⟩
def calls_begin_run {R : Type} (N : Nat) (args : List SV) (T : Tab) (kf : SV × Tab → Option R) : Option R :=
  calls_begin_m N (Cod.dec api_CarC (lget (toCs (lget args 0)))) (fun q0 => kf (lget [.ptr 0 0] 0, [(0, .blk (Cod.enc calls_cageC q0))]))
def calls_begin_lp {R : Type} (N : Nat) : Lp R := fun body S k => Option.none
noncomputable def calls_begin_go {R : Type} (N : Nat) (args : List SV) (T : Tab) (kf : SV × Tab → Option R) : Option R :=
  calls_begin N (Cod.dec api_CarC (lget (toCs (lget args 0)))) (fun q0 => kf (lget [.ptr 0 0] 0, [(0, .blk (Cod.enc calls_cageC q0))]))
noncomputable def calls_begin_cal {R : Type} (N : Nat) : Cal R := callM (r7Tick_cal N) 46 0 calls_begin_sp (calls_begin_go N)
theorem calls_begin_cal_ok {R : Type} (N : Nat) : CalOk E.P (calls_begin_cal (R := R) N) :=
  callM_ok hE (r7Tick_cal_ok N) (lp := calls_begin_lp N) (jn := noJn) (keys := []) kNil (by kernel_rfl) (js := []) jNil (by kernel_rfl) calls_begin_sp_ok calls_begin_rs_ok (fun args T kf => Eq.trans (calls_begin_def N (Cod.dec api_CarC (lget (toCs (lget args 0)))) (fun q0 => kf (lget [.ptr 0 0] 0, [(0, .blk (Cod.enc calls_cageC q0))]))) (by kernel_rfl : calls_begin_run N args T kf = fnM E (r7Tick_cal N) (calls_begin_lp N) (noJn) 46 (calls_begin_sp.vs args) (calls_begin_sp.tab T) 0 (resK calls_begin_rs kf)))
def calls_Waits_1_m {R : Type} (N : Nat) (a176 : Int) (k : Bool → Option R) : Option R :=
 k true
noncomputable def calls_Waits_1 {R : Type} : Nat → Int → (Bool → Option R) → Option R := lock (@calls_Waits_1_m R)
theorem calls_Waits_1_def {R : Type} (N : Nat) (a176 : Int) (k : Bool → Option R) : calls_Waits_1 N a176 k = calls_Waits_1_m N a176 k := by unfold calls_Waits_1; rw [lock_eq]
def calls_Waits_1_sp : Sp := ⟨[rInt .i64], []⟩
theorem calls_Waits_1_sp_ok : calls_Waits_1_sp.Ok := ⟨(allCons (rInt_ok .i64) allNil), eNil⟩
def calls_Waits_1_rs : Sp := ⟨[rBool], []⟩
theorem calls_Waits_1_rs_ok : calls_Waits_1_rs.Ok := ⟨(allCons rBool_ok allNil), eNil⟩
def calls_Waits_1_run {R : Type} (N : Nat) (args : List SV) (T : Tab) (kf : SV × Tab → Option R) : Option R :=
  calls_Waits_1_m N (toI (lget args 0)) (fun q0 => kf (lget [.bool q0] 0, []))
def calls_Waits_1_lp {R : Type} (N : Nat) : Lp R := fun body S k => Option.none
noncomputable def calls_Waits_1_go {R : Type} (N : Nat) (args : List SV) (T : Tab) (kf : SV × Tab → Option R) : Option R :=
  calls_Waits_1 N (toI (lget args 0)) (fun q0 => kf (lget [.bool q0] 0, []))
noncomputable def calls_Waits_1_cal {R : Type} (N : Nat) : Cal R := callM (calls_begin_cal N) 52 0 calls_Waits_1_sp (calls_Waits_1_go N)
theorem calls_Waits_1_cal_ok {R : Type} (N : Nat) : CalOk E.P (calls_Waits_1_cal (R := R) N) :=
  callM_ok hE (calls_begin_cal_ok N) (lp := calls_Waits_1_lp N) (jn := noJn) (keys := []) kNil (by kernel_rfl) (js := []) jNil (by kernel_rfl) calls_Waits_1_sp_ok calls_Waits_1_rs_ok (fun args T kf => Eq.trans (calls_Waits_1_def N (toI (lget args 0)) (fun q0 => kf (lget [.bool q0] 0, []))) (by kernel_rfl : calls_Waits_1_run N args T kf = fnM E (calls_begin_cal N) (calls_Waits_1_lp N) (noJn) 52 (calls_Waits_1_sp.vs args) (calls_Waits_1_sp.tab T) 0 (resK calls_Waits_1_rs kf)))
def calls_cage_end_m {R : Type} (N : Nat) (a184 : calls_cage) (k : calls_cage → Option R) : Option R :=
 bif api_Ride.Doing (calls_cage.Ride a184) == (0 : Int) then
 k a184
 else
 bif decide (w64 (api_Ride.Left (calls_cage.Ride a184) - (1 : Int)) > (0 : Int)) then
 k (calls_cage.mk (calls_cage.Car a184) (api_Ride.mk (api_Ride.Floor (calls_cage.Ride a184)) (api_Ride.Up (calls_cage.Ride a184)) (api_Ride.Stood (calls_cage.Ride a184)) (api_Ride.Doing (calls_cage.Ride a184)) (w64 (api_Ride.Left (calls_cage.Ride a184) - (1 : Int))) (api_Ride.Wants (calls_cage.Ride a184))))
 else
 bif api_Ride.Doing (calls_cage.Ride a184) == (1 : Int) then
 bif api_Ride.Up (calls_cage.Ride a184) then
 k (calls_cage.mk (calls_cage.Car a184) (api_Ride.mk (w64 (api_Ride.Floor (calls_cage.Ride a184) + (1 : Int))) (api_Ride.Up (calls_cage.Ride a184)) false (0 : Int) (w64 (api_Ride.Left (calls_cage.Ride a184) - (1 : Int))) (api_Ride.Wants (calls_cage.Ride a184))))
 else
 k (calls_cage.mk (calls_cage.Car a184) (api_Ride.mk (w64 (api_Ride.Floor (calls_cage.Ride a184) - (1 : Int))) (api_Ride.Up (calls_cage.Ride a184)) false (0 : Int) (w64 (api_Ride.Left (calls_cage.Ride a184) - (1 : Int))) (api_Ride.Wants (calls_cage.Ride a184))))
 else
 k (calls_cage.mk (calls_cage.Car a184) (api_Ride.mk (api_Ride.Floor (calls_cage.Ride a184)) (api_Ride.Up (calls_cage.Ride a184)) (api_Ride.Stood (calls_cage.Ride a184)) (0 : Int) (w64 (api_Ride.Left (calls_cage.Ride a184) - (1 : Int))) (api_Ride.Wants (calls_cage.Ride a184))))
noncomputable def calls_cage_end {R : Type} : Nat → calls_cage → (calls_cage → Option R) → Option R := lock (@calls_cage_end_m R)
theorem calls_cage_end_def {R : Type} (N : Nat) (a184 : calls_cage) (k : calls_cage → Option R) : calls_cage_end N a184 k = calls_cage_end_m N a184 k := by unfold calls_cage_end; rw [lock_eq]
def calls_cage_end_sp : Sp := ⟨[rPtr 0 0], [(0, eBlkC calls_cageC)]⟩
theorem calls_cage_end_sp_ok : calls_cage_end_sp.Ok := ⟨(allCons (rPtr_ok 0 0) allNil), (eCons (eBlkC_ok calls_cageC_ok calls_cageC_len) eNil)⟩
def calls_cage_end_rs : Sp := ⟨[rTup []], [(0, eBlkC calls_cageC)]⟩
theorem calls_cage_end_rs_ok : calls_cage_end_rs.Ok := ⟨(allCons (rTup_ok allNil) allNil), (eCons (eBlkC_ok calls_cageC_ok calls_cageC_len) eNil)⟩
def calls_cage_end_run {R : Type} (N : Nat) (args : List SV) (T : Tab) (kf : SV × Tab → Option R) : Option R :=
  calls_cage_end_m N (Cod.dec calls_cageC (lget (entCs (entAt T 0)))) (fun q0 => kf (lget [.tup []] 0, [(0, .blk (Cod.enc calls_cageC q0))]))
def calls_cage_end_lp {R : Type} (N : Nat) : Lp R := fun body S k => Option.none
noncomputable def calls_cage_end_go {R : Type} (N : Nat) (args : List SV) (T : Tab) (kf : SV × Tab → Option R) : Option R :=
  calls_cage_end N (Cod.dec calls_cageC (lget (entCs (entAt T 0)))) (fun q0 => kf (lget [.tup []] 0, [(0, .blk (Cod.enc calls_cageC q0))]))
noncomputable def calls_cage_end_cal {R : Type} (N : Nat) : Cal R := callM (calls_Waits_1_cal N) 70 1 calls_cage_end_sp (calls_cage_end_go N)
theorem calls_cage_end_cal_ok {R : Type} (N : Nat) : CalOk E.P (calls_cage_end_cal (R := R) N) :=
  callM_ok hE (calls_Waits_1_cal_ok N) (lp := calls_cage_end_lp N) (jn := noJn) (keys := []) kNil (by kernel_rfl) (js := []) jNil (by kernel_rfl) calls_cage_end_sp_ok calls_cage_end_rs_ok (fun args T kf => Eq.trans (calls_cage_end_def N (Cod.dec calls_cageC (lget (entCs (entAt T 0)))) (fun q0 => kf (lget [.tup []] 0, [(0, .blk (Cod.enc calls_cageC q0))]))) (by kernel_rfl : calls_cage_end_run N args T kf = fnM E (calls_Waits_1_cal N) (calls_cage_end_lp N) (noJn) 70 (calls_cage_end_sp.vs args) (calls_cage_end_sp.tab T) 1 (resK calls_cage_end_rs kf)))
def calls_cage_press_m {R : Type} (N : Nat) (a191 : Int) (a192 : calls_cage) (k : Bool → calls_cage → Option R) : Option R :=
 bif api_Ride.Doing (calls_cage.Ride a192) == (2 : Int) then
 bif a191 == api_Ride.Floor (calls_cage.Ride a192) then
 k true a192
 else
 bif decide (a191 < (0 : Int)) then
 Option.none
 else
 k false (calls_cage.mk (calls_cage.Car a192) (api_Ride.mk (api_Ride.Floor (calls_cage.Ride a192)) (api_Ride.Up (calls_cage.Ride a192)) (api_Ride.Stood (calls_cage.Ride a192)) (api_Ride.Doing (calls_cage.Ride a192)) (api_Ride.Left (calls_cage.Ride a192)) (w64 (↑(BitVec.toNat (BitVec.ofInt (IntKind.bits IntKind.i64) (api_Ride.Wants (calls_cage.Ride a192)) ||| BitVec.ofInt (IntKind.bits IntKind.i64) (w64 ((1 : Int) * (2 : Int) ^ min (Int.toNat a191) (IntKind.bits IntKind.i64))))) : Int))))
 else
 bif decide (a191 < (0 : Int)) then
 Option.none
 else
 k false (calls_cage.mk (calls_cage.Car a192) (api_Ride.mk (api_Ride.Floor (calls_cage.Ride a192)) (api_Ride.Up (calls_cage.Ride a192)) (api_Ride.Stood (calls_cage.Ride a192)) (api_Ride.Doing (calls_cage.Ride a192)) (api_Ride.Left (calls_cage.Ride a192)) (w64 (↑(BitVec.toNat (BitVec.ofInt (IntKind.bits IntKind.i64) (api_Ride.Wants (calls_cage.Ride a192)) ||| BitVec.ofInt (IntKind.bits IntKind.i64) (w64 ((1 : Int) * (2 : Int) ^ min (Int.toNat a191) (IntKind.bits IntKind.i64))))) : Int))))
noncomputable def calls_cage_press {R : Type} : Nat → Int → calls_cage → (Bool → calls_cage → Option R) → Option R := lock (@calls_cage_press_m R)
theorem calls_cage_press_def {R : Type} (N : Nat) (a191 : Int) (a192 : calls_cage) (k : Bool → calls_cage → Option R) : calls_cage_press N a191 a192 k = calls_cage_press_m N a191 a192 k := by unfold calls_cage_press; rw [lock_eq]
def calls_cage_press_sp : Sp := ⟨[rPtr 0 0, rInt .i64], [(0, eBlkC calls_cageC)]⟩
theorem calls_cage_press_sp_ok : calls_cage_press_sp.Ok := ⟨(allCons (rPtr_ok 0 0) (allCons (rInt_ok .i64) allNil)), (eCons (eBlkC_ok calls_cageC_ok calls_cageC_len) eNil)⟩
def calls_cage_press_rs : Sp := ⟨[rBool], [(0, eBlkC calls_cageC)]⟩
theorem calls_cage_press_rs_ok : calls_cage_press_rs.Ok := ⟨(allCons rBool_ok allNil), (eCons (eBlkC_ok calls_cageC_ok calls_cageC_len) eNil)⟩
def calls_cage_press_run {R : Type} (N : Nat) (args : List SV) (T : Tab) (kf : SV × Tab → Option R) : Option R :=
  calls_cage_press_m N (toI (lget args 1)) (Cod.dec calls_cageC (lget (entCs (entAt T 0)))) (fun q0 q1 => kf (lget [.bool q0] 0, [(0, .blk (Cod.enc calls_cageC q1))]))
def calls_cage_press_lp {R : Type} (N : Nat) : Lp R := fun body S k => Option.none
noncomputable def calls_cage_press_go {R : Type} (N : Nat) (args : List SV) (T : Tab) (kf : SV × Tab → Option R) : Option R :=
  calls_cage_press N (toI (lget args 1)) (Cod.dec calls_cageC (lget (entCs (entAt T 0)))) (fun q0 q1 => kf (lget [.bool q0] 0, [(0, .blk (Cod.enc calls_cageC q1))]))
noncomputable def calls_cage_press_cal {R : Type} (N : Nat) : Cal R := callM (calls_cage_end_cal N) 71 1 calls_cage_press_sp (calls_cage_press_go N)
theorem calls_cage_press_cal_ok {R : Type} (N : Nat) : CalOk E.P (calls_cage_press_cal (R := R) N) :=
  callM_ok hE (calls_cage_end_cal_ok N) (lp := calls_cage_press_lp N) (jn := noJn) (keys := []) kNil (by kernel_rfl) (js := []) jNil (by kernel_rfl) calls_cage_press_sp_ok calls_cage_press_rs_ok (fun args T kf => Eq.trans (calls_cage_press_def N (toI (lget args 1)) (Cod.dec calls_cageC (lget (entCs (entAt T 0)))) (fun q0 q1 => kf (lget [.bool q0] 0, [(0, .blk (Cod.enc calls_cageC q1))]))) (by kernel_rfl : calls_cage_press_run N args T kf = fnM E (calls_cage_end_cal N) (calls_cage_press_lp N) (noJn) 71 (calls_cage_press_sp.vs args) (calls_cage_press_sp.tab T) 1 (resK calls_cage_press_rs kf)))
def calls_cage_ahead_m {R : Type} (N : Nat) (a198 : calls_cage) (k : Int → Option R) : Option R :=
 bif decide (api_Ride.Floor (calls_cage.Ride a198) < (0 : Int)) then
 Option.none
 else
 bif api_Ride.Up (calls_cage.Ride a198) then
 bif decide (api_Ride.Floor (calls_cage.Ride a198) < (0 : Int)) then
 Option.none
 else
 k (w64 (↑(BitVec.toNat (BitVec.ofInt (IntKind.bits IntKind.i64) (if IntKind.signed IntKind.i64 = true then (-1 : Int) else IntKind.max IntKind.i64) ^^^ BitVec.ofInt (IntKind.bits IntKind.i64) (w64 (↑(BitVec.toNat (BitVec.ofInt (IntKind.bits IntKind.i64) (w64 (w64 ((1 : Int) * (2 : Int) ^ min (Int.toNat (api_Ride.Floor (calls_cage.Ride a198))) (IntKind.bits IntKind.i64)) - (1 : Int))) ||| BitVec.ofInt (IntKind.bits IntKind.i64) (w64 ((1 : Int) * (2 : Int) ^ min (Int.toNat (api_Ride.Floor (calls_cage.Ride a198))) (IntKind.bits IntKind.i64))))) : Int)))) : Int))
 else
 k (w64 (w64 ((1 : Int) * (2 : Int) ^ min (Int.toNat (api_Ride.Floor (calls_cage.Ride a198))) (IntKind.bits IntKind.i64)) - (1 : Int)))
noncomputable def calls_cage_ahead {R : Type} : Nat → calls_cage → (Int → Option R) → Option R := lock (@calls_cage_ahead_m R)
theorem calls_cage_ahead_def {R : Type} (N : Nat) (a198 : calls_cage) (k : Int → Option R) : calls_cage_ahead N a198 k = calls_cage_ahead_m N a198 k := by unfold calls_cage_ahead; rw [lock_eq]
def calls_cage_ahead_sp : Sp := ⟨[rEptr calls_cageC], []⟩
theorem calls_cage_ahead_sp_ok : calls_cage_ahead_sp.Ok := ⟨(allCons (rEptr_ok calls_cageC_ok) allNil), eNil⟩
def calls_cage_ahead_rs : Sp := ⟨[rInt .i64], []⟩
theorem calls_cage_ahead_rs_ok : calls_cage_ahead_rs.Ok := ⟨(allCons (rInt_ok .i64) allNil), eNil⟩
def calls_cage_ahead_run {R : Type} (N : Nat) (args : List SV) (T : Tab) (kf : SV × Tab → Option R) : Option R :=
  calls_cage_ahead_m N (Cod.dec calls_cageC (toE (lget args 0))) (fun q0 => kf (lget [.int .i64 q0] 0, []))
def calls_cage_ahead_lp {R : Type} (N : Nat) : Lp R := fun body S k => Option.none
noncomputable def calls_cage_ahead_go {R : Type} (N : Nat) (args : List SV) (T : Tab) (kf : SV × Tab → Option R) : Option R :=
  calls_cage_ahead N (Cod.dec calls_cageC (toE (lget args 0))) (fun q0 => kf (lget [.int .i64 q0] 0, []))
noncomputable def calls_cage_ahead_cal {R : Type} (N : Nat) : Cal R := callM (calls_cage_press_cal N) 73 0 calls_cage_ahead_sp (calls_cage_ahead_go N)
theorem calls_cage_ahead_cal_ok {R : Type} (N : Nat) : CalOk E.P (calls_cage_ahead_cal (R := R) N) :=
  callM_ok hE (calls_cage_press_cal_ok N) (lp := calls_cage_ahead_lp N) (jn := noJn) (keys := []) kNil (by kernel_rfl) (js := []) jNil (by kernel_rfl) calls_cage_ahead_sp_ok calls_cage_ahead_rs_ok (fun args T kf => Eq.trans (calls_cage_ahead_def N (Cod.dec calls_cageC (toE (lget args 0))) (fun q0 => kf (lget [.int .i64 q0] 0, []))) (by kernel_rfl : calls_cage_ahead_run N args T kf = fnM E (calls_cage_press_cal N) (calls_cage_ahead_lp N) (noJn) 73 (calls_cage_ahead_sp.vs args) (calls_cage_ahead_sp.tab T) 0 (resK calls_cage_ahead_rs kf)))
def calls_cage_begins_m {R : Type} (N : Nat) (a197 : calls_cage) (k : Bool → calls_cage → Option R) : Option R :=
 bif api_Ride.Doing (calls_cage.Ride a197) != (0 : Int) then
 k false a197
 else
 bif api_Ride.Wants (calls_cage.Ride a197) == (0 : Int) then
 k false a197
 else
 bif decide (api_Ride.Floor (calls_cage.Ride a197) < (0 : Int)) then
 Option.none
 else
 bif w64 (↑(BitVec.toNat (BitVec.ofInt (IntKind.bits IntKind.i64) (api_Ride.Wants (calls_cage.Ride a197)) &&& BitVec.ofInt (IntKind.bits IntKind.i64) (w64 ((1 : Int) * (2 : Int) ^ min (Int.toNat (api_Ride.Floor (calls_cage.Ride a197))) (IntKind.bits IntKind.i64))))) : Int) != (0 : Int) then
 bif !api_Ride.Stood (calls_cage.Ride a197) then
 k true (calls_cage.mk (calls_cage.Car a197) (api_Ride.mk (api_Ride.Floor (calls_cage.Ride a197)) (api_Ride.Up (calls_cage.Ride a197)) true (2 : Int) (api_Car.Stop (calls_cage.Car a197)) (w64 (↑(BitVec.toNat (BitVec.ofInt (IntKind.bits IntKind.i64) (api_Ride.Wants (calls_cage.Ride a197)) &&& ~~~BitVec.ofInt (IntKind.bits IntKind.i64) (w64 ((1 : Int) * (2 : Int) ^ min (Int.toNat (api_Ride.Floor (calls_cage.Ride a197))) (IntKind.bits IntKind.i64))))) : Int))))
 else
 bif api_Ride.Wants (calls_cage.Ride a197) == w64 ((1 : Int) * (2 : Int) ^ min (Int.toNat (api_Ride.Floor (calls_cage.Ride a197))) (IntKind.bits IntKind.i64)) then
 k true (calls_cage.mk (calls_cage.Car a197) (api_Ride.mk (api_Ride.Floor (calls_cage.Ride a197)) (api_Ride.Up (calls_cage.Ride a197)) true (2 : Int) (api_Car.Stop (calls_cage.Car a197)) (w64 (↑(BitVec.toNat (BitVec.ofInt (IntKind.bits IntKind.i64) (api_Ride.Wants (calls_cage.Ride a197)) &&& ~~~BitVec.ofInt (IntKind.bits IntKind.i64) (w64 ((1 : Int) * (2 : Int) ^ min (Int.toNat (api_Ride.Floor (calls_cage.Ride a197))) (IntKind.bits IntKind.i64))))) : Int))))
 else
 calls_cage_ahead N a197 (fun r199 =>
 bif w64 (↑(BitVec.toNat (BitVec.ofInt (IntKind.bits IntKind.i64) (api_Ride.Wants (calls_cage.Ride a197)) &&& BitVec.ofInt (IntKind.bits IntKind.i64) r199)) : Int) == (0 : Int) then
 k false (calls_cage.mk (calls_cage.Car a197) (api_Ride.mk (api_Ride.Floor (calls_cage.Ride a197)) (!api_Ride.Up (calls_cage.Ride a197)) (api_Ride.Stood (calls_cage.Ride a197)) (1 : Int) (api_Car.Move (calls_cage.Car a197)) (api_Ride.Wants (calls_cage.Ride a197))))
 else
 k false (calls_cage.mk (calls_cage.Car a197) (api_Ride.mk (api_Ride.Floor (calls_cage.Ride a197)) (api_Ride.Up (calls_cage.Ride a197)) (api_Ride.Stood (calls_cage.Ride a197)) (1 : Int) (api_Car.Move (calls_cage.Car a197)) (api_Ride.Wants (calls_cage.Ride a197)))))
 else
 calls_cage_ahead N a197 (fun r200 =>
 bif w64 (↑(BitVec.toNat (BitVec.ofInt (IntKind.bits IntKind.i64) (api_Ride.Wants (calls_cage.Ride a197)) &&& BitVec.ofInt (IntKind.bits IntKind.i64) r200)) : Int) == (0 : Int) then
 k false (calls_cage.mk (calls_cage.Car a197) (api_Ride.mk (api_Ride.Floor (calls_cage.Ride a197)) (!api_Ride.Up (calls_cage.Ride a197)) (api_Ride.Stood (calls_cage.Ride a197)) (1 : Int) (api_Car.Move (calls_cage.Car a197)) (api_Ride.Wants (calls_cage.Ride a197))))
 else
 k false (calls_cage.mk (calls_cage.Car a197) (api_Ride.mk (api_Ride.Floor (calls_cage.Ride a197)) (api_Ride.Up (calls_cage.Ride a197)) (api_Ride.Stood (calls_cage.Ride a197)) (1 : Int) (api_Car.Move (calls_cage.Car a197)) (api_Ride.Wants (calls_cage.Ride a197)))))
noncomputable def calls_cage_begins {R : Type} : Nat → calls_cage → (Bool → calls_cage → Option R) → Option R := lock (@calls_cage_begins_m R)
theorem calls_cage_begins_def {R : Type} (N : Nat) (a197 : calls_cage) (k : Bool → calls_cage → Option R) : calls_cage_begins N a197 k = calls_cage_begins_m N a197 k := by unfold calls_cage_begins; rw [lock_eq]
def calls_cage_begins_sp : Sp := ⟨[rPtr 0 0], [(0, eBlkC calls_cageC)]⟩
theorem calls_cage_begins_sp_ok : calls_cage_begins_sp.Ok := ⟨(allCons (rPtr_ok 0 0) allNil), (eCons (eBlkC_ok calls_cageC_ok calls_cageC_len) eNil)⟩
def calls_cage_begins_rs : Sp := ⟨[rBool], [(0, eBlkC calls_cageC)]⟩
theorem calls_cage_begins_rs_ok : calls_cage_begins_rs.Ok := ⟨(allCons rBool_ok allNil), (eCons (eBlkC_ok calls_cageC_ok calls_cageC_len) eNil)⟩
def calls_cage_begins_run {R : Type} (N : Nat) (args : List SV) (T : Tab) (kf : SV × Tab → Option R) : Option R :=
  calls_cage_begins_m N (Cod.dec calls_cageC (lget (entCs (entAt T 0)))) (fun q0 q1 => kf (lget [.bool q0] 0, [(0, .blk (Cod.enc calls_cageC q1))]))
def calls_cage_begins_lp {R : Type} (N : Nat) : Lp R := fun body S k => Option.none
noncomputable def calls_cage_begins_go {R : Type} (N : Nat) (args : List SV) (T : Tab) (kf : SV × Tab → Option R) : Option R :=
  calls_cage_begins N (Cod.dec calls_cageC (lget (entCs (entAt T 0)))) (fun q0 q1 => kf (lget [.bool q0] 0, [(0, .blk (Cod.enc calls_cageC q1))]))
noncomputable def calls_cage_begins_cal {R : Type} (N : Nat) : Cal R := callM (calls_cage_ahead_cal N) 72 1 calls_cage_begins_sp (calls_cage_begins_go N)
theorem calls_cage_begins_cal_ok {R : Type} (N : Nat) : CalOk E.P (calls_cage_begins_cal (R := R) N) :=
  callM_ok hE (calls_cage_ahead_cal_ok N) (lp := calls_cage_begins_lp N) (jn := noJn) (keys := []) kNil (by kernel_rfl) (js := []) jNil (by kernel_rfl) calls_cage_begins_sp_ok calls_cage_begins_rs_ok (fun args T kf => Eq.trans (calls_cage_begins_def N (Cod.dec calls_cageC (lget (entCs (entAt T 0)))) (fun q0 q1 => kf (lget [.bool q0] 0, [(0, .blk (Cod.enc calls_cageC q1))]))) (by kernel_rfl : calls_cage_begins_run N args T kf = fnM E (calls_cage_ahead_cal N) (calls_cage_begins_lp N) (noJn) 72 (calls_cage_begins_sp.vs args) (calls_cage_begins_sp.tab T) 1 (resK calls_cage_begins_rs kf)))
def calls_cage_tick_L3 : LoopSp := ⟨⟨[0, 4, 9, 10, 11], ⟨((rPtr 0 0) :: (dr 3 ((rInt .i64) :: (dr 4 ((rSl intC) :: (rInt .i64) :: (rInt .i64) :: (dr 22 [])))))), [(0, eBlkC calls_cageC)]⟩, 1⟩, [(some 0, ⟨[0, 4], ⟨((rPtr 0 0) :: (dr 3 ((rInt .i64) :: (dr 29 [])))), [(0, eBlkC calls_cageC)]⟩, 1⟩)]⟩
theorem calls_cage_tick_L3_ok : calls_cage_tick_L3.Ok := ⟨⟨(allCons (rPtr_ok 0 0) (drCons 3 (allCons (rInt_ok .i64) (drCons 4 (allCons (rSl_ok intC_ok) (allCons (rInt_ok .i64) (allCons (rInt_ok .i64) (drCons 22 allNil)))))))), (eCons (eBlkC_ok calls_cageC_ok calls_cageC_len) eNil)⟩, (xCons ⟨(allCons (rPtr_ok 0 0) (drCons 3 (allCons (rInt_ok .i64) (drCons 29 allNil)))), (eCons (eBlkC_ok calls_cageC_ok calls_cageC_len) eNil)⟩ xNil)⟩
def calls_cage_tick_h3 (v186 : Int) (v187 : Arr Int) (v188 : Int) (v189 : Int) (v190 : calls_cage) : St := ⟨((.ptr 0 0) :: (un 3 ((.int .i64 v186) :: (un 4 ((slC intC v187) :: (.int .i64 v188) :: (.int .i64 v189) :: (un 22 [])))))), [(0, .blk (Cod.enc calls_cageC v190))], 1⟩
def calls_cage_tick_x3_0 (q0 : Int) (q1 : calls_cage) : St := ⟨((.ptr 0 0) :: (un 3 ((.int .i64 q0) :: (un 29 [])))), [(0, .blk (Cod.enc calls_cageC q1))], 1⟩
def calls_cage_tick_b3 {R : Type} (N : Nat) (rc : Int → Arr Int → Int → Int → calls_cage → Option R) (v186 : Int) (v187 : Arr Int) (v188 : Int) (v189 : Int) (v190 : calls_cage) (k0 : Int → calls_cage → Option R) : Option R :=
 bif decide (v189 < v188) then
 bif decide ((0 : Int) ≤ v189) && decide (v189 < (↑(Arr.n v187) : Int)) then
 calls_cage_press N (Arr.f v187 (Int.toNat v189)) v190 (fun r193 r194 =>
 bif r193 then
 bif decide (Arr.f v187 (Int.toNat v189) < (0 : Int)) then
 Option.none
 else
 rc (w64 (↑(BitVec.toNat (BitVec.ofInt (IntKind.bits IntKind.i64) v186 ||| BitVec.ofInt (IntKind.bits IntKind.i64) (w64 ((1 : Int) * (2 : Int) ^ min (Int.toNat (Arr.f v187 (Int.toNat v189))) (IntKind.bits IntKind.i64))))) : Int)) v187 v188 (w64 (v189 + (1 : Int))) r194
 else
 rc v186 v187 v188 (w64 (v189 + (1 : Int))) r194)
 else
 Option.none
 else
 k0 v186 v190
def calls_cage_tick_l3 {R : Type} (N : Nat) : Nat → Int → Arr Int → Int → Int → calls_cage → (Int → calls_cage → Option R) → Option R
  | 0, _, _, _, _, _, _ => Option.none
  | n + 1, v186, v187, v188, v189, v190, k0 => calls_cage_tick_b3 N (fun v186 v187 v188 v189 v190 => calls_cage_tick_l3 N n v186 v187 v188 v189 v190 k0) v186 v187 v188 v189 v190 k0
def calls_cage_tick_m {R : Type} (N : Nat) (a182 : Arr Int) (a183 : calls_cage) (k : Int → calls_cage → Option R) : Option R :=
 calls_cage_end N a183 (fun r185 =>
 calls_cage_tick_l3 N N (0 : Int) a182 ((↑(Arr.n a182) : Int)) (0 : Int) r185 (fun r195 r196 =>
 calls_cage_begins N r196 (fun r201 r202 =>
 bif r201 then
 bif decide (api_Ride.Floor (calls_cage.Ride r202) < (0 : Int)) then
 Option.none
 else
 k (w64 (↑(BitVec.toNat (BitVec.ofInt (IntKind.bits IntKind.i64) r195 ||| BitVec.ofInt (IntKind.bits IntKind.i64) (w64 ((1 : Int) * (2 : Int) ^ min (Int.toNat (api_Ride.Floor (calls_cage.Ride r202))) (IntKind.bits IntKind.i64))))) : Int)) r202
 else
 k r195 r202)))
noncomputable def calls_cage_tick {R : Type} : Nat → Arr Int → calls_cage → (Int → calls_cage → Option R) → Option R := lock (@calls_cage_tick_m R)
theorem calls_cage_tick_def {R : Type} (N : Nat) (a182 : Arr Int) (a183 : calls_cage) (k : Int → calls_cage → Option R) : calls_cage_tick N a182 a183 k = calls_cage_tick_m N a182 a183 k := by unfold calls_cage_tick; rw [lock_eq]
def calls_cage_tick_sp : Sp := ⟨[rPtr 0 0, rSl intC], [(0, eBlkC calls_cageC)]⟩
theorem calls_cage_tick_sp_ok : calls_cage_tick_sp.Ok := ⟨(allCons (rPtr_ok 0 0) (allCons (rSl_ok intC_ok) allNil)), (eCons (eBlkC_ok calls_cageC_ok calls_cageC_len) eNil)⟩
def calls_cage_tick_rs : Sp := ⟨[rInt .i64], [(0, eBlkC calls_cageC)]⟩
theorem calls_cage_tick_rs_ok : calls_cage_tick_rs.Ok := ⟨(allCons (rInt_ok .i64) allNil), (eCons (eBlkC_ok calls_cageC_ok calls_cageC_len) eNil)⟩
def calls_cage_tick_run {R : Type} (N : Nat) (args : List SV) (T : Tab) (kf : SV × Tab → Option R) : Option R :=
  calls_cage_tick_m N (lstC intC (lget args 1)) (Cod.dec calls_cageC (lget (entCs (entAt T 0)))) (fun q0 q1 => kf (lget [.int .i64 q0] 0, [(0, .blk (Cod.enc calls_cageC q1))]))
def calls_cage_tick_d3 {R : Type} (N : Nat) (S0 : St) (k : Exit → St → Option R) : Option R :=
  calls_cage_tick_l3 N N (toI (lget S0.tmps 4)) (lstC intC (lget S0.tmps 9)) (toI (lget S0.tmps 10)) (toI (lget S0.tmps 11)) (Cod.dec calls_cageC (lget (entCs (entAt S0.tab 0)))) (fun q0 q1 => k (.exit 0) (calls_cage_tick_x3_0 q0 q1))
def calls_cage_tick_lp {R : Type} (N : Nat) : Lp R := fun body S k => bif (Go.Sx.keyOf body).getD 0 == 3 then (calls_cage_tick_L3.head.raw 1 S (fun S0 => calls_cage_tick_d3 N S0 k)) else Option.none
theorem calls_cage_tick_l3_eq {R : Type} (N : Nat) (k : Exit → St → Option R) (n : Nat) : ∀ (v0 : Int) (v1 : Arr Int) (v2 : Int) (v3 : Int) (v4 : calls_cage), loopM E.Θ (calls_cage_begins_cal N) (calls_cage_tick_lp N) (noJn) 1 calls_cage_tick_L3 (bodyAt E 47 3) n (calls_cage_tick_h3 v0 v1 v2 v3 v4) k = calls_cage_tick_l3 N n v0 v1 v2 v3 v4 (fun q0 q1 => k (.exit 0) (calls_cage_tick_x3_0 q0 q1)) := by
  induction n with
  | zero => intro v0 v1 v2 v3 v4; rfl
  | succ n ih =>
    intro v0 v1 v2 v3 v4
    refine Eq.trans (b := calls_cage_tick_b3 N (fun v0 v1 v2 v3 v4 => loopM E.Θ (calls_cage_begins_cal N) (calls_cage_tick_lp N) (noJn) 1 calls_cage_tick_L3 (bodyAt E 47 3) n (calls_cage_tick_h3 v0 v1 v2 v3 v4) k) v0 v1 v2 v3 v4 (fun q0 q1 => k (.exit 0) (calls_cage_tick_x3_0 q0 q1))) (by kernel_rfl) ?_
    have h : (fun (v0 : Int) (v1 : Arr Int) (v2 : Int) (v3 : Int) (v4 : calls_cage) => loopM E.Θ (calls_cage_begins_cal N) (calls_cage_tick_lp N) (noJn) 1 calls_cage_tick_L3 (bodyAt E 47 3) n (calls_cage_tick_h3 v0 v1 v2 v3 v4) k) = (fun (v0 : Int) (v1 : Arr Int) (v2 : Int) (v3 : Int) (v4 : calls_cage) => calls_cage_tick_l3 N n v0 v1 v2 v3 v4 (fun q0 q1 => k (.exit 0) (calls_cage_tick_x3_0 q0 q1))) := funext fun v0 => funext fun v1 => funext fun v2 => funext fun v3 => funext fun v4 => ih v0 v1 v2 v3 v4
    rw [h]
    rfl
theorem calls_cage_tick_k3 {R : Type} (N : Nat) : LpKey (R := R) E 47 1 (calls_cage_tick_lp N) 3 :=
  lpKey_of hE (calls_cage_begins_cal_ok N) (lp := calls_cage_tick_lp N) (jn := noJn) calls_cage_tick_L3_ok [] kNil (by kernel_rfl) [] jNil (by kernel_rfl) N fun S k =>
    Eq.trans (b := calls_cage_tick_L3.head.raw 1 S (fun S0 => calls_cage_tick_d3 N S0 k)) (by kernel_rfl) (congrArg (calls_cage_tick_L3.head.raw 1 S) (funext fun S0 => Eq.trans (calls_cage_tick_l3_eq N k N (toI (lget S0.tmps 4)) (lstC intC (lget S0.tmps 9)) (toI (lget S0.tmps 10)) (toI (lget S0.tmps 11)) (Cod.dec calls_cageC (lget (entCs (entAt S0.tab 0))))).symm (by kernel_rfl)))
noncomputable def calls_cage_tick_go {R : Type} (N : Nat) (args : List SV) (T : Tab) (kf : SV × Tab → Option R) : Option R :=
  calls_cage_tick N (lstC intC (lget args 1)) (Cod.dec calls_cageC (lget (entCs (entAt T 0)))) (fun q0 q1 => kf (lget [.int .i64 q0] 0, [(0, .blk (Cod.enc calls_cageC q1))]))
noncomputable def calls_cage_tick_cal {R : Type} (N : Nat) : Cal R := callM (calls_cage_begins_cal N) 47 1 calls_cage_tick_sp (calls_cage_tick_go N)
theorem calls_cage_tick_cal_ok {R : Type} (N : Nat) : CalOk E.P (calls_cage_tick_cal (R := R) N) :=
  callM_ok hE (calls_cage_begins_cal_ok N) (lp := calls_cage_tick_lp N) (jn := noJn) (keys := [3]) (kCons (calls_cage_tick_k3 N) kNil) (by kernel_rfl) (js := []) jNil (by kernel_rfl) calls_cage_tick_sp_ok calls_cage_tick_rs_ok (fun args T kf => Eq.trans (calls_cage_tick_def N (lstC intC (lget args 1)) (Cod.dec calls_cageC (lget (entCs (entAt T 0)))) (fun q0 q1 => kf (lget [.int .i64 q0] 0, [(0, .blk (Cod.enc calls_cageC q1))]))) (by kernel_rfl : calls_cage_tick_run N args T kf = fnM E (calls_cage_begins_cal N) (calls_cage_tick_lp N) (noJn) 47 (calls_cage_tick_sp.vs args) (calls_cage_tick_sp.tab T) 1 (resK calls_cage_tick_rs kf)))
def calls_waits_L9 : LoopSp := ⟨⟨[1, 2, 7, 8, 9, 10, 11, 12], ⟨(dr 1 ((rSl api_PressC) :: (rFunc 52 0 []) :: (dr 4 ((rRow 0) :: (rRow 1) :: (rPtr 2 0) :: (rInt .i64) :: (rInt .i64) :: (rRow 3) :: (dr 102 []))))), [(0, eRow intC), (1, eFm .i64 intC), (2, eBlkC calls_cageC), (3, eRow intC)]⟩, 4⟩, [(some 2, ⟨[1, 2, 7, 8, 9, 10, 11, 12], ⟨(dr 1 ((rSl api_PressC) :: (rFunc 52 0 []) :: (dr 4 ((rRow 0) :: (rRow 1) :: (rPtr 2 0) :: (rInt .i64) :: (rInt .i64) :: (rRow 3) :: (dr 102 []))))), [(0, eRow intC), (1, eFm .i64 intC), (2, eBlkC calls_cageC), (3, eRow intC)]⟩, 4⟩)]⟩
theorem calls_waits_L9_ok : calls_waits_L9.Ok := ⟨⟨(drCons 1 (allCons (rSl_ok api_PressC_ok) (allCons (rFunc_ok 52 0 allNil) (drCons 4 (allCons (rRow_ok 0) (allCons (rRow_ok 1) (allCons (rPtr_ok 2 0) (allCons (rInt_ok .i64) (allCons (rInt_ok .i64) (allCons (rRow_ok 3) (drCons 102 allNil))))))))))), (eCons (eRow_ok intC_ok) (eCons (eFm_ok intC_ok) (eCons (eBlkC_ok calls_cageC_ok calls_cageC_len) (eCons (eRow_ok intC_ok) eNil))))⟩, (xCons ⟨(drCons 1 (allCons (rSl_ok api_PressC_ok) (allCons (rFunc_ok 52 0 allNil) (drCons 4 (allCons (rRow_ok 0) (allCons (rRow_ok 1) (allCons (rPtr_ok 2 0) (allCons (rInt_ok .i64) (allCons (rInt_ok .i64) (allCons (rRow_ok 3) (drCons 102 allNil))))))))))), (eCons (eRow_ok intC_ok) (eCons (eFm_ok intC_ok) (eCons (eBlkC_ok calls_cageC_ok calls_cageC_len) (eCons (eRow_ok intC_ok) eNil))))⟩ xNil)⟩
def calls_waits_h9 (v167 : Arr api_Press) (v168 : Int) (v169 : Int) (v170 : Bool) (v171 : Arr Int) (v172 : Fm Int) (v173 : calls_cage) (v174 : Bool) (v175 : Arr Int) : St := ⟨(un 1 ((slC api_PressC v167) :: (.func 52 0 []) :: (un 4 ((.row 0) :: (.row 1) :: (.ptr 2 0) :: (.int .i64 v168) :: (.int .i64 v169) :: (.row 3) :: (un 102 []))))), [(0, rowE intC v170 v171), (1, fmE .i64 intC v172), (2, .blk (Cod.enc calls_cageC v173)), (3, rowE intC v174 v175)], 4⟩
def calls_waits_x9_2 (v167 : Arr api_Press) (v169 : Int) (v170 : Bool) (v171 : Arr Int) (v173 : calls_cage) (q1 : Int) (q5 : Fm Int) (q7 : Bool) (q8 : Arr Int) : St := ⟨(un 1 ((slC api_PressC v167) :: (.func 52 0 []) :: (un 4 ((.row 0) :: (.row 1) :: (.ptr 2 0) :: (.int .i64 q1) :: (.int .i64 v169) :: (.row 3) :: (un 102 []))))), [(0, rowE intC v170 v171), (1, fmE .i64 intC q5), (2, .blk (Cod.enc calls_cageC v173)), (3, rowE intC q7 q8)], 4⟩
def calls_waits_b9 {R : Type} (N : Nat) (rc : Arr api_Press → Int → Int → Bool → Arr Int → Fm Int → calls_cage → Bool → Arr Int → Option R) (v167 : Arr api_Press) (v168 : Int) (v169 : Int) (v170 : Bool) (v171 : Arr Int) (v172 : Fm Int) (v173 : calls_cage) (v174 : Bool) (v175 : Arr Int) (k2 : Int → Fm Int → Bool → Arr Int → Option R) : Option R :=
 bif decide (v168 < (↑(Arr.n v167) : Int)) then
 bif decide ((0 : Int) ≤ v168) && decide (v168 < (↑(Arr.n v167) : Int)) then
 bif api_Press.At (Arr.f v167 (Int.toNat v168)) == v169 then
 calls_Waits_1 N v168 (fun r177 =>
 bif r177 then
 bif decide ((0 : Int) ≤ v168) && decide (v168 < (↑(Arr.n v167) : Int)) then
 bif decide ((0 : Int) ≤ v168) && decide (v168 < (↑(Arr.n v167) : Int)) then
 bif room (fmL v172 (api_Press.Floor (Arr.f v167 (Int.toNat v168))) + (1 : Nat)) then
 bif decide (api_Press.Floor (Arr.f v167 (Int.toNat v168)) = api_Press.Floor (Arr.f v167 (Int.toNat v168))) then
 bif decide ((0 : Int) ≤ v168) && decide (v168 < (↑(Arr.n v167) : Int)) then
 bif room (Arr.n v175 + (1 : Nat)) then
 rc v167 (w64 (v168 + (1 : Int))) v169 v170 v171 (fmD intC (fHs (api_Press.Floor (Arr.f v167 (Int.toNat v168))) (Fm.has v172)) (fLn (api_Press.Floor (Arr.f v167 (Int.toNat v168))) (fmL v172 (api_Press.Floor (Arr.f v167 (Int.toNat v168))) + (1 : Nat)) (fmL v172)) (fGt (api_Press.Floor (Arr.f v167 (Int.toNat v168))) (catC (fmL v172 (api_Press.Floor (Arr.f v167 (Int.toNat v168)))) (fmG intC v172 (api_Press.Floor (Arr.f v167 (Int.toNat v168)))) (litC [SV.int .i64 0] [[SV.int IntKind.i64 v168]])) (fmG intC v172))) v173 false (lst intC (Arr.n v175 + (1 : Nat)) (catC (Arr.n v175) (Cod.cell intC (Arr.f v175)) (litC [SV.int .i64 0] [[SV.int IntKind.i64 (api_Press.Floor (Arr.f v167 (Int.toNat v168)))]])))
 else
 Option.none
 else
 Option.none
 else
 Option.none
 else
 Option.none
 else
 Option.none
 else
 Option.none
 else
 rc v167 (w64 (v168 + (1 : Int))) v169 v170 v171 v172 v173 v174 v175)
 else
 k2 v168 v172 v174 v175
 else
 Option.none
 else
 k2 v168 v172 v174 v175
def calls_waits_l9 {R : Type} (N : Nat) : Nat → Arr api_Press → Int → Int → Bool → Arr Int → Fm Int → calls_cage → Bool → Arr Int → (Int → Fm Int → Bool → Arr Int → Option R) → Option R
  | 0, _, _, _, _, _, _, _, _, _, _ => Option.none
  | n + 1, v167, v168, v169, v170, v171, v172, v173, v174, v175, k2 => calls_waits_b9 N (fun v167 v168 v169 v170 v171 v172 v173 v174 v175 => calls_waits_l9 N n v167 v168 v169 v170 v171 v172 v173 v174 v175 k2) v167 v168 v169 v170 v171 v172 v173 v174 v175 k2
def calls_waits_L100000 : LoopSp := ⟨⟨[1, 2, 7, 8, 9, 10, 11, 13], ⟨(dr 1 ((rSl api_PressC) :: (rFunc 52 0 []) :: (dr 4 ((rRow 0) :: (rRow 1) :: (rPtr 2 0) :: (rInt .i64) :: (rInt .i64) :: (dr 1 ((rInt .i64) :: (dr 101 []))))))), [(0, eRow intC), (1, eFm .i64 intC), (2, eBlkC calls_cageC)]⟩, 3⟩, [(some 1000000, ⟨[1, 2, 7, 8, 9, 10, 11], ⟨(dr 1 ((rSl api_PressC) :: (rFunc 52 0 []) :: (dr 4 ((rRow 0) :: (rRow 1) :: (rPtr 2 0) :: (rInt .i64) :: (rInt .i64) :: (dr 103 []))))), [(0, eRow intC), (1, eFm .i64 intC), (2, eBlkC calls_cageC)]⟩, 5⟩)]⟩
theorem calls_waits_L100000_ok : calls_waits_L100000.Ok := ⟨⟨(drCons 1 (allCons (rSl_ok api_PressC_ok) (allCons (rFunc_ok 52 0 allNil) (drCons 4 (allCons (rRow_ok 0) (allCons (rRow_ok 1) (allCons (rPtr_ok 2 0) (allCons (rInt_ok .i64) (allCons (rInt_ok .i64) (drCons 1 (allCons (rInt_ok .i64) (drCons 101 allNil)))))))))))), (eCons (eRow_ok intC_ok) (eCons (eFm_ok intC_ok) (eCons (eBlkC_ok calls_cageC_ok calls_cageC_len) eNil)))⟩, (xCons ⟨(drCons 1 (allCons (rSl_ok api_PressC_ok) (allCons (rFunc_ok 52 0 allNil) (drCons 4 (allCons (rRow_ok 0) (allCons (rRow_ok 1) (allCons (rPtr_ok 2 0) (allCons (rInt_ok .i64) (allCons (rInt_ok .i64) (drCons 103 allNil)))))))))), (eCons (eRow_ok intC_ok) (eCons (eFm_ok intC_ok) (eCons (eBlkC_ok calls_cageC_ok calls_cageC_len) eNil)))⟩ xNil)⟩
def calls_waits_x100000_n (v205 : Arr api_Press) (v206 : Int) (v207 : Int) (v209 : Bool) (v212 : calls_cage) (q4 : Arr Int) (q5 : Fm Int) : St := ⟨(un 1 ((slC api_PressC v205) :: (.func 52 0 []) :: (un 4 ((.row 0) :: (.row 1) :: (.ptr 2 0) :: (.int .i64 v206) :: (.int .i64 v207) :: (un 103 []))))), [(0, rowE intC v209 q4), (1, fmE .i64 intC q5), (2, .blk (Cod.enc calls_cageC v212))], 5⟩
def calls_waits_j0_m {R : Type} (N : Nat) (v205 : Arr api_Press) (v206 : Int) (v207 : Int) (v208 : Int) (v209 : Bool) (v210 : Arr Int) (v211 : Fm Int) (v212 : calls_cage) (kn : Arr Int → Fm Int → Option R) : Option R :=
 waitsRound v205 v207 v208 v209 v210 v211 kn
noncomputable def calls_waits_j0 {R : Type} : Nat → Arr api_Press → Int → Int → Int → Bool → Arr Int → Fm Int → calls_cage → (Arr Int → Fm Int → Option R) → Option R := lock (@calls_waits_j0_m R)
theorem calls_waits_j0_def {R : Type} (N : Nat) (v205 : Arr api_Press) (v206 : Int) (v207 : Int) (v208 : Int) (v209 : Bool) (v210 : Arr Int) (v211 : Fm Int) (v212 : calls_cage) (kn : Arr Int → Fm Int → Option R) : calls_waits_j0 N v205 v206 v207 v208 v209 v210 v211 v212 kn = calls_waits_j0_m N v205 v206 v207 v208 v209 v210 v211 v212 kn := by unfold calls_waits_j0; rw [lock_eq]
def calls_waits_L6 : LoopSp := ⟨⟨[1, 2, 7, 8, 9, 10, 11], ⟨(dr 1 ((rSl api_PressC) :: (rFunc 52 0 []) :: (dr 4 ((rRow 0) :: (rRow 1) :: (rPtr 2 0) :: (rInt .i64) :: (rInt .i64) :: (dr 103 []))))), [(0, eRow intC), (1, eFm .i64 intC), (2, eBlkC calls_cageC)]⟩, 3⟩, [(some 0, ⟨[7], ⟨(dr 7 ((rRow 0) :: (dr 107 []))), [(0, eRow intC)]⟩, 1⟩)]⟩
theorem calls_waits_L6_ok : calls_waits_L6.Ok := ⟨⟨(drCons 1 (allCons (rSl_ok api_PressC_ok) (allCons (rFunc_ok 52 0 allNil) (drCons 4 (allCons (rRow_ok 0) (allCons (rRow_ok 1) (allCons (rPtr_ok 2 0) (allCons (rInt_ok .i64) (allCons (rInt_ok .i64) (drCons 103 allNil)))))))))), (eCons (eRow_ok intC_ok) (eCons (eFm_ok intC_ok) (eCons (eBlkC_ok calls_cageC_ok calls_cageC_len) eNil)))⟩, (xCons ⟨(drCons 7 (allCons (rRow_ok 0) (drCons 107 allNil))), (eCons (eRow_ok intC_ok) eNil)⟩ xNil)⟩
def calls_waits_h6 (v160 : Arr api_Press) (v161 : Int) (v162 : Int) (v163 : Bool) (v164 : Arr Int) (v165 : Fm Int) (v166 : calls_cage) : St := ⟨(un 1 ((slC api_PressC v160) :: (.func 52 0 []) :: (un 4 ((.row 0) :: (.row 1) :: (.ptr 2 0) :: (.int .i64 v161) :: (.int .i64 v162) :: (un 103 []))))), [(0, rowE intC v163 v164), (1, fmE .i64 intC v165), (2, .blk (Cod.enc calls_cageC v166))], 3⟩
def calls_waits_x6_0 (v163 : Bool) (q1 : Arr Int) : St := ⟨(un 7 ((.row 0) :: (un 107 []))), [(0, rowE intC v163 q1)], 1⟩
def calls_waits_b6 {R : Type} (N : Nat) (rc : Arr api_Press → Int → Int → Bool → Arr Int → Fm Int → calls_cage → Option R) (v160 : Arr api_Press) (v161 : Int) (v162 : Int) (v163 : Bool) (v164 : Arr Int) (v165 : Fm Int) (v166 : calls_cage) (k0 : Arr Int → Option R) : Option R :=
 bif decide (v161 < (↑(Arr.n v160) : Int)) then
 calls_waits_l9 N N v160 v161 v162 v163 v164 v165 v166 true (lst intC (0 : Nat) (zeroC [SV.int .i64 0])) (fun r178 r179 r180 r181 =>
 calls_cage_tick N r181 v166 (fun r203 r204 =>
 calls_waits_j0 N v160 r178 v162 r203 v163 v164 r179 r204 (fun r213 r214 =>
 rc v160 r178 (w64 (v162 + (1 : Int))) v163 r213 r214 r204)))
 else
 bif api_Ride.Wants (calls_cage.Ride v166) != (0 : Int) then
 calls_waits_l9 N N v160 v161 v162 v163 v164 v165 v166 true (lst intC (0 : Nat) (zeroC [SV.int .i64 0])) (fun r215 r216 r217 r218 =>
 calls_cage_tick N r218 v166 (fun r219 r220 =>
 calls_waits_j0 N v160 r215 v162 r219 v163 v164 r216 r220 (fun r221 r222 =>
 rc v160 r215 (w64 (v162 + (1 : Int))) v163 r221 r222 r220)))
 else
 k0 v164
def calls_waits_l6 {R : Type} (N : Nat) : Nat → Arr api_Press → Int → Int → Bool → Arr Int → Fm Int → calls_cage → (Arr Int → Option R) → Option R
  | 0, _, _, _, _, _, _, _, _ => Option.none
  | n + 1, v160, v161, v162, v163, v164, v165, v166, k0 => calls_waits_b6 N (fun v160 v161 v162 v163 v164 v165 v166 => calls_waits_l6 N n v160 v161 v162 v163 v164 v165 v166 k0) v160 v161 v162 v163 v164 v165 v166 k0
def calls_waits_m {R : Type} (N : Nat) (a156 : api_Car) (a157 : Arr api_Press) (k : Bool → Arr Int → Option R) : Option R :=
 bif decide ((↑(Arr.n a157) : Int) ≤ (↑(Arr.n a157) : Int)) && decide ((↑(Arr.n a157) : Int) ≤ (1073741824 : Int)) then
 calls_begin N a156 (fun r159 =>
 calls_waits_l6 N N a157 (0 : Int) (0 : Int) false (lst intC (Int.toNat (↑(Arr.n a157) : Int)) (zeroC [SV.int .i64 0])) (fmD intC noHs noLn (noGt [SV.int .i64 0])) r159 (fun r223 =>
 k false r223))
 else
 Option.none
noncomputable def calls_waits {R : Type} : Nat → api_Car → Arr api_Press → (Bool → Arr Int → Option R) → Option R := lock (@calls_waits_m R)
theorem calls_waits_def {R : Type} (N : Nat) (a156 : api_Car) (a157 : Arr api_Press) (k : Bool → Arr Int → Option R) : calls_waits N a156 a157 k = calls_waits_m N a156 a157 k := by unfold calls_waits; rw [lock_eq]
def calls_waits_sp : Sp := ⟨[rAgg api_CarC, rSl api_PressC, rFunc 52 0 []], []⟩
theorem calls_waits_sp_ok : calls_waits_sp.Ok := ⟨(allCons (rAgg_ok api_CarC_ok api_CarC_len) (allCons (rSl_ok api_PressC_ok) (allCons (rFunc_ok 52 0 allNil) allNil))), eNil⟩
def calls_waits_rs : Sp := ⟨[rRow 0], [(0, eRow intC)]⟩
theorem calls_waits_rs_ok : calls_waits_rs.Ok := ⟨(allCons (rRow_ok 0) allNil), (eCons (eRow_ok intC_ok) eNil)⟩
def calls_waits_run {R : Type} (N : Nat) (args : List SV) (T : Tab) (kf : SV × Tab → Option R) : Option R :=
  calls_waits_m N (Cod.dec api_CarC (lget (toCs (lget args 0)))) (lstC api_PressC (lget args 1)) (fun q0 q1 => kf (lget [.row 0] 0, [(0, rowE intC q0 q1)]))
def calls_waits_d100000 {R : Type} (N : Nat) (S0 : St) (k : Exit → St → Option R) : Option R :=
  calls_waits_j0 N (lstC api_PressC (lget S0.tmps 1)) (toI (lget S0.tmps 10)) (toI (lget S0.tmps 11)) (toI (lget S0.tmps 13)) (entNl (entAt S0.tab 0)) (lst intC (entN (entAt S0.tab 0)) (entC (entAt S0.tab 0))) (fmD intC (entFh (entAt S0.tab 1)) (entFl (entAt S0.tab 1)) (entFg (entAt S0.tab 1))) (Cod.dec calls_cageC (lget (entCs (entAt S0.tab 2)))) (fun q4 q5 => k .normal (calls_waits_x100000_n (lstC api_PressC (lget S0.tmps 1)) (toI (lget S0.tmps 10)) (toI (lget S0.tmps 11)) (entNl (entAt S0.tab 0)) (Cod.dec calls_cageC (lget (entCs (entAt S0.tab 2)))) q4 q5))
def calls_waits_d9 {R : Type} (N : Nat) (S0 : St) (k : Exit → St → Option R) : Option R :=
  calls_waits_l9 N N (lstC api_PressC (lget S0.tmps 1)) (toI (lget S0.tmps 10)) (toI (lget S0.tmps 11)) (entNl (entAt S0.tab 0)) (lst intC (entN (entAt S0.tab 0)) (entC (entAt S0.tab 0))) (fmD intC (entFh (entAt S0.tab 1)) (entFl (entAt S0.tab 1)) (entFg (entAt S0.tab 1))) (Cod.dec calls_cageC (lget (entCs (entAt S0.tab 2)))) (entNl (entAt S0.tab 3)) (lst intC (entN (entAt S0.tab 3)) (entC (entAt S0.tab 3))) (fun q1 q5 q7 q8 => k (.exit 2) (calls_waits_x9_2 (lstC api_PressC (lget S0.tmps 1)) (toI (lget S0.tmps 11)) (entNl (entAt S0.tab 0)) (lst intC (entN (entAt S0.tab 0)) (entC (entAt S0.tab 0))) (Cod.dec calls_cageC (lget (entCs (entAt S0.tab 2)))) q1 q5 q7 q8))
def calls_waits_d6 {R : Type} (N : Nat) (S0 : St) (k : Exit → St → Option R) : Option R :=
  calls_waits_l6 N N (lstC api_PressC (lget S0.tmps 1)) (toI (lget S0.tmps 10)) (toI (lget S0.tmps 11)) (entNl (entAt S0.tab 0)) (lst intC (entN (entAt S0.tab 0)) (entC (entAt S0.tab 0))) (fmD intC (entFh (entAt S0.tab 1)) (entFl (entAt S0.tab 1)) (entFg (entAt S0.tab 1))) (Cod.dec calls_cageC (lget (entCs (entAt S0.tab 2)))) (fun q1 => k (.exit 0) (calls_waits_x6_0 (entNl (entAt S0.tab 0)) q1))
def calls_waits_lp {R : Type} (N : Nat) : Lp R := fun body S k => bif (Go.Sx.keyOf body).getD 0 == 6 then (calls_waits_L6.head.raw 0 S (fun S0 => calls_waits_d6 N S0 k)) else bif (Go.Sx.keyOf body).getD 0 == 9 then (calls_waits_L9.head.raw 0 S (fun S0 => calls_waits_d9 N S0 k)) else Option.none
def calls_waits_jn {R : Type} (N : Nat) : Jn R := fun b => bif isJ 15 37 b then some (fun S k => calls_waits_L100000.head.raw 0 S (fun S0 => calls_waits_d100000 N S0 k)) else Option.none
theorem calls_waits_l6_eq {R : Type} (N : Nat) (k : Exit → St → Option R) (n : Nat) : ∀ (v0 : Arr api_Press) (v1 : Int) (v2 : Int) (v3 : Bool) (v4 : Arr Int) (v5 : Fm Int) (v6 : calls_cage), loopM E.Θ (calls_cage_tick_cal N) (calls_waits_lp N) (calls_waits_jn N) 0 calls_waits_L6 (bodyAt E 51 6) n (calls_waits_h6 v0 v1 v2 v3 v4 v5 v6) k = calls_waits_l6 N n v0 v1 v2 v3 v4 v5 v6 (fun q1 => k (.exit 0) (calls_waits_x6_0 v3 q1)) := by
  induction n with
  | zero => intro v0 v1 v2 v3 v4 v5 v6; rfl
  | succ n ih =>
    intro v0 v1 v2 v3 v4 v5 v6
    refine Eq.trans (b := calls_waits_b6 N (fun v0 v1 v2 v3 v4 v5 v6 => loopM E.Θ (calls_cage_tick_cal N) (calls_waits_lp N) (calls_waits_jn N) 0 calls_waits_L6 (bodyAt E 51 6) n (calls_waits_h6 v0 v1 v2 v3 v4 v5 v6) k) v0 v1 v2 v3 v4 v5 v6 (fun q1 => k (.exit 0) (calls_waits_x6_0 v3 q1))) (by kernel_rfl) ?_
    have h : (fun (v0 : Arr api_Press) (v1 : Int) (v2 : Int) (v3 : Bool) (v4 : Arr Int) (v5 : Fm Int) (v6 : calls_cage) => loopM E.Θ (calls_cage_tick_cal N) (calls_waits_lp N) (calls_waits_jn N) 0 calls_waits_L6 (bodyAt E 51 6) n (calls_waits_h6 v0 v1 v2 v3 v4 v5 v6) k) = (fun (v0 : Arr api_Press) (v1 : Int) (v2 : Int) (v3 : Bool) (v4 : Arr Int) (v5 : Fm Int) (v6 : calls_cage) => calls_waits_l6 N n v0 v1 v2 v3 v4 v5 v6 (fun q1 => k (.exit 0) (calls_waits_x6_0 v3 q1))) := funext fun v0 => funext fun v1 => funext fun v2 => funext fun v3 => funext fun v4 => funext fun v5 => funext fun v6 => ih v0 v1 v2 v3 v4 v5 v6
    rw [h]
    rfl
theorem calls_waits_l9_eq {R : Type} (N : Nat) (k : Exit → St → Option R) (n : Nat) : ∀ (v0 : Arr api_Press) (v1 : Int) (v2 : Int) (v3 : Bool) (v4 : Arr Int) (v5 : Fm Int) (v6 : calls_cage) (v7 : Bool) (v8 : Arr Int), loopM E.Θ (calls_cage_tick_cal N) (calls_waits_lp N) (calls_waits_jn N) 0 calls_waits_L9 (bodyAt E 51 9) n (calls_waits_h9 v0 v1 v2 v3 v4 v5 v6 v7 v8) k = calls_waits_l9 N n v0 v1 v2 v3 v4 v5 v6 v7 v8 (fun q1 q5 q7 q8 => k (.exit 2) (calls_waits_x9_2 v0 v2 v3 v4 v6 q1 q5 q7 q8)) := by
  induction n with
  | zero => intro v0 v1 v2 v3 v4 v5 v6 v7 v8; rfl
  | succ n ih =>
    intro v0 v1 v2 v3 v4 v5 v6 v7 v8
    refine Eq.trans (b := calls_waits_b9 N (fun v0 v1 v2 v3 v4 v5 v6 v7 v8 => loopM E.Θ (calls_cage_tick_cal N) (calls_waits_lp N) (calls_waits_jn N) 0 calls_waits_L9 (bodyAt E 51 9) n (calls_waits_h9 v0 v1 v2 v3 v4 v5 v6 v7 v8) k) v0 v1 v2 v3 v4 v5 v6 v7 v8 (fun q1 q5 q7 q8 => k (.exit 2) (calls_waits_x9_2 v0 v2 v3 v4 v6 q1 q5 q7 q8))) (by kernel_rfl) ?_
    have h : (fun (v0 : Arr api_Press) (v1 : Int) (v2 : Int) (v3 : Bool) (v4 : Arr Int) (v5 : Fm Int) (v6 : calls_cage) (v7 : Bool) (v8 : Arr Int) => loopM E.Θ (calls_cage_tick_cal N) (calls_waits_lp N) (calls_waits_jn N) 0 calls_waits_L9 (bodyAt E 51 9) n (calls_waits_h9 v0 v1 v2 v3 v4 v5 v6 v7 v8) k) = (fun (v0 : Arr api_Press) (v1 : Int) (v2 : Int) (v3 : Bool) (v4 : Arr Int) (v5 : Fm Int) (v6 : calls_cage) (v7 : Bool) (v8 : Arr Int) => calls_waits_l9 N n v0 v1 v2 v3 v4 v5 v6 v7 v8 (fun q1 q5 q7 q8 => k (.exit 2) (calls_waits_x9_2 v0 v2 v3 v4 v6 q1 q5 q7 q8))) := funext fun v0 => funext fun v1 => funext fun v2 => funext fun v3 => funext fun v4 => funext fun v5 => funext fun v6 => funext fun v7 => funext fun v8 => ih v0 v1 v2 v3 v4 v5 v6 v7 v8
    rw [h]
    rfl
theorem calls_waits_k16 {R : Type} (N : Nat) : LpKey (R := R) E 51 0 (calls_waits_lp N) 16 := lpKey_none fun S k => by kernel_rfl
theorem calls_waits_k20 {R : Type} (N : Nat) : LpKey (R := R) E 51 0 (calls_waits_lp N) 20 := lpKey_none fun S k => by kernel_rfl
theorem calls_waits_k9 {R : Type} (N : Nat) : LpKey (R := R) E 51 0 (calls_waits_lp N) 9 :=
  lpKey_of hE (calls_cage_tick_cal_ok N) (lp := calls_waits_lp N) (jn := calls_waits_jn N) calls_waits_L9_ok [] kNil (by kernel_rfl) [] jNil (by kernel_rfl) N fun S k =>
    Eq.trans (b := calls_waits_L9.head.raw 0 S (fun S0 => calls_waits_d9 N S0 k)) (by kernel_rfl) (congrArg (calls_waits_L9.head.raw 0 S) (funext fun S0 => Eq.trans (calls_waits_l9_eq N k N (lstC api_PressC (lget S0.tmps 1)) (toI (lget S0.tmps 10)) (toI (lget S0.tmps 11)) (entNl (entAt S0.tab 0)) (lst intC (entN (entAt S0.tab 0)) (entC (entAt S0.tab 0))) (fmD intC (entFh (entAt S0.tab 1)) (entFl (entAt S0.tab 1)) (entFg (entAt S0.tab 1))) (Cod.dec calls_cageC (lget (entCs (entAt S0.tab 2)))) (entNl (entAt S0.tab 3)) (lst intC (entN (entAt S0.tab 3)) (entC (entAt S0.tab 3)))).symm (by kernel_rfl)))
theorem calls_waits_q0 {R : Type} (N : Nat) : JnKey (R := R) E 51 0 (calls_waits_jn N) (15, 37) :=
  jnKey_hand calls_waits_L100000_ok.head (fun S k => calls_waits_L100000.head.raw 0 S (fun S0 => calls_waits_d100000 N S0 k)) (by kernel_rfl) (fun S0 k => calls_waits_d100000 N S0 k) (fun S k => rfl) fun S0 k r h =>
    waitsRound_ok0 (lstC api_PressC (lget S0.tmps 1)) (toI (lget S0.tmps 10)) (toI (lget S0.tmps 11)) (toI (lget S0.tmps 13)) (entNl (entAt S0.tab 0)) (lst intC (entN (entAt S0.tab 0)) (entC (entAt S0.tab 0))) (fmD intC (entFh (entAt S0.tab 1)) (entFl (entAt S0.tab 1)) (entFg (entAt S0.tab 1))) (Cod.dec calls_cageC (lget (entCs (entAt S0.tab 2)))) h (Eq.trans (calls_waits_j0_def N (lstC api_PressC (lget S0.tmps 1)) (toI (lget S0.tmps 10)) (toI (lget S0.tmps 11)) (toI (lget S0.tmps 13)) (entNl (entAt S0.tab 0)) (lst intC (entN (entAt S0.tab 0)) (entC (entAt S0.tab 0))) (fmD intC (entFh (entAt S0.tab 1)) (entFl (entAt S0.tab 1)) (entFg (entAt S0.tab 1))) (Cod.dec calls_cageC (lget (entCs (entAt S0.tab 2)))) (fun q4 q5 => k .normal (calls_waits_x100000_n (lstC api_PressC (lget S0.tmps 1)) (toI (lget S0.tmps 10)) (toI (lget S0.tmps 11)) (entNl (entAt S0.tab 0)) (Cod.dec calls_cageC (lget (entCs (entAt S0.tab 2)))) q4 q5))) (by kernel_rfl)) (by kernel_rfl)
theorem calls_waits_k6 {R : Type} (N : Nat) : LpKey (R := R) E 51 0 (calls_waits_lp N) 6 :=
  lpKey_of hE (calls_cage_tick_cal_ok N) (lp := calls_waits_lp N) (jn := calls_waits_jn N) calls_waits_L6_ok [9, 16, 20] (kCons (calls_waits_k9 N) (kCons (calls_waits_k16 N) (kCons (calls_waits_k20 N) kNil))) (by kernel_rfl) [(15, 37)] (jCons (calls_waits_q0 N) jNil) (by kernel_rfl) N fun S k =>
    Eq.trans (b := calls_waits_L6.head.raw 0 S (fun S0 => calls_waits_d6 N S0 k)) (by kernel_rfl) (congrArg (calls_waits_L6.head.raw 0 S) (funext fun S0 => Eq.trans (calls_waits_l6_eq N k N (lstC api_PressC (lget S0.tmps 1)) (toI (lget S0.tmps 10)) (toI (lget S0.tmps 11)) (entNl (entAt S0.tab 0)) (lst intC (entN (entAt S0.tab 0)) (entC (entAt S0.tab 0))) (fmD intC (entFh (entAt S0.tab 1)) (entFl (entAt S0.tab 1)) (entFg (entAt S0.tab 1))) (Cod.dec calls_cageC (lget (entCs (entAt S0.tab 2))))).symm (by kernel_rfl)))
noncomputable def calls_waits_go {R : Type} (N : Nat) (args : List SV) (T : Tab) (kf : SV × Tab → Option R) : Option R :=
  calls_waits N (Cod.dec api_CarC (lget (toCs (lget args 0)))) (lstC api_PressC (lget args 1)) (fun q0 q1 => kf (lget [.row 0] 0, [(0, rowE intC q0 q1)]))
noncomputable def calls_waits_cal {R : Type} (N : Nat) : Cal R := callM (calls_cage_tick_cal N) 51 0 calls_waits_sp (calls_waits_go N)
theorem calls_waits_cal_ok {R : Type} (N : Nat) : CalOk E.P (calls_waits_cal (R := R) N) :=
  callM_ok hE (calls_cage_tick_cal_ok N) (lp := calls_waits_lp N) (jn := calls_waits_jn N) (keys := [6, 9, 16, 20]) (kCons (calls_waits_k6 N) (kCons (calls_waits_k9 N) (kCons (calls_waits_k16 N) (kCons (calls_waits_k20 N) kNil)))) (by kernel_rfl) (js := [(15, 37)]) (jCons (calls_waits_q0 N) jNil) (by kernel_rfl) calls_waits_sp_ok calls_waits_rs_ok (fun args T kf => Eq.trans (calls_waits_def N (Cod.dec api_CarC (lget (toCs (lget args 0)))) (lstC api_PressC (lget args 1)) (fun q0 q1 => kf (lget [.row 0] 0, [(0, rowE intC q0 q1)]))) (by kernel_rfl : calls_waits_run N args T kf = fnM E (calls_cage_tick_cal N) (calls_waits_lp N) (calls_waits_jn N) 51 (calls_waits_sp.vs args) (calls_waits_sp.tab T) 0 (resK calls_waits_rs kf)))
def calls_Waits_m {R : Type} (N : Nat) (a153 : api_Car) (a154 : Arr api_Press) (k : Int → Bool → Arr Int → Option R) : Option R :=
 calls_Check N a153 a154 (fun r155 =>
 bif r155 != (0 : Int) then
 k r155 true (lst intC (0 : Nat) (zeroC [SV.int .i64 0]))
 else
 calls_waits N a153 a154 (fun r224 r225 =>
 k (0 : Int) r224 r225))
noncomputable def calls_Waits {R : Type} : Nat → api_Car → Arr api_Press → (Int → Bool → Arr Int → Option R) → Option R := lock (@calls_Waits_m R)
theorem calls_Waits_def {R : Type} (N : Nat) (a153 : api_Car) (a154 : Arr api_Press) (k : Int → Bool → Arr Int → Option R) : calls_Waits N a153 a154 k = calls_Waits_m N a153 a154 k := by unfold calls_Waits; rw [lock_eq]
def calls_Waits_sp : Sp := ⟨[rAgg api_CarC, rSl api_PressC], []⟩
theorem calls_Waits_sp_ok : calls_Waits_sp.Ok := ⟨(allCons (rAgg_ok api_CarC_ok api_CarC_len) (allCons (rSl_ok api_PressC_ok) allNil)), eNil⟩
def calls_Waits_rs : Sp := ⟨[rTup [rRow 0, rInt .i64]], [(0, eRow intC)]⟩
theorem calls_Waits_rs_ok : calls_Waits_rs.Ok := ⟨(allCons (rTup_ok (allCons (rRow_ok 0) (allCons (rInt_ok .i64) allNil))) allNil), (eCons (eRow_ok intC_ok) eNil)⟩
def calls_Waits_run {R : Type} (N : Nat) (args : List SV) (T : Tab) (kf : SV × Tab → Option R) : Option R :=
  calls_Waits_m N (Cod.dec api_CarC (lget (toCs (lget args 0)))) (lstC api_PressC (lget args 1)) (fun q0 q1 q2 => kf (lget [.tup [.row 0, .int .i64 q0]] 0, [(0, rowE intC q1 q2)]))
def calls_Waits_lp {R : Type} (N : Nat) : Lp R := fun body S k => Option.none
noncomputable def calls_Waits_go {R : Type} (N : Nat) (args : List SV) (T : Tab) (kf : SV × Tab → Option R) : Option R :=
  calls_Waits N (Cod.dec api_CarC (lget (toCs (lget args 0)))) (lstC api_PressC (lget args 1)) (fun q0 q1 q2 => kf (lget [.tup [.row 0, .int .i64 q0]] 0, [(0, rowE intC q1 q2)]))
noncomputable def calls_Waits_cal {R : Type} (N : Nat) : Cal R := callM (calls_waits_cal N) 22 0 calls_Waits_sp (calls_Waits_go N)
theorem calls_Waits_cal_ok {R : Type} (N : Nat) : CalOk E.P (calls_Waits_cal (R := R) N) :=
  callM_ok hE (calls_waits_cal_ok N) (lp := calls_Waits_lp N) (jn := noJn) (keys := []) kNil (by kernel_rfl) (js := []) jNil (by kernel_rfl) calls_Waits_sp_ok calls_Waits_rs_ok (fun args T kf => Eq.trans (calls_Waits_def N (Cod.dec api_CarC (lget (toCs (lget args 0)))) (lstC api_PressC (lget args 1)) (fun q0 q1 q2 => kf (lget [.tup [.row 0, .int .i64 q0]] 0, [(0, rowE intC q1 q2)]))) (by kernel_rfl : calls_Waits_run N args T kf = fnM E (calls_waits_cal N) (calls_Waits_lp N) (noJn) 22 (calls_Waits_sp.vs args) (calls_Waits_sp.tab T) 0 (resK calls_Waits_rs kf)))
def w7sameInts_L4 : LoopSp := ⟨⟨[0, 1, 5], ⟨((rSl intC) :: (rSl intC) :: (dr 3 ((rInt .i64) :: (dr 20 [])))), []⟩, 0⟩, [(Option.none, ⟨[4], ⟨(dr 4 ((rBool) :: (dr 21 []))), []⟩, 0⟩), (some 0, ⟨[], ⟨(dr 26 []), []⟩, 0⟩)]⟩
theorem w7sameInts_L4_ok : w7sameInts_L4.Ok := ⟨⟨(allCons (rSl_ok intC_ok) (allCons (rSl_ok intC_ok) (drCons 3 (allCons (rInt_ok .i64) (drCons 20 allNil))))), eNil⟩, (xCons ⟨(drCons 4 (allCons rBool_ok (drCons 21 allNil))), eNil⟩ (xCons ⟨(drCons 26 allNil), eNil⟩ xNil))⟩
def w7sameInts_h4 (v256 : Arr Int) (v257 : Arr Int) (v258 : Int) : St := ⟨((slC intC v256) :: (slC intC v257) :: (un 3 ((.int .i64 v258) :: (un 20 [])))), [], 0⟩
def w7sameInts_x4_r (q0 : Bool) : St := ⟨(un 4 ((.bool q0) :: (un 21 []))), [], 0⟩
def w7sameInts_x4_0  : St := ⟨(un 26 []), [], 0⟩
def w7sameInts_b4 {R : Type} (N : Nat) (rc : Arr Int → Arr Int → Int → Option R) (v256 : Arr Int) (v257 : Arr Int) (v258 : Int) (kr : Bool → Option R) (k0 : Unit → Option R) : Option R :=
 bif decide (v258 < (↑(Arr.n v256) : Int)) then
 bif decide ((0 : Int) ≤ v258) && decide (v258 < (↑(Arr.n v256) : Int)) then
 bif decide ((0 : Int) ≤ v258) && decide (v258 < (↑(Arr.n v257) : Int)) then
 bif Arr.f v256 (Int.toNat v258) != Arr.f v257 (Int.toNat v258) then
 kr false
 else
 rc v256 v257 (w64 (v258 + (1 : Int)))
 else
 Option.none
 else
 Option.none
 else
 k0 ()
def w7sameInts_l4 {R : Type} (N : Nat) : Nat → Arr Int → Arr Int → Int → (Bool → Option R) → (Unit → Option R) → Option R
  | 0, _, _, _, _, _ => Option.none
  | n + 1, v256, v257, v258, kr, k0 => w7sameInts_b4 N (fun v256 v257 v258 => w7sameInts_l4 N n v256 v257 v258 kr k0) v256 v257 v258 kr k0
def w7sameInts_m {R : Type} (N : Nat) (a254 : Arr Int) (a255 : Arr Int) (k : Bool → Option R) : Option R :=
 bif (↑(Arr.n a254) : Int) != (↑(Arr.n a255) : Int) then
 k false
 else
 w7sameInts_l4 N N a254 a255 (0 : Int) (fun r259 =>
 k r259) (fun (_ : Unit) =>
 k true)
noncomputable def w7sameInts {R : Type} : Nat → Arr Int → Arr Int → (Bool → Option R) → Option R := lock (@w7sameInts_m R)
theorem w7sameInts_def {R : Type} (N : Nat) (a254 : Arr Int) (a255 : Arr Int) (k : Bool → Option R) : w7sameInts N a254 a255 k = w7sameInts_m N a254 a255 k := by unfold w7sameInts; rw [lock_eq]
def w7sameInts_sp : Sp := ⟨[rSl intC, rSl intC], []⟩
theorem w7sameInts_sp_ok : w7sameInts_sp.Ok := ⟨(allCons (rSl_ok intC_ok) (allCons (rSl_ok intC_ok) allNil)), eNil⟩
def w7sameInts_rs : Sp := ⟨[rBool], []⟩
theorem w7sameInts_rs_ok : w7sameInts_rs.Ok := ⟨(allCons rBool_ok allNil), eNil⟩
def w7sameInts_run {R : Type} (N : Nat) (args : List SV) (T : Tab) (kf : SV × Tab → Option R) : Option R :=
  w7sameInts_m N (lstC intC (lget args 0)) (lstC intC (lget args 1)) (fun q0 => kf (lget [.bool q0] 0, []))
def w7sameInts_d4 {R : Type} (N : Nat) (S0 : St) (k : Exit → St → Option R) : Option R :=
  w7sameInts_l4 N N (lstC intC (lget S0.tmps 0)) (lstC intC (lget S0.tmps 1)) (toI (lget S0.tmps 5)) (fun q0 => k .ret (w7sameInts_x4_r q0)) (fun (_ : Unit) => k (.exit 0) (w7sameInts_x4_0 ))
def w7sameInts_lp {R : Type} (N : Nat) : Lp R := fun body S k => bif (Go.Sx.keyOf body).getD 0 == 4 then (w7sameInts_L4.head.raw 0 S (fun S0 => w7sameInts_d4 N S0 k)) else Option.none
theorem w7sameInts_l4_eq {R : Type} (N : Nat) (k : Exit → St → Option R) (n : Nat) : ∀ (v0 : Arr Int) (v1 : Arr Int) (v2 : Int), loopM E.Θ (calls_Waits_cal N) (w7sameInts_lp N) (noJn) 0 w7sameInts_L4 (bodyAt E 24 4) n (w7sameInts_h4 v0 v1 v2) k = w7sameInts_l4 N n v0 v1 v2 (fun q0 => k .ret (w7sameInts_x4_r q0)) (fun (_ : Unit) => k (.exit 0) (w7sameInts_x4_0 )) := by
  induction n with
  | zero => intro v0 v1 v2; rfl
  | succ n ih =>
    intro v0 v1 v2
    refine Eq.trans (b := w7sameInts_b4 N (fun v0 v1 v2 => loopM E.Θ (calls_Waits_cal N) (w7sameInts_lp N) (noJn) 0 w7sameInts_L4 (bodyAt E 24 4) n (w7sameInts_h4 v0 v1 v2) k) v0 v1 v2 (fun q0 => k .ret (w7sameInts_x4_r q0)) (fun (_ : Unit) => k (.exit 0) (w7sameInts_x4_0 ))) (by kernel_rfl) ?_
    have h : (fun (v0 : Arr Int) (v1 : Arr Int) (v2 : Int) => loopM E.Θ (calls_Waits_cal N) (w7sameInts_lp N) (noJn) 0 w7sameInts_L4 (bodyAt E 24 4) n (w7sameInts_h4 v0 v1 v2) k) = (fun (v0 : Arr Int) (v1 : Arr Int) (v2 : Int) => w7sameInts_l4 N n v0 v1 v2 (fun q0 => k .ret (w7sameInts_x4_r q0)) (fun (_ : Unit) => k (.exit 0) (w7sameInts_x4_0 ))) := funext fun v0 => funext fun v1 => funext fun v2 => ih v0 v1 v2
    rw [h]
    rfl
theorem w7sameInts_k4 {R : Type} (N : Nat) : LpKey (R := R) E 24 0 (w7sameInts_lp N) 4 :=
  lpKey_of hE (calls_Waits_cal_ok N) (lp := w7sameInts_lp N) (jn := noJn) w7sameInts_L4_ok [] kNil (by kernel_rfl) [] jNil (by kernel_rfl) N fun S k =>
    Eq.trans (b := w7sameInts_L4.head.raw 0 S (fun S0 => w7sameInts_d4 N S0 k)) (by kernel_rfl) (congrArg (w7sameInts_L4.head.raw 0 S) (funext fun S0 => Eq.trans (w7sameInts_l4_eq N k N (lstC intC (lget S0.tmps 0)) (lstC intC (lget S0.tmps 1)) (toI (lget S0.tmps 5))).symm (by kernel_rfl)))
noncomputable def w7sameInts_go {R : Type} (N : Nat) (args : List SV) (T : Tab) (kf : SV × Tab → Option R) : Option R :=
  w7sameInts N (lstC intC (lget args 0)) (lstC intC (lget args 1)) (fun q0 => kf (lget [.bool q0] 0, []))
noncomputable def w7sameInts_cal {R : Type} (N : Nat) : Cal R := callM (calls_Waits_cal N) 24 0 w7sameInts_sp (w7sameInts_go N)
theorem w7sameInts_cal_ok {R : Type} (N : Nat) : CalOk E.P (w7sameInts_cal (R := R) N) :=
  callM_ok hE (calls_Waits_cal_ok N) (lp := w7sameInts_lp N) (jn := noJn) (keys := [4]) (kCons (w7sameInts_k4 N) kNil) (by kernel_rfl) (js := []) jNil (by kernel_rfl) w7sameInts_sp_ok w7sameInts_rs_ok (fun args T kf => Eq.trans (w7sameInts_def N (lstC intC (lget args 0)) (lstC intC (lget args 1)) (fun q0 => kf (lget [.bool q0] 0, []))) (by kernel_rfl : w7sameInts_run N args T kf = fnM E (calls_Waits_cal N) (w7sameInts_lp N) (noJn) 24 (w7sameInts_sp.vs args) (w7sameInts_sp.tab T) 0 (resK w7sameInts_rs kf)))
def calls_serves_m {R : Type} (N : Nat) (a271 : api_Car) (a272 : Int) (k : Int → Option R) : Option R :=
 calls_valid N a271 (fun r273 =>
 bif !r273 then
 k (70 : Int)
 else
 calls_within N a272 (api_Car.Low a271) (api_Car.High a271) (fun r274 =>
 bif !r274 then
 k (1 : Int)
 else
 k (0 : Int)))
noncomputable def calls_serves {R : Type} : Nat → api_Car → Int → (Int → Option R) → Option R := lock (@calls_serves_m R)
theorem calls_serves_def {R : Type} (N : Nat) (a271 : api_Car) (a272 : Int) (k : Int → Option R) : calls_serves N a271 a272 k = calls_serves_m N a271 a272 k := by unfold calls_serves; rw [lock_eq]
def calls_serves_sp : Sp := ⟨[rAgg api_CarC, rInt .i64], []⟩
theorem calls_serves_sp_ok : calls_serves_sp.Ok := ⟨(allCons (rAgg_ok api_CarC_ok api_CarC_len) (allCons (rInt_ok .i64) allNil)), eNil⟩
def calls_serves_rs : Sp := ⟨[rInt .i64], []⟩
theorem calls_serves_rs_ok : calls_serves_rs.Ok := ⟨(allCons (rInt_ok .i64) allNil), eNil⟩
def calls_serves_run {R : Type} (N : Nat) (args : List SV) (T : Tab) (kf : SV × Tab → Option R) : Option R :=
  calls_serves_m N (Cod.dec api_CarC (lget (toCs (lget args 0)))) (toI (lget args 1)) (fun q0 => kf (lget [.int .i64 q0] 0, []))
def calls_serves_lp {R : Type} (N : Nat) : Lp R := fun body S k => Option.none
noncomputable def calls_serves_go {R : Type} (N : Nat) (args : List SV) (T : Tab) (kf : SV × Tab → Option R) : Option R :=
  calls_serves N (Cod.dec api_CarC (lget (toCs (lget args 0)))) (toI (lget args 1)) (fun q0 => kf (lget [.int .i64 q0] 0, []))
noncomputable def calls_serves_cal {R : Type} (N : Nat) : Cal R := callM (w7sameInts_cal N) 40 0 calls_serves_sp (calls_serves_go N)
theorem calls_serves_cal_ok {R : Type} (N : Nat) : CalOk E.P (calls_serves_cal (R := R) N) :=
  callM_ok hE (w7sameInts_cal_ok N) (lp := calls_serves_lp N) (jn := noJn) (keys := []) kNil (by kernel_rfl) (js := []) jNil (by kernel_rfl) calls_serves_sp_ok calls_serves_rs_ok (fun args T kf => Eq.trans (calls_serves_def N (Cod.dec api_CarC (lget (toCs (lget args 0)))) (toI (lget args 1)) (fun q0 => kf (lget [.int .i64 q0] 0, []))) (by kernel_rfl : calls_serves_run N args T kf = fnM E (w7sameInts_cal N) (calls_serves_lp N) (noJn) 40 (calls_serves_sp.vs args) (calls_serves_sp.tab T) 0 (resK calls_serves_rs kf)))
def calls_far_m {R : Type} (N : Nat) (a278 : api_Car) (a279 : Int) (k : Int → Bool → Option R) : Option R :=
 k (mxI (w64 (api_Car.High a278 - a279)) (w64 (a279 - api_Car.Low a278))) (decide (w64 (api_Car.High a278 - a279) ≥ w64 (a279 - api_Car.Low a278)))
noncomputable def calls_far {R : Type} : Nat → api_Car → Int → (Int → Bool → Option R) → Option R := lock (@calls_far_m R)
theorem calls_far_def {R : Type} (N : Nat) (a278 : api_Car) (a279 : Int) (k : Int → Bool → Option R) : calls_far N a278 a279 k = calls_far_m N a278 a279 k := by unfold calls_far; rw [lock_eq]
def calls_far_sp : Sp := ⟨[rAgg api_CarC, rInt .i64], []⟩
theorem calls_far_sp_ok : calls_far_sp.Ok := ⟨(allCons (rAgg_ok api_CarC_ok api_CarC_len) (allCons (rInt_ok .i64) allNil)), eNil⟩
def calls_far_rs : Sp := ⟨[rTup [rInt .i64, rBool]], []⟩
theorem calls_far_rs_ok : calls_far_rs.Ok := ⟨(allCons (rTup_ok (allCons (rInt_ok .i64) (allCons rBool_ok allNil))) allNil), eNil⟩
def calls_far_run {R : Type} (N : Nat) (args : List SV) (T : Tab) (kf : SV × Tab → Option R) : Option R :=
  calls_far_m N (Cod.dec api_CarC (lget (toCs (lget args 0)))) (toI (lget args 1)) (fun q0 q1 => kf (lget [.tup [.int .i64 q0, .bool q1]] 0, []))
def calls_far_lp {R : Type} (N : Nat) : Lp R := fun body S k => Option.none
noncomputable def calls_far_go {R : Type} (N : Nat) (args : List SV) (T : Tab) (kf : SV × Tab → Option R) : Option R :=
  calls_far N (Cod.dec api_CarC (lget (toCs (lget args 0)))) (toI (lget args 1)) (fun q0 q1 => kf (lget [.tup [.int .i64 q0, .bool q1]] 0, []))
noncomputable def calls_far_cal {R : Type} (N : Nat) : Cal R := callM (calls_serves_cal N) 54 0 calls_far_sp (calls_far_go N)
theorem calls_far_cal_ok {R : Type} (N : Nat) : CalOk E.P (calls_far_cal (R := R) N) :=
  callM_ok hE (calls_serves_cal_ok N) (lp := calls_far_lp N) (jn := noJn) (keys := []) kNil (by kernel_rfl) (js := []) jNil (by kernel_rfl) calls_far_sp_ok calls_far_rs_ok (fun args T kf => Eq.trans (calls_far_def N (Cod.dec api_CarC (lget (toCs (lget args 0)))) (toI (lget args 1)) (fun q0 q1 => kf (lget [.tup [.int .i64 q0, .bool q1]] 0, []))) (by kernel_rfl : calls_far_run N args T kf = fnM E (calls_serves_cal N) (calls_far_lp N) (noJn) 54 (calls_far_sp.vs args) (calls_far_sp.tab T) 0 (resK calls_far_rs kf)))
def calls_worst_m {R : Type} (N : Nat) (a276 : api_Car) (a277 : Int) (k : Int → Option R) : Option R :=
 calls_far N a276 a277 (fun r280 r281 =>
 bif r280 == (0 : Int) then
 k (0 : Int)
 else
 k (w64 (w64 (w64 ((2 : Int) * r280) * api_Car.Move a276) + w64 (w64 (w64 ((2 : Int) * r280) - (1 : Int)) * api_Car.Stop a276))))
noncomputable def calls_worst {R : Type} : Nat → api_Car → Int → (Int → Option R) → Option R := lock (@calls_worst_m R)
theorem calls_worst_def {R : Type} (N : Nat) (a276 : api_Car) (a277 : Int) (k : Int → Option R) : calls_worst N a276 a277 k = calls_worst_m N a276 a277 k := by unfold calls_worst; rw [lock_eq]
def calls_worst_sp : Sp := ⟨[rAgg api_CarC, rInt .i64], []⟩
theorem calls_worst_sp_ok : calls_worst_sp.Ok := ⟨(allCons (rAgg_ok api_CarC_ok api_CarC_len) (allCons (rInt_ok .i64) allNil)), eNil⟩
def calls_worst_rs : Sp := ⟨[rInt .i64], []⟩
theorem calls_worst_rs_ok : calls_worst_rs.Ok := ⟨(allCons (rInt_ok .i64) allNil), eNil⟩
def calls_worst_run {R : Type} (N : Nat) (args : List SV) (T : Tab) (kf : SV × Tab → Option R) : Option R :=
  calls_worst_m N (Cod.dec api_CarC (lget (toCs (lget args 0)))) (toI (lget args 1)) (fun q0 => kf (lget [.int .i64 q0] 0, []))
def calls_worst_lp {R : Type} (N : Nat) : Lp R := fun body S k => Option.none
noncomputable def calls_worst_go {R : Type} (N : Nat) (args : List SV) (T : Tab) (kf : SV × Tab → Option R) : Option R :=
  calls_worst N (Cod.dec api_CarC (lget (toCs (lget args 0)))) (toI (lget args 1)) (fun q0 => kf (lget [.int .i64 q0] 0, []))
noncomputable def calls_worst_cal {R : Type} (N : Nat) : Cal R := callM (calls_far_cal N) 41 0 calls_worst_sp (calls_worst_go N)
theorem calls_worst_cal_ok {R : Type} (N : Nat) : CalOk E.P (calls_worst_cal (R := R) N) :=
  callM_ok hE (calls_far_cal_ok N) (lp := calls_worst_lp N) (jn := noJn) (keys := []) kNil (by kernel_rfl) (js := []) jNil (by kernel_rfl) calls_worst_sp_ok calls_worst_rs_ok (fun args T kf => Eq.trans (calls_worst_def N (Cod.dec api_CarC (lget (toCs (lget args 0)))) (toI (lget args 1)) (fun q0 => kf (lget [.int .i64 q0] 0, []))) (by kernel_rfl : calls_worst_run N args T kf = fnM E (calls_far_cal N) (calls_worst_lp N) (noJn) 41 (calls_worst_sp.vs args) (calls_worst_sp.tab T) 0 (resK calls_worst_rs kf)))
def calls_Worst_m {R : Type} (N : Nat) (a269 : api_Car) (a270 : Int) (k : Int → Int → Option R) : Option R :=
 calls_serves N a269 a270 (fun r275 =>
 bif r275 != (0 : Int) then
 k (0 : Int) r275
 else
 calls_worst N a269 a270 (fun r282 =>
 k r282 (0 : Int)))
noncomputable def calls_Worst {R : Type} : Nat → api_Car → Int → (Int → Int → Option R) → Option R := lock (@calls_Worst_m R)
theorem calls_Worst_def {R : Type} (N : Nat) (a269 : api_Car) (a270 : Int) (k : Int → Int → Option R) : calls_Worst N a269 a270 k = calls_Worst_m N a269 a270 k := by unfold calls_Worst; rw [lock_eq]
def calls_Worst_sp : Sp := ⟨[rAgg api_CarC, rInt .i64], []⟩
theorem calls_Worst_sp_ok : calls_Worst_sp.Ok := ⟨(allCons (rAgg_ok api_CarC_ok api_CarC_len) (allCons (rInt_ok .i64) allNil)), eNil⟩
def calls_Worst_rs : Sp := ⟨[rTup [rInt .i64, rInt .i64]], []⟩
theorem calls_Worst_rs_ok : calls_Worst_rs.Ok := ⟨(allCons (rTup_ok (allCons (rInt_ok .i64) (allCons (rInt_ok .i64) allNil))) allNil), eNil⟩
def calls_Worst_run {R : Type} (N : Nat) (args : List SV) (T : Tab) (kf : SV × Tab → Option R) : Option R :=
  calls_Worst_m N (Cod.dec api_CarC (lget (toCs (lget args 0)))) (toI (lget args 1)) (fun q0 q1 => kf (lget [.tup [.int .i64 q0, .int .i64 q1]] 0, []))
def calls_Worst_lp {R : Type} (N : Nat) : Lp R := fun body S k => Option.none
noncomputable def calls_Worst_go {R : Type} (N : Nat) (args : List SV) (T : Tab) (kf : SV × Tab → Option R) : Option R :=
  calls_Worst N (Cod.dec api_CarC (lget (toCs (lget args 0)))) (toI (lget args 1)) (fun q0 q1 => kf (lget [.tup [.int .i64 q0, .int .i64 q1]] 0, []))
noncomputable def calls_Worst_cal {R : Type} (N : Nat) : Cal R := callM (calls_worst_cal N) 15 0 calls_Worst_sp (calls_Worst_go N)
theorem calls_Worst_cal_ok {R : Type} (N : Nat) : CalOk E.P (calls_Worst_cal (R := R) N) :=
  callM_ok hE (calls_worst_cal_ok N) (lp := calls_Worst_lp N) (jn := noJn) (keys := []) kNil (by kernel_rfl) (js := []) jNil (by kernel_rfl) calls_Worst_sp_ok calls_Worst_rs_ok (fun args T kf => Eq.trans (calls_Worst_def N (Cod.dec api_CarC (lget (toCs (lget args 0)))) (toI (lget args 1)) (fun q0 q1 => kf (lget [.tup [.int .i64 q0, .int .i64 q1]] 0, []))) (by kernel_rfl : calls_Worst_run N args T kf = fnM E (calls_worst_cal N) (calls_Worst_lp N) (noJn) 15 (calls_Worst_sp.vs args) (calls_Worst_sp.tab T) 0 (resK calls_Worst_rs kf)))
def w7works_m {R : Type} (N : Nat)  (k : Bool → Option R) : Option R :=
 calls_Waits N (api_Car.mk (0 : Int) (2 : Int) (0 : Int) (1 : Int) (1 : Int)) (lst api_PressC (3 : Nat) (litC [SV.int .i64 0, SV.int .i64 0] [[SV.int .i64 0, SV.int .i64 2], [SV.int .i64 0, SV.int .i64 1], [SV.int .i64 1, SV.int .i64 0]])) (fun r266 r267 r268 =>
 calls_Worst N (api_Car.mk (0 : Int) (2 : Int) (0 : Int) (1 : Int) (1 : Int)) (0 : Int) (fun r283 r284 =>
 bif r266 == (0 : Int) then
 bif r284 == (0 : Int) then
 w7sameInts N r268 (lst intC (3 : Nat) (litC [SV.int .i64 0] [[SV.int .i64 3], [SV.int .i64 1], [SV.int .i64 5]])) (fun r285 =>
 bif r285 then
 k (r283 == (7 : Int))
 else
 k false)
 else
 k false
 else
 k false))
noncomputable def w7works {R : Type} : Nat → (Bool → Option R) → Option R := lock (@w7works_m R)
theorem w7works_def {R : Type} (N : Nat)  (k : Bool → Option R) : w7works N  k = w7works_m N  k := by unfold w7works; rw [lock_eq]
def w7works_sp : Sp := ⟨[], []⟩
theorem w7works_sp_ok : w7works_sp.Ok := ⟨allNil, eNil⟩
def w7works_rs : Sp := ⟨[rBool], []⟩
theorem w7works_rs_ok : w7works_rs.Ok := ⟨(allCons rBool_ok allNil), eNil⟩
def w7works_run {R : Type} (N : Nat) (args : List SV) (T : Tab) (kf : SV × Tab → Option R) : Option R :=
  w7works_m N  (fun q0 => kf (lget [.bool q0] 0, []))
def w7works_lp {R : Type} (N : Nat) : Lp R := fun body S k => Option.none
noncomputable def w7works_go {R : Type} (N : Nat) (args : List SV) (T : Tab) (kf : SV × Tab → Option R) : Option R :=
  w7works N  (fun q0 => kf (lget [.bool q0] 0, []))
noncomputable def w7works_cal {R : Type} (N : Nat) : Cal R := callM (calls_Worst_cal N) 14 0 w7works_sp (w7works_go N)
theorem w7works_cal_ok {R : Type} (N : Nat) : CalOk E.P (w7works_cal (R := R) N) :=
  callM_ok hE (calls_Worst_cal_ok N) (lp := w7works_lp N) (jn := noJn) (keys := []) kNil (by kernel_rfl) (js := []) jNil (by kernel_rfl) w7works_sp_ok w7works_rs_ok (fun args T kf => Eq.trans (w7works_def N  (fun q0 => kf (lget [.bool q0] 0, []))) (by kernel_rfl : w7works_run N args T kf = fnM E (calls_Worst_cal N) (w7works_lp N) (noJn) 14 (w7works_sp.vs args) (w7works_sp.tab T) 0 (resK w7works_rs kf)))
def r7code_m {R : Type} (N : Nat) (a321 : api_Ride) (k : Int → Option R) : Option R :=
 bif api_Ride.Up a321 then
 bif api_Ride.Stood a321 then
 k (w64 (w64 (w64 (w64 (w64 (w64 (w64 (w64 (api_Ride.Floor a321 + (8 : Int)) + (16 : Int)) * (4 : Int)) + api_Ride.Doing a321) * (8 : Int)) + api_Ride.Left a321) * (64 : Int)) + api_Ride.Wants a321))
 else
 k (w64 (w64 (w64 (w64 (w64 (w64 (w64 (api_Ride.Floor a321 + (8 : Int)) * (4 : Int)) + api_Ride.Doing a321) * (8 : Int)) + api_Ride.Left a321) * (64 : Int)) + api_Ride.Wants a321))
 else
 bif api_Ride.Stood a321 then
 k (w64 (w64 (w64 (w64 (w64 (w64 (w64 (api_Ride.Floor a321 + (16 : Int)) * (4 : Int)) + api_Ride.Doing a321) * (8 : Int)) + api_Ride.Left a321) * (64 : Int)) + api_Ride.Wants a321))
 else
 k (w64 (w64 (w64 (w64 (w64 (w64 (api_Ride.Floor a321 * (4 : Int)) + api_Ride.Doing a321) * (8 : Int)) + api_Ride.Left a321) * (64 : Int)) + api_Ride.Wants a321))
noncomputable def r7code {R : Type} : Nat → api_Ride → (Int → Option R) → Option R := lock (@r7code_m R)
theorem r7code_def {R : Type} (N : Nat) (a321 : api_Ride) (k : Int → Option R) : r7code N a321 k = r7code_m N a321 k := by unfold r7code; rw [lock_eq]
def r7code_sp : Sp := ⟨[rAgg api_RideC], []⟩
theorem r7code_sp_ok : r7code_sp.Ok := ⟨(allCons (rAgg_ok api_RideC_ok api_RideC_len) allNil), eNil⟩
def r7code_rs : Sp := ⟨[rInt .i64], []⟩
theorem r7code_rs_ok : r7code_rs.Ok := ⟨(allCons (rInt_ok .i64) allNil), eNil⟩
def r7code_run {R : Type} (N : Nat) (args : List SV) (T : Tab) (kf : SV × Tab → Option R) : Option R :=
  r7code_m N (Cod.dec api_RideC (lget (toCs (lget args 0)))) (fun q0 => kf (lget [.int .i64 q0] 0, []))
def r7code_lp {R : Type} (N : Nat) : Lp R := fun body S k => Option.none
noncomputable def r7code_go {R : Type} (N : Nat) (args : List SV) (T : Tab) (kf : SV × Tab → Option R) : Option R :=
  r7code N (Cod.dec api_RideC (lget (toCs (lget args 0)))) (fun q0 => kf (lget [.int .i64 q0] 0, []))
noncomputable def r7code_cal {R : Type} (N : Nat) : Cal R := callM (w7works_cal N) 61 0 r7code_sp (r7code_go N)
theorem r7code_cal_ok {R : Type} (N : Nat) : CalOk E.P (r7code_cal (R := R) N) :=
  callM_ok hE (w7works_cal_ok N) (lp := r7code_lp N) (jn := noJn) (keys := []) kNil (by kernel_rfl) (js := []) jNil (by kernel_rfl) r7code_sp_ok r7code_rs_ok (fun args T kf => Eq.trans (r7code_def N (Cod.dec api_RideC (lget (toCs (lget args 0)))) (fun q0 => kf (lget [.int .i64 q0] 0, []))) (by kernel_rfl : r7code_run N args T kf = fnM E (w7works_cal N) (r7code_lp N) (noJn) 61 (r7code_sp.vs args) (r7code_sp.tab T) 0 (resK r7code_rs kf)))
def r7checkFloor_m {R : Type} (N : Nat) (a322 : api_Car) (a323 : Int) (k : Int → Option R) : Option R :=
 r7CheckCar N a322 (fun r324 =>
 bif r324 != (0 : Int) then
 k (70 : Int)
 else
 r7from N a323 (api_Car.Low a322) (api_Car.High a322) (fun r325 =>
 bif !r325 then
 k (1 : Int)
 else
 k (0 : Int)))
noncomputable def r7checkFloor {R : Type} : Nat → api_Car → Int → (Int → Option R) → Option R := lock (@r7checkFloor_m R)
theorem r7checkFloor_def {R : Type} (N : Nat) (a322 : api_Car) (a323 : Int) (k : Int → Option R) : r7checkFloor N a322 a323 k = r7checkFloor_m N a322 a323 k := by unfold r7checkFloor; rw [lock_eq]
def r7checkFloor_sp : Sp := ⟨[rAgg api_CarC, rInt .i64], []⟩
theorem r7checkFloor_sp_ok : r7checkFloor_sp.Ok := ⟨(allCons (rAgg_ok api_CarC_ok api_CarC_len) (allCons (rInt_ok .i64) allNil)), eNil⟩
def r7checkFloor_rs : Sp := ⟨[rInt .i64], []⟩
theorem r7checkFloor_rs_ok : r7checkFloor_rs.Ok := ⟨(allCons (rInt_ok .i64) allNil), eNil⟩
def r7checkFloor_run {R : Type} (N : Nat) (args : List SV) (T : Tab) (kf : SV × Tab → Option R) : Option R :=
  r7checkFloor_m N (Cod.dec api_CarC (lget (toCs (lget args 0)))) (toI (lget args 1)) (fun q0 => kf (lget [.int .i64 q0] 0, []))
def r7checkFloor_lp {R : Type} (N : Nat) : Lp R := fun body S k => Option.none
noncomputable def r7checkFloor_go {R : Type} (N : Nat) (args : List SV) (T : Tab) (kf : SV × Tab → Option R) : Option R :=
  r7checkFloor N (Cod.dec api_CarC (lget (toCs (lget args 0)))) (toI (lget args 1)) (fun q0 => kf (lget [.int .i64 q0] 0, []))
noncomputable def r7checkFloor_cal {R : Type} (N : Nat) : Cal R := callM (r7code_cal N) 55 0 r7checkFloor_sp (r7checkFloor_go N)
theorem r7checkFloor_cal_ok {R : Type} (N : Nat) : CalOk E.P (r7checkFloor_cal (R := R) N) :=
  callM_ok hE (r7code_cal_ok N) (lp := r7checkFloor_lp N) (jn := noJn) (keys := []) kNil (by kernel_rfl) (js := []) jNil (by kernel_rfl) r7checkFloor_sp_ok r7checkFloor_rs_ok (fun args T kf => Eq.trans (r7checkFloor_def N (Cod.dec api_CarC (lget (toCs (lget args 0)))) (toI (lget args 1)) (fun q0 => kf (lget [.int .i64 q0] 0, []))) (by kernel_rfl : r7checkFloor_run N args T kf = fnM E (r7code_cal N) (r7checkFloor_lp N) (noJn) 55 (r7checkFloor_sp.vs args) (r7checkFloor_sp.tab T) 0 (resK r7checkFloor_rs kf)))
end
end Go.Proofs.Ytlphgonhenegoaa
