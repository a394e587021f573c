/-
  Models of the functions, and that they are what the code does. Written by a program.
-/
import Derived.Test.YtpillmoddoccfabCod
import Derived.Test.YtpillmoddoccfabSxRun
set_option maxRecDepth 100000
set_option maxHeartbeats 0
set_option linter.unusedVariables false
namespace Go.Proofs.Ytpillmoddoccfab
open Go.Sx
noncomputable section

def newelref07_from_m {R : Type} (N : Nat) (a0 : Int) (a1 : Int) (a2 : Int) (k : Bool → Option R) : Option R :=
  bif decide (a0 ≥ a1) then
   k (decide (a0 ≤ a2))
  else
   k false
noncomputable def newelref07_from {R : Type} : Nat → Int → Int → Int → (Bool → Option R) → Option R := lock (@newelref07_from_m R)
theorem newelref07_from_def {R : Type} (N : Nat) (a0 : Int) (a1 : Int) (a2 : Int) (k : Bool → Option R) : newelref07_from N a0 a1 a2 k = newelref07_from_m N a0 a1 a2 k := by unfold newelref07_from; rw [lock_eq]
def newelref07_from_sp : Sp := ⟨[rInt .i64, rInt .i64, rInt .i64], []⟩
theorem newelref07_from_sp_ok : newelref07_from_sp.Ok := ⟨(allCons (rInt_ok .i64) (allCons (rInt_ok .i64) (allCons (rInt_ok .i64) allNil))), eNil⟩
def newelref07_from_rs : Sp := ⟨[rBool], []⟩
theorem newelref07_from_rs_ok : newelref07_from_rs.Ok := ⟨(allCons rBool_ok allNil), eNil⟩
def newelref07_from_run {R : Type} (N : Nat) (args : List SV) (T : Tab) (kf : SV × Tab → Option R) : Option R :=
  newelref07_from_m N (toI (lget args 0)) (toI (lget args 1)) (toI (lget args 2)) (fun q0 => kf (lget [.bool q0] 0, []))
def newelref07_from_lp {R : Type} (N : Nat) : Lp R := fun body S k => Option.none
noncomputable def newelref07_from_go {R : Type} (N : Nat) (args : List SV) (T : Tab) (kf : SV × Tab → Option R) : Option R :=
  newelref07_from N (toI (lget args 0)) (toI (lget args 1)) (toI (lget args 2)) (fun q0 => kf (lget [.bool q0] 0, []))
noncomputable def newelref07_from_cal {R : Type} (N : Nat) : Cal R := callM (noCal E) 52 0 newelref07_from_sp (newelref07_from_go N)
theorem newelref07_from_cal_ok {R : Type} (N : Nat) : CalOk E.P (newelref07_from_cal (R := R) N) :=
  callM_ok hE (noCal_ok E) (lp := newelref07_from_lp N) (jn := noJn) (keys := []) kNil (by kernel_rfl) (js := []) jNil (by kernel_rfl) newelref07_from_sp_ok newelref07_from_rs_ok (fun args T kf => Eq.trans (newelref07_from_def N (toI (lget args 0)) (toI (lget args 1)) (toI (lget args 2)) (fun q0 => kf (lget [.bool q0] 0, []))) (by kernel_rfl : newelref07_from_run N args T kf = fnM E (noCal E) (newelref07_from_lp N) (noJn) 52 (newelref07_from_sp.vs args) (newelref07_from_sp.tab T) 0 (resK newelref07_from_rs kf)))


def newelref07_CheckCar_m {R : Type} (N : Nat) (a3 : api_Car) (k : Int → Option R) : Option R :=
  bif decide (api_Car.Low a3 < (0 : Int)) then
   k (70 : Int)
  else
   newelref07_from N (api_Car.Start a3) (api_Car.Low a3) (api_Car.High a3) (fun r4 =>
   bif !r4 then
    k (70 : Int)
   else
    bif decide (api_Car.High a3 > (5 : Int)) then
     k (70 : Int)
    else
     newelref07_from N (api_Car.Move a3) (1 : Int) (3 : Int) (fun r5 =>
     bif !r5 then
      k (70 : Int)
     else
      newelref07_from N (api_Car.Stop a3) (1 : Int) (4 : Int) (fun r6 =>
      bif !r6 then
       k (70 : Int)
      else
       k (0 : Int))))
noncomputable def newelref07_CheckCar {R : Type} : Nat → api_Car → (Int → Option R) → Option R := lock (@newelref07_CheckCar_m R)
theorem newelref07_CheckCar_def {R : Type} (N : Nat) (a3 : api_Car) (k : Int → Option R) : newelref07_CheckCar N a3 k = newelref07_CheckCar_m N a3 k := by unfold newelref07_CheckCar; rw [lock_eq]
def newelref07_CheckCar_sp : Sp := ⟨[rAgg api_CarC], []⟩
theorem newelref07_CheckCar_sp_ok : newelref07_CheckCar_sp.Ok := ⟨(allCons (rAgg_ok api_CarC_ok api_CarC_len) allNil), eNil⟩
def newelref07_CheckCar_rs : Sp := ⟨[rInt .i64], []⟩
theorem newelref07_CheckCar_rs_ok : newelref07_CheckCar_rs.Ok := ⟨(allCons (rInt_ok .i64) allNil), eNil⟩
def newelref07_CheckCar_run {R : Type} (N : Nat) (args : List SV) (T : Tab) (kf : SV × Tab → Option R) : Option R :=
  newelref07_CheckCar_m N (Cod.dec api_CarC (lget (toCs (lget args 0)))) (fun q0 => kf (lget [.int .i64 q0] 0, []))
def newelref07_CheckCar_lp {R : Type} (N : Nat) : Lp R := fun body S k => Option.none
noncomputable def newelref07_CheckCar_go {R : Type} (N : Nat) (args : List SV) (T : Tab) (kf : SV × Tab → Option R) : Option R :=
  newelref07_CheckCar N (Cod.dec api_CarC (lget (toCs (lget args 0)))) (fun q0 => kf (lget [.int .i64 q0] 0, []))
noncomputable def newelref07_CheckCar_cal {R : Type} (N : Nat) : Cal R := callM (newelref07_from_cal N) 17 0 newelref07_CheckCar_sp (newelref07_CheckCar_go N)
theorem newelref07_CheckCar_cal_ok {R : Type} (N : Nat) : CalOk E.P (newelref07_CheckCar_cal (R := R) N) :=
  callM_ok hE (newelref07_from_cal_ok N) (lp := newelref07_CheckCar_lp N) (jn := noJn) (keys := []) kNil (by kernel_rfl) (js := []) jNil (by kernel_rfl) newelref07_CheckCar_sp_ok newelref07_CheckCar_rs_ok (fun args T kf => Eq.trans (newelref07_CheckCar_def N (Cod.dec api_CarC (lget (toCs (lget args 0)))) (fun q0 => kf (lget [.int .i64 q0] 0, []))) (by kernel_rfl : newelref07_CheckCar_run N args T kf = fnM E (newelref07_from_cal N) (newelref07_CheckCar_lp N) (noJn) 17 (newelref07_CheckCar_sp.vs args) (newelref07_CheckCar_sp.tab T) 0 (resK newelref07_CheckCar_rs kf)))

def newelref07_isPresses_L2 : LoopSp := ⟨⟨[0, 3], ⟨((rSl api_PressC) :: (dr 2 ((rInt .i64) :: (dr 34 [])))), []⟩, 0⟩, [(Option.none, ⟨[2], ⟨(dr 2 ((rBool) :: (dr 35 []))), []⟩, 0⟩), (some 0, ⟨[0], ⟨((rSl api_PressC) :: (dr 37 [])), []⟩, 0⟩)]⟩
theorem newelref07_isPresses_L2_ok : newelref07_isPresses_L2.Ok := ⟨⟨(allCons (rSl_ok api_PressC_ok) (drCons 2 (allCons (rInt_ok .i64) (drCons 34 allNil)))), eNil⟩, (xCons ⟨(drCons 2 (allCons rBool_ok (drCons 35 allNil))), eNil⟩ (xCons ⟨(allCons (rSl_ok api_PressC_ok) (drCons 37 allNil)), eNil⟩ xNil))⟩
def newelref07_isPresses_h2 (v8 : Arr api_Press) (v9 : Int) : St := ⟨((slC api_PressC v8) :: (un 2 ((.int .i64 v9) :: (un 34 [])))), [], 0⟩
def newelref07_isPresses_x2_r (q0 : Bool) : St := ⟨(un 2 ((.bool q0) :: (un 35 []))), [], 0⟩
def newelref07_isPresses_x2_0 (v8 : Arr api_Press) : St := ⟨((slC api_PressC v8) :: (un 37 [])), [], 0⟩
def newelref07_isPresses_b2 {R : Type} (N : Nat) (rc : Arr api_Press → Int → Option R) (v8 : Arr api_Press) (v9 : Int) (kr : Bool → Option R) (k0 : Unit → Option R) : Option R :=
  bif decide (v9 < (↑(Arr.n v8) : Int)) then
   bif decide ((0 : Int) ≤ v9) && decide (v9 < (↑(Arr.n v8) : Int)) then
    newelref07_from N (api_Press.At (Arr.f v8 (Int.toNat v9))) (0 : Int) (500 : Int) (fun r10 =>
    bif !r10 then
     kr false
    else
     bif decide (v9 > (0 : Int)) then
      bif decide ((0 : Int) ≤ v9) && decide (v9 < (↑(Arr.n v8) : Int)) then
       bif decide ((0 : Int) ≤ w64 (v9 - (1 : Int))) && decide (w64 (v9 - (1 : Int)) < (↑(Arr.n v8) : Int)) then
        bif decide (api_Press.At (Arr.f v8 (Int.toNat v9)) < api_Press.At (Arr.f v8 (Int.toNat (w64 (v9 - (1 : Int)))))) then
         kr false
        else
         rc v8 (w64 (v9 + (1 : Int)))
       else
        Option.none
      else
       Option.none
     else
      rc v8 (w64 (v9 + (1 : Int))))
   else
    Option.none
  else
   k0 ()
def newelref07_isPresses_l2 {R : Type} (N : Nat) : Nat → Arr api_Press → Int → (Bool → Option R) → (Unit → Option R) → Option R
  | 0, _, _, _, _ => Option.none
  | n + 1, v8, v9, kr, k0 => newelref07_isPresses_b2 N (fun v8 v9 => newelref07_isPresses_l2 N n v8 v9 kr k0) v8 v9 kr k0


def newelref07_isPresses_m {R : Type} (N : Nat) (a7 : Arr api_Press) (k : Bool → Option R) : Option R :=
  newelref07_isPresses_l2 N N a7 (0 : Int) (fun r11 =>
   k r11) (fun (_ : Unit) =>
   k (decide ((↑(Arr.n a7) : Int) ≤ (200 : Int))))
noncomputable def newelref07_isPresses {R : Type} : Nat → Arr api_Press → (Bool → Option R) → Option R := lock (@newelref07_isPresses_m R)
theorem newelref07_isPresses_def {R : Type} (N : Nat) (a7 : Arr api_Press) (k : Bool → Option R) : newelref07_isPresses N a7 k = newelref07_isPresses_m N a7 k := by unfold newelref07_isPresses; rw [lock_eq]
def newelref07_isPresses_sp : Sp := ⟨[rSl api_PressC], []⟩
theorem newelref07_isPresses_sp_ok : newelref07_isPresses_sp.Ok := ⟨(allCons (rSl_ok api_PressC_ok) allNil), eNil⟩
def newelref07_isPresses_rs : Sp := ⟨[rBool], []⟩
theorem newelref07_isPresses_rs_ok : newelref07_isPresses_rs.Ok := ⟨(allCons rBool_ok allNil), eNil⟩
def newelref07_isPresses_run {R : Type} (N : Nat) (args : List SV) (T : Tab) (kf : SV × Tab → Option R) : Option R :=
  newelref07_isPresses_m N (lstC api_PressC (lget args 0)) (fun q0 => kf (lget [.bool q0] 0, []))
def newelref07_isPresses_d2 {R : Type} (N : Nat) (S0 : St) (k : Exit → St → Option R) : Option R :=
  newelref07_isPresses_l2 N N (lstC api_PressC (lget S0.tmps 0)) (toI (lget S0.tmps 3)) (fun q0 => k .ret (newelref07_isPresses_x2_r q0)) (fun (_ : Unit) => k (.exit 0) (newelref07_isPresses_x2_0 (lstC api_PressC (lget S0.tmps 0))))
def newelref07_isPresses_lp {R : Type} (N : Nat) : Lp R := fun body S k => bif (Go.Sx.keyOf body).getD 0 == 2 then newelref07_isPresses_L2.head.raw 0 S (fun S0 => newelref07_isPresses_d2 N S0 k) else Option.none
theorem newelref07_isPresses_l2_eq {R : Type} (N : Nat) (k : Exit → St → Option R) (n : Nat) : ∀ (v0 : Arr api_Press) (v1 : Int), loopM E.Θ (newelref07_CheckCar_cal N) (newelref07_isPresses_lp N) (noJn) 0 newelref07_isPresses_L2 (bodyAt E 79 2) n (newelref07_isPresses_h2 v0 v1) k = newelref07_isPresses_l2 N n v0 v1 (fun q0 => k .ret (newelref07_isPresses_x2_r q0)) (fun (_ : Unit) => k (.exit 0) (newelref07_isPresses_x2_0 v0)) := by
  induction n with
  | zero => intro v0 v1; rfl
  | succ n ih =>
    intro v0 v1
    refine Eq.trans (b := newelref07_isPresses_b2 N (fun v0 v1 => loopM E.Θ (newelref07_CheckCar_cal N) (newelref07_isPresses_lp N) (noJn) 0 newelref07_isPresses_L2 (bodyAt E 79 2) n (newelref07_isPresses_h2 v0 v1) k) v0 v1 (fun q0 => k .ret (newelref07_isPresses_x2_r q0)) (fun (_ : Unit) => k (.exit 0) (newelref07_isPresses_x2_0 v0))) (by kernel_rfl) ?_
    have h : (fun (v0 : Arr api_Press) (v1 : Int) => loopM E.Θ (newelref07_CheckCar_cal N) (newelref07_isPresses_lp N) (noJn) 0 newelref07_isPresses_L2 (bodyAt E 79 2) n (newelref07_isPresses_h2 v0 v1) k) = (fun (v0 : Arr api_Press) (v1 : Int) => newelref07_isPresses_l2 N n v0 v1 (fun q0 => k .ret (newelref07_isPresses_x2_r q0)) (fun (_ : Unit) => k (.exit 0) (newelref07_isPresses_x2_0 v0))) := funext fun v0 => funext fun v1 => ih v0 v1
    rw [h]
    rfl
theorem newelref07_isPresses_k2 {R : Type} (N : Nat) : LpKey (R := R) E 79 0 (newelref07_isPresses_lp N) 2 :=
  lpKey_of hE (newelref07_CheckCar_cal_ok N) (jn := noJn) newelref07_isPresses_L2_ok [] kNil (by kernel_rfl) [] jNil (by kernel_rfl) N fun S k =>
    Eq.trans (b := newelref07_isPresses_L2.head.raw 0 S (fun S0 => newelref07_isPresses_d2 N S0 k)) (by kernel_rfl) (congrArg (newelref07_isPresses_L2.head.raw 0 S) (funext fun S0 => Eq.trans (newelref07_isPresses_l2_eq N k N (lstC api_PressC (lget S0.tmps 0)) (toI (lget S0.tmps 3))).symm (by kernel_rfl)))
noncomputable def newelref07_isPresses_go {R : Type} (N : Nat) (args : List SV) (T : Tab) (kf : SV × Tab → Option R) : Option R :=
  newelref07_isPresses N (lstC api_PressC (lget args 0)) (fun q0 => kf (lget [.bool q0] 0, []))
noncomputable def newelref07_isPresses_cal {R : Type} (N : Nat) : Cal R := callM (newelref07_CheckCar_cal N) 79 0 newelref07_isPresses_sp (newelref07_isPresses_go N)
theorem newelref07_isPresses_cal_ok {R : Type} (N : Nat) : CalOk E.P (newelref07_isPresses_cal (R := R) N) :=
  callM_ok hE (newelref07_CheckCar_cal_ok N) (lp := newelref07_isPresses_lp N) (jn := noJn) (keys := [2]) (kCons (newelref07_isPresses_k2 N) kNil) (by kernel_rfl) (js := []) jNil (by kernel_rfl) newelref07_isPresses_sp_ok newelref07_isPresses_rs_ok (fun args T kf => Eq.trans (newelref07_isPresses_def N (lstC api_PressC (lget args 0)) (fun q0 => kf (lget [.bool q0] 0, []))) (by kernel_rfl : newelref07_isPresses_run N args T kf = fnM E (newelref07_CheckCar_cal N) (newelref07_isPresses_lp N) (noJn) 79 (newelref07_isPresses_sp.vs args) (newelref07_isPresses_sp.tab T) 0 (resK newelref07_isPresses_rs kf)))

def newelref07_Check_L6 : LoopSp := ⟨⟨[1, 2, 5], ⟨(dr 1 ((rSl api_PressC) :: (rPtr 0 0) :: (dr 2 ((rInt .i64) :: (dr 23 []))))), [(0, eBlkC api_CarC)]⟩, 1⟩, [(Option.none, ⟨[4], ⟨(dr 4 ((rInt .i64) :: (dr 24 []))), []⟩, 0⟩), (some 0, ⟨[], ⟨(dr 29 []), []⟩, 0⟩)]⟩
theorem newelref07_Check_L6_ok : newelref07_Check_L6.Ok := ⟨⟨(drCons 1 (allCons (rSl_ok api_PressC_ok) (allCons (rPtr_ok 0 0) (drCons 2 (allCons (rInt_ok .i64) (drCons 23 allNil)))))), (eCons (eBlkC_ok api_CarC_ok api_CarC_len) eNil)⟩, (xCons ⟨(drCons 4 (allCons (rInt_ok .i64) (drCons 24 allNil))), eNil⟩ (xCons ⟨(drCons 29 allNil), eNil⟩ xNil))⟩
def newelref07_Check_h6 (v16 : Arr api_Press) (v17 : Int) (v18 : api_Car) : St := ⟨(un 1 ((slC api_PressC v16) :: (.ptr 0 0) :: (un 2 ((.int .i64 v17) :: (un 23 []))))), [(0, .blk (Cod.enc api_CarC v18))], 1⟩
def newelref07_Check_x6_r (q0 : Int) : St := ⟨(un 4 ((.int .i64 q0) :: (un 24 []))), [], 0⟩
def newelref07_Check_x6_0  : St := ⟨(un 29 []), [], 0⟩
def newelref07_Check_b6 {R : Type} (N : Nat) (rc : Arr api_Press → Int → api_Car → Option R) (v16 : Arr api_Press) (v17 : Int) (v18 : api_Car) (kr : Int → Option R) (k0 : Unit → Option R) : Option R :=
  bif decide (v17 < (↑(Arr.n v16) : Int)) then
   bif decide ((0 : Int) ≤ v17) && decide (v17 < (↑(Arr.n v16) : Int)) then
    newelref07_from N (api_Press.Floor (Arr.f v16 (Int.toNat v17))) (api_Car.Low v18) (api_Car.High v18) (fun r19 =>
    bif !r19 then
     kr (71 : Int)
    else
     rc v16 (w64 (v17 + (1 : Int))) v18)
   else
    Option.none
  else
   k0 ()
def newelref07_Check_l6 {R : Type} (N : Nat) : Nat → Arr api_Press → Int → api_Car → (Int → Option R) → (Unit → Option R) → Option R
  | 0, _, _, _, _, _ => Option.none
  | n + 1, v16, v17, v18, kr, k0 => newelref07_Check_b6 N (fun v16 v17 v18 => newelref07_Check_l6 N n v16 v17 v18 kr k0) v16 v17 v18 kr k0


def newelref07_Check_m {R : Type} (N : Nat) (a12 : api_Car) (a13 : Arr api_Press) (k : Int → Option R) : Option R :=
  newelref07_CheckCar N a12 (fun r14 =>
  bif r14 != (0 : Int) then
   k (70 : Int)
  else
   newelref07_isPresses N a13 (fun r15 =>
   bif !r15 then
    k (71 : Int)
   else
    newelref07_Check_l6 N N a13 (0 : Int) a12 (fun r20 =>
     k r20) (fun (_ : Unit) =>
     k (0 : Int))))
noncomputable def newelref07_Check {R : Type} : Nat → api_Car → Arr api_Press → (Int → Option R) → Option R := lock (@newelref07_Check_m R)
theorem newelref07_Check_def {R : Type} (N : Nat) (a12 : api_Car) (a13 : Arr api_Press) (k : Int → Option R) : newelref07_Check N a12 a13 k = newelref07_Check_m N a12 a13 k := by unfold newelref07_Check; rw [lock_eq]
def newelref07_Check_sp : Sp := ⟨[rAgg api_CarC, rSl api_PressC], []⟩
theorem newelref07_Check_sp_ok : newelref07_Check_sp.Ok := ⟨(allCons (rAgg_ok api_CarC_ok api_CarC_len) (allCons (rSl_ok api_PressC_ok) allNil)), eNil⟩
def newelref07_Check_rs : Sp := ⟨[rInt .i64], []⟩
theorem newelref07_Check_rs_ok : newelref07_Check_rs.Ok := ⟨(allCons (rInt_ok .i64) allNil), eNil⟩
def newelref07_Check_run {R : Type} (N : Nat) (args : List SV) (T : Tab) (kf : SV × Tab → Option R) : Option R :=
  newelref07_Check_m N (Cod.dec api_CarC (lget (toCs (lget args 0)))) (lstC api_PressC (lget args 1)) (fun q0 => kf (lget [.int .i64 q0] 0, []))
def newelref07_Check_d6 {R : Type} (N : Nat) (S0 : St) (k : Exit → St → Option R) : Option R :=
  newelref07_Check_l6 N N (lstC api_PressC (lget S0.tmps 1)) (toI (lget S0.tmps 5)) (Cod.dec api_CarC (lget (entCs (entAt S0.tab 0)))) (fun q0 => k .ret (newelref07_Check_x6_r q0)) (fun (_ : Unit) => k (.exit 0) (newelref07_Check_x6_0 ))
def newelref07_Check_lp {R : Type} (N : Nat) : Lp R := fun body S k => bif (Go.Sx.keyOf body).getD 0 == 6 then newelref07_Check_L6.head.raw 0 S (fun S0 => newelref07_Check_d6 N S0 k) else Option.none
theorem newelref07_Check_l6_eq {R : Type} (N : Nat) (k : Exit → St → Option R) (n : Nat) : ∀ (v0 : Arr api_Press) (v1 : Int) (v2 : api_Car), loopM E.Θ (newelref07_isPresses_cal N) (newelref07_Check_lp N) (noJn) 0 newelref07_Check_L6 (bodyAt E 33 6) n (newelref07_Check_h6 v0 v1 v2) k = newelref07_Check_l6 N n v0 v1 v2 (fun q0 => k .ret (newelref07_Check_x6_r q0)) (fun (_ : Unit) => k (.exit 0) (newelref07_Check_x6_0 )) := by
  induction n with
  | zero => intro v0 v1 v2; rfl
  | succ n ih =>
    intro v0 v1 v2
    refine Eq.trans (b := newelref07_Check_b6 N (fun v0 v1 v2 => loopM E.Θ (newelref07_isPresses_cal N) (newelref07_Check_lp N) (noJn) 0 newelref07_Check_L6 (bodyAt E 33 6) n (newelref07_Check_h6 v0 v1 v2) k) v0 v1 v2 (fun q0 => k .ret (newelref07_Check_x6_r q0)) (fun (_ : Unit) => k (.exit 0) (newelref07_Check_x6_0 ))) (by kernel_rfl) ?_
    have h : (fun (v0 : Arr api_Press) (v1 : Int) (v2 : api_Car) => loopM E.Θ (newelref07_isPresses_cal N) (newelref07_Check_lp N) (noJn) 0 newelref07_Check_L6 (bodyAt E 33 6) n (newelref07_Check_h6 v0 v1 v2) k) = (fun (v0 : Arr api_Press) (v1 : Int) (v2 : api_Car) => newelref07_Check_l6 N n v0 v1 v2 (fun q0 => k .ret (newelref07_Check_x6_r q0)) (fun (_ : Unit) => k (.exit 0) (newelref07_Check_x6_0 ))) := funext fun v0 => funext fun v1 => funext fun v2 => ih v0 v1 v2
    rw [h]
    rfl
theorem newelref07_Check_k6 {R : Type} (N : Nat) : LpKey (R := R) E 33 0 (newelref07_Check_lp N) 6 :=
  lpKey_of hE (newelref07_isPresses_cal_ok N) (jn := noJn) newelref07_Check_L6_ok [] kNil (by kernel_rfl) [] jNil (by kernel_rfl) N fun S k =>
    Eq.trans (b := newelref07_Check_L6.head.raw 0 S (fun S0 => newelref07_Check_d6 N S0 k)) (by kernel_rfl) (congrArg (newelref07_Check_L6.head.raw 0 S) (funext fun S0 => Eq.trans (newelref07_Check_l6_eq N k N (lstC api_PressC (lget S0.tmps 1)) (toI (lget S0.tmps 5)) (Cod.dec api_CarC (lget (entCs (entAt S0.tab 0))))).symm (by kernel_rfl)))
noncomputable def newelref07_Check_go {R : Type} (N : Nat) (args : List SV) (T : Tab) (kf : SV × Tab → Option R) : Option R :=
  newelref07_Check N (Cod.dec api_CarC (lget (toCs (lget args 0)))) (lstC api_PressC (lget args 1)) (fun q0 => kf (lget [.int .i64 q0] 0, []))
noncomputable def newelref07_Check_cal {R : Type} (N : Nat) : Cal R := callM (newelref07_isPresses_cal N) 33 0 newelref07_Check_sp (newelref07_Check_go N)
theorem newelref07_Check_cal_ok {R : Type} (N : Nat) : CalOk E.P (newelref07_Check_cal (R := R) N) :=
  callM_ok hE (newelref07_isPresses_cal_ok N) (lp := newelref07_Check_lp N) (jn := noJn) (keys := [6]) (kCons (newelref07_Check_k6 N) kNil) (by kernel_rfl) (js := []) jNil (by kernel_rfl) newelref07_Check_sp_ok newelref07_Check_rs_ok (fun args T kf => Eq.trans (newelref07_Check_def N (Cod.dec api_CarC (lget (toCs (lget args 0)))) (lstC api_PressC (lget args 1)) (fun q0 => kf (lget [.int .i64 q0] 0, []))) (by kernel_rfl : newelref07_Check_run N args T kf = fnM E (newelref07_isPresses_cal N) (newelref07_Check_lp N) (noJn) 33 (newelref07_Check_sp.vs args) (newelref07_Check_sp.tab T) 0 (resK newelref07_Check_rs kf)))


def newelref02_from_m {R : Type} (N : Nat) (a21 : Int) (a22 : Int) (a23 : Int) (k : Bool → Option R) : Option R :=
  bif decide (a21 ≥ a22) then
   k (decide (a21 ≤ a23))
  else
   k false
noncomputable def newelref02_from {R : Type} : Nat → Int → Int → Int → (Bool → Option R) → Option R := lock (@newelref02_from_m R)
theorem newelref02_from_def {R : Type} (N : Nat) (a21 : Int) (a22 : Int) (a23 : Int) (k : Bool → Option R) : newelref02_from N a21 a22 a23 k = newelref02_from_m N a21 a22 a23 k := by unfold newelref02_from; rw [lock_eq]
def newelref02_from_sp : Sp := ⟨[rInt .i64, rInt .i64, rInt .i64], []⟩
theorem newelref02_from_sp_ok : newelref02_from_sp.Ok := ⟨(allCons (rInt_ok .i64) (allCons (rInt_ok .i64) (allCons (rInt_ok .i64) allNil))), eNil⟩
def newelref02_from_rs : Sp := ⟨[rBool], []⟩
theorem newelref02_from_rs_ok : newelref02_from_rs.Ok := ⟨(allCons rBool_ok allNil), eNil⟩
def newelref02_from_run {R : Type} (N : Nat) (args : List SV) (T : Tab) (kf : SV × Tab → Option R) : Option R :=
  newelref02_from_m N (toI (lget args 0)) (toI (lget args 1)) (toI (lget args 2)) (fun q0 => kf (lget [.bool q0] 0, []))
def newelref02_from_lp {R : Type} (N : Nat) : Lp R := fun body S k => Option.none
noncomputable def newelref02_from_go {R : Type} (N : Nat) (args : List SV) (T : Tab) (kf : SV × Tab → Option R) : Option R :=
  newelref02_from N (toI (lget args 0)) (toI (lget args 1)) (toI (lget args 2)) (fun q0 => kf (lget [.bool q0] 0, []))
noncomputable def newelref02_from_cal {R : Type} (N : Nat) : Cal R := callM (newelref07_Check_cal N) 80 0 newelref02_from_sp (newelref02_from_go N)
theorem newelref02_from_cal_ok {R : Type} (N : Nat) : CalOk E.P (newelref02_from_cal (R := R) N) :=
  callM_ok hE (newelref07_Check_cal_ok N) (lp := newelref02_from_lp N) (jn := noJn) (keys := []) kNil (by kernel_rfl) (js := []) jNil (by kernel_rfl) newelref02_from_sp_ok newelref02_from_rs_ok (fun args T kf => Eq.trans (newelref02_from_def N (toI (lget args 0)) (toI (lget args 1)) (toI (lget args 2)) (fun q0 => kf (lget [.bool q0] 0, []))) (by kernel_rfl : newelref02_from_run N args T kf = fnM E (newelref07_Check_cal N) (newelref02_from_lp N) (noJn) 80 (newelref02_from_sp.vs args) (newelref02_from_sp.tab T) 0 (resK newelref02_from_rs kf)))

def newelref02_CheckPart_L4 : LoopSp := ⟨⟨[1, 2, 5], ⟨(dr 1 ((rSl api_UseC) :: (rPtr 0 0) :: (dr 2 ((rInt .i64) :: (dr 132 []))))), [(0, eBlkC api_PartC)]⟩, 1⟩, [(Option.none, ⟨[4], ⟨(dr 4 ((rInt .i64) :: (dr 133 []))), []⟩, 0⟩), (some 0, ⟨[1, 2], ⟨(dr 1 ((rSl api_UseC) :: (rPtr 0 0) :: (dr 135 []))), [(0, eBlkC api_PartC)]⟩, 1⟩)]⟩
theorem newelref02_CheckPart_L4_ok : newelref02_CheckPart_L4.Ok := ⟨⟨(drCons 1 (allCons (rSl_ok api_UseC_ok) (allCons (rPtr_ok 0 0) (drCons 2 (allCons (rInt_ok .i64) (drCons 132 allNil)))))), (eCons (eBlkC_ok api_PartC_ok api_PartC_len) eNil)⟩, (xCons ⟨(drCons 4 (allCons (rInt_ok .i64) (drCons 133 allNil))), eNil⟩ (xCons ⟨(drCons 1 (allCons (rSl_ok api_UseC_ok) (allCons (rPtr_ok 0 0) (drCons 135 allNil)))), (eCons (eBlkC_ok api_PartC_ok api_PartC_len) eNil)⟩ xNil))⟩
def newelref02_CheckPart_h4 (v30 : Arr api_Use) (v31 : Int) (v32 : api_Part) : St := ⟨(un 1 ((slC api_UseC v30) :: (.ptr 0 0) :: (un 2 ((.int .i64 v31) :: (un 132 []))))), [(0, .blk (Cod.enc api_PartC v32))], 1⟩
def newelref02_CheckPart_x4_r (q0 : Int) : St := ⟨(un 4 ((.int .i64 q0) :: (un 133 []))), [], 0⟩
def newelref02_CheckPart_x4_0 (v30 : Arr api_Use) (v32 : api_Part) : St := ⟨(un 1 ((slC api_UseC v30) :: (.ptr 0 0) :: (un 135 []))), [(0, .blk (Cod.enc api_PartC v32))], 1⟩
def newelref02_CheckPart_b4 {R : Type} (N : Nat) (rc : Arr api_Use → Int → api_Part → Option R) (v30 : Arr api_Use) (v31 : Int) (v32 : api_Part) (kr : Int → Option R) (k0 : Unit → Option R) : Option R :=
  bif decide (v31 < (↑(Arr.n (api_Part.Rates v32)) : Int)) then
   bif decide ((0 : Int) ≤ v31) && decide (v31 < (↑(Arr.n (api_Part.Rates v32)) : Int)) then
    bif decide ((0 : Int) ≤ v31) && decide (v31 < (↑(Arr.n (api_Part.Rates v32)) : Int)) then
     newelref02_from N (api_Span.Low (Arr.f (api_Part.Rates v32) (Int.toNat v31))) (0 : Int) (api_Span.High (Arr.f (api_Part.Rates v32) (Int.toNat v31))) (fun r33 =>
     bif !r33 then
      kr (22 : Int)
     else
      bif decide ((0 : Int) ≤ v31) && decide (v31 < (↑(Arr.n (api_Part.Rates v32)) : Int)) then
       bif decide (api_Span.High (Arr.f (api_Part.Rates v32) (Int.toNat v31)) > (1000000 : Int)) then
        kr (22 : Int)
       else
        rc v30 (w64 (v31 + (1 : Int))) v32
      else
       Option.none)
    else
     Option.none
   else
    Option.none
  else
   k0 ()
def newelref02_CheckPart_l4 {R : Type} (N : Nat) : Nat → Arr api_Use → Int → api_Part → (Int → Option R) → (Unit → Option R) → Option R
  | 0, _, _, _, _, _ => Option.none
  | n + 1, v30, v31, v32, kr, k0 => newelref02_CheckPart_b4 N (fun v30 v31 v32 => newelref02_CheckPart_l4 N n v30 v31 v32 kr k0) v30 v31 v32 kr k0

def newelref02_CheckPart_L11 : LoopSp := ⟨⟨[1, 2, 6], ⟨(dr 1 ((rSl api_UseC) :: (rPtr 0 0) :: (dr 3 ((rInt .i64) :: (dr 131 []))))), [(0, eBlkC api_PartC)]⟩, 1⟩, [(Option.none, ⟨[4], ⟨(dr 4 ((rInt .i64) :: (dr 133 []))), []⟩, 0⟩), (some 2, ⟨[], ⟨(dr 138 []), []⟩, 0⟩)]⟩
theorem newelref02_CheckPart_L11_ok : newelref02_CheckPart_L11.Ok := ⟨⟨(drCons 1 (allCons (rSl_ok api_UseC_ok) (allCons (rPtr_ok 0 0) (drCons 3 (allCons (rInt_ok .i64) (drCons 131 allNil)))))), (eCons (eBlkC_ok api_PartC_ok api_PartC_len) eNil)⟩, (xCons ⟨(drCons 4 (allCons (rInt_ok .i64) (drCons 133 allNil))), eNil⟩ (xCons ⟨(drCons 138 allNil), eNil⟩ xNil))⟩
def newelref02_CheckPart_h11 (v35 : Arr api_Use) (v36 : Int) (v37 : api_Part) : St := ⟨(un 1 ((slC api_UseC v35) :: (.ptr 0 0) :: (un 3 ((.int .i64 v36) :: (un 131 []))))), [(0, .blk (Cod.enc api_PartC v37))], 1⟩
def newelref02_CheckPart_x11_r (q0 : Int) : St := ⟨(un 4 ((.int .i64 q0) :: (un 133 []))), [], 0⟩
def newelref02_CheckPart_x11_2  : St := ⟨(un 138 []), [], 0⟩
def newelref02_CheckPart_b11 {R : Type} (N : Nat) (rc : Arr api_Use → Int → api_Part → Option R) (v35 : Arr api_Use) (v36 : Int) (v37 : api_Part) (kr : Int → Option R) (k2 : Unit → Option R) : Option R :=
  bif decide (v36 < (↑(Arr.n v35) : Int)) then
   bif decide ((0 : Int) ≤ v36) && decide (v36 < (↑(Arr.n v35) : Int)) then
    newelref02_from N (api_Use.Day (Arr.f v35 (Int.toNat v36))) (0 : Int) (100000 : Int) (fun r38 =>
    bif !r38 then
     kr (23 : Int)
    else
     bif decide (v36 > (0 : Int)) then
      bif decide ((0 : Int) ≤ w64 (v36 - (1 : Int))) && decide (w64 (v36 - (1 : Int)) < (↑(Arr.n v35) : Int)) then
       bif decide (api_Use.Day (Arr.f v35 (Int.toNat v36)) < api_Use.Day (Arr.f v35 (Int.toNat (w64 (v36 - (1 : Int)))))) then
        kr (23 : Int)
       else
        newelref02_from N (api_Use.Turns (Arr.f v35 (Int.toNat v36))) (0 : Int) (1000000 : Int) (fun r39 =>
        bif !r39 then
         kr (23 : Int)
        else
         newelref02_from N (api_Use.Class (Arr.f v35 (Int.toNat v36))) (0 : Int) (w64 ((↑(Arr.n (api_Part.Rates v37)) : Int) - (1 : Int))) (fun r40 =>
         bif !r40 then
          kr (23 : Int)
         else
          bif api_Use.Measured (Arr.f v35 (Int.toNat v36)) then
           newelref02_from N (api_Span.Low (api_Use.Says (Arr.f v35 (Int.toNat v36)))) (0 : Int) (api_Span.High (api_Use.Says (Arr.f v35 (Int.toNat v36)))) (fun r41 =>
           bif !r41 then
            kr (23 : Int)
           else
            bif decide (api_Span.High (api_Use.Says (Arr.f v35 (Int.toNat v36))) > (2000000000 : Int)) then
             kr (23 : Int)
            else
             bif !api_Use.Measured (Arr.f v35 (Int.toNat v36)) then
              bif !(api_Span.Low (api_Use.Says (Arr.f v35 (Int.toNat v36))) == (0 : Int) && (api_Span.High (api_Use.Says (Arr.f v35 (Int.toNat v36))) == (0 : Int) && true)) then
               kr (23 : Int)
              else
               rc v35 (w64 (v36 + (1 : Int))) v37
             else
              rc v35 (w64 (v36 + (1 : Int))) v37)
          else
           bif !api_Use.Measured (Arr.f v35 (Int.toNat v36)) then
            bif !(api_Span.Low (api_Use.Says (Arr.f v35 (Int.toNat v36))) == (0 : Int) && (api_Span.High (api_Use.Says (Arr.f v35 (Int.toNat v36))) == (0 : Int) && true)) then
             kr (23 : Int)
            else
             rc v35 (w64 (v36 + (1 : Int))) v37
           else
            rc v35 (w64 (v36 + (1 : Int))) v37))
      else
       Option.none
     else
      newelref02_from N (api_Use.Turns (Arr.f v35 (Int.toNat v36))) (0 : Int) (1000000 : Int) (fun r42 =>
      bif !r42 then
       kr (23 : Int)
      else
       newelref02_from N (api_Use.Class (Arr.f v35 (Int.toNat v36))) (0 : Int) (w64 ((↑(Arr.n (api_Part.Rates v37)) : Int) - (1 : Int))) (fun r43 =>
       bif !r43 then
        kr (23 : Int)
       else
        bif api_Use.Measured (Arr.f v35 (Int.toNat v36)) then
         newelref02_from N (api_Span.Low (api_Use.Says (Arr.f v35 (Int.toNat v36)))) (0 : Int) (api_Span.High (api_Use.Says (Arr.f v35 (Int.toNat v36)))) (fun r44 =>
         bif !r44 then
          kr (23 : Int)
         else
          bif decide (api_Span.High (api_Use.Says (Arr.f v35 (Int.toNat v36))) > (2000000000 : Int)) then
           kr (23 : Int)
          else
           bif !api_Use.Measured (Arr.f v35 (Int.toNat v36)) then
            bif !(api_Span.Low (api_Use.Says (Arr.f v35 (Int.toNat v36))) == (0 : Int) && (api_Span.High (api_Use.Says (Arr.f v35 (Int.toNat v36))) == (0 : Int) && true)) then
             kr (23 : Int)
            else
             rc v35 (w64 (v36 + (1 : Int))) v37
           else
            rc v35 (w64 (v36 + (1 : Int))) v37)
        else
         bif !api_Use.Measured (Arr.f v35 (Int.toNat v36)) then
          bif !(api_Span.Low (api_Use.Says (Arr.f v35 (Int.toNat v36))) == (0 : Int) && (api_Span.High (api_Use.Says (Arr.f v35 (Int.toNat v36))) == (0 : Int) && true)) then
           kr (23 : Int)
          else
           rc v35 (w64 (v36 + (1 : Int))) v37
         else
          rc v35 (w64 (v36 + (1 : Int))) v37)))
   else
    Option.none
  else
   k2 ()
def newelref02_CheckPart_l11 {R : Type} (N : Nat) : Nat → Arr api_Use → Int → api_Part → (Int → Option R) → (Unit → Option R) → Option R
  | 0, _, _, _, _, _ => Option.none
  | n + 1, v35, v36, v37, kr, k2 => newelref02_CheckPart_b11 N (fun v35 v36 v37 => newelref02_CheckPart_l11 N n v35 v36 v37 kr k2) v35 v36 v37 kr k2


def newelref02_CheckPart_m {R : Type} (N : Nat) (a24 : api_Part) (a25 : Arr api_Use) (k : Int → Option R) : Option R :=
  newelref02_from N ((↑(Arr.n (api_Part.Rates a24)) : Int)) (1 : Int) (4 : Int) (fun r26 =>
  bif !r26 then
   k (22 : Int)
  else
   newelref02_from N (api_Part.Worn a24) (0 : Int) (1000 : Int) (fun r27 =>
   bif !r27 then
    k (22 : Int)
   else
    newelref02_from N (api_Part.Turns a24) (0 : Int) (1000000 : Int) (fun r28 =>
    bif !r28 then
     k (22 : Int)
    else
     newelref02_from N (api_Part.Age a24) (0 : Int) (100000 : Int) (fun r29 =>
     bif !r29 then
      k (22 : Int)
     else
      newelref02_CheckPart_l4 N N a25 (0 : Int) a24 (fun r34 =>
       k r34) (fun (_ : Unit) =>
       bif decide ((↑(Arr.n a25) : Int) > (40 : Int)) then
        k (23 : Int)
       else
        newelref02_CheckPart_l11 N N a25 (0 : Int) a24 (fun r45 =>
         k r45) (fun (_ : Unit) =>
         k (0 : Int)))))))
noncomputable def newelref02_CheckPart {R : Type} : Nat → api_Part → Arr api_Use → (Int → Option R) → Option R := lock (@newelref02_CheckPart_m R)
theorem newelref02_CheckPart_def {R : Type} (N : Nat) (a24 : api_Part) (a25 : Arr api_Use) (k : Int → Option R) : newelref02_CheckPart N a24 a25 k = newelref02_CheckPart_m N a24 a25 k := by unfold newelref02_CheckPart; rw [lock_eq]
def newelref02_CheckPart_sp : Sp := ⟨[rAgg api_PartC, rSl api_UseC], []⟩
theorem newelref02_CheckPart_sp_ok : newelref02_CheckPart_sp.Ok := ⟨(allCons (rAgg_ok api_PartC_ok api_PartC_len) (allCons (rSl_ok api_UseC_ok) allNil)), eNil⟩
def newelref02_CheckPart_rs : Sp := ⟨[rInt .i64], []⟩
theorem newelref02_CheckPart_rs_ok : newelref02_CheckPart_rs.Ok := ⟨(allCons (rInt_ok .i64) allNil), eNil⟩
def newelref02_CheckPart_run {R : Type} (N : Nat) (args : List SV) (T : Tab) (kf : SV × Tab → Option R) : Option R :=
  newelref02_CheckPart_m N (Cod.dec api_PartC (lget (toCs (lget args 0)))) (lstC api_UseC (lget args 1)) (fun q0 => kf (lget [.int .i64 q0] 0, []))
def newelref02_CheckPart_d11 {R : Type} (N : Nat) (S0 : St) (k : Exit → St → Option R) : Option R :=
  newelref02_CheckPart_l11 N N (lstC api_UseC (lget S0.tmps 1)) (toI (lget S0.tmps 6)) (Cod.dec api_PartC (lget (entCs (entAt S0.tab 0)))) (fun q0 => k .ret (newelref02_CheckPart_x11_r q0)) (fun (_ : Unit) => k (.exit 2) (newelref02_CheckPart_x11_2 ))
def newelref02_CheckPart_d4 {R : Type} (N : Nat) (S0 : St) (k : Exit → St → Option R) : Option R :=
  newelref02_CheckPart_l4 N N (lstC api_UseC (lget S0.tmps 1)) (toI (lget S0.tmps 5)) (Cod.dec api_PartC (lget (entCs (entAt S0.tab 0)))) (fun q0 => k .ret (newelref02_CheckPart_x4_r q0)) (fun (_ : Unit) => k (.exit 0) (newelref02_CheckPart_x4_0 (lstC api_UseC (lget S0.tmps 1)) (Cod.dec api_PartC (lget (entCs (entAt S0.tab 0))))))
def newelref02_CheckPart_lp {R : Type} (N : Nat) : Lp R := fun body S k => bif (Go.Sx.keyOf body).getD 0 == 4 then newelref02_CheckPart_L4.head.raw 0 S (fun S0 => newelref02_CheckPart_d4 N S0 k) else bif (Go.Sx.keyOf body).getD 0 == 11 then newelref02_CheckPart_L11.head.raw 0 S (fun S0 => newelref02_CheckPart_d11 N S0 k) else Option.none
theorem newelref02_CheckPart_l4_eq {R : Type} (N : Nat) (k : Exit → St → Option R) (n : Nat) : ∀ (v0 : Arr api_Use) (v1 : Int) (v2 : api_Part), loopM E.Θ (newelref02_from_cal N) (newelref02_CheckPart_lp N) (noJn) 0 newelref02_CheckPart_L4 (bodyAt E 34 4) n (newelref02_CheckPart_h4 v0 v1 v2) k = newelref02_CheckPart_l4 N n v0 v1 v2 (fun q0 => k .ret (newelref02_CheckPart_x4_r q0)) (fun (_ : Unit) => k (.exit 0) (newelref02_CheckPart_x4_0 v0 v2)) := by
  induction n with
  | zero => intro v0 v1 v2; rfl
  | succ n ih =>
    intro v0 v1 v2
    refine Eq.trans (b := newelref02_CheckPart_b4 N (fun v0 v1 v2 => loopM E.Θ (newelref02_from_cal N) (newelref02_CheckPart_lp N) (noJn) 0 newelref02_CheckPart_L4 (bodyAt E 34 4) n (newelref02_CheckPart_h4 v0 v1 v2) k) v0 v1 v2 (fun q0 => k .ret (newelref02_CheckPart_x4_r q0)) (fun (_ : Unit) => k (.exit 0) (newelref02_CheckPart_x4_0 v0 v2))) (by kernel_rfl) ?_
    have h : (fun (v0 : Arr api_Use) (v1 : Int) (v2 : api_Part) => loopM E.Θ (newelref02_from_cal N) (newelref02_CheckPart_lp N) (noJn) 0 newelref02_CheckPart_L4 (bodyAt E 34 4) n (newelref02_CheckPart_h4 v0 v1 v2) k) = (fun (v0 : Arr api_Use) (v1 : Int) (v2 : api_Part) => newelref02_CheckPart_l4 N n v0 v1 v2 (fun q0 => k .ret (newelref02_CheckPart_x4_r q0)) (fun (_ : Unit) => k (.exit 0) (newelref02_CheckPart_x4_0 v0 v2))) := funext fun v0 => funext fun v1 => funext fun v2 => ih v0 v1 v2
    rw [h]
    rfl
theorem newelref02_CheckPart_l11_eq {R : Type} (N : Nat) (k : Exit → St → Option R) (n : Nat) : ∀ (v0 : Arr api_Use) (v1 : Int) (v2 : api_Part), loopM E.Θ (newelref02_from_cal N) (newelref02_CheckPart_lp N) (noJn) 0 newelref02_CheckPart_L11 (bodyAt E 34 11) n (newelref02_CheckPart_h11 v0 v1 v2) k = newelref02_CheckPart_l11 N n v0 v1 v2 (fun q0 => k .ret (newelref02_CheckPart_x11_r q0)) (fun (_ : Unit) => k (.exit 2) (newelref02_CheckPart_x11_2 )) := by
  induction n with
  | zero => intro v0 v1 v2; rfl
  | succ n ih =>
    intro v0 v1 v2
    refine Eq.trans (b := newelref02_CheckPart_b11 N (fun v0 v1 v2 => loopM E.Θ (newelref02_from_cal N) (newelref02_CheckPart_lp N) (noJn) 0 newelref02_CheckPart_L11 (bodyAt E 34 11) n (newelref02_CheckPart_h11 v0 v1 v2) k) v0 v1 v2 (fun q0 => k .ret (newelref02_CheckPart_x11_r q0)) (fun (_ : Unit) => k (.exit 2) (newelref02_CheckPart_x11_2 ))) (by kernel_rfl) ?_
    have h : (fun (v0 : Arr api_Use) (v1 : Int) (v2 : api_Part) => loopM E.Θ (newelref02_from_cal N) (newelref02_CheckPart_lp N) (noJn) 0 newelref02_CheckPart_L11 (bodyAt E 34 11) n (newelref02_CheckPart_h11 v0 v1 v2) k) = (fun (v0 : Arr api_Use) (v1 : Int) (v2 : api_Part) => newelref02_CheckPart_l11 N n v0 v1 v2 (fun q0 => k .ret (newelref02_CheckPart_x11_r q0)) (fun (_ : Unit) => k (.exit 2) (newelref02_CheckPart_x11_2 ))) := funext fun v0 => funext fun v1 => funext fun v2 => ih v0 v1 v2
    rw [h]
    rfl
theorem newelref02_CheckPart_k4 {R : Type} (N : Nat) : LpKey (R := R) E 34 0 (newelref02_CheckPart_lp N) 4 :=
  lpKey_of hE (newelref02_from_cal_ok N) (jn := noJn) newelref02_CheckPart_L4_ok [] kNil (by kernel_rfl) [] jNil (by kernel_rfl) N fun S k =>
    Eq.trans (b := newelref02_CheckPart_L4.head.raw 0 S (fun S0 => newelref02_CheckPart_d4 N S0 k)) (by kernel_rfl) (congrArg (newelref02_CheckPart_L4.head.raw 0 S) (funext fun S0 => Eq.trans (newelref02_CheckPart_l4_eq N k N (lstC api_UseC (lget S0.tmps 1)) (toI (lget S0.tmps 5)) (Cod.dec api_PartC (lget (entCs (entAt S0.tab 0))))).symm (by kernel_rfl)))
theorem newelref02_CheckPart_k11 {R : Type} (N : Nat) : LpKey (R := R) E 34 0 (newelref02_CheckPart_lp N) 11 :=
  lpKey_of hE (newelref02_from_cal_ok N) (jn := noJn) newelref02_CheckPart_L11_ok [] kNil (by kernel_rfl) [] jNil (by kernel_rfl) N fun S k =>
    Eq.trans (b := newelref02_CheckPart_L11.head.raw 0 S (fun S0 => newelref02_CheckPart_d11 N S0 k)) (by kernel_rfl) (congrArg (newelref02_CheckPart_L11.head.raw 0 S) (funext fun S0 => Eq.trans (newelref02_CheckPart_l11_eq N k N (lstC api_UseC (lget S0.tmps 1)) (toI (lget S0.tmps 6)) (Cod.dec api_PartC (lget (entCs (entAt S0.tab 0))))).symm (by kernel_rfl)))
noncomputable def newelref02_CheckPart_go {R : Type} (N : Nat) (args : List SV) (T : Tab) (kf : SV × Tab → Option R) : Option R :=
  newelref02_CheckPart N (Cod.dec api_PartC (lget (toCs (lget args 0)))) (lstC api_UseC (lget args 1)) (fun q0 => kf (lget [.int .i64 q0] 0, []))
noncomputable def newelref02_CheckPart_cal {R : Type} (N : Nat) : Cal R := callM (newelref02_from_cal N) 34 0 newelref02_CheckPart_sp (newelref02_CheckPart_go N)
theorem newelref02_CheckPart_cal_ok {R : Type} (N : Nat) : CalOk E.P (newelref02_CheckPart_cal (R := R) N) :=
  callM_ok hE (newelref02_from_cal_ok N) (lp := newelref02_CheckPart_lp N) (jn := noJn) (keys := [4, 11]) (kCons (newelref02_CheckPart_k4 N) (kCons (newelref02_CheckPart_k11 N) kNil)) (by kernel_rfl) (js := []) jNil (by kernel_rfl) newelref02_CheckPart_sp_ok newelref02_CheckPart_rs_ok (fun args T kf => Eq.trans (newelref02_CheckPart_def N (Cod.dec api_PartC (lget (toCs (lget args 0)))) (lstC api_UseC (lget args 1)) (fun q0 => kf (lget [.int .i64 q0] 0, []))) (by kernel_rfl : newelref02_CheckPart_run N args T kf = fnM E (newelref02_from_cal N) (newelref02_CheckPart_lp N) (noJn) 34 (newelref02_CheckPart_sp.vs args) (newelref02_CheckPart_sp.tab T) 0 (resK newelref02_CheckPart_rs kf)))


def calls_within_m {R : Type} (N : Nat) (a46 : Int) (a47 : Int) (a48 : Int) (k : Bool → Option R) : Option R :=
  bif decide (a46 ≥ a47) then
   k (decide (a46 ≤ a48))
  else
   k false
noncomputable def calls_within {R : Type} : Nat → Int → Int → Int → (Bool → Option R) → Option R := lock (@calls_within_m R)
theorem calls_within_def {R : Type} (N : Nat) (a46 : Int) (a47 : Int) (a48 : Int) (k : Bool → Option R) : calls_within N a46 a47 a48 k = calls_within_m N a46 a47 a48 k := by unfold calls_within; rw [lock_eq]
def calls_within_sp : Sp := ⟨[rInt .i64, rInt .i64, rInt .i64], []⟩
theorem calls_within_sp_ok : calls_within_sp.Ok := ⟨(allCons (rInt_ok .i64) (allCons (rInt_ok .i64) (allCons (rInt_ok .i64) allNil))), eNil⟩
def calls_within_rs : Sp := ⟨[rBool], []⟩
theorem calls_within_rs_ok : calls_within_rs.Ok := ⟨(allCons rBool_ok allNil), eNil⟩
def calls_within_run {R : Type} (N : Nat) (args : List SV) (T : Tab) (kf : SV × Tab → Option R) : Option R :=
  calls_within_m N (toI (lget args 0)) (toI (lget args 1)) (toI (lget args 2)) (fun q0 => kf (lget [.bool q0] 0, []))
def calls_within_lp {R : Type} (N : Nat) : Lp R := fun body S k => Option.none
noncomputable def calls_within_go {R : Type} (N : Nat) (args : List SV) (T : Tab) (kf : SV × Tab → Option R) : Option R :=
  calls_within N (toI (lget args 0)) (toI (lget args 1)) (toI (lget args 2)) (fun q0 => kf (lget [.bool q0] 0, []))
noncomputable def calls_within_cal {R : Type} (N : Nat) : Cal R := callM (newelref02_CheckPart_cal N) 82 0 calls_within_sp (calls_within_go N)
theorem calls_within_cal_ok {R : Type} (N : Nat) : CalOk E.P (calls_within_cal (R := R) N) :=
  callM_ok hE (newelref02_CheckPart_cal_ok N) (lp := calls_within_lp N) (jn := noJn) (keys := []) kNil (by kernel_rfl) (js := []) jNil (by kernel_rfl) calls_within_sp_ok calls_within_rs_ok (fun args T kf => Eq.trans (calls_within_def N (toI (lget args 0)) (toI (lget args 1)) (toI (lget args 2)) (fun q0 => kf (lget [.bool q0] 0, []))) (by kernel_rfl : calls_within_run N args T kf = fnM E (newelref02_CheckPart_cal N) (calls_within_lp N) (noJn) 82 (calls_within_sp.vs args) (calls_within_sp.tab T) 0 (resK calls_within_rs kf)))


def calls_valid_m {R : Type} (N : Nat) (a49 : api_Car) (k : Bool → Option R) : Option R :=
  calls_within N (api_Car.Start a49) (api_Car.Low a49) (api_Car.High a49) (fun r50 =>
  bif r50 then
   bif decide (api_Car.Low a49 ≥ (0 : Int)) then
    bif decide (api_Car.High a49 ≤ (5 : Int)) then
     calls_within N (api_Car.Move a49) (1 : Int) (3 : Int) (fun r51 =>
     bif r51 then
      calls_within N (api_Car.Stop a49) (1 : Int) (4 : Int) (fun r52 =>
      k r52)
     else
      k false)
    else
     k false
   else
    k false
  else
   k false)
noncomputable def calls_valid {R : Type} : Nat → api_Car → (Bool → Option R) → Option R := lock (@calls_valid_m R)
theorem calls_valid_def {R : Type} (N : Nat) (a49 : api_Car) (k : Bool → Option R) : calls_valid N a49 k = calls_valid_m N a49 k := by unfold calls_valid; rw [lock_eq]
def calls_valid_sp : Sp := ⟨[rAgg api_CarC], []⟩
theorem calls_valid_sp_ok : calls_valid_sp.Ok := ⟨(allCons (rAgg_ok api_CarC_ok api_CarC_len) allNil), eNil⟩
def calls_valid_rs : Sp := ⟨[rBool], []⟩
theorem calls_valid_rs_ok : calls_valid_rs.Ok := ⟨(allCons rBool_ok allNil), eNil⟩
def calls_valid_run {R : Type} (N : Nat) (args : List SV) (T : Tab) (kf : SV × Tab → Option R) : Option R :=
  calls_valid_m N (Cod.dec api_CarC (lget (toCs (lget args 0)))) (fun q0 => kf (lget [.bool q0] 0, []))
def calls_valid_lp {R : Type} (N : Nat) : Lp R := fun body S k => Option.none
noncomputable def calls_valid_go {R : Type} (N : Nat) (args : List SV) (T : Tab) (kf : SV × Tab → Option R) : Option R :=
  calls_valid N (Cod.dec api_CarC (lget (toCs (lget args 0)))) (fun q0 => kf (lget [.bool q0] 0, []))
noncomputable def calls_valid_cal {R : Type} (N : Nat) : Cal R := callM (calls_within_cal N) 99 0 calls_valid_sp (calls_valid_go N)
theorem calls_valid_cal_ok {R : Type} (N : Nat) : CalOk E.P (calls_valid_cal (R := R) N) :=
  callM_ok hE (calls_within_cal_ok N) (lp := calls_valid_lp N) (jn := noJn) (keys := []) kNil (by kernel_rfl) (js := []) jNil (by kernel_rfl) calls_valid_sp_ok calls_valid_rs_ok (fun args T kf => Eq.trans (calls_valid_def N (Cod.dec api_CarC (lget (toCs (lget args 0)))) (fun q0 => kf (lget [.bool q0] 0, []))) (by kernel_rfl : calls_valid_run N args T kf = fnM E (calls_within_cal N) (calls_valid_lp N) (noJn) 99 (calls_valid_sp.vs args) (calls_valid_sp.tab T) 0 (resK calls_valid_rs kf)))

def calls_timed_L3 : LoopSp := ⟨⟨[0, 3, 6, 7, 8], ⟨((rSl api_PressC) :: (dr 2 ((rInt .i64) :: (dr 2 ((rSl api_PressC) :: (rInt .i64) :: (rInt .i64) :: (dr 14 [])))))), []⟩, 0⟩, [(Option.none, ⟨[2], ⟨(dr 2 ((rBool) :: (dr 20 []))), []⟩, 0⟩), (some 0, ⟨[0], ⟨((rSl api_PressC) :: (dr 22 [])), []⟩, 0⟩)]⟩
theorem calls_timed_L3_ok : calls_timed_L3.Ok := ⟨⟨(allCons (rSl_ok api_PressC_ok) (drCons 2 (allCons (rInt_ok .i64) (drCons 2 (allCons (rSl_ok api_PressC_ok) (allCons (rInt_ok .i64) (allCons (rInt_ok .i64) (drCons 14 allNil)))))))), eNil⟩, (xCons ⟨(drCons 2 (allCons rBool_ok (drCons 20 allNil))), eNil⟩ (xCons ⟨(allCons (rSl_ok api_PressC_ok) (drCons 22 allNil)), eNil⟩ xNil))⟩
def calls_timed_h3 (v54 : Arr api_Press) (v55 : Int) (v56 : Arr api_Press) (v57 : Int) (v58 : Int) : St := ⟨((slC api_PressC v54) :: (un 2 ((.int .i64 v55) :: (un 2 ((slC api_PressC v56) :: (.int .i64 v57) :: (.int .i64 v58) :: (un 14 [])))))), [], 0⟩
def calls_timed_x3_r (q0 : Bool) : St := ⟨(un 2 ((.bool q0) :: (un 20 []))), [], 0⟩
def calls_timed_x3_0 (v54 : Arr api_Press) : St := ⟨((slC api_PressC v54) :: (un 22 [])), [], 0⟩
def calls_timed_b3 {R : Type} (N : Nat) (rc : Arr api_Press → Int → Arr api_Press → Int → Int → Option R) (v54 : Arr api_Press) (v55 : Int) (v56 : Arr api_Press) (v57 : Int) (v58 : Int) (kr : Bool → Option R) (k0 : Unit → Option R) : Option R :=
  bif decide (v58 < v57) then
   bif decide ((0 : Int) ≤ v58) && decide (v58 < (↑(Arr.n v56) : Int)) then
    calls_within N (api_Press.At (Arr.f v56 (Int.toNat v58))) v55 (500 : Int) (fun r59 =>
    bif !r59 then
     kr false
    else
     rc v54 (api_Press.At (Arr.f v56 (Int.toNat v58))) v56 v57 (w64 (v58 + (1 : Int))))
   else
    Option.none
  else
   k0 ()
def calls_timed_l3 {R : Type} (N : Nat) : Nat → Arr api_Press → Int → Arr api_Press → Int → Int → (Bool → Option R) → (Unit → Option R) → Option R
  | 0, _, _, _, _, _, _, _ => Option.none
  | n + 1, v54, v55, v56, v57, v58, kr, k0 => calls_timed_b3 N (fun v54 v55 v56 v57 v58 => calls_timed_l3 N n v54 v55 v56 v57 v58 kr k0) v54 v55 v56 v57 v58 kr k0


def calls_timed_m {R : Type} (N : Nat) (a53 : Arr api_Press) (k : Bool → Option R) : Option R :=
  calls_timed_l3 N N a53 (0 : Int) a53 ((↑(Arr.n a53) : Int)) (0 : Int) (fun r60 =>
   k r60) (fun (_ : Unit) =>
   k (decide ((↑(Arr.n a53) : Int) ≤ (200 : Int))))
noncomputable def calls_timed {R : Type} : Nat → Arr api_Press → (Bool → Option R) → Option R := lock (@calls_timed_m R)
theorem calls_timed_def {R : Type} (N : Nat) (a53 : Arr api_Press) (k : Bool → Option R) : calls_timed N a53 k = calls_timed_m N a53 k := by unfold calls_timed; rw [lock_eq]
def calls_timed_sp : Sp := ⟨[rSl api_PressC], []⟩
theorem calls_timed_sp_ok : calls_timed_sp.Ok := ⟨(allCons (rSl_ok api_PressC_ok) allNil), eNil⟩
def calls_timed_rs : Sp := ⟨[rBool], []⟩
theorem calls_timed_rs_ok : calls_timed_rs.Ok := ⟨(allCons rBool_ok allNil), eNil⟩
def calls_timed_run {R : Type} (N : Nat) (args : List SV) (T : Tab) (kf : SV × Tab → Option R) : Option R :=
  calls_timed_m N (lstC api_PressC (lget args 0)) (fun q0 => kf (lget [.bool q0] 0, []))
def calls_timed_d3 {R : Type} (N : Nat) (S0 : St) (k : Exit → St → Option R) : Option R :=
  calls_timed_l3 N N (lstC api_PressC (lget S0.tmps 0)) (toI (lget S0.tmps 3)) (lstC api_PressC (lget S0.tmps 6)) (toI (lget S0.tmps 7)) (toI (lget S0.tmps 8)) (fun q0 => k .ret (calls_timed_x3_r q0)) (fun (_ : Unit) => k (.exit 0) (calls_timed_x3_0 (lstC api_PressC (lget S0.tmps 0))))
def calls_timed_lp {R : Type} (N : Nat) : Lp R := fun body S k => bif (Go.Sx.keyOf body).getD 0 == 3 then calls_timed_L3.head.raw 0 S (fun S0 => calls_timed_d3 N S0 k) else Option.none
theorem calls_timed_l3_eq {R : Type} (N : Nat) (k : Exit → St → Option R) (n : Nat) : ∀ (v0 : Arr api_Press) (v1 : Int) (v2 : Arr api_Press) (v3 : Int) (v4 : Int), loopM E.Θ (calls_valid_cal N) (calls_timed_lp N) (noJn) 0 calls_timed_L3 (bodyAt E 116 3) n (calls_timed_h3 v0 v1 v2 v3 v4) k = calls_timed_l3 N n v0 v1 v2 v3 v4 (fun q0 => k .ret (calls_timed_x3_r q0)) (fun (_ : Unit) => k (.exit 0) (calls_timed_x3_0 v0)) := by
  induction n with
  | zero => intro v0 v1 v2 v3 v4; rfl
  | succ n ih =>
    intro v0 v1 v2 v3 v4
    refine Eq.trans (b := calls_timed_b3 N (fun v0 v1 v2 v3 v4 => loopM E.Θ (calls_valid_cal N) (calls_timed_lp N) (noJn) 0 calls_timed_L3 (bodyAt E 116 3) n (calls_timed_h3 v0 v1 v2 v3 v4) k) v0 v1 v2 v3 v4 (fun q0 => k .ret (calls_timed_x3_r q0)) (fun (_ : Unit) => k (.exit 0) (calls_timed_x3_0 v0))) (by kernel_rfl) ?_
    have h : (fun (v0 : Arr api_Press) (v1 : Int) (v2 : Arr api_Press) (v3 : Int) (v4 : Int) => loopM E.Θ (calls_valid_cal N) (calls_timed_lp N) (noJn) 0 calls_timed_L3 (bodyAt E 116 3) n (calls_timed_h3 v0 v1 v2 v3 v4) k) = (fun (v0 : Arr api_Press) (v1 : Int) (v2 : Arr api_Press) (v3 : Int) (v4 : Int) => calls_timed_l3 N n v0 v1 v2 v3 v4 (fun q0 => k .ret (calls_timed_x3_r q0)) (fun (_ : Unit) => k (.exit 0) (calls_timed_x3_0 v0))) := funext fun v0 => funext fun v1 => funext fun v2 => funext fun v3 => funext fun v4 => ih v0 v1 v2 v3 v4
    rw [h]
    rfl
theorem calls_timed_k3 {R : Type} (N : Nat) : LpKey (R := R) E 116 0 (calls_timed_lp N) 3 :=
  lpKey_of hE (calls_valid_cal_ok N) (jn := noJn) calls_timed_L3_ok [] kNil (by kernel_rfl) [] jNil (by kernel_rfl) N fun S k =>
    Eq.trans (b := calls_timed_L3.head.raw 0 S (fun S0 => calls_timed_d3 N S0 k)) (by kernel_rfl) (congrArg (calls_timed_L3.head.raw 0 S) (funext fun S0 => Eq.trans (calls_timed_l3_eq N k N (lstC api_PressC (lget S0.tmps 0)) (toI (lget S0.tmps 3)) (lstC api_PressC (lget S0.tmps 6)) (toI (lget S0.tmps 7)) (toI (lget S0.tmps 8))).symm (by kernel_rfl)))
noncomputable def calls_timed_go {R : Type} (N : Nat) (args : List SV) (T : Tab) (kf : SV × Tab → Option R) : Option R :=
  calls_timed N (lstC api_PressC (lget args 0)) (fun q0 => kf (lget [.bool q0] 0, []))
noncomputable def calls_timed_cal {R : Type} (N : Nat) : Cal R := callM (calls_valid_cal N) 116 0 calls_timed_sp (calls_timed_go N)
theorem calls_timed_cal_ok {R : Type} (N : Nat) : CalOk E.P (calls_timed_cal (R := R) N) :=
  callM_ok hE (calls_valid_cal_ok N) (lp := calls_timed_lp N) (jn := noJn) (keys := [3]) (kCons (calls_timed_k3 N) kNil) (by kernel_rfl) (js := []) jNil (by kernel_rfl) calls_timed_sp_ok calls_timed_rs_ok (fun args T kf => Eq.trans (calls_timed_def N (lstC api_PressC (lget args 0)) (fun q0 => kf (lget [.bool q0] 0, []))) (by kernel_rfl : calls_timed_run N args T kf = fnM E (calls_valid_cal N) (calls_timed_lp N) (noJn) 116 (calls_timed_sp.vs args) (calls_timed_sp.tab T) 0 (resK calls_timed_rs kf)))

def calls_Check_L6 : LoopSp := ⟨⟨[2, 13, 14, 15], ⟨(dr 2 ((rPtr 0 0) :: (dr 10 ((rSl api_PressC) :: (rInt .i64) :: (rInt .i64) :: (dr 12 []))))), [(0, eBlkC api_CarC)]⟩, 1⟩, [(Option.none, ⟨[4], ⟨(dr 4 ((rInt .i64) :: (dr 23 []))), []⟩, 0⟩), (some 0, ⟨[], ⟨(dr 28 []), []⟩, 0⟩)]⟩
theorem calls_Check_L6_ok : calls_Check_L6.Ok := ⟨⟨(drCons 2 (allCons (rPtr_ok 0 0) (drCons 10 (allCons (rSl_ok api_PressC_ok) (allCons (rInt_ok .i64) (allCons (rInt_ok .i64) (drCons 12 allNil))))))), (eCons (eBlkC_ok api_CarC_ok api_CarC_len) eNil)⟩, (xCons ⟨(drCons 4 (allCons (rInt_ok .i64) (drCons 23 allNil))), eNil⟩ (xCons ⟨(drCons 28 allNil), eNil⟩ xNil))⟩
def calls_Check_h6 (v65 : Arr api_Press) (v66 : Int) (v67 : Int) (v68 : api_Car) : St := ⟨(un 2 ((.ptr 0 0) :: (un 10 ((slC api_PressC v65) :: (.int .i64 v66) :: (.int .i64 v67) :: (un 12 []))))), [(0, .blk (Cod.enc api_CarC v68))], 1⟩
def calls_Check_x6_r (q0 : Int) : St := ⟨(un 4 ((.int .i64 q0) :: (un 23 []))), [], 0⟩
def calls_Check_x6_0  : St := ⟨(un 28 []), [], 0⟩
def calls_Check_b6 {R : Type} (N : Nat) (rc : Arr api_Press → Int → Int → api_Car → Option R) (v65 : Arr api_Press) (v66 : Int) (v67 : Int) (v68 : api_Car) (kr : Int → Option R) (k0 : Unit → Option R) : Option R :=
  bif decide (v67 < v66) then
   bif decide ((0 : Int) ≤ v67) && decide (v67 < (↑(Arr.n v65) : Int)) then
    calls_within N (api_Press.Floor (Arr.f v65 (Int.toNat v67))) (api_Car.Low v68) (api_Car.High v68) (fun r69 =>
    bif !r69 then
     kr (71 : Int)
    else
     rc v65 v66 (w64 (v67 + (1 : Int))) v68)
   else
    Option.none
  else
   k0 ()
def calls_Check_l6 {R : Type} (N : Nat) : Nat → Arr api_Press → Int → Int → api_Car → (Int → Option R) → (Unit → Option R) → Option R
  | 0, _, _, _, _, _, _ => Option.none
  | n + 1, v65, v66, v67, v68, kr, k0 => calls_Check_b6 N (fun v65 v66 v67 v68 => calls_Check_l6 N n v65 v66 v67 v68 kr k0) v65 v66 v67 v68 kr k0


def calls_Check_m {R : Type} (N : Nat) (a61 : api_Car) (a62 : Arr api_Press) (k : Int → Option R) : Option R :=
  calls_valid N a61 (fun r63 =>
  bif !r63 then
   k (70 : Int)
  else
   calls_timed N a62 (fun r64 =>
   bif !r64 then
    k (71 : Int)
   else
    calls_Check_l6 N N a62 ((↑(Arr.n a62) : Int)) (0 : Int) a61 (fun r70 =>
     k r70) (fun (_ : Unit) =>
     k (0 : Int))))
noncomputable def calls_Check {R : Type} : Nat → api_Car → Arr api_Press → (Int → Option R) → Option R := lock (@calls_Check_m R)
theorem calls_Check_def {R : Type} (N : Nat) (a61 : api_Car) (a62 : Arr api_Press) (k : Int → Option R) : calls_Check N a61 a62 k = calls_Check_m N a61 a62 k := by unfold calls_Check; rw [lock_eq]
def calls_Check_sp : Sp := ⟨[rAgg api_CarC, rSl api_PressC], []⟩
theorem calls_Check_sp_ok : calls_Check_sp.Ok := ⟨(allCons (rAgg_ok api_CarC_ok api_CarC_len) (allCons (rSl_ok api_PressC_ok) allNil)), eNil⟩
def calls_Check_rs : Sp := ⟨[rInt .i64], []⟩
theorem calls_Check_rs_ok : calls_Check_rs.Ok := ⟨(allCons (rInt_ok .i64) allNil), eNil⟩
def calls_Check_run {R : Type} (N : Nat) (args : List SV) (T : Tab) (kf : SV × Tab → Option R) : Option R :=
  calls_Check_m N (Cod.dec api_CarC (lget (toCs (lget args 0)))) (lstC api_PressC (lget args 1)) (fun q0 => kf (lget [.int .i64 q0] 0, []))
def calls_Check_d6 {R : Type} (N : Nat) (S0 : St) (k : Exit → St → Option R) : Option R :=
  calls_Check_l6 N N (lstC api_PressC (lget S0.tmps 13)) (toI (lget S0.tmps 14)) (toI (lget S0.tmps 15)) (Cod.dec api_CarC (lget (entCs (entAt S0.tab 0)))) (fun q0 => k .ret (calls_Check_x6_r q0)) (fun (_ : Unit) => k (.exit 0) (calls_Check_x6_0 ))
def calls_Check_lp {R : Type} (N : Nat) : Lp R := fun body S k => bif (Go.Sx.keyOf body).getD 0 == 6 then calls_Check_L6.head.raw 0 S (fun S0 => calls_Check_d6 N S0 k) else Option.none
theorem calls_Check_l6_eq {R : Type} (N : Nat) (k : Exit → St → Option R) (n : Nat) : ∀ (v0 : Arr api_Press) (v1 : Int) (v2 : Int) (v3 : api_Car), loopM E.Θ (calls_timed_cal N) (calls_Check_lp N) (noJn) 0 calls_Check_L6 (bodyAt E 81 6) n (calls_Check_h6 v0 v1 v2 v3) k = calls_Check_l6 N n v0 v1 v2 v3 (fun q0 => k .ret (calls_Check_x6_r q0)) (fun (_ : Unit) => k (.exit 0) (calls_Check_x6_0 )) := by
  induction n with
  | zero => intro v0 v1 v2 v3; rfl
  | succ n ih =>
    intro v0 v1 v2 v3
    refine Eq.trans (b := calls_Check_b6 N (fun v0 v1 v2 v3 => loopM E.Θ (calls_timed_cal N) (calls_Check_lp N) (noJn) 0 calls_Check_L6 (bodyAt E 81 6) n (calls_Check_h6 v0 v1 v2 v3) k) v0 v1 v2 v3 (fun q0 => k .ret (calls_Check_x6_r q0)) (fun (_ : Unit) => k (.exit 0) (calls_Check_x6_0 ))) (by kernel_rfl) ?_
    have h : (fun (v0 : Arr api_Press) (v1 : Int) (v2 : Int) (v3 : api_Car) => loopM E.Θ (calls_timed_cal N) (calls_Check_lp N) (noJn) 0 calls_Check_L6 (bodyAt E 81 6) n (calls_Check_h6 v0 v1 v2 v3) k) = (fun (v0 : Arr api_Press) (v1 : Int) (v2 : Int) (v3 : api_Car) => calls_Check_l6 N n v0 v1 v2 v3 (fun q0 => k .ret (calls_Check_x6_r q0)) (fun (_ : Unit) => k (.exit 0) (calls_Check_x6_0 ))) := funext fun v0 => funext fun v1 => funext fun v2 => funext fun v3 => ih v0 v1 v2 v3
    rw [h]
    rfl
theorem calls_Check_k6 {R : Type} (N : Nat) : LpKey (R := R) E 81 0 (calls_Check_lp N) 6 :=
  lpKey_of hE (calls_timed_cal_ok N) (jn := noJn) calls_Check_L6_ok [] kNil (by kernel_rfl) [] jNil (by kernel_rfl) N fun S k =>
    Eq.trans (b := calls_Check_L6.head.raw 0 S (fun S0 => calls_Check_d6 N S0 k)) (by kernel_rfl) (congrArg (calls_Check_L6.head.raw 0 S) (funext fun S0 => Eq.trans (calls_Check_l6_eq N k N (lstC api_PressC (lget S0.tmps 13)) (toI (lget S0.tmps 14)) (toI (lget S0.tmps 15)) (Cod.dec api_CarC (lget (entCs (entAt S0.tab 0))))).symm (by kernel_rfl)))
noncomputable def calls_Check_go {R : Type} (N : Nat) (args : List SV) (T : Tab) (kf : SV × Tab → Option R) : Option R :=
  calls_Check N (Cod.dec api_CarC (lget (toCs (lget args 0)))) (lstC api_PressC (lget args 1)) (fun q0 => kf (lget [.int .i64 q0] 0, []))
noncomputable def calls_Check_cal {R : Type} (N : Nat) : Cal R := callM (calls_timed_cal N) 81 0 calls_Check_sp (calls_Check_go N)
theorem calls_Check_cal_ok {R : Type} (N : Nat) : CalOk E.P (calls_Check_cal (R := R) N) :=
  callM_ok hE (calls_timed_cal_ok N) (lp := calls_Check_lp N) (jn := noJn) (keys := [6]) (kCons (calls_Check_k6 N) kNil) (by kernel_rfl) (js := []) jNil (by kernel_rfl) calls_Check_sp_ok calls_Check_rs_ok (fun args T kf => Eq.trans (calls_Check_def N (Cod.dec api_CarC (lget (toCs (lget args 0)))) (lstC api_PressC (lget args 1)) (fun q0 => kf (lget [.int .i64 q0] 0, []))) (by kernel_rfl : calls_Check_run N args T kf = fnM E (calls_timed_cal N) (calls_Check_lp N) (noJn) 81 (calls_Check_sp.vs args) (calls_Check_sp.tab T) 0 (resK calls_Check_rs kf)))


def calls_begin_m {R : Type} (N : Nat) (a71 : api_Car) (k : calls_cage → Option R) : Option R :=
  k (calls_cage.mk a71 (api_Ride.mk (api_Car.Start a71) true false (0 : Int) (0 : Int) (0 : Int)))
noncomputable def calls_begin {R : Type} : Nat → api_Car → (calls_cage → Option R) → Option R := lock (@calls_begin_m R)
theorem calls_begin_def {R : Type} (N : Nat) (a71 : api_Car) (k : calls_cage → Option R) : calls_begin N a71 k = calls_begin_m N a71 k := by unfold calls_begin; rw [lock_eq]
def calls_begin_sp : Sp := ⟨[rAgg api_CarC], []⟩
theorem calls_begin_sp_ok : calls_begin_sp.Ok := ⟨(allCons (rAgg_ok api_CarC_ok api_CarC_len) allNil), eNil⟩
def calls_begin_rs : Sp := ⟨[rPtr 0 0], [(0, eBlkC calls_cageC)]⟩
theorem calls_begin_rs_ok : calls_begin_rs.Ok := ⟨(allCons (rPtr_ok 0 0) allNil), (eCons (eBlkC_ok calls_cageC_ok calls_cageC_len) eNil)⟩
def calls_begin_run {R : Type} (N : Nat) (args : List SV) (T : Tab) (kf : SV × Tab → Option R) : Option R :=
  calls_begin_m N (Cod.dec api_CarC (lget (toCs (lget args 0)))) (fun q0 => kf (lget [.ptr 0 0] 0, [(0, .blk (Cod.enc calls_cageC q0))]))
def calls_begin_lp {R : Type} (N : Nat) : Lp R := fun body S k => Option.none
noncomputable def calls_begin_go {R : Type} (N : Nat) (args : List SV) (T : Tab) (kf : SV × Tab → Option R) : Option R :=
  calls_begin N (Cod.dec api_CarC (lget (toCs (lget args 0)))) (fun q0 => kf (lget [.ptr 0 0] 0, [(0, .blk (Cod.enc calls_cageC q0))]))
noncomputable def calls_begin_cal {R : Type} (N : Nat) : Cal R := callM (calls_Check_cal N) 83 0 calls_begin_sp (calls_begin_go N)
theorem calls_begin_cal_ok {R : Type} (N : Nat) : CalOk E.P (calls_begin_cal (R := R) N) :=
  callM_ok hE (calls_Check_cal_ok N) (lp := calls_begin_lp N) (jn := noJn) (keys := []) kNil (by kernel_rfl) (js := []) jNil (by kernel_rfl) calls_begin_sp_ok calls_begin_rs_ok (fun args T kf => Eq.trans (calls_begin_def N (Cod.dec api_CarC (lget (toCs (lget args 0)))) (fun q0 => kf (lget [.ptr 0 0] 0, [(0, .blk (Cod.enc calls_cageC q0))]))) (by kernel_rfl : calls_begin_run N args T kf = fnM E (calls_Check_cal N) (calls_begin_lp N) (noJn) 83 (calls_begin_sp.vs args) (calls_begin_sp.tab T) 0 (resK calls_begin_rs kf)))


def calls_cage_end_m {R : Type} (N : Nat) (a98 : calls_cage) (k : calls_cage → Option R) : Option R :=
  bif api_Ride.Doing (calls_cage.Ride a98) == (0 : Int) then
   k a98
  else
   bif decide (w64 (api_Ride.Left (calls_cage.Ride a98) - (1 : Int)) > (0 : Int)) then
    k (calls_cage.mk (calls_cage.Car a98) (api_Ride.mk (api_Ride.Floor (calls_cage.Ride a98)) (api_Ride.Up (calls_cage.Ride a98)) (api_Ride.Stood (calls_cage.Ride a98)) (api_Ride.Doing (calls_cage.Ride a98)) (w64 (api_Ride.Left (calls_cage.Ride a98) - (1 : Int))) (api_Ride.Wants (calls_cage.Ride a98))))
   else
    bif api_Ride.Doing (calls_cage.Ride a98) == (1 : Int) then
     bif api_Ride.Up (calls_cage.Ride a98) then
      k (calls_cage.mk (calls_cage.Car a98) (api_Ride.mk (w64 (api_Ride.Floor (calls_cage.Ride a98) + (1 : Int))) (api_Ride.Up (calls_cage.Ride a98)) false (0 : Int) (w64 (api_Ride.Left (calls_cage.Ride a98) - (1 : Int))) (api_Ride.Wants (calls_cage.Ride a98))))
     else
      k (calls_cage.mk (calls_cage.Car a98) (api_Ride.mk (w64 (api_Ride.Floor (calls_cage.Ride a98) - (1 : Int))) (api_Ride.Up (calls_cage.Ride a98)) false (0 : Int) (w64 (api_Ride.Left (calls_cage.Ride a98) - (1 : Int))) (api_Ride.Wants (calls_cage.Ride a98))))
    else
     k (calls_cage.mk (calls_cage.Car a98) (api_Ride.mk (api_Ride.Floor (calls_cage.Ride a98)) (api_Ride.Up (calls_cage.Ride a98)) (api_Ride.Stood (calls_cage.Ride a98)) (0 : Int) (w64 (api_Ride.Left (calls_cage.Ride a98) - (1 : Int))) (api_Ride.Wants (calls_cage.Ride a98))))
noncomputable def calls_cage_end {R : Type} : Nat → calls_cage → (calls_cage → Option R) → Option R := lock (@calls_cage_end_m R)
theorem calls_cage_end_def {R : Type} (N : Nat) (a98 : calls_cage) (k : calls_cage → Option R) : calls_cage_end N a98 k = calls_cage_end_m N a98 k := by unfold calls_cage_end; rw [lock_eq]
def calls_cage_end_sp : Sp := ⟨[rPtr 0 0], [(0, eBlkC calls_cageC)]⟩
theorem calls_cage_end_sp_ok : calls_cage_end_sp.Ok := ⟨(allCons (rPtr_ok 0 0) allNil), (eCons (eBlkC_ok calls_cageC_ok calls_cageC_len) eNil)⟩
def calls_cage_end_rs : Sp := ⟨[rTup []], [(0, eBlkC calls_cageC)]⟩
theorem calls_cage_end_rs_ok : calls_cage_end_rs.Ok := ⟨(allCons (rTup_ok allNil) allNil), (eCons (eBlkC_ok calls_cageC_ok calls_cageC_len) eNil)⟩
def calls_cage_end_run {R : Type} (N : Nat) (args : List SV) (T : Tab) (kf : SV × Tab → Option R) : Option R :=
  calls_cage_end_m N (Cod.dec calls_cageC (lget (entCs (entAt T 0)))) (fun q0 => kf (lget [.tup []] 0, [(0, .blk (Cod.enc calls_cageC q0))]))
def calls_cage_end_lp {R : Type} (N : Nat) : Lp R := fun body S k => Option.none
noncomputable def calls_cage_end_go {R : Type} (N : Nat) (args : List SV) (T : Tab) (kf : SV × Tab → Option R) : Option R :=
  calls_cage_end N (Cod.dec calls_cageC (lget (entCs (entAt T 0)))) (fun q0 => kf (lget [.tup []] 0, [(0, .blk (Cod.enc calls_cageC q0))]))
noncomputable def calls_cage_end_cal {R : Type} (N : Nat) : Cal R := callM (calls_begin_cal N) 117 1 calls_cage_end_sp (calls_cage_end_go N)
theorem calls_cage_end_cal_ok {R : Type} (N : Nat) : CalOk E.P (calls_cage_end_cal (R := R) N) :=
  callM_ok hE (calls_begin_cal_ok N) (lp := calls_cage_end_lp N) (jn := noJn) (keys := []) kNil (by kernel_rfl) (js := []) jNil (by kernel_rfl) calls_cage_end_sp_ok calls_cage_end_rs_ok (fun args T kf => Eq.trans (calls_cage_end_def N (Cod.dec calls_cageC (lget (entCs (entAt T 0)))) (fun q0 => kf (lget [.tup []] 0, [(0, .blk (Cod.enc calls_cageC q0))]))) (by kernel_rfl : calls_cage_end_run N args T kf = fnM E (calls_begin_cal N) (calls_cage_end_lp N) (noJn) 117 (calls_cage_end_sp.vs args) (calls_cage_end_sp.tab T) 1 (resK calls_cage_end_rs kf)))


def calls_cage_press_m {R : Type} (N : Nat) (a105 : Int) (a106 : calls_cage) (k : Bool → calls_cage → Option R) : Option R :=
  bif api_Ride.Doing (calls_cage.Ride a106) == (2 : Int) then
   bif a105 == api_Ride.Floor (calls_cage.Ride a106) then
    k true a106
   else
    bif decide (a105 < (0 : Int)) then
     Option.none
    else
     k false (calls_cage.mk (calls_cage.Car a106) (api_Ride.mk (api_Ride.Floor (calls_cage.Ride a106)) (api_Ride.Up (calls_cage.Ride a106)) (api_Ride.Stood (calls_cage.Ride a106)) (api_Ride.Doing (calls_cage.Ride a106)) (api_Ride.Left (calls_cage.Ride a106)) (w64 (↑(BitVec.toNat (BitVec.ofInt (IntKind.bits IntKind.i64) (api_Ride.Wants (calls_cage.Ride a106)) ||| BitVec.ofInt (IntKind.bits IntKind.i64) (w64 ((1 : Int) * (2 : Int) ^ min (Int.toNat a105) (IntKind.bits IntKind.i64))))) : Int))))
  else
   bif decide (a105 < (0 : Int)) then
    Option.none
   else
    k false (calls_cage.mk (calls_cage.Car a106) (api_Ride.mk (api_Ride.Floor (calls_cage.Ride a106)) (api_Ride.Up (calls_cage.Ride a106)) (api_Ride.Stood (calls_cage.Ride a106)) (api_Ride.Doing (calls_cage.Ride a106)) (api_Ride.Left (calls_cage.Ride a106)) (w64 (↑(BitVec.toNat (BitVec.ofInt (IntKind.bits IntKind.i64) (api_Ride.Wants (calls_cage.Ride a106)) ||| BitVec.ofInt (IntKind.bits IntKind.i64) (w64 ((1 : Int) * (2 : Int) ^ min (Int.toNat a105) (IntKind.bits IntKind.i64))))) : Int))))
noncomputable def calls_cage_press {R : Type} : Nat → Int → calls_cage → (Bool → calls_cage → Option R) → Option R := lock (@calls_cage_press_m R)
theorem calls_cage_press_def {R : Type} (N : Nat) (a105 : Int) (a106 : calls_cage) (k : Bool → calls_cage → Option R) : calls_cage_press N a105 a106 k = calls_cage_press_m N a105 a106 k := by unfold calls_cage_press; rw [lock_eq]
def calls_cage_press_sp : Sp := ⟨[rPtr 0 0, rInt .i64], [(0, eBlkC calls_cageC)]⟩
theorem calls_cage_press_sp_ok : calls_cage_press_sp.Ok := ⟨(allCons (rPtr_ok 0 0) (allCons (rInt_ok .i64) allNil)), (eCons (eBlkC_ok calls_cageC_ok calls_cageC_len) eNil)⟩
def calls_cage_press_rs : Sp := ⟨[rBool], [(0, eBlkC calls_cageC)]⟩
theorem calls_cage_press_rs_ok : calls_cage_press_rs.Ok := ⟨(allCons rBool_ok allNil), (eCons (eBlkC_ok calls_cageC_ok calls_cageC_len) eNil)⟩
def calls_cage_press_run {R : Type} (N : Nat) (args : List SV) (T : Tab) (kf : SV × Tab → Option R) : Option R :=
  calls_cage_press_m N (toI (lget args 1)) (Cod.dec calls_cageC (lget (entCs (entAt T 0)))) (fun q0 q1 => kf (lget [.bool q0] 0, [(0, .blk (Cod.enc calls_cageC q1))]))
def calls_cage_press_lp {R : Type} (N : Nat) : Lp R := fun body S k => Option.none
noncomputable def calls_cage_press_go {R : Type} (N : Nat) (args : List SV) (T : Tab) (kf : SV × Tab → Option R) : Option R :=
  calls_cage_press N (toI (lget args 1)) (Cod.dec calls_cageC (lget (entCs (entAt T 0)))) (fun q0 q1 => kf (lget [.bool q0] 0, [(0, .blk (Cod.enc calls_cageC q1))]))
noncomputable def calls_cage_press_cal {R : Type} (N : Nat) : Cal R := callM (calls_cage_end_cal N) 118 1 calls_cage_press_sp (calls_cage_press_go N)
theorem calls_cage_press_cal_ok {R : Type} (N : Nat) : CalOk E.P (calls_cage_press_cal (R := R) N) :=
  callM_ok hE (calls_cage_end_cal_ok N) (lp := calls_cage_press_lp N) (jn := noJn) (keys := []) kNil (by kernel_rfl) (js := []) jNil (by kernel_rfl) calls_cage_press_sp_ok calls_cage_press_rs_ok (fun args T kf => Eq.trans (calls_cage_press_def N (toI (lget args 1)) (Cod.dec calls_cageC (lget (entCs (entAt T 0)))) (fun q0 q1 => kf (lget [.bool q0] 0, [(0, .blk (Cod.enc calls_cageC q1))]))) (by kernel_rfl : calls_cage_press_run N args T kf = fnM E (calls_cage_end_cal N) (calls_cage_press_lp N) (noJn) 118 (calls_cage_press_sp.vs args) (calls_cage_press_sp.tab T) 1 (resK calls_cage_press_rs kf)))


def calls_cage_ahead_m {R : Type} (N : Nat) (a112 : calls_cage) (k : Int → Option R) : Option R :=
  bif decide (api_Ride.Floor (calls_cage.Ride a112) < (0 : Int)) then
   Option.none
  else
   bif api_Ride.Up (calls_cage.Ride a112) then
    bif decide (api_Ride.Floor (calls_cage.Ride a112) < (0 : Int)) then
     Option.none
    else
     k (w64 (↑(BitVec.toNat (BitVec.ofInt (IntKind.bits IntKind.i64) (if IntKind.signed IntKind.i64 = true then (-1 : Int) else IntKind.max IntKind.i64) ^^^ BitVec.ofInt (IntKind.bits IntKind.i64) (w64 (↑(BitVec.toNat (BitVec.ofInt (IntKind.bits IntKind.i64) (w64 (w64 ((1 : Int) * (2 : Int) ^ min (Int.toNat (api_Ride.Floor (calls_cage.Ride a112))) (IntKind.bits IntKind.i64)) - (1 : Int))) ||| BitVec.ofInt (IntKind.bits IntKind.i64) (w64 ((1 : Int) * (2 : Int) ^ min (Int.toNat (api_Ride.Floor (calls_cage.Ride a112))) (IntKind.bits IntKind.i64))))) : Int)))) : Int))
   else
    k (w64 (w64 ((1 : Int) * (2 : Int) ^ min (Int.toNat (api_Ride.Floor (calls_cage.Ride a112))) (IntKind.bits IntKind.i64)) - (1 : Int)))
noncomputable def calls_cage_ahead {R : Type} : Nat → calls_cage → (Int → Option R) → Option R := lock (@calls_cage_ahead_m R)
theorem calls_cage_ahead_def {R : Type} (N : Nat) (a112 : calls_cage) (k : Int → Option R) : calls_cage_ahead N a112 k = calls_cage_ahead_m N a112 k := by unfold calls_cage_ahead; rw [lock_eq]
def calls_cage_ahead_sp : Sp := ⟨[rEptr calls_cageC], []⟩
theorem calls_cage_ahead_sp_ok : calls_cage_ahead_sp.Ok := ⟨(allCons (rEptr_ok calls_cageC_ok) allNil), eNil⟩
def calls_cage_ahead_rs : Sp := ⟨[rInt .i64], []⟩
theorem calls_cage_ahead_rs_ok : calls_cage_ahead_rs.Ok := ⟨(allCons (rInt_ok .i64) allNil), eNil⟩
def calls_cage_ahead_run {R : Type} (N : Nat) (args : List SV) (T : Tab) (kf : SV × Tab → Option R) : Option R :=
  calls_cage_ahead_m N (Cod.dec calls_cageC (toE (lget args 0))) (fun q0 => kf (lget [.int .i64 q0] 0, []))
def calls_cage_ahead_lp {R : Type} (N : Nat) : Lp R := fun body S k => Option.none
noncomputable def calls_cage_ahead_go {R : Type} (N : Nat) (args : List SV) (T : Tab) (kf : SV × Tab → Option R) : Option R :=
  calls_cage_ahead N (Cod.dec calls_cageC (toE (lget args 0))) (fun q0 => kf (lget [.int .i64 q0] 0, []))
noncomputable def calls_cage_ahead_cal {R : Type} (N : Nat) : Cal R := callM (calls_cage_press_cal N) 136 0 calls_cage_ahead_sp (calls_cage_ahead_go N)
theorem calls_cage_ahead_cal_ok {R : Type} (N : Nat) : CalOk E.P (calls_cage_ahead_cal (R := R) N) :=
  callM_ok hE (calls_cage_press_cal_ok N) (lp := calls_cage_ahead_lp N) (jn := noJn) (keys := []) kNil (by kernel_rfl) (js := []) jNil (by kernel_rfl) calls_cage_ahead_sp_ok calls_cage_ahead_rs_ok (fun args T kf => Eq.trans (calls_cage_ahead_def N (Cod.dec calls_cageC (toE (lget args 0))) (fun q0 => kf (lget [.int .i64 q0] 0, []))) (by kernel_rfl : calls_cage_ahead_run N args T kf = fnM E (calls_cage_press_cal N) (calls_cage_ahead_lp N) (noJn) 136 (calls_cage_ahead_sp.vs args) (calls_cage_ahead_sp.tab T) 0 (resK calls_cage_ahead_rs kf)))


def calls_cage_begins_m {R : Type} (N : Nat) (a111 : calls_cage) (k : Bool → calls_cage → Option R) : Option R :=
  bif api_Ride.Doing (calls_cage.Ride a111) != (0 : Int) then
   k false a111
  else
   bif api_Ride.Wants (calls_cage.Ride a111) == (0 : Int) then
    k false a111
   else
    bif decide (api_Ride.Floor (calls_cage.Ride a111) < (0 : Int)) then
     Option.none
    else
     bif w64 (↑(BitVec.toNat (BitVec.ofInt (IntKind.bits IntKind.i64) (api_Ride.Wants (calls_cage.Ride a111)) &&& BitVec.ofInt (IntKind.bits IntKind.i64) (w64 ((1 : Int) * (2 : Int) ^ min (Int.toNat (api_Ride.Floor (calls_cage.Ride a111))) (IntKind.bits IntKind.i64))))) : Int) != (0 : Int) then
      bif !api_Ride.Stood (calls_cage.Ride a111) then
       k true (calls_cage.mk (calls_cage.Car a111) (api_Ride.mk (api_Ride.Floor (calls_cage.Ride a111)) (api_Ride.Up (calls_cage.Ride a111)) true (2 : Int) (api_Car.Stop (calls_cage.Car a111)) (w64 (↑(BitVec.toNat (BitVec.ofInt (IntKind.bits IntKind.i64) (api_Ride.Wants (calls_cage.Ride a111)) &&& ~~~BitVec.ofInt (IntKind.bits IntKind.i64) (w64 ((1 : Int) * (2 : Int) ^ min (Int.toNat (api_Ride.Floor (calls_cage.Ride a111))) (IntKind.bits IntKind.i64))))) : Int))))
      else
       bif api_Ride.Wants (calls_cage.Ride a111) == w64 ((1 : Int) * (2 : Int) ^ min (Int.toNat (api_Ride.Floor (calls_cage.Ride a111))) (IntKind.bits IntKind.i64)) then
        k true (calls_cage.mk (calls_cage.Car a111) (api_Ride.mk (api_Ride.Floor (calls_cage.Ride a111)) (api_Ride.Up (calls_cage.Ride a111)) true (2 : Int) (api_Car.Stop (calls_cage.Car a111)) (w64 (↑(BitVec.toNat (BitVec.ofInt (IntKind.bits IntKind.i64) (api_Ride.Wants (calls_cage.Ride a111)) &&& ~~~BitVec.ofInt (IntKind.bits IntKind.i64) (w64 ((1 : Int) * (2 : Int) ^ min (Int.toNat (api_Ride.Floor (calls_cage.Ride a111))) (IntKind.bits IntKind.i64))))) : Int))))
       else
        calls_cage_ahead N a111 (fun r113 =>
        bif w64 (↑(BitVec.toNat (BitVec.ofInt (IntKind.bits IntKind.i64) (api_Ride.Wants (calls_cage.Ride a111)) &&& BitVec.ofInt (IntKind.bits IntKind.i64) r113)) : Int) == (0 : Int) then
         k false (calls_cage.mk (calls_cage.Car a111) (api_Ride.mk (api_Ride.Floor (calls_cage.Ride a111)) (!api_Ride.Up (calls_cage.Ride a111)) (api_Ride.Stood (calls_cage.Ride a111)) (1 : Int) (api_Car.Move (calls_cage.Car a111)) (api_Ride.Wants (calls_cage.Ride a111))))
        else
         k false (calls_cage.mk (calls_cage.Car a111) (api_Ride.mk (api_Ride.Floor (calls_cage.Ride a111)) (api_Ride.Up (calls_cage.Ride a111)) (api_Ride.Stood (calls_cage.Ride a111)) (1 : Int) (api_Car.Move (calls_cage.Car a111)) (api_Ride.Wants (calls_cage.Ride a111)))))
     else
      calls_cage_ahead N a111 (fun r114 =>
      bif w64 (↑(BitVec.toNat (BitVec.ofInt (IntKind.bits IntKind.i64) (api_Ride.Wants (calls_cage.Ride a111)) &&& BitVec.ofInt (IntKind.bits IntKind.i64) r114)) : Int) == (0 : Int) then
       k false (calls_cage.mk (calls_cage.Car a111) (api_Ride.mk (api_Ride.Floor (calls_cage.Ride a111)) (!api_Ride.Up (calls_cage.Ride a111)) (api_Ride.Stood (calls_cage.Ride a111)) (1 : Int) (api_Car.Move (calls_cage.Car a111)) (api_Ride.Wants (calls_cage.Ride a111))))
      else
       k false (calls_cage.mk (calls_cage.Car a111) (api_Ride.mk (api_Ride.Floor (calls_cage.Ride a111)) (api_Ride.Up (calls_cage.Ride a111)) (api_Ride.Stood (calls_cage.Ride a111)) (1 : Int) (api_Car.Move (calls_cage.Car a111)) (api_Ride.Wants (calls_cage.Ride a111)))))
noncomputable def calls_cage_begins {R : Type} : Nat → calls_cage → (Bool → calls_cage → Option R) → Option R := lock (@calls_cage_begins_m R)
theorem calls_cage_begins_def {R : Type} (N : Nat) (a111 : calls_cage) (k : Bool → calls_cage → Option R) : calls_cage_begins N a111 k = calls_cage_begins_m N a111 k := by unfold calls_cage_begins; rw [lock_eq]
def calls_cage_begins_sp : Sp := ⟨[rPtr 0 0], [(0, eBlkC calls_cageC)]⟩
theorem calls_cage_begins_sp_ok : calls_cage_begins_sp.Ok := ⟨(allCons (rPtr_ok 0 0) allNil), (eCons (eBlkC_ok calls_cageC_ok calls_cageC_len) eNil)⟩
def calls_cage_begins_rs : Sp := ⟨[rBool], [(0, eBlkC calls_cageC)]⟩
theorem calls_cage_begins_rs_ok : calls_cage_begins_rs.Ok := ⟨(allCons rBool_ok allNil), (eCons (eBlkC_ok calls_cageC_ok calls_cageC_len) eNil)⟩
def calls_cage_begins_run {R : Type} (N : Nat) (args : List SV) (T : Tab) (kf : SV × Tab → Option R) : Option R :=
  calls_cage_begins_m N (Cod.dec calls_cageC (lget (entCs (entAt T 0)))) (fun q0 q1 => kf (lget [.bool q0] 0, [(0, .blk (Cod.enc calls_cageC q1))]))
def calls_cage_begins_lp {R : Type} (N : Nat) : Lp R := fun body S k => Option.none
noncomputable def calls_cage_begins_go {R : Type} (N : Nat) (args : List SV) (T : Tab) (kf : SV × Tab → Option R) : Option R :=
  calls_cage_begins N (Cod.dec calls_cageC (lget (entCs (entAt T 0)))) (fun q0 q1 => kf (lget [.bool q0] 0, [(0, .blk (Cod.enc calls_cageC q1))]))
noncomputable def calls_cage_begins_cal {R : Type} (N : Nat) : Cal R := callM (calls_cage_ahead_cal N) 119 1 calls_cage_begins_sp (calls_cage_begins_go N)
theorem calls_cage_begins_cal_ok {R : Type} (N : Nat) : CalOk E.P (calls_cage_begins_cal (R := R) N) :=
  callM_ok hE (calls_cage_ahead_cal_ok N) (lp := calls_cage_begins_lp N) (jn := noJn) (keys := []) kNil (by kernel_rfl) (js := []) jNil (by kernel_rfl) calls_cage_begins_sp_ok calls_cage_begins_rs_ok (fun args T kf => Eq.trans (calls_cage_begins_def N (Cod.dec calls_cageC (lget (entCs (entAt T 0)))) (fun q0 q1 => kf (lget [.bool q0] 0, [(0, .blk (Cod.enc calls_cageC q1))]))) (by kernel_rfl : calls_cage_begins_run N args T kf = fnM E (calls_cage_ahead_cal N) (calls_cage_begins_lp N) (noJn) 119 (calls_cage_begins_sp.vs args) (calls_cage_begins_sp.tab T) 1 (resK calls_cage_begins_rs kf)))

def calls_cage_tick_L3 : LoopSp := ⟨⟨[0, 4, 9, 10, 11], ⟨((rPtr 0 0) :: (dr 3 ((rInt .i64) :: (dr 4 ((rSl intC) :: (rInt .i64) :: (rInt .i64) :: (dr 22 [])))))), [(0, eBlkC calls_cageC)]⟩, 1⟩, [(some 0, ⟨[0, 4], ⟨((rPtr 0 0) :: (dr 3 ((rInt .i64) :: (dr 29 [])))), [(0, eBlkC calls_cageC)]⟩, 1⟩)]⟩
theorem calls_cage_tick_L3_ok : calls_cage_tick_L3.Ok := ⟨⟨(allCons (rPtr_ok 0 0) (drCons 3 (allCons (rInt_ok .i64) (drCons 4 (allCons (rSl_ok intC_ok) (allCons (rInt_ok .i64) (allCons (rInt_ok .i64) (drCons 22 allNil)))))))), (eCons (eBlkC_ok calls_cageC_ok calls_cageC_len) eNil)⟩, (xCons ⟨(allCons (rPtr_ok 0 0) (drCons 3 (allCons (rInt_ok .i64) (drCons 29 allNil)))), (eCons (eBlkC_ok calls_cageC_ok calls_cageC_len) eNil)⟩ xNil)⟩
def calls_cage_tick_h3 (v100 : Int) (v101 : Arr Int) (v102 : Int) (v103 : Int) (v104 : calls_cage) : St := ⟨((.ptr 0 0) :: (un 3 ((.int .i64 v100) :: (un 4 ((slC intC v101) :: (.int .i64 v102) :: (.int .i64 v103) :: (un 22 [])))))), [(0, .blk (Cod.enc calls_cageC v104))], 1⟩
def calls_cage_tick_x3_0 (q0 : Int) (q1 : calls_cage) : St := ⟨((.ptr 0 0) :: (un 3 ((.int .i64 q0) :: (un 29 [])))), [(0, .blk (Cod.enc calls_cageC q1))], 1⟩
def calls_cage_tick_b3 {R : Type} (N : Nat) (rc : Int → Arr Int → Int → Int → calls_cage → Option R) (v100 : Int) (v101 : Arr Int) (v102 : Int) (v103 : Int) (v104 : calls_cage) (k0 : Int → calls_cage → Option R) : Option R :=
  bif decide (v103 < v102) then
   bif decide ((0 : Int) ≤ v103) && decide (v103 < (↑(Arr.n v101) : Int)) then
    calls_cage_press N (Arr.f v101 (Int.toNat v103)) v104 (fun r107 r108 =>
    bif r107 then
     bif decide (Arr.f v101 (Int.toNat v103) < (0 : Int)) then
      Option.none
     else
      rc (w64 (↑(BitVec.toNat (BitVec.ofInt (IntKind.bits IntKind.i64) v100 ||| BitVec.ofInt (IntKind.bits IntKind.i64) (w64 ((1 : Int) * (2 : Int) ^ min (Int.toNat (Arr.f v101 (Int.toNat v103))) (IntKind.bits IntKind.i64))))) : Int)) v101 v102 (w64 (v103 + (1 : Int))) r108
    else
     rc v100 v101 v102 (w64 (v103 + (1 : Int))) r108)
   else
    Option.none
  else
   k0 v100 v104
def calls_cage_tick_l3 {R : Type} (N : Nat) : Nat → Int → Arr Int → Int → Int → calls_cage → (Int → calls_cage → Option R) → Option R
  | 0, _, _, _, _, _, _ => Option.none
  | n + 1, v100, v101, v102, v103, v104, k0 => calls_cage_tick_b3 N (fun v100 v101 v102 v103 v104 => calls_cage_tick_l3 N n v100 v101 v102 v103 v104 k0) v100 v101 v102 v103 v104 k0


def calls_cage_tick_m {R : Type} (N : Nat) (a96 : Arr Int) (a97 : calls_cage) (k : Int → calls_cage → Option R) : Option R :=
  calls_cage_end N a97 (fun r99 =>
  calls_cage_tick_l3 N N (0 : Int) a96 ((↑(Arr.n a96) : Int)) (0 : Int) r99 (fun r109 r110 =>
   calls_cage_begins N r110 (fun r115 r116 =>
   bif r115 then
    bif decide (api_Ride.Floor (calls_cage.Ride r116) < (0 : Int)) then
     Option.none
    else
     k (w64 (↑(BitVec.toNat (BitVec.ofInt (IntKind.bits IntKind.i64) r109 ||| BitVec.ofInt (IntKind.bits IntKind.i64) (w64 ((1 : Int) * (2 : Int) ^ min (Int.toNat (api_Ride.Floor (calls_cage.Ride r116))) (IntKind.bits IntKind.i64))))) : Int)) r116
   else
    k r109 r116)))
noncomputable def calls_cage_tick {R : Type} : Nat → Arr Int → calls_cage → (Int → calls_cage → Option R) → Option R := lock (@calls_cage_tick_m R)
theorem calls_cage_tick_def {R : Type} (N : Nat) (a96 : Arr Int) (a97 : calls_cage) (k : Int → calls_cage → Option R) : calls_cage_tick N a96 a97 k = calls_cage_tick_m N a96 a97 k := by unfold calls_cage_tick; rw [lock_eq]
def calls_cage_tick_sp : Sp := ⟨[rPtr 0 0, rSl intC], [(0, eBlkC calls_cageC)]⟩
theorem calls_cage_tick_sp_ok : calls_cage_tick_sp.Ok := ⟨(allCons (rPtr_ok 0 0) (allCons (rSl_ok intC_ok) allNil)), (eCons (eBlkC_ok calls_cageC_ok calls_cageC_len) eNil)⟩
def calls_cage_tick_rs : Sp := ⟨[rInt .i64], [(0, eBlkC calls_cageC)]⟩
theorem calls_cage_tick_rs_ok : calls_cage_tick_rs.Ok := ⟨(allCons (rInt_ok .i64) allNil), (eCons (eBlkC_ok calls_cageC_ok calls_cageC_len) eNil)⟩
def calls_cage_tick_run {R : Type} (N : Nat) (args : List SV) (T : Tab) (kf : SV × Tab → Option R) : Option R :=
  calls_cage_tick_m N (lstC intC (lget args 1)) (Cod.dec calls_cageC (lget (entCs (entAt T 0)))) (fun q0 q1 => kf (lget [.int .i64 q0] 0, [(0, .blk (Cod.enc calls_cageC q1))]))
def calls_cage_tick_d3 {R : Type} (N : Nat) (S0 : St) (k : Exit → St → Option R) : Option R :=
  calls_cage_tick_l3 N N (toI (lget S0.tmps 4)) (lstC intC (lget S0.tmps 9)) (toI (lget S0.tmps 10)) (toI (lget S0.tmps 11)) (Cod.dec calls_cageC (lget (entCs (entAt S0.tab 0)))) (fun q0 q1 => k (.exit 0) (calls_cage_tick_x3_0 q0 q1))
def calls_cage_tick_lp {R : Type} (N : Nat) : Lp R := fun body S k => bif (Go.Sx.keyOf body).getD 0 == 3 then calls_cage_tick_L3.head.raw 1 S (fun S0 => calls_cage_tick_d3 N S0 k) else Option.none
theorem calls_cage_tick_l3_eq {R : Type} (N : Nat) (k : Exit → St → Option R) (n : Nat) : ∀ (v0 : Int) (v1 : Arr Int) (v2 : Int) (v3 : Int) (v4 : calls_cage), loopM E.Θ (calls_cage_begins_cal N) (calls_cage_tick_lp N) (noJn) 1 calls_cage_tick_L3 (bodyAt E 84 3) n (calls_cage_tick_h3 v0 v1 v2 v3 v4) k = calls_cage_tick_l3 N n v0 v1 v2 v3 v4 (fun q0 q1 => k (.exit 0) (calls_cage_tick_x3_0 q0 q1)) := by
  induction n with
  | zero => intro v0 v1 v2 v3 v4; rfl
  | succ n ih =>
    intro v0 v1 v2 v3 v4
    refine Eq.trans (b := calls_cage_tick_b3 N (fun v0 v1 v2 v3 v4 => loopM E.Θ (calls_cage_begins_cal N) (calls_cage_tick_lp N) (noJn) 1 calls_cage_tick_L3 (bodyAt E 84 3) n (calls_cage_tick_h3 v0 v1 v2 v3 v4) k) v0 v1 v2 v3 v4 (fun q0 q1 => k (.exit 0) (calls_cage_tick_x3_0 q0 q1))) (by kernel_rfl) ?_
    have h : (fun (v0 : Int) (v1 : Arr Int) (v2 : Int) (v3 : Int) (v4 : calls_cage) => loopM E.Θ (calls_cage_begins_cal N) (calls_cage_tick_lp N) (noJn) 1 calls_cage_tick_L3 (bodyAt E 84 3) n (calls_cage_tick_h3 v0 v1 v2 v3 v4) k) = (fun (v0 : Int) (v1 : Arr Int) (v2 : Int) (v3 : Int) (v4 : calls_cage) => calls_cage_tick_l3 N n v0 v1 v2 v3 v4 (fun q0 q1 => k (.exit 0) (calls_cage_tick_x3_0 q0 q1))) := funext fun v0 => funext fun v1 => funext fun v2 => funext fun v3 => funext fun v4 => ih v0 v1 v2 v3 v4
    rw [h]
    rfl
theorem calls_cage_tick_k3 {R : Type} (N : Nat) : LpKey (R := R) E 84 1 (calls_cage_tick_lp N) 3 :=
  lpKey_of hE (calls_cage_begins_cal_ok N) (jn := noJn) calls_cage_tick_L3_ok [] kNil (by kernel_rfl) [] jNil (by kernel_rfl) N fun S k =>
    Eq.trans (b := calls_cage_tick_L3.head.raw 1 S (fun S0 => calls_cage_tick_d3 N S0 k)) (by kernel_rfl) (congrArg (calls_cage_tick_L3.head.raw 1 S) (funext fun S0 => Eq.trans (calls_cage_tick_l3_eq N k N (toI (lget S0.tmps 4)) (lstC intC (lget S0.tmps 9)) (toI (lget S0.tmps 10)) (toI (lget S0.tmps 11)) (Cod.dec calls_cageC (lget (entCs (entAt S0.tab 0))))).symm (by kernel_rfl)))
noncomputable def calls_cage_tick_go {R : Type} (N : Nat) (args : List SV) (T : Tab) (kf : SV × Tab → Option R) : Option R :=
  calls_cage_tick N (lstC intC (lget args 1)) (Cod.dec calls_cageC (lget (entCs (entAt T 0)))) (fun q0 q1 => kf (lget [.int .i64 q0] 0, [(0, .blk (Cod.enc calls_cageC q1))]))
noncomputable def calls_cage_tick_cal {R : Type} (N : Nat) : Cal R := callM (calls_cage_begins_cal N) 84 1 calls_cage_tick_sp (calls_cage_tick_go N)
theorem calls_cage_tick_cal_ok {R : Type} (N : Nat) : CalOk E.P (calls_cage_tick_cal (R := R) N) :=
  callM_ok hE (calls_cage_begins_cal_ok N) (lp := calls_cage_tick_lp N) (jn := noJn) (keys := [3]) (kCons (calls_cage_tick_k3 N) kNil) (by kernel_rfl) (js := []) jNil (by kernel_rfl) calls_cage_tick_sp_ok calls_cage_tick_rs_ok (fun args T kf => Eq.trans (calls_cage_tick_def N (lstC intC (lget args 1)) (Cod.dec calls_cageC (lget (entCs (entAt T 0)))) (fun q0 q1 => kf (lget [.int .i64 q0] 0, [(0, .blk (Cod.enc calls_cageC q1))]))) (by kernel_rfl : calls_cage_tick_run N args T kf = fnM E (calls_cage_begins_cal N) (calls_cage_tick_lp N) (noJn) 84 (calls_cage_tick_sp.vs args) (calls_cage_tick_sp.tab T) 1 (resK calls_cage_tick_rs kf)))

def calls_Play_L12 : LoopSp := ⟨⟨[1, 9, 10, 11, 12, 24, 25], ⟨(dr 1 ((rSl api_PressC) :: (dr 7 ((rRow 0) :: (rPtr 1 0) :: (rInt .i64) :: (rRow 2) :: (dr 11 ((rInt .i64) :: (rInt .i64) :: (dr 34 []))))))), [(0, eRow api_RideC), (1, eBlkC calls_cageC), (2, eRow intC)]⟩, 3⟩, [(some 2, ⟨[1, 9, 10, 12, 24, 25], ⟨(dr 1 ((rSl api_PressC) :: (dr 7 ((rRow 0) :: (rPtr 1 0) :: (dr 1 ((rRow 2) :: (dr 11 ((rInt .i64) :: (rInt .i64) :: (dr 34 []))))))))), [(0, eRow api_RideC), (1, eBlkC calls_cageC), (2, eRow intC)]⟩, 3⟩)]⟩
theorem calls_Play_L12_ok : calls_Play_L12.Ok := ⟨⟨(drCons 1 (allCons (rSl_ok api_PressC_ok) (drCons 7 (allCons (rRow_ok 0) (allCons (rPtr_ok 1 0) (allCons (rInt_ok .i64) (allCons (rRow_ok 2) (drCons 11 (allCons (rInt_ok .i64) (allCons (rInt_ok .i64) (drCons 34 allNil))))))))))), (eCons (eRow_ok api_RideC_ok) (eCons (eBlkC_ok calls_cageC_ok calls_cageC_len) (eCons (eRow_ok intC_ok) eNil)))⟩, (xCons ⟨(drCons 1 (allCons (rSl_ok api_PressC_ok) (drCons 7 (allCons (rRow_ok 0) (allCons (rPtr_ok 1 0) (drCons 1 (allCons (rRow_ok 2) (drCons 11 (allCons (rInt_ok .i64) (allCons (rInt_ok .i64) (drCons 34 allNil))))))))))), (eCons (eRow_ok api_RideC_ok) (eCons (eBlkC_ok calls_cageC_ok calls_cageC_len) (eCons (eRow_ok intC_ok) eNil)))⟩ xNil)⟩
def calls_Play_h12 (v84 : Arr api_Press) (v85 : Int) (v86 : Int) (v87 : Int) (v88 : Bool) (v89 : Arr api_Ride) (v90 : calls_cage) (v91 : Bool) (v92 : Arr Int) : St := ⟨(un 1 ((slC api_PressC v84) :: (un 7 ((.row 0) :: (.ptr 1 0) :: (.int .i64 v85) :: (.row 2) :: (un 11 ((.int .i64 v86) :: (.int .i64 v87) :: (un 34 []))))))), [(0, rowE api_RideC v88 v89), (1, .blk (Cod.enc calls_cageC v90)), (2, rowE intC v91 v92)], 3⟩
def calls_Play_x12_2 (v86 : Int) (v87 : Int) (v88 : Bool) (v89 : Arr api_Ride) (v90 : calls_cage) (q0 : Arr api_Press) (q6 : Bool) (q7 : Arr Int) : St := ⟨(un 1 ((slC api_PressC q0) :: (un 7 ((.row 0) :: (.ptr 1 0) :: (un 1 ((.row 2) :: (un 11 ((.int .i64 v86) :: (.int .i64 v87) :: (un 34 []))))))))), [(0, rowE api_RideC v88 v89), (1, .blk (Cod.enc calls_cageC v90)), (2, rowE intC q6 q7)], 3⟩
def calls_Play_b12 {R : Type} (N : Nat) (rc : Arr api_Press → Int → Int → Int → Bool → Arr api_Ride → calls_cage → Bool → Arr Int → Option R) (v84 : Arr api_Press) (v85 : Int) (v86 : Int) (v87 : Int) (v88 : Bool) (v89 : Arr api_Ride) (v90 : calls_cage) (v91 : Bool) (v92 : Arr Int) (k2 : Arr api_Press → Bool → Arr Int → Option R) : Option R :=
  bif decide ((↑(Arr.n v84) : Int) > (0 : Int)) then
   bif decide ((0 : Int) < (↑(Arr.n v84) : Int)) then
    bif api_Press.At (Arr.f v84 (Int.toNat (0 : Int))) == v85 then
     bif decide ((0 : Int) < (↑(Arr.n v84) : Int)) then
      bif room (Arr.n v92 + (1 : Nat)) then
       bif decide ((1 : Int) ≤ (↑(Arr.n v84) : Int)) && decide ((↑(Arr.n v84) : Int) ≤ (↑(Arr.n v84) : Int)) then
        rc (lst api_PressC (Int.toNat (↑(Arr.n v84) : Int) - Int.toNat (1 : Int)) fun (i j : Nat) ↦ Cod.cell api_PressC (Arr.f v84) (Int.toNat (1 : Int) + i) j) v85 v86 v87 v88 v89 v90 false (lst intC (Arr.n v92 + (1 : Nat)) (catC (Arr.n v92) (Cod.cell intC (Arr.f v92)) (litC [SV.int IntKind.i64 (0 : Int)] [[SV.int IntKind.i64 (api_Press.Floor (Arr.f v84 (Int.toNat (0 : Int))))]])))
       else
        Option.none
      else
       Option.none
     else
      Option.none
    else
     k2 v84 v91 v92
   else
    Option.none
  else
   k2 v84 v91 v92
def calls_Play_l12 {R : Type} (N : Nat) : Nat → Arr api_Press → Int → Int → Int → Bool → Arr api_Ride → calls_cage → Bool → Arr Int → (Arr api_Press → Bool → Arr Int → Option R) → Option R
  | 0, _, _, _, _, _, _, _, _, _, _ => Option.none
  | n + 1, v84, v85, v86, v87, v88, v89, v90, v91, v92, k2 => calls_Play_b12 N (fun v84 v85 v86 v87 v88 v89 v90 v91 v92 => calls_Play_l12 N n v84 v85 v86 v87 v88 v89 v90 v91 v92 k2) v84 v85 v86 v87 v88 v89 v90 v91 v92 k2

def calls_Play_L9 : LoopSp := ⟨⟨[1, 9, 10, 24, 25], ⟨(dr 1 ((rSl api_PressC) :: (dr 7 ((rRow 0) :: (rPtr 1 0) :: (dr 13 ((rInt .i64) :: (rInt .i64) :: (dr 34 []))))))), [(0, eRow api_RideC), (1, eBlkC calls_cageC)]⟩, 2⟩, [(some 0, ⟨[9], ⟨(dr 9 ((rRow 0) :: (dr 50 []))), [(0, eRow api_RideC)]⟩, 1⟩)]⟩
theorem calls_Play_L9_ok : calls_Play_L9.Ok := ⟨⟨(drCons 1 (allCons (rSl_ok api_PressC_ok) (drCons 7 (allCons (rRow_ok 0) (allCons (rPtr_ok 1 0) (drCons 13 (allCons (rInt_ok .i64) (allCons (rInt_ok .i64) (drCons 34 allNil))))))))), (eCons (eRow_ok api_RideC_ok) (eCons (eBlkC_ok calls_cageC_ok calls_cageC_len) eNil))⟩, (xCons ⟨(drCons 9 (allCons (rRow_ok 0) (drCons 50 allNil))), (eCons (eRow_ok api_RideC_ok) eNil)⟩ xNil)⟩
def calls_Play_h9 (v78 : Arr api_Press) (v79 : Int) (v80 : Int) (v81 : Bool) (v82 : Arr api_Ride) (v83 : calls_cage) : St := ⟨(un 1 ((slC api_PressC v78) :: (un 7 ((.row 0) :: (.ptr 1 0) :: (un 13 ((.int .i64 v79) :: (.int .i64 v80) :: (un 34 []))))))), [(0, rowE api_RideC v81 v82), (1, .blk (Cod.enc calls_cageC v83))], 2⟩
def calls_Play_x9_0 (q0 : Bool) (q1 : Arr api_Ride) : St := ⟨(un 9 ((.row 0) :: (un 50 []))), [(0, rowE api_RideC q0 q1)], 1⟩
def calls_Play_b9 {R : Type} (N : Nat) (rc : Arr api_Press → Int → Int → Bool → Arr api_Ride → calls_cage → Option R) (v78 : Arr api_Press) (v79 : Int) (v80 : Int) (v81 : Bool) (v82 : Arr api_Ride) (v83 : calls_cage) (k0 : Bool → Arr api_Ride → Option R) : Option R :=
  bif decide (v80 < v79) then
   calls_Play_l12 N N v78 v80 v79 v80 v81 v82 v83 true (lst intC (0 : Nat) (zeroC [SV.int IntKind.i64 (0 : Int)])) (fun r93 r94 r95 =>
    calls_cage_tick N r95 v83 (fun r117 r118 =>
    bif room (Arr.n v82 + (1 : Nat)) then
     rc r93 v79 (w64 (v80 + (1 : Int))) false (lst api_RideC (Arr.n v82 + (1 : Nat)) (catC (Arr.n v82) (Cod.cell api_RideC (Arr.f v82)) (litC [SV.int IntKind.i64 (0 : Int), SV.bool false, SV.bool false, SV.int IntKind.i64 (0 : Int), SV.int IntKind.i64 (0 : Int), SV.int IntKind.i64 (0 : Int)] [[SV.int IntKind.i64 (api_Ride.Floor (calls_cage.Ride r118)), SV.bool (api_Ride.Up (calls_cage.Ride r118)), SV.bool (api_Ride.Stood (calls_cage.Ride r118)), SV.int IntKind.i64 (api_Ride.Doing (calls_cage.Ride r118)), SV.int IntKind.i64 (api_Ride.Left (calls_cage.Ride r118)), SV.int IntKind.i64 (api_Ride.Wants (calls_cage.Ride r118))]]))) r118
    else
     Option.none))
  else
   k0 v81 v82
def calls_Play_l9 {R : Type} (N : Nat) : Nat → Arr api_Press → Int → Int → Bool → Arr api_Ride → calls_cage → (Bool → Arr api_Ride → Option R) → Option R
  | 0, _, _, _, _, _, _, _ => Option.none
  | n + 1, v78, v79, v80, v81, v82, v83, k0 => calls_Play_b9 N (fun v78 v79 v80 v81 v82 v83 => calls_Play_l9 N n v78 v79 v80 v81 v82 v83 k0) v78 v79 v80 v81 v82 v83 k0


def calls_Play_m {R : Type} (N : Nat) (a72 : api_Car) (a73 : Arr api_Press) (a74 : Int) (k : Int → Bool → Arr api_Ride → Option R) : Option R :=
  calls_Check N a72 a73 (fun r75 =>
  bif r75 != (0 : Int) then
   k r75 true (lst api_RideC (0 : Nat) (zeroC [SV.int IntKind.i64 (0 : Int), SV.bool false, SV.bool false, SV.int IntKind.i64 (0 : Int), SV.int IntKind.i64 (0 : Int), SV.int IntKind.i64 (0 : Int)]))
  else
   calls_within N a74 (0 : Int) (1000 : Int) (fun r76 =>
   bif !r76 then
    k (1 : Int) true (lst api_RideC (0 : Nat) (zeroC [SV.int IntKind.i64 (0 : Int), SV.bool false, SV.bool false, SV.int IntKind.i64 (0 : Int), SV.int IntKind.i64 (0 : Int), SV.int IntKind.i64 (0 : Int)]))
   else
    calls_begin N a72 (fun r77 =>
    calls_Play_l9 N N a73 a74 (0 : Int) true (lst api_RideC (0 : Nat) (zeroC [SV.int IntKind.i64 (0 : Int), SV.bool false, SV.bool false, SV.int IntKind.i64 (0 : Int), SV.int IntKind.i64 (0 : Int), SV.int IntKind.i64 (0 : Int)])) r77 (fun r119 r120 =>
     k (0 : Int) r119 r120))))
noncomputable def calls_Play {R : Type} : Nat → api_Car → Arr api_Press → Int → (Int → Bool → Arr api_Ride → Option R) → Option R := lock (@calls_Play_m R)
theorem calls_Play_def {R : Type} (N : Nat) (a72 : api_Car) (a73 : Arr api_Press) (a74 : Int) (k : Int → Bool → Arr api_Ride → Option R) : calls_Play N a72 a73 a74 k = calls_Play_m N a72 a73 a74 k := by unfold calls_Play; rw [lock_eq]
def calls_Play_sp : Sp := ⟨[rAgg api_CarC, rSl api_PressC, rInt .i64], []⟩
theorem calls_Play_sp_ok : calls_Play_sp.Ok := ⟨(allCons (rAgg_ok api_CarC_ok api_CarC_len) (allCons (rSl_ok api_PressC_ok) (allCons (rInt_ok .i64) allNil))), eNil⟩
def calls_Play_rs : Sp := ⟨[rTup [rRow 0, rInt .i64]], [(0, eRow api_RideC)]⟩
theorem calls_Play_rs_ok : calls_Play_rs.Ok := ⟨(allCons (rTup_ok (allCons (rRow_ok 0) (allCons (rInt_ok .i64) allNil))) allNil), (eCons (eRow_ok api_RideC_ok) eNil)⟩
def calls_Play_run {R : Type} (N : Nat) (args : List SV) (T : Tab) (kf : SV × Tab → Option R) : Option R :=
  calls_Play_m N (Cod.dec api_CarC (lget (toCs (lget args 0)))) (lstC api_PressC (lget args 1)) (toI (lget args 2)) (fun q0 q1 q2 => kf (lget [.tup [.row 0, .int .i64 q0]] 0, [(0, rowE api_RideC q1 q2)]))
def calls_Play_d12 {R : Type} (N : Nat) (S0 : St) (k : Exit → St → Option R) : Option R :=
  calls_Play_l12 N N (lstC api_PressC (lget S0.tmps 1)) (toI (lget S0.tmps 11)) (toI (lget S0.tmps 24)) (toI (lget S0.tmps 25)) (entNl (entAt S0.tab 0)) (lst api_RideC (entN (entAt S0.tab 0)) (entC (entAt S0.tab 0))) (Cod.dec calls_cageC (lget (entCs (entAt S0.tab 1)))) (entNl (entAt S0.tab 2)) (lst intC (entN (entAt S0.tab 2)) (entC (entAt S0.tab 2))) (fun q0 q6 q7 => k (.exit 2) (calls_Play_x12_2 (toI (lget S0.tmps 24)) (toI (lget S0.tmps 25)) (entNl (entAt S0.tab 0)) (lst api_RideC (entN (entAt S0.tab 0)) (entC (entAt S0.tab 0))) (Cod.dec calls_cageC (lget (entCs (entAt S0.tab 1)))) q0 q6 q7))
def calls_Play_d9 {R : Type} (N : Nat) (S0 : St) (k : Exit → St → Option R) : Option R :=
  calls_Play_l9 N N (lstC api_PressC (lget S0.tmps 1)) (toI (lget S0.tmps 24)) (toI (lget S0.tmps 25)) (entNl (entAt S0.tab 0)) (lst api_RideC (entN (entAt S0.tab 0)) (entC (entAt S0.tab 0))) (Cod.dec calls_cageC (lget (entCs (entAt S0.tab 1)))) (fun q0 q1 => k (.exit 0) (calls_Play_x9_0 q0 q1))
def calls_Play_lp {R : Type} (N : Nat) : Lp R := fun body S k => bif (Go.Sx.keyOf body).getD 0 == 9 then calls_Play_L9.head.raw 0 S (fun S0 => calls_Play_d9 N S0 k) else bif (Go.Sx.keyOf body).getD 0 == 12 then calls_Play_L12.head.raw 0 S (fun S0 => calls_Play_d12 N S0 k) else Option.none
theorem calls_Play_l9_eq {R : Type} (N : Nat) (k : Exit → St → Option R) (n : Nat) : ∀ (v0 : Arr api_Press) (v1 : Int) (v2 : Int) (v3 : Bool) (v4 : Arr api_Ride) (v5 : calls_cage), loopM E.Θ (calls_cage_tick_cal N) (calls_Play_lp N) (noJn) 0 calls_Play_L9 (bodyAt E 35 9) n (calls_Play_h9 v0 v1 v2 v3 v4 v5) k = calls_Play_l9 N n v0 v1 v2 v3 v4 v5 (fun q0 q1 => k (.exit 0) (calls_Play_x9_0 q0 q1)) := by
  induction n with
  | zero => intro v0 v1 v2 v3 v4 v5; rfl
  | succ n ih =>
    intro v0 v1 v2 v3 v4 v5
    refine Eq.trans (b := calls_Play_b9 N (fun v0 v1 v2 v3 v4 v5 => loopM E.Θ (calls_cage_tick_cal N) (calls_Play_lp N) (noJn) 0 calls_Play_L9 (bodyAt E 35 9) n (calls_Play_h9 v0 v1 v2 v3 v4 v5) k) v0 v1 v2 v3 v4 v5 (fun q0 q1 => k (.exit 0) (calls_Play_x9_0 q0 q1))) (by kernel_rfl) ?_
    have h : (fun (v0 : Arr api_Press) (v1 : Int) (v2 : Int) (v3 : Bool) (v4 : Arr api_Ride) (v5 : calls_cage) => loopM E.Θ (calls_cage_tick_cal N) (calls_Play_lp N) (noJn) 0 calls_Play_L9 (bodyAt E 35 9) n (calls_Play_h9 v0 v1 v2 v3 v4 v5) k) = (fun (v0 : Arr api_Press) (v1 : Int) (v2 : Int) (v3 : Bool) (v4 : Arr api_Ride) (v5 : calls_cage) => calls_Play_l9 N n v0 v1 v2 v3 v4 v5 (fun q0 q1 => k (.exit 0) (calls_Play_x9_0 q0 q1))) := funext fun v0 => funext fun v1 => funext fun v2 => funext fun v3 => funext fun v4 => funext fun v5 => ih v0 v1 v2 v3 v4 v5
    rw [h]
    rfl
theorem calls_Play_l12_eq {R : Type} (N : Nat) (k : Exit → St → Option R) (n : Nat) : ∀ (v0 : Arr api_Press) (v1 : Int) (v2 : Int) (v3 : Int) (v4 : Bool) (v5 : Arr api_Ride) (v6 : calls_cage) (v7 : Bool) (v8 : Arr Int), loopM E.Θ (calls_cage_tick_cal N) (calls_Play_lp N) (noJn) 0 calls_Play_L12 (bodyAt E 35 12) n (calls_Play_h12 v0 v1 v2 v3 v4 v5 v6 v7 v8) k = calls_Play_l12 N n v0 v1 v2 v3 v4 v5 v6 v7 v8 (fun q0 q6 q7 => k (.exit 2) (calls_Play_x12_2 v2 v3 v4 v5 v6 q0 q6 q7)) := by
  induction n with
  | zero => intro v0 v1 v2 v3 v4 v5 v6 v7 v8; rfl
  | succ n ih =>
    intro v0 v1 v2 v3 v4 v5 v6 v7 v8
    refine Eq.trans (b := calls_Play_b12 N (fun v0 v1 v2 v3 v4 v5 v6 v7 v8 => loopM E.Θ (calls_cage_tick_cal N) (calls_Play_lp N) (noJn) 0 calls_Play_L12 (bodyAt E 35 12) n (calls_Play_h12 v0 v1 v2 v3 v4 v5 v6 v7 v8) k) v0 v1 v2 v3 v4 v5 v6 v7 v8 (fun q0 q6 q7 => k (.exit 2) (calls_Play_x12_2 v2 v3 v4 v5 v6 q0 q6 q7))) (by kernel_rfl) ?_
    have h : (fun (v0 : Arr api_Press) (v1 : Int) (v2 : Int) (v3 : Int) (v4 : Bool) (v5 : Arr api_Ride) (v6 : calls_cage) (v7 : Bool) (v8 : Arr Int) => loopM E.Θ (calls_cage_tick_cal N) (calls_Play_lp N) (noJn) 0 calls_Play_L12 (bodyAt E 35 12) n (calls_Play_h12 v0 v1 v2 v3 v4 v5 v6 v7 v8) k) = (fun (v0 : Arr api_Press) (v1 : Int) (v2 : Int) (v3 : Int) (v4 : Bool) (v5 : Arr api_Ride) (v6 : calls_cage) (v7 : Bool) (v8 : Arr Int) => calls_Play_l12 N n v0 v1 v2 v3 v4 v5 v6 v7 v8 (fun q0 q6 q7 => k (.exit 2) (calls_Play_x12_2 v2 v3 v4 v5 v6 q0 q6 q7))) := funext fun v0 => funext fun v1 => funext fun v2 => funext fun v3 => funext fun v4 => funext fun v5 => funext fun v6 => funext fun v7 => funext fun v8 => ih v0 v1 v2 v3 v4 v5 v6 v7 v8
    rw [h]
    rfl
theorem calls_Play_k12 {R : Type} (N : Nat) : LpKey (R := R) E 35 0 (calls_Play_lp N) 12 :=
  lpKey_of hE (calls_cage_tick_cal_ok N) (jn := noJn) calls_Play_L12_ok [] kNil (by kernel_rfl) [] jNil (by kernel_rfl) N fun S k =>
    Eq.trans (b := calls_Play_L12.head.raw 0 S (fun S0 => calls_Play_d12 N S0 k)) (by kernel_rfl) (congrArg (calls_Play_L12.head.raw 0 S) (funext fun S0 => Eq.trans (calls_Play_l12_eq N k N (lstC api_PressC (lget S0.tmps 1)) (toI (lget S0.tmps 11)) (toI (lget S0.tmps 24)) (toI (lget S0.tmps 25)) (entNl (entAt S0.tab 0)) (lst api_RideC (entN (entAt S0.tab 0)) (entC (entAt S0.tab 0))) (Cod.dec calls_cageC (lget (entCs (entAt S0.tab 1)))) (entNl (entAt S0.tab 2)) (lst intC (entN (entAt S0.tab 2)) (entC (entAt S0.tab 2)))).symm (by kernel_rfl)))
theorem calls_Play_k9 {R : Type} (N : Nat) : LpKey (R := R) E 35 0 (calls_Play_lp N) 9 :=
  lpKey_of hE (calls_cage_tick_cal_ok N) (jn := noJn) calls_Play_L9_ok [12] (kCons (calls_Play_k12 N) kNil) (by kernel_rfl) [] jNil (by kernel_rfl) N fun S k =>
    Eq.trans (b := calls_Play_L9.head.raw 0 S (fun S0 => calls_Play_d9 N S0 k)) (by kernel_rfl) (congrArg (calls_Play_L9.head.raw 0 S) (funext fun S0 => Eq.trans (calls_Play_l9_eq N k N (lstC api_PressC (lget S0.tmps 1)) (toI (lget S0.tmps 24)) (toI (lget S0.tmps 25)) (entNl (entAt S0.tab 0)) (lst api_RideC (entN (entAt S0.tab 0)) (entC (entAt S0.tab 0))) (Cod.dec calls_cageC (lget (entCs (entAt S0.tab 1))))).symm (by kernel_rfl)))
noncomputable def calls_Play_go {R : Type} (N : Nat) (args : List SV) (T : Tab) (kf : SV × Tab → Option R) : Option R :=
  calls_Play N (Cod.dec api_CarC (lget (toCs (lget args 0)))) (lstC api_PressC (lget args 1)) (toI (lget args 2)) (fun q0 q1 q2 => kf (lget [.tup [.row 0, .int .i64 q0]] 0, [(0, rowE api_RideC q1 q2)]))
noncomputable def calls_Play_cal {R : Type} (N : Nat) : Cal R := callM (calls_cage_tick_cal N) 35 0 calls_Play_sp (calls_Play_go N)
theorem calls_Play_cal_ok {R : Type} (N : Nat) : CalOk E.P (calls_Play_cal (R := R) N) :=
  callM_ok hE (calls_cage_tick_cal_ok N) (lp := calls_Play_lp N) (jn := noJn) (keys := [9, 12]) (kCons (calls_Play_k9 N) (kCons (calls_Play_k12 N) kNil)) (by kernel_rfl) (js := []) jNil (by kernel_rfl) calls_Play_sp_ok calls_Play_rs_ok (fun args T kf => Eq.trans (calls_Play_def N (Cod.dec api_CarC (lget (toCs (lget args 0)))) (lstC api_PressC (lget args 1)) (toI (lget args 2)) (fun q0 q1 q2 => kf (lget [.tup [.row 0, .int .i64 q0]] 0, [(0, rowE api_RideC q1 q2)]))) (by kernel_rfl : calls_Play_run N args T kf = fnM E (calls_cage_tick_cal N) (calls_Play_lp N) (noJn) 35 (calls_Play_sp.vs args) (calls_Play_sp.tab T) 0 (resK calls_Play_rs kf)))


def chain_within_m {R : Type} (N : Nat) (a121 : Int) (a122 : Int) (a123 : Int) (k : Bool → Option R) : Option R :=
  bif decide (a121 ≥ a122) then
   k (decide (a121 ≤ a123))
  else
   k false
noncomputable def chain_within {R : Type} : Nat → Int → Int → Int → (Bool → Option R) → Option R := lock (@chain_within_m R)
theorem chain_within_def {R : Type} (N : Nat) (a121 : Int) (a122 : Int) (a123 : Int) (k : Bool → Option R) : chain_within N a121 a122 a123 k = chain_within_m N a121 a122 a123 k := by unfold chain_within; rw [lock_eq]
def chain_within_sp : Sp := ⟨[rInt .i64, rInt .i64, rInt .i64], []⟩
theorem chain_within_sp_ok : chain_within_sp.Ok := ⟨(allCons (rInt_ok .i64) (allCons (rInt_ok .i64) (allCons (rInt_ok .i64) allNil))), eNil⟩
def chain_within_rs : Sp := ⟨[rBool], []⟩
theorem chain_within_rs_ok : chain_within_rs.Ok := ⟨(allCons rBool_ok allNil), eNil⟩
def chain_within_run {R : Type} (N : Nat) (args : List SV) (T : Tab) (kf : SV × Tab → Option R) : Option R :=
  chain_within_m N (toI (lget args 0)) (toI (lget args 1)) (toI (lget args 2)) (fun q0 => kf (lget [.bool q0] 0, []))
def chain_within_lp {R : Type} (N : Nat) : Lp R := fun body S k => Option.none
noncomputable def chain_within_go {R : Type} (N : Nat) (args : List SV) (T : Tab) (kf : SV × Tab → Option R) : Option R :=
  chain_within N (toI (lget args 0)) (toI (lget args 1)) (toI (lget args 2)) (fun q0 => kf (lget [.bool q0] 0, []))
noncomputable def chain_within_cal {R : Type} (N : Nat) : Cal R := callM (calls_Play_cal N) 120 0 chain_within_sp (chain_within_go N)
theorem chain_within_cal_ok {R : Type} (N : Nat) : CalOk E.P (chain_within_cal (R := R) N) :=
  callM_ok hE (calls_Play_cal_ok N) (lp := chain_within_lp N) (jn := noJn) (keys := []) kNil (by kernel_rfl) (js := []) jNil (by kernel_rfl) chain_within_sp_ok chain_within_rs_ok (fun args T kf => Eq.trans (chain_within_def N (toI (lget args 0)) (toI (lget args 1)) (toI (lget args 2)) (fun q0 => kf (lget [.bool q0] 0, []))) (by kernel_rfl : chain_within_run N args T kf = fnM E (calls_Play_cal N) (chain_within_lp N) (noJn) 120 (chain_within_sp.vs args) (chain_within_sp.tab T) 0 (resK chain_within_rs kf)))

def chain_CheckPart_L4 : LoopSp := ⟨⟨[1, 2, 34, 35, 36], ⟨(dr 1 ((rSl api_UseC) :: (rPtr 0 0) :: (dr 31 ((rSl api_SpanC) :: (rInt .i64) :: (rInt .i64) :: (dr 82 []))))), [(0, eBlkC api_PartC)]⟩, 1⟩, [(Option.none, ⟨[4], ⟨(dr 4 ((rInt .i64) :: (dr 114 []))), []⟩, 0⟩), (some 0, ⟨[1, 2], ⟨(dr 1 ((rSl api_UseC) :: (rPtr 0 0) :: (dr 116 []))), [(0, eBlkC api_PartC)]⟩, 1⟩)]⟩
theorem chain_CheckPart_L4_ok : chain_CheckPart_L4.Ok := ⟨⟨(drCons 1 (allCons (rSl_ok api_UseC_ok) (allCons (rPtr_ok 0 0) (drCons 31 (allCons (rSl_ok api_SpanC_ok) (allCons (rInt_ok .i64) (allCons (rInt_ok .i64) (drCons 82 allNil)))))))), (eCons (eBlkC_ok api_PartC_ok api_PartC_len) eNil)⟩, (xCons ⟨(drCons 4 (allCons (rInt_ok .i64) (drCons 114 allNil))), eNil⟩ (xCons ⟨(drCons 1 (allCons (rSl_ok api_UseC_ok) (allCons (rPtr_ok 0 0) (drCons 116 allNil)))), (eCons (eBlkC_ok api_PartC_ok api_PartC_len) eNil)⟩ xNil))⟩
def chain_CheckPart_h4 (v130 : Arr api_Use) (v131 : Arr api_Span) (v132 : Int) (v133 : Int) (v134 : api_Part) : St := ⟨(un 1 ((slC api_UseC v130) :: (.ptr 0 0) :: (un 31 ((slC api_SpanC v131) :: (.int .i64 v132) :: (.int .i64 v133) :: (un 82 []))))), [(0, .blk (Cod.enc api_PartC v134))], 1⟩
def chain_CheckPart_x4_r (q0 : Int) : St := ⟨(un 4 ((.int .i64 q0) :: (un 114 []))), [], 0⟩
def chain_CheckPart_x4_0 (v130 : Arr api_Use) (v134 : api_Part) : St := ⟨(un 1 ((slC api_UseC v130) :: (.ptr 0 0) :: (un 116 []))), [(0, .blk (Cod.enc api_PartC v134))], 1⟩
def chain_CheckPart_b4 {R : Type} (N : Nat) (rc : Arr api_Use → Arr api_Span → Int → Int → api_Part → Option R) (v130 : Arr api_Use) (v131 : Arr api_Span) (v132 : Int) (v133 : Int) (v134 : api_Part) (kr : Int → Option R) (k0 : Unit → Option R) : Option R :=
  bif decide (v133 < v132) then
   bif decide ((0 : Int) ≤ v133) && decide (v133 < (↑(Arr.n v131) : Int)) then
    bif decide (api_Span.Low (Arr.f v131 (Int.toNat v133)) < (0 : Int)) then
     kr (22 : Int)
    else
     bif decide (api_Span.High (Arr.f v131 (Int.toNat v133)) < api_Span.Low (Arr.f v131 (Int.toNat v133))) then
      kr (22 : Int)
     else
      bif decide (api_Span.High (Arr.f v131 (Int.toNat v133)) > (1000000 : Int)) then
       kr (22 : Int)
      else
       rc v130 v131 v132 (w64 (v133 + (1 : Int))) v134
   else
    Option.none
  else
   k0 ()
def chain_CheckPart_l4 {R : Type} (N : Nat) : Nat → Arr api_Use → Arr api_Span → Int → Int → api_Part → (Int → Option R) → (Unit → Option R) → Option R
  | 0, _, _, _, _, _, _, _ => Option.none
  | n + 1, v130, v131, v132, v133, v134, kr, k0 => chain_CheckPart_b4 N (fun v130 v131 v132 v133 v134 => chain_CheckPart_l4 N n v130 v131 v132 v133 v134 kr k0) v130 v131 v132 v133 v134 kr k0

def chain_CheckPart_L13 : LoopSp := ⟨⟨[2, 7, 59, 60, 61], ⟨(dr 2 ((rPtr 0 0) :: (dr 4 ((rInt .i64) :: (dr 51 ((rSl api_UseC) :: (rInt .i64) :: (rInt .i64) :: (dr 57 []))))))), [(0, eBlkC api_PartC)]⟩, 1⟩, [(Option.none, ⟨[4], ⟨(dr 4 ((rInt .i64) :: (dr 114 []))), []⟩, 0⟩), (some 2, ⟨[], ⟨(dr 119 []), []⟩, 0⟩)]⟩
theorem chain_CheckPart_L13_ok : chain_CheckPart_L13.Ok := ⟨⟨(drCons 2 (allCons (rPtr_ok 0 0) (drCons 4 (allCons (rInt_ok .i64) (drCons 51 (allCons (rSl_ok api_UseC_ok) (allCons (rInt_ok .i64) (allCons (rInt_ok .i64) (drCons 57 allNil))))))))), (eCons (eBlkC_ok api_PartC_ok api_PartC_len) eNil)⟩, (xCons ⟨(drCons 4 (allCons (rInt_ok .i64) (drCons 114 allNil))), eNil⟩ (xCons ⟨(drCons 119 allNil), eNil⟩ xNil))⟩
def chain_CheckPart_h13 (v136 : Int) (v137 : Arr api_Use) (v138 : Int) (v139 : Int) (v140 : api_Part) : St := ⟨(un 2 ((.ptr 0 0) :: (un 4 ((.int .i64 v136) :: (un 51 ((slC api_UseC v137) :: (.int .i64 v138) :: (.int .i64 v139) :: (un 57 []))))))), [(0, .blk (Cod.enc api_PartC v140))], 1⟩
def chain_CheckPart_x13_r (q0 : Int) : St := ⟨(un 4 ((.int .i64 q0) :: (un 114 []))), [], 0⟩
def chain_CheckPart_x13_2  : St := ⟨(un 119 []), [], 0⟩
def chain_CheckPart_b13 {R : Type} (N : Nat) (rc : Int → Arr api_Use → Int → Int → api_Part → Option R) (v136 : Int) (v137 : Arr api_Use) (v138 : Int) (v139 : Int) (v140 : api_Part) (kr : Int → Option R) (k2 : Unit → Option R) : Option R :=
  bif decide (v139 < v138) then
   bif decide ((0 : Int) ≤ v139) && decide (v139 < (↑(Arr.n v137) : Int)) then
    chain_within N (api_Use.Day (Arr.f v137 (Int.toNat v139))) v136 (100000 : Int) (fun r141 =>
    bif !r141 then
     kr (23 : Int)
    else
     chain_within N (api_Use.Turns (Arr.f v137 (Int.toNat v139))) (0 : Int) (1000000 : Int) (fun r142 =>
     bif !r142 then
      kr (23 : Int)
     else
      chain_within N (api_Use.Class (Arr.f v137 (Int.toNat v139))) (0 : Int) (w64 ((↑(Arr.n (api_Part.Rates v140)) : Int) - (1 : Int))) (fun r143 =>
      bif !r143 then
       kr (23 : Int)
      else
       bif decide (api_Span.Low (api_Use.Says (Arr.f v137 (Int.toNat v139))) < (0 : Int)) then
        kr (23 : Int)
       else
        bif decide (api_Span.High (api_Use.Says (Arr.f v137 (Int.toNat v139))) < api_Span.Low (api_Use.Says (Arr.f v137 (Int.toNat v139)))) then
         kr (23 : Int)
        else
         bif decide (api_Span.High (api_Use.Says (Arr.f v137 (Int.toNat v139))) > (2000000000 : Int)) then
          kr (23 : Int)
         else
          bif !api_Use.Measured (Arr.f v137 (Int.toNat v139)) then
           bif !(api_Span.Low (api_Use.Says (Arr.f v137 (Int.toNat v139))) == (0 : Int) && (api_Span.High (api_Use.Says (Arr.f v137 (Int.toNat v139))) == (0 : Int) && true)) then
            kr (23 : Int)
           else
            rc (api_Use.Day (Arr.f v137 (Int.toNat v139))) v137 v138 (w64 (v139 + (1 : Int))) v140
          else
           rc (api_Use.Day (Arr.f v137 (Int.toNat v139))) v137 v138 (w64 (v139 + (1 : Int))) v140)))
   else
    Option.none
  else
   k2 ()
def chain_CheckPart_l13 {R : Type} (N : Nat) : Nat → Int → Arr api_Use → Int → Int → api_Part → (Int → Option R) → (Unit → Option R) → Option R
  | 0, _, _, _, _, _, _, _ => Option.none
  | n + 1, v136, v137, v138, v139, v140, kr, k2 => chain_CheckPart_b13 N (fun v136 v137 v138 v139 v140 => chain_CheckPart_l13 N n v136 v137 v138 v139 v140 kr k2) v136 v137 v138 v139 v140 kr k2


def chain_CheckPart_m {R : Type} (N : Nat) (a124 : api_Part) (a125 : Arr api_Use) (k : Int → Option R) : Option R :=
  chain_within N ((↑(Arr.n (api_Part.Rates a124)) : Int)) (1 : Int) (4 : Int) (fun r126 =>
  bif !r126 then
   k (22 : Int)
  else
   chain_within N (api_Part.Worn a124) (0 : Int) (1000 : Int) (fun r127 =>
   bif !r127 then
    k (22 : Int)
   else
    chain_within N (api_Part.Turns a124) (0 : Int) (1000000 : Int) (fun r128 =>
    bif !r128 then
     k (22 : Int)
    else
     chain_within N (api_Part.Age a124) (0 : Int) (100000 : Int) (fun r129 =>
     bif !r129 then
      k (22 : Int)
     else
      chain_CheckPart_l4 N N a125 (api_Part.Rates a124) ((↑(Arr.n (api_Part.Rates a124)) : Int)) (0 : Int) a124 (fun r135 =>
       k r135) (fun (_ : Unit) =>
       bif decide ((↑(Arr.n a125) : Int) > (40 : Int)) then
        k (23 : Int)
       else
        chain_CheckPart_l13 N N (0 : Int) a125 ((↑(Arr.n a125) : Int)) (0 : Int) a124 (fun r144 =>
         k r144) (fun (_ : Unit) =>
         k (0 : Int)))))))
noncomputable def chain_CheckPart {R : Type} : Nat → api_Part → Arr api_Use → (Int → Option R) → Option R := lock (@chain_CheckPart_m R)
theorem chain_CheckPart_def {R : Type} (N : Nat) (a124 : api_Part) (a125 : Arr api_Use) (k : Int → Option R) : chain_CheckPart N a124 a125 k = chain_CheckPart_m N a124 a125 k := by unfold chain_CheckPart; rw [lock_eq]
def chain_CheckPart_sp : Sp := ⟨[rAgg api_PartC, rSl api_UseC], []⟩
theorem chain_CheckPart_sp_ok : chain_CheckPart_sp.Ok := ⟨(allCons (rAgg_ok api_PartC_ok api_PartC_len) (allCons (rSl_ok api_UseC_ok) allNil)), eNil⟩
def chain_CheckPart_rs : Sp := ⟨[rInt .i64], []⟩
theorem chain_CheckPart_rs_ok : chain_CheckPart_rs.Ok := ⟨(allCons (rInt_ok .i64) allNil), eNil⟩
def chain_CheckPart_run {R : Type} (N : Nat) (args : List SV) (T : Tab) (kf : SV × Tab → Option R) : Option R :=
  chain_CheckPart_m N (Cod.dec api_PartC (lget (toCs (lget args 0)))) (lstC api_UseC (lget args 1)) (fun q0 => kf (lget [.int .i64 q0] 0, []))
def chain_CheckPart_d13 {R : Type} (N : Nat) (S0 : St) (k : Exit → St → Option R) : Option R :=
  chain_CheckPart_l13 N N (toI (lget S0.tmps 7)) (lstC api_UseC (lget S0.tmps 59)) (toI (lget S0.tmps 60)) (toI (lget S0.tmps 61)) (Cod.dec api_PartC (lget (entCs (entAt S0.tab 0)))) (fun q0 => k .ret (chain_CheckPart_x13_r q0)) (fun (_ : Unit) => k (.exit 2) (chain_CheckPart_x13_2 ))
def chain_CheckPart_d4 {R : Type} (N : Nat) (S0 : St) (k : Exit → St → Option R) : Option R :=
  chain_CheckPart_l4 N N (lstC api_UseC (lget S0.tmps 1)) (lstC api_SpanC (lget S0.tmps 34)) (toI (lget S0.tmps 35)) (toI (lget S0.tmps 36)) (Cod.dec api_PartC (lget (entCs (entAt S0.tab 0)))) (fun q0 => k .ret (chain_CheckPart_x4_r q0)) (fun (_ : Unit) => k (.exit 0) (chain_CheckPart_x4_0 (lstC api_UseC (lget S0.tmps 1)) (Cod.dec api_PartC (lget (entCs (entAt S0.tab 0))))))
def chain_CheckPart_lp {R : Type} (N : Nat) : Lp R := fun body S k => bif (Go.Sx.keyOf body).getD 0 == 4 then chain_CheckPart_L4.head.raw 0 S (fun S0 => chain_CheckPart_d4 N S0 k) else bif (Go.Sx.keyOf body).getD 0 == 13 then chain_CheckPart_L13.head.raw 0 S (fun S0 => chain_CheckPart_d13 N S0 k) else Option.none
theorem chain_CheckPart_l4_eq {R : Type} (N : Nat) (k : Exit → St → Option R) (n : Nat) : ∀ (v0 : Arr api_Use) (v1 : Arr api_Span) (v2 : Int) (v3 : Int) (v4 : api_Part), loopM E.Θ (chain_within_cal N) (chain_CheckPart_lp N) (noJn) 0 chain_CheckPart_L4 (bodyAt E 87 4) n (chain_CheckPart_h4 v0 v1 v2 v3 v4) k = chain_CheckPart_l4 N n v0 v1 v2 v3 v4 (fun q0 => k .ret (chain_CheckPart_x4_r q0)) (fun (_ : Unit) => k (.exit 0) (chain_CheckPart_x4_0 v0 v4)) := by
  induction n with
  | zero => intro v0 v1 v2 v3 v4; rfl
  | succ n ih =>
    intro v0 v1 v2 v3 v4
    refine Eq.trans (b := chain_CheckPart_b4 N (fun v0 v1 v2 v3 v4 => loopM E.Θ (chain_within_cal N) (chain_CheckPart_lp N) (noJn) 0 chain_CheckPart_L4 (bodyAt E 87 4) n (chain_CheckPart_h4 v0 v1 v2 v3 v4) k) v0 v1 v2 v3 v4 (fun q0 => k .ret (chain_CheckPart_x4_r q0)) (fun (_ : Unit) => k (.exit 0) (chain_CheckPart_x4_0 v0 v4))) (by kernel_rfl) ?_
    have h : (fun (v0 : Arr api_Use) (v1 : Arr api_Span) (v2 : Int) (v3 : Int) (v4 : api_Part) => loopM E.Θ (chain_within_cal N) (chain_CheckPart_lp N) (noJn) 0 chain_CheckPart_L4 (bodyAt E 87 4) n (chain_CheckPart_h4 v0 v1 v2 v3 v4) k) = (fun (v0 : Arr api_Use) (v1 : Arr api_Span) (v2 : Int) (v3 : Int) (v4 : api_Part) => chain_CheckPart_l4 N n v0 v1 v2 v3 v4 (fun q0 => k .ret (chain_CheckPart_x4_r q0)) (fun (_ : Unit) => k (.exit 0) (chain_CheckPart_x4_0 v0 v4))) := funext fun v0 => funext fun v1 => funext fun v2 => funext fun v3 => funext fun v4 => ih v0 v1 v2 v3 v4
    rw [h]
    rfl
theorem chain_CheckPart_l13_eq {R : Type} (N : Nat) (k : Exit → St → Option R) (n : Nat) : ∀ (v0 : Int) (v1 : Arr api_Use) (v2 : Int) (v3 : Int) (v4 : api_Part), loopM E.Θ (chain_within_cal N) (chain_CheckPart_lp N) (noJn) 0 chain_CheckPart_L13 (bodyAt E 87 13) n (chain_CheckPart_h13 v0 v1 v2 v3 v4) k = chain_CheckPart_l13 N n v0 v1 v2 v3 v4 (fun q0 => k .ret (chain_CheckPart_x13_r q0)) (fun (_ : Unit) => k (.exit 2) (chain_CheckPart_x13_2 )) := by
  induction n with
  | zero => intro v0 v1 v2 v3 v4; rfl
  | succ n ih =>
    intro v0 v1 v2 v3 v4
    refine Eq.trans (b := chain_CheckPart_b13 N (fun v0 v1 v2 v3 v4 => loopM E.Θ (chain_within_cal N) (chain_CheckPart_lp N) (noJn) 0 chain_CheckPart_L13 (bodyAt E 87 13) n (chain_CheckPart_h13 v0 v1 v2 v3 v4) k) v0 v1 v2 v3 v4 (fun q0 => k .ret (chain_CheckPart_x13_r q0)) (fun (_ : Unit) => k (.exit 2) (chain_CheckPart_x13_2 ))) (by kernel_rfl) ?_
    have h : (fun (v0 : Int) (v1 : Arr api_Use) (v2 : Int) (v3 : Int) (v4 : api_Part) => loopM E.Θ (chain_within_cal N) (chain_CheckPart_lp N) (noJn) 0 chain_CheckPart_L13 (bodyAt E 87 13) n (chain_CheckPart_h13 v0 v1 v2 v3 v4) k) = (fun (v0 : Int) (v1 : Arr api_Use) (v2 : Int) (v3 : Int) (v4 : api_Part) => chain_CheckPart_l13 N n v0 v1 v2 v3 v4 (fun q0 => k .ret (chain_CheckPart_x13_r q0)) (fun (_ : Unit) => k (.exit 2) (chain_CheckPart_x13_2 ))) := funext fun v0 => funext fun v1 => funext fun v2 => funext fun v3 => funext fun v4 => ih v0 v1 v2 v3 v4
    rw [h]
    rfl
theorem chain_CheckPart_k4 {R : Type} (N : Nat) : LpKey (R := R) E 87 0 (chain_CheckPart_lp N) 4 :=
  lpKey_of hE (chain_within_cal_ok N) (jn := noJn) chain_CheckPart_L4_ok [] kNil (by kernel_rfl) [] jNil (by kernel_rfl) N fun S k =>
    Eq.trans (b := chain_CheckPart_L4.head.raw 0 S (fun S0 => chain_CheckPart_d4 N S0 k)) (by kernel_rfl) (congrArg (chain_CheckPart_L4.head.raw 0 S) (funext fun S0 => Eq.trans (chain_CheckPart_l4_eq N k N (lstC api_UseC (lget S0.tmps 1)) (lstC api_SpanC (lget S0.tmps 34)) (toI (lget S0.tmps 35)) (toI (lget S0.tmps 36)) (Cod.dec api_PartC (lget (entCs (entAt S0.tab 0))))).symm (by kernel_rfl)))
theorem chain_CheckPart_k13 {R : Type} (N : Nat) : LpKey (R := R) E 87 0 (chain_CheckPart_lp N) 13 :=
  lpKey_of hE (chain_within_cal_ok N) (jn := noJn) chain_CheckPart_L13_ok [] kNil (by kernel_rfl) [] jNil (by kernel_rfl) N fun S k =>
    Eq.trans (b := chain_CheckPart_L13.head.raw 0 S (fun S0 => chain_CheckPart_d13 N S0 k)) (by kernel_rfl) (congrArg (chain_CheckPart_L13.head.raw 0 S) (funext fun S0 => Eq.trans (chain_CheckPart_l13_eq N k N (toI (lget S0.tmps 7)) (lstC api_UseC (lget S0.tmps 59)) (toI (lget S0.tmps 60)) (toI (lget S0.tmps 61)) (Cod.dec api_PartC (lget (entCs (entAt S0.tab 0))))).symm (by kernel_rfl)))
noncomputable def chain_CheckPart_go {R : Type} (N : Nat) (args : List SV) (T : Tab) (kf : SV × Tab → Option R) : Option R :=
  chain_CheckPart N (Cod.dec api_PartC (lget (toCs (lget args 0)))) (lstC api_UseC (lget args 1)) (fun q0 => kf (lget [.int .i64 q0] 0, []))
noncomputable def chain_CheckPart_cal {R : Type} (N : Nat) : Cal R := callM (chain_within_cal N) 87 0 chain_CheckPart_sp (chain_CheckPart_go N)
theorem chain_CheckPart_cal_ok {R : Type} (N : Nat) : CalOk E.P (chain_CheckPart_cal (R := R) N) :=
  callM_ok hE (chain_within_cal_ok N) (lp := chain_CheckPart_lp N) (jn := noJn) (keys := [4, 13]) (kCons (chain_CheckPart_k4 N) (kCons (chain_CheckPart_k13 N) kNil)) (by kernel_rfl) (js := []) jNil (by kernel_rfl) chain_CheckPart_sp_ok chain_CheckPart_rs_ok (fun args T kf => Eq.trans (chain_CheckPart_def N (Cod.dec api_PartC (lget (toCs (lget args 0)))) (lstC api_UseC (lget args 1)) (fun q0 => kf (lget [.int .i64 q0] 0, []))) (by kernel_rfl : chain_CheckPart_run N args T kf = fnM E (chain_within_cal N) (chain_CheckPart_lp N) (noJn) 87 (chain_CheckPart_sp.vs args) (chain_CheckPart_sp.tab T) 0 (resK chain_CheckPart_rs kf)))


def chain_grown_m {R : Type} (N : Nat) (a145 : api_Part) (a146 : api_Use) (k : api_Span → Option R) : Option R :=
  bif decide ((0 : Int) ≤ api_Use.Class a146) && decide (api_Use.Class a146 < (↑(Arr.n (api_Part.Rates a145)) : Int)) then
   k (api_Span.mk (w64 (api_Use.Turns a146 * api_Span.Low (Arr.f (api_Part.Rates a145) (Int.toNat (api_Use.Class a146))))) (w64 (api_Use.Turns a146 * api_Span.High (Arr.f (api_Part.Rates a145) (Int.toNat (api_Use.Class a146))))))
  else
   Option.none
noncomputable def chain_grown {R : Type} : Nat → api_Part → api_Use → (api_Span → Option R) → Option R := lock (@chain_grown_m R)
theorem chain_grown_def {R : Type} (N : Nat) (a145 : api_Part) (a146 : api_Use) (k : api_Span → Option R) : chain_grown N a145 a146 k = chain_grown_m N a145 a146 k := by unfold chain_grown; rw [lock_eq]
def chain_grown_sp : Sp := ⟨[rAgg api_PartC, rAgg api_UseC], []⟩
theorem chain_grown_sp_ok : chain_grown_sp.Ok := ⟨(allCons (rAgg_ok api_PartC_ok api_PartC_len) (allCons (rAgg_ok api_UseC_ok api_UseC_len) allNil)), eNil⟩
def chain_grown_rs : Sp := ⟨[rAgg api_SpanC], []⟩
theorem chain_grown_rs_ok : chain_grown_rs.Ok := ⟨(allCons (rAgg_ok api_SpanC_ok api_SpanC_len) allNil), eNil⟩
def chain_grown_run {R : Type} (N : Nat) (args : List SV) (T : Tab) (kf : SV × Tab → Option R) : Option R :=
  chain_grown_m N (Cod.dec api_PartC (lget (toCs (lget args 0)))) (Cod.dec api_UseC (lget (toCs (lget args 1)))) (fun q0 => kf (lget [.agg (Cod.enc api_SpanC q0)] 0, []))
def chain_grown_lp {R : Type} (N : Nat) : Lp R := fun body S k => Option.none
noncomputable def chain_grown_go {R : Type} (N : Nat) (args : List SV) (T : Tab) (kf : SV × Tab → Option R) : Option R :=
  chain_grown N (Cod.dec api_PartC (lget (toCs (lget args 0)))) (Cod.dec api_UseC (lget (toCs (lget args 1)))) (fun q0 => kf (lget [.agg (Cod.enc api_SpanC q0)] 0, []))
noncomputable def chain_grown_cal {R : Type} (N : Nat) : Cal R := callM (chain_CheckPart_cal N) 122 0 chain_grown_sp (chain_grown_go N)
theorem chain_grown_cal_ok {R : Type} (N : Nat) : CalOk E.P (chain_grown_cal (R := R) N) :=
  callM_ok hE (chain_CheckPart_cal_ok N) (lp := chain_grown_lp N) (jn := noJn) (keys := []) kNil (by kernel_rfl) (js := []) jNil (by kernel_rfl) chain_grown_sp_ok chain_grown_rs_ok (fun args T kf => Eq.trans (chain_grown_def N (Cod.dec api_PartC (lget (toCs (lget args 0)))) (Cod.dec api_UseC (lget (toCs (lget args 1)))) (fun q0 => kf (lget [.agg (Cod.enc api_SpanC q0)] 0, []))) (by kernel_rfl : chain_grown_run N args T kf = fnM E (chain_CheckPart_cal N) (chain_grown_lp N) (noJn) 122 (chain_grown_sp.vs args) (chain_grown_sp.tab T) 0 (resK chain_grown_rs kf)))


def chain_meet_m {R : Type} (N : Nat) (a147 : api_Span) (a148 : api_Span) (k : api_Span → Bool → Option R) : Option R :=
  k (api_Span.mk (if api_Span.Low a148 > api_Span.Low a147 then api_Span.Low a148 else api_Span.Low a147) (if api_Span.High a148 < api_Span.High a147 then api_Span.High a148 else api_Span.High a147)) (decide ((if api_Span.Low a148 > api_Span.Low a147 then api_Span.Low a148 else api_Span.Low a147) ≤ if api_Span.High a148 < api_Span.High a147 then api_Span.High a148 else api_Span.High a147))
noncomputable def chain_meet {R : Type} : Nat → api_Span → api_Span → (api_Span → Bool → Option R) → Option R := lock (@chain_meet_m R)
theorem chain_meet_def {R : Type} (N : Nat) (a147 : api_Span) (a148 : api_Span) (k : api_Span → Bool → Option R) : chain_meet N a147 a148 k = chain_meet_m N a147 a148 k := by unfold chain_meet; rw [lock_eq]
def chain_meet_sp : Sp := ⟨[rAgg api_SpanC, rAgg api_SpanC], []⟩
theorem chain_meet_sp_ok : chain_meet_sp.Ok := ⟨(allCons (rAgg_ok api_SpanC_ok api_SpanC_len) (allCons (rAgg_ok api_SpanC_ok api_SpanC_len) allNil)), eNil⟩
def chain_meet_rs : Sp := ⟨[rTup [rAgg api_SpanC, rBool]], []⟩
theorem chain_meet_rs_ok : chain_meet_rs.Ok := ⟨(allCons (rTup_ok (allCons (rAgg_ok api_SpanC_ok api_SpanC_len) (allCons rBool_ok allNil))) allNil), eNil⟩
def chain_meet_run {R : Type} (N : Nat) (args : List SV) (T : Tab) (kf : SV × Tab → Option R) : Option R :=
  chain_meet_m N (Cod.dec api_SpanC (lget (toCs (lget args 0)))) (Cod.dec api_SpanC (lget (toCs (lget args 1)))) (fun q0 q1 => kf (lget [.tup [.agg (Cod.enc api_SpanC q0), .bool q1]] 0, []))
def chain_meet_lp {R : Type} (N : Nat) : Lp R := fun body S k => Option.none
noncomputable def chain_meet_go {R : Type} (N : Nat) (args : List SV) (T : Tab) (kf : SV × Tab → Option R) : Option R :=
  chain_meet N (Cod.dec api_SpanC (lget (toCs (lget args 0)))) (Cod.dec api_SpanC (lget (toCs (lget args 1)))) (fun q0 q1 => kf (lget [.tup [.agg (Cod.enc api_SpanC q0), .bool q1]] 0, []))
noncomputable def chain_meet_cal {R : Type} (N : Nat) : Cal R := callM (chain_grown_cal N) 123 0 chain_meet_sp (chain_meet_go N)
theorem chain_meet_cal_ok {R : Type} (N : Nat) : CalOk E.P (chain_meet_cal (R := R) N) :=
  callM_ok hE (chain_grown_cal_ok N) (lp := chain_meet_lp N) (jn := noJn) (keys := []) kNil (by kernel_rfl) (js := []) jNil (by kernel_rfl) chain_meet_sp_ok chain_meet_rs_ok (fun args T kf => Eq.trans (chain_meet_def N (Cod.dec api_SpanC (lget (toCs (lget args 0)))) (Cod.dec api_SpanC (lget (toCs (lget args 1)))) (fun q0 q1 => kf (lget [.tup [.agg (Cod.enc api_SpanC q0), .bool q1]] 0, []))) (by kernel_rfl : chain_meet_run N args T kf = fnM E (chain_grown_cal N) (chain_meet_lp N) (noJn) 123 (chain_meet_sp.vs args) (chain_meet_sp.tab T) 0 (resK chain_meet_rs kf)))

def chain_forth_L3 : LoopSp := ⟨⟨[1, 2, 4, 6, 11, 12, 13], ⟨(dr 1 ((rSl api_UseC) :: (rPtr 0 0) :: (dr 1 ((rRow 1) :: (dr 1 ((rPtr 2 0) :: (dr 4 ((rSl api_UseC) :: (rInt .i64) :: (rInt .i64) :: (dr 39 []))))))))), [(0, eBlkC api_PartC), (1, eRow api_SpanC), (2, eBlkC api_SpanC)]⟩, 3⟩, [(Option.none, ⟨[4, 5], ⟨(dr 4 ((rRow 0) :: (rInt .i64) :: (dr 47 []))), [(0, eRow api_SpanC)]⟩, 1⟩), (some 0, ⟨[1, 4], ⟨(dr 1 ((rSl api_UseC) :: (dr 2 ((rRow 0) :: (dr 48 []))))), [(0, eRow api_SpanC)]⟩, 1⟩)]⟩
theorem chain_forth_L3_ok : chain_forth_L3.Ok := ⟨⟨(drCons 1 (allCons (rSl_ok api_UseC_ok) (allCons (rPtr_ok 0 0) (drCons 1 (allCons (rRow_ok 1) (drCons 1 (allCons (rPtr_ok 2 0) (drCons 4 (allCons (rSl_ok api_UseC_ok) (allCons (rInt_ok .i64) (allCons (rInt_ok .i64) (drCons 39 allNil)))))))))))), (eCons (eBlkC_ok api_PartC_ok api_PartC_len) (eCons (eRow_ok api_SpanC_ok) (eCons (eBlkC_ok api_SpanC_ok api_SpanC_len) eNil)))⟩, (xCons ⟨(drCons 4 (allCons (rRow_ok 0) (allCons (rInt_ok .i64) (drCons 47 allNil)))), (eCons (eRow_ok api_SpanC_ok) eNil)⟩ (xCons ⟨(drCons 1 (allCons (rSl_ok api_UseC_ok) (drCons 2 (allCons (rRow_ok 0) (drCons 48 allNil))))), (eCons (eRow_ok api_SpanC_ok) eNil)⟩ xNil))⟩
def chain_forth_h3 (v151 : Arr api_Use) (v152 : Arr api_Use) (v153 : Int) (v154 : Int) (v155 : api_Part) (v156 : Bool) (v157 : Arr api_Span) (v158 : api_Span) : St := ⟨(un 1 ((slC api_UseC v151) :: (.ptr 0 0) :: (un 1 ((.row 1) :: (un 1 ((.ptr 2 0) :: (un 4 ((slC api_UseC v152) :: (.int .i64 v153) :: (.int .i64 v154) :: (un 39 []))))))))), [(0, .blk (Cod.enc api_PartC v155)), (1, rowE api_SpanC v156 v157), (2, .blk (Cod.enc api_SpanC v158))], 3⟩
def chain_forth_x3_r (q0 : Int) (q1 : Bool) (q2 : Arr api_Span) : St := ⟨(un 4 ((.row 0) :: (.int .i64 q0) :: (un 47 []))), [(0, rowE api_SpanC q1 q2)], 1⟩
def chain_forth_x3_0 (v151 : Arr api_Use) (q1 : Bool) (q2 : Arr api_Span) : St := ⟨(un 1 ((slC api_UseC v151) :: (un 2 ((.row 0) :: (un 48 []))))), [(0, rowE api_SpanC q1 q2)], 1⟩
def chain_forth_b3 {R : Type} (N : Nat) (rc : Arr api_Use → Arr api_Use → Int → Int → api_Part → Bool → Arr api_Span → api_Span → Option R) (v151 : Arr api_Use) (v152 : Arr api_Use) (v153 : Int) (v154 : Int) (v155 : api_Part) (v156 : Bool) (v157 : Arr api_Span) (v158 : api_Span) (kr : Int → Bool → Arr api_Span → Option R) (k0 : Bool → Arr api_Span → Option R) : Option R :=
  bif decide (v154 < v153) then
   bif decide ((0 : Int) ≤ v154) && decide (v154 < (↑(Arr.n v152) : Int)) then
    chain_grown N v155 (Arr.f v152 (Int.toNat v154)) (fun r159 =>
    bif api_Use.Measured (Arr.f v152 (Int.toNat v154)) then
     chain_meet N (api_Span.mk (w64 (api_Span.Low v158 + api_Span.Low r159)) (w64 (api_Span.High v158 + api_Span.High r159))) (api_Use.Says (Arr.f v152 (Int.toNat v154))) (fun r160 r161 =>
     bif !r161 then
      kr v154 v156 v157
     else
      bif room (Arr.n v157 + (1 : Nat)) then
       rc v151 v152 v153 (w64 (v154 + (1 : Int))) v155 false (lst api_SpanC (Arr.n v157 + (1 : Nat)) (catC (Arr.n v157) (Cod.cell api_SpanC (Arr.f v157)) (litC [SV.int IntKind.i64 (0 : Int), SV.int IntKind.i64 (0 : Int)] [[SV.int IntKind.i64 (api_Span.Low r160), SV.int IntKind.i64 (api_Span.High r160)]]))) r160
      else
       Option.none)
    else
     bif room (Arr.n v157 + (1 : Nat)) then
      rc v151 v152 v153 (w64 (v154 + (1 : Int))) v155 false (lst api_SpanC (Arr.n v157 + (1 : Nat)) (catC (Arr.n v157) (Cod.cell api_SpanC (Arr.f v157)) (litC [SV.int IntKind.i64 (0 : Int), SV.int IntKind.i64 (0 : Int)] [[SV.int IntKind.i64 (w64 (api_Span.Low v158 + api_Span.Low r159)), SV.int IntKind.i64 (w64 (api_Span.High v158 + api_Span.High r159))]]))) (api_Span.mk (w64 (api_Span.Low v158 + api_Span.Low r159)) (w64 (api_Span.High v158 + api_Span.High r159)))
     else
      Option.none)
   else
    Option.none
  else
   k0 v156 v157
def chain_forth_l3 {R : Type} (N : Nat) : Nat → Arr api_Use → Arr api_Use → Int → Int → api_Part → Bool → Arr api_Span → api_Span → (Int → Bool → Arr api_Span → Option R) → (Bool → Arr api_Span → Option R) → Option R
  | 0, _, _, _, _, _, _, _, _, _, _ => Option.none
  | n + 1, v151, v152, v153, v154, v155, v156, v157, v158, kr, k0 => chain_forth_b3 N (fun v151 v152 v153 v154 v155 v156 v157 v158 => chain_forth_l3 N n v151 v152 v153 v154 v155 v156 v157 v158 kr k0) v151 v152 v153 v154 v155 v156 v157 v158 kr k0


def chain_forth_m {R : Type} (N : Nat) (a149 : api_Part) (a150 : Arr api_Use) (k : Int → Bool → Arr api_Span → Option R) : Option R :=
  chain_forth_l3 N N a150 a150 ((↑(Arr.n a150) : Int)) (0 : Int) a149 true (lst api_SpanC (0 : Nat) (zeroC [SV.int IntKind.i64 (0 : Int), SV.int IntKind.i64 (0 : Int)])) (api_Span.mk (0 : Int) (0 : Int)) (fun r162 r163 r164 =>
   k r162 r163 r164) (fun r165 r166 =>
   k ((↑(Arr.n a150) : Int)) r165 r166)
noncomputable def chain_forth {R : Type} : Nat → api_Part → Arr api_Use → (Int → Bool → Arr api_Span → Option R) → Option R := lock (@chain_forth_m R)
theorem chain_forth_def {R : Type} (N : Nat) (a149 : api_Part) (a150 : Arr api_Use) (k : Int → Bool → Arr api_Span → Option R) : chain_forth N a149 a150 k = chain_forth_m N a149 a150 k := by unfold chain_forth; rw [lock_eq]
def chain_forth_sp : Sp := ⟨[rAgg api_PartC, rSl api_UseC], []⟩
theorem chain_forth_sp_ok : chain_forth_sp.Ok := ⟨(allCons (rAgg_ok api_PartC_ok api_PartC_len) (allCons (rSl_ok api_UseC_ok) allNil)), eNil⟩
def chain_forth_rs : Sp := ⟨[rTup [rRow 0, rInt .i64]], [(0, eRow api_SpanC)]⟩
theorem chain_forth_rs_ok : chain_forth_rs.Ok := ⟨(allCons (rTup_ok (allCons (rRow_ok 0) (allCons (rInt_ok .i64) allNil))) allNil), (eCons (eRow_ok api_SpanC_ok) eNil)⟩
def chain_forth_run {R : Type} (N : Nat) (args : List SV) (T : Tab) (kf : SV × Tab → Option R) : Option R :=
  chain_forth_m N (Cod.dec api_PartC (lget (toCs (lget args 0)))) (lstC api_UseC (lget args 1)) (fun q0 q1 q2 => kf (lget [.tup [.row 0, .int .i64 q0]] 0, [(0, rowE api_SpanC q1 q2)]))
def chain_forth_d3 {R : Type} (N : Nat) (S0 : St) (k : Exit → St → Option R) : Option R :=
  chain_forth_l3 N N (lstC api_UseC (lget S0.tmps 1)) (lstC api_UseC (lget S0.tmps 11)) (toI (lget S0.tmps 12)) (toI (lget S0.tmps 13)) (Cod.dec api_PartC (lget (entCs (entAt S0.tab 0)))) (entNl (entAt S0.tab 1)) (lst api_SpanC (entN (entAt S0.tab 1)) (entC (entAt S0.tab 1))) (Cod.dec api_SpanC (lget (entCs (entAt S0.tab 2)))) (fun q0 q1 q2 => k .ret (chain_forth_x3_r q0 q1 q2)) (fun q1 q2 => k (.exit 0) (chain_forth_x3_0 (lstC api_UseC (lget S0.tmps 1)) q1 q2))
def chain_forth_lp {R : Type} (N : Nat) : Lp R := fun body S k => bif (Go.Sx.keyOf body).getD 0 == 3 then chain_forth_L3.head.raw 0 S (fun S0 => chain_forth_d3 N S0 k) else Option.none
theorem chain_forth_l3_eq {R : Type} (N : Nat) (k : Exit → St → Option R) (n : Nat) : ∀ (v0 : Arr api_Use) (v1 : Arr api_Use) (v2 : Int) (v3 : Int) (v4 : api_Part) (v5 : Bool) (v6 : Arr api_Span) (v7 : api_Span), loopM E.Θ (chain_meet_cal N) (chain_forth_lp N) (noJn) 0 chain_forth_L3 (bodyAt E 121 3) n (chain_forth_h3 v0 v1 v2 v3 v4 v5 v6 v7) k = chain_forth_l3 N n v0 v1 v2 v3 v4 v5 v6 v7 (fun q0 q1 q2 => k .ret (chain_forth_x3_r q0 q1 q2)) (fun q1 q2 => k (.exit 0) (chain_forth_x3_0 v0 q1 q2)) := by
  induction n with
  | zero => intro v0 v1 v2 v3 v4 v5 v6 v7; rfl
  | succ n ih =>
    intro v0 v1 v2 v3 v4 v5 v6 v7
    refine Eq.trans (b := chain_forth_b3 N (fun v0 v1 v2 v3 v4 v5 v6 v7 => loopM E.Θ (chain_meet_cal N) (chain_forth_lp N) (noJn) 0 chain_forth_L3 (bodyAt E 121 3) n (chain_forth_h3 v0 v1 v2 v3 v4 v5 v6 v7) k) v0 v1 v2 v3 v4 v5 v6 v7 (fun q0 q1 q2 => k .ret (chain_forth_x3_r q0 q1 q2)) (fun q1 q2 => k (.exit 0) (chain_forth_x3_0 v0 q1 q2))) (by kernel_rfl) ?_
    have h : (fun (v0 : Arr api_Use) (v1 : Arr api_Use) (v2 : Int) (v3 : Int) (v4 : api_Part) (v5 : Bool) (v6 : Arr api_Span) (v7 : api_Span) => loopM E.Θ (chain_meet_cal N) (chain_forth_lp N) (noJn) 0 chain_forth_L3 (bodyAt E 121 3) n (chain_forth_h3 v0 v1 v2 v3 v4 v5 v6 v7) k) = (fun (v0 : Arr api_Use) (v1 : Arr api_Use) (v2 : Int) (v3 : Int) (v4 : api_Part) (v5 : Bool) (v6 : Arr api_Span) (v7 : api_Span) => chain_forth_l3 N n v0 v1 v2 v3 v4 v5 v6 v7 (fun q0 q1 q2 => k .ret (chain_forth_x3_r q0 q1 q2)) (fun q1 q2 => k (.exit 0) (chain_forth_x3_0 v0 q1 q2))) := funext fun v0 => funext fun v1 => funext fun v2 => funext fun v3 => funext fun v4 => funext fun v5 => funext fun v6 => funext fun v7 => ih v0 v1 v2 v3 v4 v5 v6 v7
    rw [h]
    rfl
theorem chain_forth_k3 {R : Type} (N : Nat) : LpKey (R := R) E 121 0 (chain_forth_lp N) 3 :=
  lpKey_of hE (chain_meet_cal_ok N) (jn := noJn) chain_forth_L3_ok [] kNil (by kernel_rfl) [] jNil (by kernel_rfl) N fun S k =>
    Eq.trans (b := chain_forth_L3.head.raw 0 S (fun S0 => chain_forth_d3 N S0 k)) (by kernel_rfl) (congrArg (chain_forth_L3.head.raw 0 S) (funext fun S0 => Eq.trans (chain_forth_l3_eq N k N (lstC api_UseC (lget S0.tmps 1)) (lstC api_UseC (lget S0.tmps 11)) (toI (lget S0.tmps 12)) (toI (lget S0.tmps 13)) (Cod.dec api_PartC (lget (entCs (entAt S0.tab 0)))) (entNl (entAt S0.tab 1)) (lst api_SpanC (entN (entAt S0.tab 1)) (entC (entAt S0.tab 1))) (Cod.dec api_SpanC (lget (entCs (entAt S0.tab 2))))).symm (by kernel_rfl)))
noncomputable def chain_forth_go {R : Type} (N : Nat) (args : List SV) (T : Tab) (kf : SV × Tab → Option R) : Option R :=
  chain_forth N (Cod.dec api_PartC (lget (toCs (lget args 0)))) (lstC api_UseC (lget args 1)) (fun q0 q1 q2 => kf (lget [.tup [.row 0, .int .i64 q0]] 0, [(0, rowE api_SpanC q1 q2)]))
noncomputable def chain_forth_cal {R : Type} (N : Nat) : Cal R := callM (chain_meet_cal N) 121 0 chain_forth_sp (chain_forth_go N)
theorem chain_forth_cal_ok {R : Type} (N : Nat) : CalOk E.P (chain_forth_cal (R := R) N) :=
  callM_ok hE (chain_meet_cal_ok N) (lp := chain_forth_lp N) (jn := noJn) (keys := [3]) (kCons (chain_forth_k3 N) kNil) (by kernel_rfl) (js := []) jNil (by kernel_rfl) chain_forth_sp_ok chain_forth_rs_ok (fun args T kf => Eq.trans (chain_forth_def N (Cod.dec api_PartC (lget (toCs (lget args 0)))) (lstC api_UseC (lget args 1)) (fun q0 q1 q2 => kf (lget [.tup [.row 0, .int .i64 q0]] 0, [(0, rowE api_SpanC q1 q2)]))) (by kernel_rfl : chain_forth_run N args T kf = fnM E (chain_meet_cal N) (chain_forth_lp N) (noJn) 121 (chain_forth_sp.vs args) (chain_forth_sp.tab T) 0 (resK chain_forth_rs kf)))

def chain_worn_L5 : LoopSp := ⟨⟨[1, 2, 6, 8], ⟨(dr 1 ((rSl api_UseC) :: (rPtr 0 0) :: (dr 3 ((rRow 1) :: (dr 1 ((rInt .i64) :: (dr 54 []))))))), [(0, eBlkC api_PartC), (1, eRow api_SpanC)]⟩, 2⟩, [(some 0, ⟨[6], ⟨(dr 6 ((rRow 0) :: (dr 56 []))), [(0, eRow api_SpanC)]⟩, 1⟩)]⟩
theorem chain_worn_L5_ok : chain_worn_L5.Ok := ⟨⟨(drCons 1 (allCons (rSl_ok api_UseC_ok) (allCons (rPtr_ok 0 0) (drCons 3 (allCons (rRow_ok 1) (drCons 1 (allCons (rInt_ok .i64) (drCons 54 allNil)))))))), (eCons (eBlkC_ok api_PartC_ok api_PartC_len) (eCons (eRow_ok api_SpanC_ok) eNil))⟩, (xCons ⟨(drCons 6 (allCons (rRow_ok 0) (drCons 56 allNil))), (eCons (eRow_ok api_SpanC_ok) eNil)⟩ xNil)⟩
def chain_worn_h5 (v172 : Arr api_Use) (v173 : Int) (v174 : api_Part) (v175 : Bool) (v176 : Arr api_Span) : St := ⟨(un 1 ((slC api_UseC v172) :: (.ptr 0 0) :: (un 3 ((.row 1) :: (un 1 ((.int .i64 v173) :: (un 54 []))))))), [(0, .blk (Cod.enc api_PartC v174)), (1, rowE api_SpanC v175 v176)], 2⟩
def chain_worn_x5_0 (v175 : Bool) (q1 : Arr api_Span) : St := ⟨(un 6 ((.row 0) :: (un 56 []))), [(0, rowE api_SpanC v175 q1)], 1⟩
def chain_worn_b5 {R : Type} (N : Nat) (rc : Arr api_Use → Int → api_Part → Bool → Arr api_Span → Option R) (v172 : Arr api_Use) (v173 : Int) (v174 : api_Part) (v175 : Bool) (v176 : Arr api_Span) (k0 : Arr api_Span → Option R) : Option R :=
  bif decide (v173 ≥ (0 : Int)) then
   bif decide ((0 : Int) ≤ w64 (v173 + (1 : Int))) && decide (w64 (v173 + (1 : Int)) < (↑(Arr.n v172) : Int)) then
    chain_grown N v174 (Arr.f v172 (Int.toNat (w64 (v173 + (1 : Int))))) (fun r177 =>
    bif decide ((0 : Int) ≤ w64 (v173 + (1 : Int))) && decide (w64 (v173 + (1 : Int)) < (↑(Arr.n v176) : Int)) then
     bif decide ((0 : Int) ≤ v173) && decide (v173 < (↑(Arr.n v176) : Int)) then
      chain_meet N (Arr.f v176 (Int.toNat v173)) (api_Span.mk (w64 (api_Span.Low (Arr.f v176 (Int.toNat (w64 (v173 + (1 : Int))))) - api_Span.High r177)) (w64 (api_Span.High (Arr.f v176 (Int.toNat (w64 (v173 + (1 : Int))))) - api_Span.Low r177))) (fun r178 r179 =>
      bif decide ((0 : Int) ≤ v173) && decide (v173 < (↑(Arr.n v176) : Int)) then
       rc v172 (w64 (v173 - (1 : Int))) v174 v175 (lst api_SpanC (Arr.n v176) (setCs (Int.toNat v173) (0 : Nat) (Cod.cell api_SpanC (Arr.f v176)) [SV.int IntKind.i64 (api_Span.Low r178), SV.int IntKind.i64 (api_Span.High r178)]))
      else
       Option.none)
     else
      Option.none
    else
     Option.none)
   else
    Option.none
  else
   k0 v176
def chain_worn_l5 {R : Type} (N : Nat) : Nat → Arr api_Use → Int → api_Part → Bool → Arr api_Span → (Arr api_Span → Option R) → Option R
  | 0, _, _, _, _, _, _ => Option.none
  | n + 1, v172, v173, v174, v175, v176, k0 => chain_worn_b5 N (fun v172 v173 v174 v175 v176 => chain_worn_l5 N n v172 v173 v174 v175 v176 k0) v172 v173 v174 v175 v176 k0


def chain_worn_m {R : Type} (N : Nat) (a167 : api_Part) (a168 : Arr api_Use) (k : Bool → Bool → Arr api_Span → Option R) : Option R :=
  chain_forth N a167 a168 (fun r169 r170 r171 =>
  bif decide (r169 < (↑(Arr.n a168) : Int)) then
   k false true (lst api_SpanC (0 : Nat) (zeroC [SV.int IntKind.i64 (0 : Int), SV.int IntKind.i64 (0 : Int)]))
  else
   chain_worn_l5 N N a168 (w64 ((↑(Arr.n a168) : Int) - (2 : Int))) a167 r170 r171 (fun r180 =>
    k true r170 r180))
noncomputable def chain_worn {R : Type} : Nat → api_Part → Arr api_Use → (Bool → Bool → Arr api_Span → Option R) → Option R := lock (@chain_worn_m R)
theorem chain_worn_def {R : Type} (N : Nat) (a167 : api_Part) (a168 : Arr api_Use) (k : Bool → Bool → Arr api_Span → Option R) : chain_worn N a167 a168 k = chain_worn_m N a167 a168 k := by unfold chain_worn; rw [lock_eq]
def chain_worn_sp : Sp := ⟨[rAgg api_PartC, rSl api_UseC], []⟩
theorem chain_worn_sp_ok : chain_worn_sp.Ok := ⟨(allCons (rAgg_ok api_PartC_ok api_PartC_len) (allCons (rSl_ok api_UseC_ok) allNil)), eNil⟩
def chain_worn_rs : Sp := ⟨[rTup [rRow 0, rBool]], [(0, eRow api_SpanC)]⟩
theorem chain_worn_rs_ok : chain_worn_rs.Ok := ⟨(allCons (rTup_ok (allCons (rRow_ok 0) (allCons rBool_ok allNil))) allNil), (eCons (eRow_ok api_SpanC_ok) eNil)⟩
def chain_worn_run {R : Type} (N : Nat) (args : List SV) (T : Tab) (kf : SV × Tab → Option R) : Option R :=
  chain_worn_m N (Cod.dec api_PartC (lget (toCs (lget args 0)))) (lstC api_UseC (lget args 1)) (fun q0 q1 q2 => kf (lget [.tup [.row 0, .bool q0]] 0, [(0, rowE api_SpanC q1 q2)]))
def chain_worn_d5 {R : Type} (N : Nat) (S0 : St) (k : Exit → St → Option R) : Option R :=
  chain_worn_l5 N N (lstC api_UseC (lget S0.tmps 1)) (toI (lget S0.tmps 8)) (Cod.dec api_PartC (lget (entCs (entAt S0.tab 0)))) (entNl (entAt S0.tab 1)) (lst api_SpanC (entN (entAt S0.tab 1)) (entC (entAt S0.tab 1))) (fun q1 => k (.exit 0) (chain_worn_x5_0 (entNl (entAt S0.tab 1)) q1))
def chain_worn_lp {R : Type} (N : Nat) : Lp R := fun body S k => bif (Go.Sx.keyOf body).getD 0 == 5 then chain_worn_L5.head.raw 0 S (fun S0 => chain_worn_d5 N S0 k) else Option.none
theorem chain_worn_l5_eq {R : Type} (N : Nat) (k : Exit → St → Option R) (n : Nat) : ∀ (v0 : Arr api_Use) (v1 : Int) (v2 : api_Part) (v3 : Bool) (v4 : Arr api_Span), loopM E.Θ (chain_forth_cal N) (chain_worn_lp N) (noJn) 0 chain_worn_L5 (bodyAt E 88 5) n (chain_worn_h5 v0 v1 v2 v3 v4) k = chain_worn_l5 N n v0 v1 v2 v3 v4 (fun q1 => k (.exit 0) (chain_worn_x5_0 v3 q1)) := by
  induction n with
  | zero => intro v0 v1 v2 v3 v4; rfl
  | succ n ih =>
    intro v0 v1 v2 v3 v4
    refine Eq.trans (b := chain_worn_b5 N (fun v0 v1 v2 v3 v4 => loopM E.Θ (chain_forth_cal N) (chain_worn_lp N) (noJn) 0 chain_worn_L5 (bodyAt E 88 5) n (chain_worn_h5 v0 v1 v2 v3 v4) k) v0 v1 v2 v3 v4 (fun q1 => k (.exit 0) (chain_worn_x5_0 v3 q1))) (by kernel_rfl) ?_
    have h : (fun (v0 : Arr api_Use) (v1 : Int) (v2 : api_Part) (v3 : Bool) (v4 : Arr api_Span) => loopM E.Θ (chain_forth_cal N) (chain_worn_lp N) (noJn) 0 chain_worn_L5 (bodyAt E 88 5) n (chain_worn_h5 v0 v1 v2 v3 v4) k) = (fun (v0 : Arr api_Use) (v1 : Int) (v2 : api_Part) (v3 : Bool) (v4 : Arr api_Span) => chain_worn_l5 N n v0 v1 v2 v3 v4 (fun q1 => k (.exit 0) (chain_worn_x5_0 v3 q1))) := funext fun v0 => funext fun v1 => funext fun v2 => funext fun v3 => funext fun v4 => ih v0 v1 v2 v3 v4
    rw [h]
    rfl
theorem chain_worn_k5 {R : Type} (N : Nat) : LpKey (R := R) E 88 0 (chain_worn_lp N) 5 :=
  lpKey_of hE (chain_forth_cal_ok N) (jn := noJn) chain_worn_L5_ok [] kNil (by kernel_rfl) [] jNil (by kernel_rfl) N fun S k =>
    Eq.trans (b := chain_worn_L5.head.raw 0 S (fun S0 => chain_worn_d5 N S0 k)) (by kernel_rfl) (congrArg (chain_worn_L5.head.raw 0 S) (funext fun S0 => Eq.trans (chain_worn_l5_eq N k N (lstC api_UseC (lget S0.tmps 1)) (toI (lget S0.tmps 8)) (Cod.dec api_PartC (lget (entCs (entAt S0.tab 0)))) (entNl (entAt S0.tab 1)) (lst api_SpanC (entN (entAt S0.tab 1)) (entC (entAt S0.tab 1)))).symm (by kernel_rfl)))
noncomputable def chain_worn_go {R : Type} (N : Nat) (args : List SV) (T : Tab) (kf : SV × Tab → Option R) : Option R :=
  chain_worn N (Cod.dec api_PartC (lget (toCs (lget args 0)))) (lstC api_UseC (lget args 1)) (fun q0 q1 q2 => kf (lget [.tup [.row 0, .bool q0]] 0, [(0, rowE api_SpanC q1 q2)]))
noncomputable def chain_worn_cal {R : Type} (N : Nat) : Cal R := callM (chain_forth_cal N) 88 0 chain_worn_sp (chain_worn_go N)
theorem chain_worn_cal_ok {R : Type} (N : Nat) : CalOk E.P (chain_worn_cal (R := R) N) :=
  callM_ok hE (chain_forth_cal_ok N) (lp := chain_worn_lp N) (jn := noJn) (keys := [5]) (kCons (chain_worn_k5 N) kNil) (by kernel_rfl) (js := []) jNil (by kernel_rfl) chain_worn_sp_ok chain_worn_rs_ok (fun args T kf => Eq.trans (chain_worn_def N (Cod.dec api_PartC (lget (toCs (lget args 0)))) (lstC api_UseC (lget args 1)) (fun q0 q1 q2 => kf (lget [.tup [.row 0, .bool q0]] 0, [(0, rowE api_SpanC q1 q2)]))) (by kernel_rfl : chain_worn_run N args T kf = fnM E (chain_forth_cal N) (chain_worn_lp N) (noJn) 88 (chain_worn_sp.vs args) (chain_worn_sp.tab T) 0 (resK chain_worn_rs kf)))


def chain_Wear_m {R : Type} (N : Nat) (a181 : api_Part) (a182 : Arr api_Use) (k : Int → Bool → Arr api_Span → Option R) : Option R :=
  chain_CheckPart N a181 a182 (fun r183 =>
  bif r183 != (0 : Int) then
   k r183 true (lst api_SpanC (0 : Nat) (zeroC [SV.int IntKind.i64 (0 : Int), SV.int IntKind.i64 (0 : Int)]))
  else
   chain_worn N a181 a182 (fun r184 r185 r186 =>
   bif !r184 then
    k (3 : Int) true (lst api_SpanC (0 : Nat) (zeroC [SV.int IntKind.i64 (0 : Int), SV.int IntKind.i64 (0 : Int)]))
   else
    k (0 : Int) r185 r186))
noncomputable def chain_Wear {R : Type} : Nat → api_Part → Arr api_Use → (Int → Bool → Arr api_Span → Option R) → Option R := lock (@chain_Wear_m R)
theorem chain_Wear_def {R : Type} (N : Nat) (a181 : api_Part) (a182 : Arr api_Use) (k : Int → Bool → Arr api_Span → Option R) : chain_Wear N a181 a182 k = chain_Wear_m N a181 a182 k := by unfold chain_Wear; rw [lock_eq]
def chain_Wear_sp : Sp := ⟨[rAgg api_PartC, rSl api_UseC], []⟩
theorem chain_Wear_sp_ok : chain_Wear_sp.Ok := ⟨(allCons (rAgg_ok api_PartC_ok api_PartC_len) (allCons (rSl_ok api_UseC_ok) allNil)), eNil⟩
def chain_Wear_rs : Sp := ⟨[rTup [rRow 0, rInt .i64]], [(0, eRow api_SpanC)]⟩
theorem chain_Wear_rs_ok : chain_Wear_rs.Ok := ⟨(allCons (rTup_ok (allCons (rRow_ok 0) (allCons (rInt_ok .i64) allNil))) allNil), (eCons (eRow_ok api_SpanC_ok) eNil)⟩
def chain_Wear_run {R : Type} (N : Nat) (args : List SV) (T : Tab) (kf : SV × Tab → Option R) : Option R :=
  chain_Wear_m N (Cod.dec api_PartC (lget (toCs (lget args 0)))) (lstC api_UseC (lget args 1)) (fun q0 q1 q2 => kf (lget [.tup [.row 0, .int .i64 q0]] 0, [(0, rowE api_SpanC q1 q2)]))
def chain_Wear_lp {R : Type} (N : Nat) : Lp R := fun body S k => Option.none
noncomputable def chain_Wear_go {R : Type} (N : Nat) (args : List SV) (T : Tab) (kf : SV × Tab → Option R) : Option R :=
  chain_Wear N (Cod.dec api_PartC (lget (toCs (lget args 0)))) (lstC api_UseC (lget args 1)) (fun q0 q1 q2 => kf (lget [.tup [.row 0, .int .i64 q0]] 0, [(0, rowE api_SpanC q1 q2)]))
noncomputable def chain_Wear_cal {R : Type} (N : Nat) : Cal R := callM (chain_worn_cal N) 37 0 chain_Wear_sp (chain_Wear_go N)
theorem chain_Wear_cal_ok {R : Type} (N : Nat) : CalOk E.P (chain_Wear_cal (R := R) N) :=
  callM_ok hE (chain_worn_cal_ok N) (lp := chain_Wear_lp N) (jn := noJn) (keys := []) kNil (by kernel_rfl) (js := []) jNil (by kernel_rfl) chain_Wear_sp_ok chain_Wear_rs_ok (fun args T kf => Eq.trans (chain_Wear_def N (Cod.dec api_PartC (lget (toCs (lget args 0)))) (lstC api_UseC (lget args 1)) (fun q0 q1 q2 => kf (lget [.tup [.row 0, .int .i64 q0]] 0, [(0, rowE api_SpanC q1 q2)]))) (by kernel_rfl : chain_Wear_run N args T kf = fnM E (chain_worn_cal N) (chain_Wear_lp N) (noJn) 37 (chain_Wear_sp.vs args) (chain_Wear_sp.tab T) 0 (resK chain_Wear_rs kf)))


def chain_Beyond_1_m {R : Type} (N : Nat) (a201 : api_Span) (k : Int → Option R) : Option R :=
  k (api_Span.High a201)
noncomputable def chain_Beyond_1 {R : Type} : Nat → api_Span → (Int → Option R) → Option R := lock (@chain_Beyond_1_m R)
theorem chain_Beyond_1_def {R : Type} (N : Nat) (a201 : api_Span) (k : Int → Option R) : chain_Beyond_1 N a201 k = chain_Beyond_1_m N a201 k := by unfold chain_Beyond_1; rw [lock_eq]
def chain_Beyond_1_sp : Sp := ⟨[rAgg api_SpanC], []⟩
theorem chain_Beyond_1_sp_ok : chain_Beyond_1_sp.Ok := ⟨(allCons (rAgg_ok api_SpanC_ok api_SpanC_len) allNil), eNil⟩
def chain_Beyond_1_rs : Sp := ⟨[rInt .i64], []⟩
theorem chain_Beyond_1_rs_ok : chain_Beyond_1_rs.Ok := ⟨(allCons (rInt_ok .i64) allNil), eNil⟩
def chain_Beyond_1_run {R : Type} (N : Nat) (args : List SV) (T : Tab) (kf : SV × Tab → Option R) : Option R :=
  chain_Beyond_1_m N (Cod.dec api_SpanC (lget (toCs (lget args 0)))) (fun q0 => kf (lget [.int .i64 q0] 0, []))
def chain_Beyond_1_lp {R : Type} (N : Nat) : Lp R := fun body S k => Option.none
noncomputable def chain_Beyond_1_go {R : Type} (N : Nat) (args : List SV) (T : Tab) (kf : SV × Tab → Option R) : Option R :=
  chain_Beyond_1 N (Cod.dec api_SpanC (lget (toCs (lget args 0)))) (fun q0 => kf (lget [.int .i64 q0] 0, []))
noncomputable def chain_Beyond_1_cal {R : Type} (N : Nat) : Cal R := callM (chain_Wear_cal N) 86 0 chain_Beyond_1_sp (chain_Beyond_1_go N)
theorem chain_Beyond_1_cal_ok {R : Type} (N : Nat) : CalOk E.P (chain_Beyond_1_cal (R := R) N) :=
  callM_ok hE (chain_Wear_cal_ok N) (lp := chain_Beyond_1_lp N) (jn := noJn) (keys := []) kNil (by kernel_rfl) (js := []) jNil (by kernel_rfl) chain_Beyond_1_sp_ok chain_Beyond_1_rs_ok (fun args T kf => Eq.trans (chain_Beyond_1_def N (Cod.dec api_SpanC (lget (toCs (lget args 0)))) (fun q0 => kf (lget [.int .i64 q0] 0, []))) (by kernel_rfl : chain_Beyond_1_run N args T kf = fnM E (chain_Wear_cal N) (chain_Beyond_1_lp N) (noJn) 86 (chain_Beyond_1_sp.vs args) (chain_Beyond_1_sp.tab T) 0 (resK chain_Beyond_1_rs kf)))

def chain_first_L6 : LoopSp := ⟨⟨[2, 3, 8, 10, 22, 23, 24], ⟨(dr 2 ((rFunc 86 0 []) :: (rPtr 0 0) :: (dr 4 ((rRow 1) :: (dr 1 ((rInt .i64) :: (dr 11 ((rSl api_UseC) :: (rInt .i64) :: (rInt .i64) :: (dr 33 []))))))))), [(0, eBlkC api_PartC), (1, eRow api_SpanC)]⟩, 2⟩, [(Option.none, ⟨[6, 7], ⟨(dr 6 ((rInt .i64) :: (rInt .i64) :: (dr 50 []))), []⟩, 0⟩), (some 0, ⟨[], ⟨(dr 58 []), []⟩, 0⟩)]⟩
theorem chain_first_L6_ok : chain_first_L6.Ok := ⟨⟨(drCons 2 (allCons (rFunc_ok 86 0 allNil) (allCons (rPtr_ok 0 0) (drCons 4 (allCons (rRow_ok 1) (drCons 1 (allCons (rInt_ok .i64) (drCons 11 (allCons (rSl_ok api_UseC_ok) (allCons (rInt_ok .i64) (allCons (rInt_ok .i64) (drCons 33 allNil)))))))))))), (eCons (eBlkC_ok api_PartC_ok api_PartC_len) (eCons (eRow_ok api_SpanC_ok) eNil))⟩, (xCons ⟨(drCons 6 (allCons (rInt_ok .i64) (allCons (rInt_ok .i64) (drCons 50 allNil)))), eNil⟩ (xCons ⟨(drCons 58 allNil), eNil⟩ xNil))⟩
def chain_first_h6 (v194 : Int) (v195 : Arr api_Use) (v196 : Int) (v197 : Int) (v198 : api_Part) (v199 : Bool) (v200 : Arr api_Span) : St := ⟨(un 2 ((.func 86 0 []) :: (.ptr 0 0) :: (un 4 ((.row 1) :: (un 1 ((.int .i64 v194) :: (un 11 ((slC api_UseC v195) :: (.int .i64 v196) :: (.int .i64 v197) :: (un 33 []))))))))), [(0, .blk (Cod.enc api_PartC v198)), (1, rowE api_SpanC v199 v200)], 2⟩
def chain_first_x6_r (q0 : Int) (q1 : Int) : St := ⟨(un 6 ((.int .i64 q0) :: (.int .i64 q1) :: (un 50 []))), [], 0⟩
def chain_first_x6_0  : St := ⟨(un 58 []), [], 0⟩
def chain_first_b6 {R : Type} (N : Nat) (rc : Int → Arr api_Use → Int → Int → api_Part → Bool → Arr api_Span → Option R) (v194 : Int) (v195 : Arr api_Use) (v196 : Int) (v197 : Int) (v198 : api_Part) (v199 : Bool) (v200 : Arr api_Span) (kr : Int → Int → Option R) (k0 : Unit → Option R) : Option R :=
  bif decide (v197 < v196) then
   bif decide ((0 : Int) ≤ v197) && decide (v197 < (↑(Arr.n v195) : Int)) then
    bif decide (w64 (v194 + api_Use.Turns (Arr.f v195 (Int.toNat v197))) > api_Part.Turns v198) then
     kr v197 (0 : Int)
    else
     bif decide (api_Use.Day (Arr.f v195 (Int.toNat v197)) > api_Part.Age v198) then
      kr v197 (0 : Int)
     else
      bif decide ((0 : Int) ≤ v197) && decide (v197 < (↑(Arr.n v200) : Int)) then
       chain_Beyond_1 N (Arr.f v200 (Int.toNat v197)) (fun r202 =>
       bif decide (r202 > w64 (api_Part.Worn v198 * (1000000 : Int))) then
        kr v197 (0 : Int)
       else
        rc (w64 (v194 + api_Use.Turns (Arr.f v195 (Int.toNat v197)))) v195 v196 (w64 (v197 + (1 : Int))) v198 v199 v200)
      else
       Option.none
   else
    Option.none
  else
   k0 ()
def chain_first_l6 {R : Type} (N : Nat) : Nat → Int → Arr api_Use → Int → Int → api_Part → Bool → Arr api_Span → (Int → Int → Option R) → (Unit → Option R) → Option R
  | 0, _, _, _, _, _, _, _, _, _ => Option.none
  | n + 1, v194, v195, v196, v197, v198, v199, v200, kr, k0 => chain_first_b6 N (fun v194 v195 v196 v197 v198 v199 v200 => chain_first_l6 N n v194 v195 v196 v197 v198 v199 v200 kr k0) v194 v195 v196 v197 v198 v199 v200 kr k0


def chain_first_m {R : Type} (N : Nat) (a189 : api_Part) (a190 : Arr api_Use) (k : Int → Int → Option R) : Option R :=
  chain_Wear N a189 a190 (fun r191 r192 r193 =>
  bif r191 != (0 : Int) then
   k (0 : Int) r191
  else
   chain_first_l6 N N (0 : Int) a190 ((↑(Arr.n a190) : Int)) (0 : Int) a189 r192 r193 (fun r203 r204 =>
    k r203 r204) (fun (_ : Unit) =>
    k (-1 : Int) (0 : Int)))
noncomputable def chain_first {R : Type} : Nat → api_Part → Arr api_Use → (Int → Int → Option R) → Option R := lock (@chain_first_m R)
theorem chain_first_def {R : Type} (N : Nat) (a189 : api_Part) (a190 : Arr api_Use) (k : Int → Int → Option R) : chain_first N a189 a190 k = chain_first_m N a189 a190 k := by unfold chain_first; rw [lock_eq]
def chain_first_sp : Sp := ⟨[rAgg api_PartC, rSl api_UseC, rFunc 86 0 []], []⟩
theorem chain_first_sp_ok : chain_first_sp.Ok := ⟨(allCons (rAgg_ok api_PartC_ok api_PartC_len) (allCons (rSl_ok api_UseC_ok) (allCons (rFunc_ok 86 0 allNil) allNil))), eNil⟩
def chain_first_rs : Sp := ⟨[rTup [rInt .i64, rInt .i64]], []⟩
theorem chain_first_rs_ok : chain_first_rs.Ok := ⟨(allCons (rTup_ok (allCons (rInt_ok .i64) (allCons (rInt_ok .i64) allNil))) allNil), eNil⟩
def chain_first_run {R : Type} (N : Nat) (args : List SV) (T : Tab) (kf : SV × Tab → Option R) : Option R :=
  chain_first_m N (Cod.dec api_PartC (lget (toCs (lget args 0)))) (lstC api_UseC (lget args 1)) (fun q0 q1 => kf (lget [.tup [.int .i64 q0, .int .i64 q1]] 0, []))
def chain_first_d6 {R : Type} (N : Nat) (S0 : St) (k : Exit → St → Option R) : Option R :=
  chain_first_l6 N N (toI (lget S0.tmps 10)) (lstC api_UseC (lget S0.tmps 22)) (toI (lget S0.tmps 23)) (toI (lget S0.tmps 24)) (Cod.dec api_PartC (lget (entCs (entAt S0.tab 0)))) (entNl (entAt S0.tab 1)) (lst api_SpanC (entN (entAt S0.tab 1)) (entC (entAt S0.tab 1))) (fun q0 q1 => k .ret (chain_first_x6_r q0 q1)) (fun (_ : Unit) => k (.exit 0) (chain_first_x6_0 ))
def chain_first_lp {R : Type} (N : Nat) : Lp R := fun body S k => bif (Go.Sx.keyOf body).getD 0 == 6 then chain_first_L6.head.raw 0 S (fun S0 => chain_first_d6 N S0 k) else Option.none
theorem chain_first_l6_eq {R : Type} (N : Nat) (k : Exit → St → Option R) (n : Nat) : ∀ (v0 : Int) (v1 : Arr api_Use) (v2 : Int) (v3 : Int) (v4 : api_Part) (v5 : Bool) (v6 : Arr api_Span), loopM E.Θ (chain_Beyond_1_cal N) (chain_first_lp N) (noJn) 0 chain_first_L6 (bodyAt E 85 6) n (chain_first_h6 v0 v1 v2 v3 v4 v5 v6) k = chain_first_l6 N n v0 v1 v2 v3 v4 v5 v6 (fun q0 q1 => k .ret (chain_first_x6_r q0 q1)) (fun (_ : Unit) => k (.exit 0) (chain_first_x6_0 )) := by
  induction n with
  | zero => intro v0 v1 v2 v3 v4 v5 v6; rfl
  | succ n ih =>
    intro v0 v1 v2 v3 v4 v5 v6
    refine Eq.trans (b := chain_first_b6 N (fun v0 v1 v2 v3 v4 v5 v6 => loopM E.Θ (chain_Beyond_1_cal N) (chain_first_lp N) (noJn) 0 chain_first_L6 (bodyAt E 85 6) n (chain_first_h6 v0 v1 v2 v3 v4 v5 v6) k) v0 v1 v2 v3 v4 v5 v6 (fun q0 q1 => k .ret (chain_first_x6_r q0 q1)) (fun (_ : Unit) => k (.exit 0) (chain_first_x6_0 ))) (by kernel_rfl) ?_
    have h : (fun (v0 : Int) (v1 : Arr api_Use) (v2 : Int) (v3 : Int) (v4 : api_Part) (v5 : Bool) (v6 : Arr api_Span) => loopM E.Θ (chain_Beyond_1_cal N) (chain_first_lp N) (noJn) 0 chain_first_L6 (bodyAt E 85 6) n (chain_first_h6 v0 v1 v2 v3 v4 v5 v6) k) = (fun (v0 : Int) (v1 : Arr api_Use) (v2 : Int) (v3 : Int) (v4 : api_Part) (v5 : Bool) (v6 : Arr api_Span) => chain_first_l6 N n v0 v1 v2 v3 v4 v5 v6 (fun q0 q1 => k .ret (chain_first_x6_r q0 q1)) (fun (_ : Unit) => k (.exit 0) (chain_first_x6_0 ))) := funext fun v0 => funext fun v1 => funext fun v2 => funext fun v3 => funext fun v4 => funext fun v5 => funext fun v6 => ih v0 v1 v2 v3 v4 v5 v6
    rw [h]
    rfl
theorem chain_first_k6 {R : Type} (N : Nat) : LpKey (R := R) E 85 0 (chain_first_lp N) 6 :=
  lpKey_of hE (chain_Beyond_1_cal_ok N) (jn := noJn) chain_first_L6_ok [] kNil (by kernel_rfl) [] jNil (by kernel_rfl) N fun S k =>
    Eq.trans (b := chain_first_L6.head.raw 0 S (fun S0 => chain_first_d6 N S0 k)) (by kernel_rfl) (congrArg (chain_first_L6.head.raw 0 S) (funext fun S0 => Eq.trans (chain_first_l6_eq N k N (toI (lget S0.tmps 10)) (lstC api_UseC (lget S0.tmps 22)) (toI (lget S0.tmps 23)) (toI (lget S0.tmps 24)) (Cod.dec api_PartC (lget (entCs (entAt S0.tab 0)))) (entNl (entAt S0.tab 1)) (lst api_SpanC (entN (entAt S0.tab 1)) (entC (entAt S0.tab 1)))).symm (by kernel_rfl)))
noncomputable def chain_first_go {R : Type} (N : Nat) (args : List SV) (T : Tab) (kf : SV × Tab → Option R) : Option R :=
  chain_first N (Cod.dec api_PartC (lget (toCs (lget args 0)))) (lstC api_UseC (lget args 1)) (fun q0 q1 => kf (lget [.tup [.int .i64 q0, .int .i64 q1]] 0, []))
noncomputable def chain_first_cal {R : Type} (N : Nat) : Cal R := callM (chain_Beyond_1_cal N) 85 0 chain_first_sp (chain_first_go N)
theorem chain_first_cal_ok {R : Type} (N : Nat) : CalOk E.P (chain_first_cal (R := R) N) :=
  callM_ok hE (chain_Beyond_1_cal_ok N) (lp := chain_first_lp N) (jn := noJn) (keys := [6]) (kCons (chain_first_k6 N) kNil) (by kernel_rfl) (js := []) jNil (by kernel_rfl) chain_first_sp_ok chain_first_rs_ok (fun args T kf => Eq.trans (chain_first_def N (Cod.dec api_PartC (lget (toCs (lget args 0)))) (lstC api_UseC (lget args 1)) (fun q0 q1 => kf (lget [.tup [.int .i64 q0, .int .i64 q1]] 0, []))) (by kernel_rfl : chain_first_run N args T kf = fnM E (chain_Beyond_1_cal N) (chain_first_lp N) (noJn) 85 (chain_first_sp.vs args) (chain_first_sp.tab T) 0 (resK chain_first_rs kf)))


def chain_Beyond_m {R : Type} (N : Nat) (a187 : api_Part) (a188 : Arr api_Use) (k : Int → Int → Option R) : Option R :=
  chain_first N a187 a188 (fun r205 r206 =>
  k r205 r206)
noncomputable def chain_Beyond {R : Type} : Nat → api_Part → Arr api_Use → (Int → Int → Option R) → Option R := lock (@chain_Beyond_m R)
theorem chain_Beyond_def {R : Type} (N : Nat) (a187 : api_Part) (a188 : Arr api_Use) (k : Int → Int → Option R) : chain_Beyond N a187 a188 k = chain_Beyond_m N a187 a188 k := by unfold chain_Beyond; rw [lock_eq]
def chain_Beyond_sp : Sp := ⟨[rAgg api_PartC, rSl api_UseC], []⟩
theorem chain_Beyond_sp_ok : chain_Beyond_sp.Ok := ⟨(allCons (rAgg_ok api_PartC_ok api_PartC_len) (allCons (rSl_ok api_UseC_ok) allNil)), eNil⟩
def chain_Beyond_rs : Sp := ⟨[rTup [rInt .i64, rInt .i64]], []⟩
theorem chain_Beyond_rs_ok : chain_Beyond_rs.Ok := ⟨(allCons (rTup_ok (allCons (rInt_ok .i64) (allCons (rInt_ok .i64) allNil))) allNil), eNil⟩
def chain_Beyond_run {R : Type} (N : Nat) (args : List SV) (T : Tab) (kf : SV × Tab → Option R) : Option R :=
  chain_Beyond_m N (Cod.dec api_PartC (lget (toCs (lget args 0)))) (lstC api_UseC (lget args 1)) (fun q0 q1 => kf (lget [.tup [.int .i64 q0, .int .i64 q1]] 0, []))
def chain_Beyond_lp {R : Type} (N : Nat) : Lp R := fun body S k => Option.none
noncomputable def chain_Beyond_go {R : Type} (N : Nat) (args : List SV) (T : Tab) (kf : SV × Tab → Option R) : Option R :=
  chain_Beyond N (Cod.dec api_PartC (lget (toCs (lget args 0)))) (lstC api_UseC (lget args 1)) (fun q0 q1 => kf (lget [.tup [.int .i64 q0, .int .i64 q1]] 0, []))
noncomputable def chain_Beyond_cal {R : Type} (N : Nat) : Cal R := callM (chain_first_cal N) 36 0 chain_Beyond_sp (chain_Beyond_go N)
theorem chain_Beyond_cal_ok {R : Type} (N : Nat) : CalOk E.P (chain_Beyond_cal (R := R) N) :=
  callM_ok hE (chain_first_cal_ok N) (lp := chain_Beyond_lp N) (jn := noJn) (keys := []) kNil (by kernel_rfl) (js := []) jNil (by kernel_rfl) chain_Beyond_sp_ok chain_Beyond_rs_ok (fun args T kf => Eq.trans (chain_Beyond_def N (Cod.dec api_PartC (lget (toCs (lget args 0)))) (lstC api_UseC (lget args 1)) (fun q0 q1 => kf (lget [.tup [.int .i64 q0, .int .i64 q1]] 0, []))) (by kernel_rfl : chain_Beyond_run N args T kf = fnM E (chain_first_cal N) (chain_Beyond_lp N) (noJn) 36 (chain_Beyond_sp.vs args) (chain_Beyond_sp.tab T) 0 (resK chain_Beyond_rs kf)))

theorem neweltop_measures_closed {R : Type} (kf : SV × Tab → Option R) : (runG E 400 60).run 13 [] [] 0 kf = kf (.bool true, []) := by kernel_rfl
def neweltop_measures_m {R : Type} (N : Nat) (k : Bool → Option R) : Option R :=
  k true
noncomputable def neweltop_measures {R : Type} : Nat → (Bool → Option R) → Option R := lock (@neweltop_measures_m R)
theorem neweltop_measures_def {R : Type} (N : Nat) (k : Bool → Option R) : neweltop_measures N k = neweltop_measures_m N k := by unfold neweltop_measures; rw [lock_eq]
theorem neweltop_measures_eq {R : Type} (N : Nat) (k : Bool → Option R) : neweltop_measures N k = k true := by rw [neweltop_measures_def]; rfl
def neweltop_measures_sp : Sp := ⟨[], []⟩
noncomputable def neweltop_measures_go {R : Type} (N : Nat) (args : List SV) (T : Tab) (kf : SV × Tab → Option R) : Option R :=
  neweltop_measures N (fun q0 => kf (lget [.bool q0] 0, []))
noncomputable def neweltop_measures_cal {R : Type} (N : Nat) : Cal R := callM (chain_Beyond_cal N) 13 0 neweltop_measures_sp (neweltop_measures_go N)
theorem neweltop_measures_cal_ok {R : Type} (N : Nat) : CalOk E.P (neweltop_measures_cal (R := R) N) :=
  callM_eq (m' := fun args T kf => kf (.bool true, [])) (fun args T kf => neweltop_measures_def N (fun q0 => kf (lget [.bool q0] 0, []))) (closed_ok hE (chain_Beyond_cal_ok N) neweltop_measures_closed)



end
end Go.Proofs.Ytpillmoddoccfab
