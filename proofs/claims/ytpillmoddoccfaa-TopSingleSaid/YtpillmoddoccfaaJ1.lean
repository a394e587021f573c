/-
  Models of the functions, and that they are what the code does. Written by a program.
-/
import Derived.Test.YtpillmoddoccfaaCod
import Derived.Test.YtpillmoddoccfaaSxRun
set_option maxRecDepth 100000
set_option maxHeartbeats 0
set_option linter.unusedVariables false
namespace Go.Proofs.Ytpillmoddoccfaa
open Go.Sx
noncomputable section

def newellaw01_Far_m {R : Type} (N : Nat) (a0 : api_Escalator) (k : Bool → Option R) : Option R :=
  k (decide ((↑(Arr.n (api_Escalator.Brakes a0)) : Int) > (10 : Int)))
noncomputable def newellaw01_Far {R : Type} : Nat → api_Escalator → (Bool → Option R) → Option R := lock (@newellaw01_Far_m R)
theorem newellaw01_Far_def {R : Type} (N : Nat) (a0 : api_Escalator) (k : Bool → Option R) : newellaw01_Far N a0 k = newellaw01_Far_m N a0 k := by unfold newellaw01_Far; rw [lock_eq]
def newellaw01_Far_sp : Sp := ⟨[rAgg api_EscalatorC], []⟩
theorem newellaw01_Far_sp_ok : newellaw01_Far_sp.Ok := ⟨(allCons (rAgg_ok api_EscalatorC_ok api_EscalatorC_len) allNil), eNil⟩
def newellaw01_Far_rs : Sp := ⟨[rBool], []⟩
theorem newellaw01_Far_rs_ok : newellaw01_Far_rs.Ok := ⟨(allCons rBool_ok allNil), eNil⟩
def newellaw01_Far_run {R : Type} (N : Nat) (args : List SV) (T : Tab) (kf : SV × Tab → Option R) : Option R :=
  newellaw01_Far_m N (Cod.dec api_EscalatorC (lget (toCs (lget args 0)))) (fun q0 => kf (lget [.bool q0] 0, []))
def newellaw01_Far_lp {R : Type} (N : Nat) : Lp R := fun body S k => Option.none
noncomputable def newellaw01_Far_go {R : Type} (N : Nat) (args : List SV) (T : Tab) (kf : SV × Tab → Option R) : Option R :=
  newellaw01_Far N (Cod.dec api_EscalatorC (lget (toCs (lget args 0)))) (fun q0 => kf (lget [.bool q0] 0, []))
noncomputable def newellaw01_Far_cal {R : Type} (N : Nat) : Cal R := callM (noCal E) 10 0 newellaw01_Far_sp (newellaw01_Far_go N)
theorem newellaw01_Far_cal_ok {R : Type} (N : Nat) : CalOk E.P (newellaw01_Far_cal (R := R) N) :=
  callM_ok hE (noCal_ok E) (lp := newellaw01_Far_lp N) (jn := noJn) (keys := []) kNil (by kernel_rfl) (js := []) jNil (by kernel_rfl) newellaw01_Far_sp_ok newellaw01_Far_rs_ok (fun args T kf => Eq.trans (newellaw01_Far_def N (Cod.dec api_EscalatorC (lget (toCs (lget args 0)))) (fun q0 => kf (lget [.bool q0] 0, []))) (by kernel_rfl : newellaw01_Far_run N args T kf = fnM E (noCal E) (newellaw01_Far_lp N) (noJn) 10 (newellaw01_Far_sp.vs args) (newellaw01_Far_sp.tab T) 0 (resK newellaw01_Far_rs kf)))

def newellaw03_Far_L4 : LoopSp := ⟨⟨[1, 3], ⟨(dr 1 ((rPtr 0 0) :: (dr 1 ((rInt .i64) :: (dr 25 []))))), [(0, eBlkC api_CircuitC)]⟩, 1⟩, [(Option.none, ⟨[2], ⟨(dr 2 ((rBool) :: (dr 26 []))), []⟩, 0⟩), (some 0, ⟨[], ⟨(dr 29 []), []⟩, 0⟩)]⟩
theorem newellaw03_Far_L4_ok : newellaw03_Far_L4.Ok := ⟨⟨(drCons 1 (allCons (rPtr_ok 0 0) (drCons 1 (allCons (rInt_ok .i64) (drCons 25 allNil))))), (eCons (eBlkC_ok api_CircuitC_ok api_CircuitC_len) eNil)⟩, (xCons ⟨(drCons 2 (allCons rBool_ok (drCons 26 allNil))), eNil⟩ (xCons ⟨(drCons 29 allNil), eNil⟩ xNil))⟩
def newellaw03_Far_h4 (v2 : Int) (v3 : api_Circuit) : St := ⟨(un 1 ((.ptr 0 0) :: (un 1 ((.int .i64 v2) :: (un 25 []))))), [(0, .blk (Cod.enc api_CircuitC v3))], 1⟩
def newellaw03_Far_x4_r (q0 : Bool) : St := ⟨(un 2 ((.bool q0) :: (un 26 []))), [], 0⟩
def newellaw03_Far_x4_0  : St := ⟨(un 29 []), [], 0⟩
def newellaw03_Far_b4 {R : Type} (N : Nat) (rc : Int → api_Circuit → Option R) (v2 : Int) (v3 : api_Circuit) (kr : Bool → Option R) (k0 : Unit → Option R) : Option R :=
  bif decide (v2 < (↑(Arr.n (api_Circuit.Wires v3)) : Int)) then
   bif decide ((0 : Int) ≤ v2) && decide (v2 < (↑(Arr.n (api_Circuit.Wires v3)) : Int)) then
    bif decide ((↑(Arr.n (api_Wire.Of (Arr.f (api_Circuit.Wires v3) (Int.toNat v2)))) : Int) > (40 : Int)) then
     kr true
    else
     rc (w64 (v2 + (1 : Int))) v3
   else
    Option.none
  else
   k0 ()
def newellaw03_Far_l4 {R : Type} (N : Nat) : Nat → Int → api_Circuit → (Bool → Option R) → (Unit → Option R) → Option R
  | 0, _, _, _, _ => Option.none
  | n + 1, v2, v3, kr, k0 => newellaw03_Far_b4 N (fun v2 v3 => newellaw03_Far_l4 N n v2 v3 kr k0) v2 v3 kr k0


def newellaw03_Far_m {R : Type} (N : Nat) (a1 : api_Circuit) (k : Bool → Option R) : Option R :=
  bif decide ((↑(Arr.n (api_Circuit.Switches a1)) : Int) > (20 : Int)) then
   k true
  else
   bif decide ((↑(Arr.n (api_Circuit.Wires a1)) : Int) > (40 : Int)) then
    k true
   else
    newellaw03_Far_l4 N N (0 : Int) a1 (fun r4 =>
     k r4) (fun (_ : Unit) =>
     k false)
noncomputable def newellaw03_Far {R : Type} : Nat → api_Circuit → (Bool → Option R) → Option R := lock (@newellaw03_Far_m R)
theorem newellaw03_Far_def {R : Type} (N : Nat) (a1 : api_Circuit) (k : Bool → Option R) : newellaw03_Far N a1 k = newellaw03_Far_m N a1 k := by unfold newellaw03_Far; rw [lock_eq]
def newellaw03_Far_sp : Sp := ⟨[rAgg api_CircuitC], []⟩
theorem newellaw03_Far_sp_ok : newellaw03_Far_sp.Ok := ⟨(allCons (rAgg_ok api_CircuitC_ok api_CircuitC_len) allNil), eNil⟩
def newellaw03_Far_rs : Sp := ⟨[rBool], []⟩
theorem newellaw03_Far_rs_ok : newellaw03_Far_rs.Ok := ⟨(allCons rBool_ok allNil), eNil⟩
def newellaw03_Far_run {R : Type} (N : Nat) (args : List SV) (T : Tab) (kf : SV × Tab → Option R) : Option R :=
  newellaw03_Far_m N (Cod.dec api_CircuitC (lget (toCs (lget args 0)))) (fun q0 => kf (lget [.bool q0] 0, []))
def newellaw03_Far_d4 {R : Type} (N : Nat) (S0 : St) (k : Exit → St → Option R) : Option R :=
  newellaw03_Far_l4 N N (toI (lget S0.tmps 3)) (Cod.dec api_CircuitC (lget (entCs (entAt S0.tab 0)))) (fun q0 => k .ret (newellaw03_Far_x4_r q0)) (fun (_ : Unit) => k (.exit 0) (newellaw03_Far_x4_0 ))
def newellaw03_Far_lp {R : Type} (N : Nat) : Lp R := fun body S k => bif (Go.Sx.keyOf body).getD 0 == 4 then newellaw03_Far_L4.head.raw 0 S (fun S0 => newellaw03_Far_d4 N S0 k) else Option.none
theorem newellaw03_Far_l4_eq {R : Type} (N : Nat) (k : Exit → St → Option R) (n : Nat) : ∀ (v0 : Int) (v1 : api_Circuit), loopM E.Θ (newellaw01_Far_cal N) (newellaw03_Far_lp N) (noJn) 0 newellaw03_Far_L4 (bodyAt E 25 4) n (newellaw03_Far_h4 v0 v1) k = newellaw03_Far_l4 N n v0 v1 (fun q0 => k .ret (newellaw03_Far_x4_r q0)) (fun (_ : Unit) => k (.exit 0) (newellaw03_Far_x4_0 )) := by
  induction n with
  | zero => intro v0 v1; rfl
  | succ n ih =>
    intro v0 v1
    refine Eq.trans (b := newellaw03_Far_b4 N (fun v0 v1 => loopM E.Θ (newellaw01_Far_cal N) (newellaw03_Far_lp N) (noJn) 0 newellaw03_Far_L4 (bodyAt E 25 4) n (newellaw03_Far_h4 v0 v1) k) v0 v1 (fun q0 => k .ret (newellaw03_Far_x4_r q0)) (fun (_ : Unit) => k (.exit 0) (newellaw03_Far_x4_0 ))) (by kernel_rfl) ?_
    have h : (fun (v0 : Int) (v1 : api_Circuit) => loopM E.Θ (newellaw01_Far_cal N) (newellaw03_Far_lp N) (noJn) 0 newellaw03_Far_L4 (bodyAt E 25 4) n (newellaw03_Far_h4 v0 v1) k) = (fun (v0 : Int) (v1 : api_Circuit) => newellaw03_Far_l4 N n v0 v1 (fun q0 => k .ret (newellaw03_Far_x4_r q0)) (fun (_ : Unit) => k (.exit 0) (newellaw03_Far_x4_0 ))) := funext fun v0 => funext fun v1 => ih v0 v1
    rw [h]
    rfl
theorem newellaw03_Far_k4 {R : Type} (N : Nat) : LpKey (R := R) E 25 0 (newellaw03_Far_lp N) 4 :=
  lpKey_of hE (newellaw01_Far_cal_ok N) (jn := noJn) newellaw03_Far_L4_ok [] kNil (by kernel_rfl) [] jNil (by kernel_rfl) N fun S k =>
    Eq.trans (b := newellaw03_Far_L4.head.raw 0 S (fun S0 => newellaw03_Far_d4 N S0 k)) (by kernel_rfl) (congrArg (newellaw03_Far_L4.head.raw 0 S) (funext fun S0 => Eq.trans (newellaw03_Far_l4_eq N k N (toI (lget S0.tmps 3)) (Cod.dec api_CircuitC (lget (entCs (entAt S0.tab 0))))).symm (by kernel_rfl)))
noncomputable def newellaw03_Far_go {R : Type} (N : Nat) (args : List SV) (T : Tab) (kf : SV × Tab → Option R) : Option R :=
  newellaw03_Far N (Cod.dec api_CircuitC (lget (toCs (lget args 0)))) (fun q0 => kf (lget [.bool q0] 0, []))
noncomputable def newellaw03_Far_cal {R : Type} (N : Nat) : Cal R := callM (newellaw01_Far_cal N) 25 0 newellaw03_Far_sp (newellaw03_Far_go N)
theorem newellaw03_Far_cal_ok {R : Type} (N : Nat) : CalOk E.P (newellaw03_Far_cal (R := R) N) :=
  callM_ok hE (newellaw01_Far_cal_ok N) (lp := newellaw03_Far_lp N) (jn := noJn) (keys := [4]) (kCons (newellaw03_Far_k4 N) kNil) (by kernel_rfl) (js := []) jNil (by kernel_rfl) newellaw03_Far_sp_ok newellaw03_Far_rs_ok (fun args T kf => Eq.trans (newellaw03_Far_def N (Cod.dec api_CircuitC (lget (toCs (lget args 0)))) (fun q0 => kf (lget [.bool q0] 0, []))) (by kernel_rfl : newellaw03_Far_run N args T kf = fnM E (newellaw01_Far_cal N) (newellaw03_Far_lp N) (noJn) 25 (newellaw03_Far_sp.vs args) (newellaw03_Far_sp.tab T) 0 (resK newellaw03_Far_rs kf)))


def newelref01_within_m {R : Type} (N : Nat) (a5 : Int) (a6 : Int) (a7 : Int) (k : Bool → Option R) : Option R :=
  bif decide (a5 ≥ a6) then
   k (decide (a5 ≤ a7))
  else
   k false
noncomputable def newelref01_within {R : Type} : Nat → Int → Int → Int → (Bool → Option R) → Option R := lock (@newelref01_within_m R)
theorem newelref01_within_def {R : Type} (N : Nat) (a5 : Int) (a6 : Int) (a7 : Int) (k : Bool → Option R) : newelref01_within N a5 a6 a7 k = newelref01_within_m N a5 a6 a7 k := by unfold newelref01_within; rw [lock_eq]
def newelref01_within_sp : Sp := ⟨[rInt .i64, rInt .i64, rInt .i64], []⟩
theorem newelref01_within_sp_ok : newelref01_within_sp.Ok := ⟨(allCons (rInt_ok .i64) (allCons (rInt_ok .i64) (allCons (rInt_ok .i64) allNil))), eNil⟩
def newelref01_within_rs : Sp := ⟨[rBool], []⟩
theorem newelref01_within_rs_ok : newelref01_within_rs.Ok := ⟨(allCons rBool_ok allNil), eNil⟩
def newelref01_within_run {R : Type} (N : Nat) (args : List SV) (T : Tab) (kf : SV × Tab → Option R) : Option R :=
  newelref01_within_m N (toI (lget args 0)) (toI (lget args 1)) (toI (lget args 2)) (fun q0 => kf (lget [.bool q0] 0, []))
def newelref01_within_lp {R : Type} (N : Nat) : Lp R := fun body S k => Option.none
noncomputable def newelref01_within_go {R : Type} (N : Nat) (args : List SV) (T : Tab) (kf : SV × Tab → Option R) : Option R :=
  newelref01_within N (toI (lget args 0)) (toI (lget args 1)) (toI (lget args 2)) (fun q0 => kf (lget [.bool q0] 0, []))
noncomputable def newelref01_within_cal {R : Type} (N : Nat) : Cal R := callM (newellaw03_Far_cal N) 58 0 newelref01_within_sp (newelref01_within_go N)
theorem newelref01_within_cal_ok {R : Type} (N : Nat) : CalOk E.P (newelref01_within_cal (R := R) N) :=
  callM_ok hE (newellaw03_Far_cal_ok N) (lp := newelref01_within_lp N) (jn := noJn) (keys := []) kNil (by kernel_rfl) (js := []) jNil (by kernel_rfl) newelref01_within_sp_ok newelref01_within_rs_ok (fun args T kf => Eq.trans (newelref01_within_def N (toI (lget args 0)) (toI (lget args 1)) (toI (lget args 2)) (fun q0 => kf (lget [.bool q0] 0, []))) (by kernel_rfl : newelref01_within_run N args T kf = fnM E (newellaw03_Far_cal N) (newelref01_within_lp N) (noJn) 58 (newelref01_within_sp.vs args) (newelref01_within_sp.tab T) 0 (resK newelref01_within_rs kf)))

def newelref01_Check_L4 : LoopSp := ⟨⟨[1, 3], ⟨(dr 1 ((rPtr 0 0) :: (dr 1 ((rInt .i64) :: (dr 53 []))))), [(0, eBlkC api_EscalatorC)]⟩, 1⟩, [(Option.none, ⟨[2], ⟨(dr 2 ((rInt .i64) :: (dr 54 []))), []⟩, 0⟩), (some 0, ⟨[], ⟨(dr 57 []), []⟩, 0⟩)]⟩
theorem newelref01_Check_L4_ok : newelref01_Check_L4.Ok := ⟨⟨(drCons 1 (allCons (rPtr_ok 0 0) (drCons 1 (allCons (rInt_ok .i64) (drCons 53 allNil))))), (eCons (eBlkC_ok api_EscalatorC_ok api_EscalatorC_len) eNil)⟩, (xCons ⟨(drCons 2 (allCons (rInt_ok .i64) (drCons 54 allNil))), eNil⟩ (xCons ⟨(drCons 57 allNil), eNil⟩ xNil))⟩
def newelref01_Check_h4 (v13 : Int) (v14 : api_Escalator) : St := ⟨(un 1 ((.ptr 0 0) :: (un 1 ((.int .i64 v13) :: (un 53 []))))), [(0, .blk (Cod.enc api_EscalatorC v14))], 1⟩
def newelref01_Check_x4_r (q0 : Int) : St := ⟨(un 2 ((.int .i64 q0) :: (un 54 []))), [], 0⟩
def newelref01_Check_x4_0  : St := ⟨(un 57 []), [], 0⟩
def newelref01_Check_b4 {R : Type} (N : Nat) (rc : Int → api_Escalator → Option R) (v13 : Int) (v14 : api_Escalator) (kr : Int → Option R) (k0 : Unit → Option R) : Option R :=
  bif decide (v13 < (↑(Arr.n (api_Escalator.Brakes v14)) : Int)) then
   bif decide ((0 : Int) ≤ v13) && decide (v13 < (↑(Arr.n (api_Escalator.Brakes v14)) : Int)) then
    newelref01_within N (api_Brake.Force (Arr.f (api_Escalator.Brakes v14) (Int.toNat v13))) (0 : Int) (10000000 : Int) (fun r15 =>
    bif !r15 then
     kr (10 : Int)
    else
     bif decide ((0 : Int) ≤ v13) && decide (v13 < (↑(Arr.n (api_Escalator.Brakes v14)) : Int)) then
      newelref01_within N (api_Brake.Delay (Arr.f (api_Escalator.Brakes v14) (Int.toNat v13))) (0 : Int) (20 : Int) (fun r16 =>
      bif !r16 then
       kr (10 : Int)
      else
       rc (w64 (v13 + (1 : Int))) v14)
     else
      Option.none)
   else
    Option.none
  else
   k0 ()
def newelref01_Check_l4 {R : Type} (N : Nat) : Nat → Int → api_Escalator → (Int → Option R) → (Unit → Option R) → Option R
  | 0, _, _, _, _ => Option.none
  | n + 1, v13, v14, kr, k0 => newelref01_Check_b4 N (fun v13 v14 => newelref01_Check_l4 N n v13 v14 kr k0) v13 v14 kr k0


def newelref01_Check_m {R : Type} (N : Nat) (a8 : api_Escalator) (k : Int → Option R) : Option R :=
  newelref01_within N (api_Escalator.Empty a8) (1 : Int) (100000 : Int) (fun r9 =>
  bif !r9 then
   k (10 : Int)
  else
   newelref01_within N (api_Escalator.Pull a8) (0 : Int) (100 : Int) (fun r10 =>
   bif !r10 then
    k (10 : Int)
   else
    newelref01_within N (api_Escalator.Drag a8) (0 : Int) (10000000 : Int) (fun r11 =>
    bif !r11 then
     k (10 : Int)
    else
     newelref01_within N (api_Escalator.Motor a8) (0 : Int) (10000000 : Int) (fun r12 =>
     bif !r12 then
      k (10 : Int)
     else
      bif decide ((↑(Arr.n (api_Escalator.Brakes a8)) : Int) > (3 : Int)) then
       k (10 : Int)
      else
       newelref01_Check_l4 N N (0 : Int) a8 (fun r17 =>
        k r17) (fun (_ : Unit) =>
        k (0 : Int))))))
noncomputable def newelref01_Check {R : Type} : Nat → api_Escalator → (Int → Option R) → Option R := lock (@newelref01_Check_m R)
theorem newelref01_Check_def {R : Type} (N : Nat) (a8 : api_Escalator) (k : Int → Option R) : newelref01_Check N a8 k = newelref01_Check_m N a8 k := by unfold newelref01_Check; rw [lock_eq]
def newelref01_Check_sp : Sp := ⟨[rAgg api_EscalatorC], []⟩
theorem newelref01_Check_sp_ok : newelref01_Check_sp.Ok := ⟨(allCons (rAgg_ok api_EscalatorC_ok api_EscalatorC_len) allNil), eNil⟩
def newelref01_Check_rs : Sp := ⟨[rInt .i64], []⟩
theorem newelref01_Check_rs_ok : newelref01_Check_rs.Ok := ⟨(allCons (rInt_ok .i64) allNil), eNil⟩
def newelref01_Check_run {R : Type} (N : Nat) (args : List SV) (T : Tab) (kf : SV × Tab → Option R) : Option R :=
  newelref01_Check_m N (Cod.dec api_EscalatorC (lget (toCs (lget args 0)))) (fun q0 => kf (lget [.int .i64 q0] 0, []))
def newelref01_Check_d4 {R : Type} (N : Nat) (S0 : St) (k : Exit → St → Option R) : Option R :=
  newelref01_Check_l4 N N (toI (lget S0.tmps 3)) (Cod.dec api_EscalatorC (lget (entCs (entAt S0.tab 0)))) (fun q0 => k .ret (newelref01_Check_x4_r q0)) (fun (_ : Unit) => k (.exit 0) (newelref01_Check_x4_0 ))
def newelref01_Check_lp {R : Type} (N : Nat) : Lp R := fun body S k => bif (Go.Sx.keyOf body).getD 0 == 4 then newelref01_Check_L4.head.raw 0 S (fun S0 => newelref01_Check_d4 N S0 k) else Option.none
theorem newelref01_Check_l4_eq {R : Type} (N : Nat) (k : Exit → St → Option R) (n : Nat) : ∀ (v0 : Int) (v1 : api_Escalator), loopM E.Θ (newelref01_within_cal N) (newelref01_Check_lp N) (noJn) 0 newelref01_Check_L4 (bodyAt E 12 4) n (newelref01_Check_h4 v0 v1) k = newelref01_Check_l4 N n v0 v1 (fun q0 => k .ret (newelref01_Check_x4_r q0)) (fun (_ : Unit) => k (.exit 0) (newelref01_Check_x4_0 )) := by
  induction n with
  | zero => intro v0 v1; rfl
  | succ n ih =>
    intro v0 v1
    refine Eq.trans (b := newelref01_Check_b4 N (fun v0 v1 => loopM E.Θ (newelref01_within_cal N) (newelref01_Check_lp N) (noJn) 0 newelref01_Check_L4 (bodyAt E 12 4) n (newelref01_Check_h4 v0 v1) k) v0 v1 (fun q0 => k .ret (newelref01_Check_x4_r q0)) (fun (_ : Unit) => k (.exit 0) (newelref01_Check_x4_0 ))) (by kernel_rfl) ?_
    have h : (fun (v0 : Int) (v1 : api_Escalator) => loopM E.Θ (newelref01_within_cal N) (newelref01_Check_lp N) (noJn) 0 newelref01_Check_L4 (bodyAt E 12 4) n (newelref01_Check_h4 v0 v1) k) = (fun (v0 : Int) (v1 : api_Escalator) => newelref01_Check_l4 N n v0 v1 (fun q0 => k .ret (newelref01_Check_x4_r q0)) (fun (_ : Unit) => k (.exit 0) (newelref01_Check_x4_0 ))) := funext fun v0 => funext fun v1 => ih v0 v1
    rw [h]
    rfl
theorem newelref01_Check_k4 {R : Type} (N : Nat) : LpKey (R := R) E 12 0 (newelref01_Check_lp N) 4 :=
  lpKey_of hE (newelref01_within_cal_ok N) (jn := noJn) newelref01_Check_L4_ok [] kNil (by kernel_rfl) [] jNil (by kernel_rfl) N fun S k =>
    Eq.trans (b := newelref01_Check_L4.head.raw 0 S (fun S0 => newelref01_Check_d4 N S0 k)) (by kernel_rfl) (congrArg (newelref01_Check_L4.head.raw 0 S) (funext fun S0 => Eq.trans (newelref01_Check_l4_eq N k N (toI (lget S0.tmps 3)) (Cod.dec api_EscalatorC (lget (entCs (entAt S0.tab 0))))).symm (by kernel_rfl)))
noncomputable def newelref01_Check_go {R : Type} (N : Nat) (args : List SV) (T : Tab) (kf : SV × Tab → Option R) : Option R :=
  newelref01_Check N (Cod.dec api_EscalatorC (lget (toCs (lget args 0)))) (fun q0 => kf (lget [.int .i64 q0] 0, []))
noncomputable def newelref01_Check_cal {R : Type} (N : Nat) : Cal R := callM (newelref01_within_cal N) 12 0 newelref01_Check_sp (newelref01_Check_go N)
theorem newelref01_Check_cal_ok {R : Type} (N : Nat) : CalOk E.P (newelref01_Check_cal (R := R) N) :=
  callM_ok hE (newelref01_within_cal_ok N) (lp := newelref01_Check_lp N) (jn := noJn) (keys := [4]) (kCons (newelref01_Check_k4 N) kNil) (by kernel_rfl) (js := []) jNil (by kernel_rfl) newelref01_Check_sp_ok newelref01_Check_rs_ok (fun args T kf => Eq.trans (newelref01_Check_def N (Cod.dec api_EscalatorC (lget (toCs (lget args 0)))) (fun q0 => kf (lget [.int .i64 q0] 0, []))) (by kernel_rfl : newelref01_Check_run N args T kf = fnM E (newelref01_within_cal N) (newelref01_Check_lp N) (noJn) 12 (newelref01_Check_sp.vs args) (newelref01_Check_sp.tab T) 0 (resK newelref01_Check_rs kf)))


def newelref01_CheckStop_m {R : Type} (N : Nat) (a18 : api_Escalator) (a19 : api_Stop) (k : Int → Option R) : Option R :=
  newelref01_Check N a18 (fun r20 =>
  bif r20 != (0 : Int) then
   k (10 : Int)
  else
   newelref01_within N (api_Stop.Speed a19) (0 : Int) (1000 : Int) (fun r21 =>
   bif !r21 then
    k (11 : Int)
   else
    bif decide (api_Span.Low (api_Stop.Loads a19) < (0 : Int)) then
     k (11 : Int)
    else
     bif decide (api_Span.High (api_Stop.Loads a19) < api_Span.Low (api_Stop.Loads a19)) then
      k (11 : Int)
     else
      bif decide (api_Span.High (api_Stop.Loads a19) > (100000 : Int)) then
       k (11 : Int)
      else
       newelref01_within N (api_Stop.Fail a19) (0 : Int) (w64 (w64 ((1 : Int) * (2 : Int) ^ min (Int.toNat (IntKind.wrap IntKind.u64 (↑(Arr.n (api_Escalator.Brakes a18)) : Int))) (IntKind.bits IntKind.i64)) - (1 : Int))) (fun r22 =>
       bif !r22 then
        k (11 : Int)
       else
        k (0 : Int))))
noncomputable def newelref01_CheckStop {R : Type} : Nat → api_Escalator → api_Stop → (Int → Option R) → Option R := lock (@newelref01_CheckStop_m R)
theorem newelref01_CheckStop_def {R : Type} (N : Nat) (a18 : api_Escalator) (a19 : api_Stop) (k : Int → Option R) : newelref01_CheckStop N a18 a19 k = newelref01_CheckStop_m N a18 a19 k := by unfold newelref01_CheckStop; rw [lock_eq]
def newelref01_CheckStop_sp : Sp := ⟨[rAgg api_EscalatorC, rAgg api_StopC], []⟩
theorem newelref01_CheckStop_sp_ok : newelref01_CheckStop_sp.Ok := ⟨(allCons (rAgg_ok api_EscalatorC_ok api_EscalatorC_len) (allCons (rAgg_ok api_StopC_ok api_StopC_len) allNil)), eNil⟩
def newelref01_CheckStop_rs : Sp := ⟨[rInt .i64], []⟩
theorem newelref01_CheckStop_rs_ok : newelref01_CheckStop_rs.Ok := ⟨(allCons (rInt_ok .i64) allNil), eNil⟩
def newelref01_CheckStop_run {R : Type} (N : Nat) (args : List SV) (T : Tab) (kf : SV × Tab → Option R) : Option R :=
  newelref01_CheckStop_m N (Cod.dec api_EscalatorC (lget (toCs (lget args 0)))) (Cod.dec api_StopC (lget (toCs (lget args 1)))) (fun q0 => kf (lget [.int .i64 q0] 0, []))
def newelref01_CheckStop_lp {R : Type} (N : Nat) : Lp R := fun body S k => Option.none
noncomputable def newelref01_CheckStop_go {R : Type} (N : Nat) (args : List SV) (T : Tab) (kf : SV × Tab → Option R) : Option R :=
  newelref01_CheckStop N (Cod.dec api_EscalatorC (lget (toCs (lget args 0)))) (Cod.dec api_StopC (lget (toCs (lget args 1)))) (fun q0 => kf (lget [.int .i64 q0] 0, []))
noncomputable def newelref01_CheckStop_cal {R : Type} (N : Nat) : Cal R := callM (newelref01_Check_cal N) 27 0 newelref01_CheckStop_sp (newelref01_CheckStop_go N)
theorem newelref01_CheckStop_cal_ok {R : Type} (N : Nat) : CalOk E.P (newelref01_CheckStop_cal (R := R) N) :=
  callM_ok hE (newelref01_Check_cal_ok N) (lp := newelref01_CheckStop_lp N) (jn := noJn) (keys := []) kNil (by kernel_rfl) (js := []) jNil (by kernel_rfl) newelref01_CheckStop_sp_ok newelref01_CheckStop_rs_ok (fun args T kf => Eq.trans (newelref01_CheckStop_def N (Cod.dec api_EscalatorC (lget (toCs (lget args 0)))) (Cod.dec api_StopC (lget (toCs (lget args 1)))) (fun q0 => kf (lget [.int .i64 q0] 0, []))) (by kernel_rfl : newelref01_CheckStop_run N args T kf = fnM E (newelref01_Check_cal N) (newelref01_CheckStop_lp N) (noJn) 27 (newelref01_CheckStop_sp.vs args) (newelref01_CheckStop_sp.tab T) 0 (resK newelref01_CheckStop_rs kf)))

def newelref01_History_L2 : LoopSp := ⟨⟨[1, 2, 5], ⟨(dr 1 ((rSl intC) :: (rPtr 0 0) :: (dr 2 ((rInt .i64) :: (dr 21 []))))), [(0, eBlkC api_StopC)]⟩, 1⟩, [(Option.none, ⟨[4], ⟨(dr 4 ((rBool) :: (dr 22 []))), []⟩, 0⟩), (some 0, ⟨[1], ⟨(dr 1 ((rSl intC) :: (dr 25 []))), []⟩, 0⟩)]⟩
theorem newelref01_History_L2_ok : newelref01_History_L2.Ok := ⟨⟨(drCons 1 (allCons (rSl_ok intC_ok) (allCons (rPtr_ok 0 0) (drCons 2 (allCons (rInt_ok .i64) (drCons 21 allNil)))))), (eCons (eBlkC_ok api_StopC_ok api_StopC_len) eNil)⟩, (xCons ⟨(drCons 4 (allCons rBool_ok (drCons 22 allNil))), eNil⟩ (xCons ⟨(drCons 1 (allCons (rSl_ok intC_ok) (drCons 25 allNil))), eNil⟩ xNil))⟩
def newelref01_History_h2 (v25 : Arr Int) (v26 : Int) (v27 : api_Stop) : St := ⟨(un 1 ((slC intC v25) :: (.ptr 0 0) :: (un 2 ((.int .i64 v26) :: (un 21 []))))), [(0, .blk (Cod.enc api_StopC v27))], 1⟩
def newelref01_History_x2_r (q0 : Bool) : St := ⟨(un 4 ((.bool q0) :: (un 22 []))), [], 0⟩
def newelref01_History_x2_0 (v25 : Arr Int) : St := ⟨(un 1 ((slC intC v25) :: (un 25 []))), [], 0⟩
def newelref01_History_b2 {R : Type} (N : Nat) (rc : Arr Int → Int → api_Stop → Option R) (v25 : Arr Int) (v26 : Int) (v27 : api_Stop) (kr : Bool → Option R) (k0 : Unit → Option R) : Option R :=
  bif decide (v26 < (↑(Arr.n v25) : Int)) then
   bif decide ((0 : Int) ≤ v26) && decide (v26 < (↑(Arr.n v25) : Int)) then
    newelref01_within N (Arr.f v25 (Int.toNat v26)) (api_Span.Low (api_Stop.Loads v27)) (api_Span.High (api_Stop.Loads v27)) (fun r28 =>
    bif !r28 then
     kr false
    else
     rc v25 (w64 (v26 + (1 : Int))) v27)
   else
    Option.none
  else
   k0 ()
def newelref01_History_l2 {R : Type} (N : Nat) : Nat → Arr Int → Int → api_Stop → (Bool → Option R) → (Unit → Option R) → Option R
  | 0, _, _, _, _, _ => Option.none
  | n + 1, v25, v26, v27, kr, k0 => newelref01_History_b2 N (fun v25 v26 v27 => newelref01_History_l2 N n v25 v26 v27 kr k0) v25 v26 v27 kr k0


def newelref01_History_m {R : Type} (N : Nat) (a23 : api_Stop) (a24 : Arr Int) (k : Bool → Option R) : Option R :=
  newelref01_History_l2 N N a24 (0 : Int) a23 (fun r29 =>
   k r29) (fun (_ : Unit) =>
   k (decide ((↑(Arr.n a24) : Int) ≤ (100 : Int))))
noncomputable def newelref01_History {R : Type} : Nat → api_Stop → Arr Int → (Bool → Option R) → Option R := lock (@newelref01_History_m R)
theorem newelref01_History_def {R : Type} (N : Nat) (a23 : api_Stop) (a24 : Arr Int) (k : Bool → Option R) : newelref01_History N a23 a24 k = newelref01_History_m N a23 a24 k := by unfold newelref01_History; rw [lock_eq]
def newelref01_History_sp : Sp := ⟨[rAgg api_StopC, rSl intC], []⟩
theorem newelref01_History_sp_ok : newelref01_History_sp.Ok := ⟨(allCons (rAgg_ok api_StopC_ok api_StopC_len) (allCons (rSl_ok intC_ok) allNil)), eNil⟩
def newelref01_History_rs : Sp := ⟨[rBool], []⟩
theorem newelref01_History_rs_ok : newelref01_History_rs.Ok := ⟨(allCons rBool_ok allNil), eNil⟩
def newelref01_History_run {R : Type} (N : Nat) (args : List SV) (T : Tab) (kf : SV × Tab → Option R) : Option R :=
  newelref01_History_m N (Cod.dec api_StopC (lget (toCs (lget args 0)))) (lstC intC (lget args 1)) (fun q0 => kf (lget [.bool q0] 0, []))
def newelref01_History_d2 {R : Type} (N : Nat) (S0 : St) (k : Exit → St → Option R) : Option R :=
  newelref01_History_l2 N N (lstC intC (lget S0.tmps 1)) (toI (lget S0.tmps 5)) (Cod.dec api_StopC (lget (entCs (entAt S0.tab 0)))) (fun q0 => k .ret (newelref01_History_x2_r q0)) (fun (_ : Unit) => k (.exit 0) (newelref01_History_x2_0 (lstC intC (lget S0.tmps 1))))
def newelref01_History_lp {R : Type} (N : Nat) : Lp R := fun body S k => bif (Go.Sx.keyOf body).getD 0 == 2 then newelref01_History_L2.head.raw 0 S (fun S0 => newelref01_History_d2 N S0 k) else Option.none
theorem newelref01_History_l2_eq {R : Type} (N : Nat) (k : Exit → St → Option R) (n : Nat) : ∀ (v0 : Arr Int) (v1 : Int) (v2 : api_Stop), loopM E.Θ (newelref01_CheckStop_cal N) (newelref01_History_lp N) (noJn) 0 newelref01_History_L2 (bodyAt E 28 2) n (newelref01_History_h2 v0 v1 v2) k = newelref01_History_l2 N n v0 v1 v2 (fun q0 => k .ret (newelref01_History_x2_r q0)) (fun (_ : Unit) => k (.exit 0) (newelref01_History_x2_0 v0)) := by
  induction n with
  | zero => intro v0 v1 v2; rfl
  | succ n ih =>
    intro v0 v1 v2
    refine Eq.trans (b := newelref01_History_b2 N (fun v0 v1 v2 => loopM E.Θ (newelref01_CheckStop_cal N) (newelref01_History_lp N) (noJn) 0 newelref01_History_L2 (bodyAt E 28 2) n (newelref01_History_h2 v0 v1 v2) k) v0 v1 v2 (fun q0 => k .ret (newelref01_History_x2_r q0)) (fun (_ : Unit) => k (.exit 0) (newelref01_History_x2_0 v0))) (by kernel_rfl) ?_
    have h : (fun (v0 : Arr Int) (v1 : Int) (v2 : api_Stop) => loopM E.Θ (newelref01_CheckStop_cal N) (newelref01_History_lp N) (noJn) 0 newelref01_History_L2 (bodyAt E 28 2) n (newelref01_History_h2 v0 v1 v2) k) = (fun (v0 : Arr Int) (v1 : Int) (v2 : api_Stop) => newelref01_History_l2 N n v0 v1 v2 (fun q0 => k .ret (newelref01_History_x2_r q0)) (fun (_ : Unit) => k (.exit 0) (newelref01_History_x2_0 v0))) := funext fun v0 => funext fun v1 => funext fun v2 => ih v0 v1 v2
    rw [h]
    rfl
theorem newelref01_History_k2 {R : Type} (N : Nat) : LpKey (R := R) E 28 0 (newelref01_History_lp N) 2 :=
  lpKey_of hE (newelref01_CheckStop_cal_ok N) (jn := noJn) newelref01_History_L2_ok [] kNil (by kernel_rfl) [] jNil (by kernel_rfl) N fun S k =>
    Eq.trans (b := newelref01_History_L2.head.raw 0 S (fun S0 => newelref01_History_d2 N S0 k)) (by kernel_rfl) (congrArg (newelref01_History_L2.head.raw 0 S) (funext fun S0 => Eq.trans (newelref01_History_l2_eq N k N (lstC intC (lget S0.tmps 1)) (toI (lget S0.tmps 5)) (Cod.dec api_StopC (lget (entCs (entAt S0.tab 0))))).symm (by kernel_rfl)))
noncomputable def newelref01_History_go {R : Type} (N : Nat) (args : List SV) (T : Tab) (kf : SV × Tab → Option R) : Option R :=
  newelref01_History N (Cod.dec api_StopC (lget (toCs (lget args 0)))) (lstC intC (lget args 1)) (fun q0 => kf (lget [.bool q0] 0, []))
noncomputable def newelref01_History_cal {R : Type} (N : Nat) : Cal R := callM (newelref01_CheckStop_cal N) 28 0 newelref01_History_sp (newelref01_History_go N)
theorem newelref01_History_cal_ok {R : Type} (N : Nat) : CalOk E.P (newelref01_History_cal (R := R) N) :=
  callM_ok hE (newelref01_CheckStop_cal_ok N) (lp := newelref01_History_lp N) (jn := noJn) (keys := [2]) (kCons (newelref01_History_k2 N) kNil) (by kernel_rfl) (js := []) jNil (by kernel_rfl) newelref01_History_sp_ok newelref01_History_rs_ok (fun args T kf => Eq.trans (newelref01_History_def N (Cod.dec api_StopC (lget (toCs (lget args 0)))) (lstC intC (lget args 1)) (fun q0 => kf (lget [.bool q0] 0, []))) (by kernel_rfl : newelref01_History_run N args T kf = fnM E (newelref01_CheckStop_cal N) (newelref01_History_lp N) (noJn) 28 (newelref01_History_sp.vs args) (newelref01_History_sp.tab T) 0 (resK newelref01_History_rs kf)))

def newelref01_Behind_L3 : LoopSp := ⟨⟨[0, 3, 4], ⟨((rSl intC) :: (dr 2 ((rInt .i64) :: (rInt .i64) :: (dr 15 [])))), []⟩, 0⟩, [(some 0, ⟨[3], ⟨(dr 3 ((rInt .i64) :: (dr 16 []))), []⟩, 0⟩)]⟩
theorem newelref01_Behind_L3_ok : newelref01_Behind_L3.Ok := ⟨⟨(allCons (rSl_ok intC_ok) (drCons 2 (allCons (rInt_ok .i64) (allCons (rInt_ok .i64) (drCons 15 allNil))))), eNil⟩, (xCons ⟨(drCons 3 (allCons (rInt_ok .i64) (drCons 16 allNil))), eNil⟩ xNil)⟩
def newelref01_Behind_h3 (v31 : Arr Int) (v32 : Int) (v33 : Int) : St := ⟨((slC intC v31) :: (un 2 ((.int .i64 v32) :: (.int .i64 v33) :: (un 15 [])))), [], 0⟩
def newelref01_Behind_x3_0 (q0 : Int) : St := ⟨(un 3 ((.int .i64 q0) :: (un 16 []))), [], 0⟩
def newelref01_Behind_b3 {R : Type} (N : Nat) (rc : Arr Int → Int → Int → Option R) (v31 : Arr Int) (v32 : Int) (v33 : Int) (k0 : Int → Option R) : Option R :=
  bif decide (v33 < (↑(Arr.n v31) : Int)) then
   bif decide ((0 : Int) ≤ v33) && decide (v33 < (↑(Arr.n v31) : Int)) then
    rc v31 (w64 (v32 + if w64 ((0 : Int) - Arr.f v31 (Int.toNat v33)) > (0 : Int) then w64 ((0 : Int) - Arr.f v31 (Int.toNat v33)) else (0 : Int))) (w64 (v33 + (1 : Int)))
   else
    Option.none
  else
   k0 v32
def newelref01_Behind_l3 {R : Type} (N : Nat) : Nat → Arr Int → Int → Int → (Int → Option R) → Option R
  | 0, _, _, _, _ => Option.none
  | n + 1, v31, v32, v33, k0 => newelref01_Behind_b3 N (fun v31 v32 v33 => newelref01_Behind_l3 N n v31 v32 v33 k0) v31 v32 v33 k0


def newelref01_Behind_m {R : Type} (N : Nat) (a30 : Arr Int) (k : Int → Option R) : Option R :=
  newelref01_Behind_l3 N N a30 (0 : Int) (0 : Int) (fun r34 =>
   k r34)
noncomputable def newelref01_Behind {R : Type} : Nat → Arr Int → (Int → Option R) → Option R := lock (@newelref01_Behind_m R)
theorem newelref01_Behind_def {R : Type} (N : Nat) (a30 : Arr Int) (k : Int → Option R) : newelref01_Behind N a30 k = newelref01_Behind_m N a30 k := by unfold newelref01_Behind; rw [lock_eq]
def newelref01_Behind_sp : Sp := ⟨[rSl intC], []⟩
theorem newelref01_Behind_sp_ok : newelref01_Behind_sp.Ok := ⟨(allCons (rSl_ok intC_ok) allNil), eNil⟩
def newelref01_Behind_rs : Sp := ⟨[rInt .i64], []⟩
theorem newelref01_Behind_rs_ok : newelref01_Behind_rs.Ok := ⟨(allCons (rInt_ok .i64) allNil), eNil⟩
def newelref01_Behind_run {R : Type} (N : Nat) (args : List SV) (T : Tab) (kf : SV × Tab → Option R) : Option R :=
  newelref01_Behind_m N (lstC intC (lget args 0)) (fun q0 => kf (lget [.int .i64 q0] 0, []))
def newelref01_Behind_d3 {R : Type} (N : Nat) (S0 : St) (k : Exit → St → Option R) : Option R :=
  newelref01_Behind_l3 N N (lstC intC (lget S0.tmps 0)) (toI (lget S0.tmps 3)) (toI (lget S0.tmps 4)) (fun q0 => k (.exit 0) (newelref01_Behind_x3_0 q0))
def newelref01_Behind_lp {R : Type} (N : Nat) : Lp R := fun body S k => bif (Go.Sx.keyOf body).getD 0 == 3 then newelref01_Behind_L3.head.raw 0 S (fun S0 => newelref01_Behind_d3 N S0 k) else Option.none
theorem newelref01_Behind_l3_eq {R : Type} (N : Nat) (k : Exit → St → Option R) (n : Nat) : ∀ (v0 : Arr Int) (v1 : Int) (v2 : Int), loopM E.Θ (newelref01_History_cal N) (newelref01_Behind_lp N) (noJn) 0 newelref01_Behind_L3 (bodyAt E 37 3) n (newelref01_Behind_h3 v0 v1 v2) k = newelref01_Behind_l3 N n v0 v1 v2 (fun q0 => k (.exit 0) (newelref01_Behind_x3_0 q0)) := by
  induction n with
  | zero => intro v0 v1 v2; rfl
  | succ n ih =>
    intro v0 v1 v2
    refine Eq.trans (b := newelref01_Behind_b3 N (fun v0 v1 v2 => loopM E.Θ (newelref01_History_cal N) (newelref01_Behind_lp N) (noJn) 0 newelref01_Behind_L3 (bodyAt E 37 3) n (newelref01_Behind_h3 v0 v1 v2) k) v0 v1 v2 (fun q0 => k (.exit 0) (newelref01_Behind_x3_0 q0))) (by kernel_rfl) ?_
    have h : (fun (v0 : Arr Int) (v1 : Int) (v2 : Int) => loopM E.Θ (newelref01_History_cal N) (newelref01_Behind_lp N) (noJn) 0 newelref01_Behind_L3 (bodyAt E 37 3) n (newelref01_Behind_h3 v0 v1 v2) k) = (fun (v0 : Arr Int) (v1 : Int) (v2 : Int) => newelref01_Behind_l3 N n v0 v1 v2 (fun q0 => k (.exit 0) (newelref01_Behind_x3_0 q0))) := funext fun v0 => funext fun v1 => funext fun v2 => ih v0 v1 v2
    rw [h]
    rfl
theorem newelref01_Behind_k3 {R : Type} (N : Nat) : LpKey (R := R) E 37 0 (newelref01_Behind_lp N) 3 :=
  lpKey_of hE (newelref01_History_cal_ok N) (jn := noJn) newelref01_Behind_L3_ok [] kNil (by kernel_rfl) [] jNil (by kernel_rfl) N fun S k =>
    Eq.trans (b := newelref01_Behind_L3.head.raw 0 S (fun S0 => newelref01_Behind_d3 N S0 k)) (by kernel_rfl) (congrArg (newelref01_Behind_L3.head.raw 0 S) (funext fun S0 => Eq.trans (newelref01_Behind_l3_eq N k N (lstC intC (lget S0.tmps 0)) (toI (lget S0.tmps 3)) (toI (lget S0.tmps 4))).symm (by kernel_rfl)))
noncomputable def newelref01_Behind_go {R : Type} (N : Nat) (args : List SV) (T : Tab) (kf : SV × Tab → Option R) : Option R :=
  newelref01_Behind N (lstC intC (lget args 0)) (fun q0 => kf (lget [.int .i64 q0] 0, []))
noncomputable def newelref01_Behind_cal {R : Type} (N : Nat) : Cal R := callM (newelref01_History_cal N) 37 0 newelref01_Behind_sp (newelref01_Behind_go N)
theorem newelref01_Behind_cal_ok {R : Type} (N : Nat) : CalOk E.P (newelref01_Behind_cal (R := R) N) :=
  callM_ok hE (newelref01_History_cal_ok N) (lp := newelref01_Behind_lp N) (jn := noJn) (keys := [3]) (kCons (newelref01_Behind_k3 N) kNil) (by kernel_rfl) (js := []) jNil (by kernel_rfl) newelref01_Behind_sp_ok newelref01_Behind_rs_ok (fun args T kf => Eq.trans (newelref01_Behind_def N (lstC intC (lget args 0)) (fun q0 => kf (lget [.int .i64 q0] 0, []))) (by kernel_rfl : newelref01_Behind_run N args T kf = fnM E (newelref01_History_cal N) (newelref01_Behind_lp N) (noJn) 37 (newelref01_Behind_sp.vs args) (newelref01_Behind_sp.tab T) 0 (resK newelref01_Behind_rs kf)))

def newelref01_Rest_L4 : LoopSp := ⟨⟨[1, 4, 7], ⟨(dr 1 ((rSl intC) :: (dr 2 ((rInt .i64) :: (dr 2 ((rInt .i64) :: (dr 25 []))))))), []⟩, 0⟩, [(Option.none, ⟨[4, 5, 6], ⟨(dr 4 ((rInt .i64) :: (rInt .i64) :: (rBool) :: (dr 26 []))), []⟩, 0⟩), (some 0, ⟨[1, 4], ⟨(dr 1 ((rSl intC) :: (dr 2 ((rInt .i64) :: (dr 28 []))))), []⟩, 0⟩)]⟩
theorem newelref01_Rest_L4_ok : newelref01_Rest_L4.Ok := ⟨⟨(drCons 1 (allCons (rSl_ok intC_ok) (drCons 2 (allCons (rInt_ok .i64) (drCons 2 (allCons (rInt_ok .i64) (drCons 25 allNil))))))), eNil⟩, (xCons ⟨(drCons 4 (allCons (rInt_ok .i64) (allCons (rInt_ok .i64) (allCons rBool_ok (drCons 26 allNil))))), eNil⟩ (xCons ⟨(drCons 1 (allCons (rSl_ok intC_ok) (drCons 2 (allCons (rInt_ok .i64) (drCons 28 allNil))))), eNil⟩ xNil))⟩
def newelref01_Rest_h4 (v37 : Arr Int) (v38 : Int) (v39 : Int) : St := ⟨(un 1 ((slC intC v37) :: (un 2 ((.int .i64 v38) :: (un 2 ((.int .i64 v39) :: (un 25 []))))))), [], 0⟩
def newelref01_Rest_x4_r (q0 : Int) (q1 : Int) (q2 : Bool) : St := ⟨(un 4 ((.int .i64 q0) :: (.int .i64 q1) :: (.bool q2) :: (un 26 []))), [], 0⟩
def newelref01_Rest_x4_0 (v37 : Arr Int) (q1 : Int) : St := ⟨(un 1 ((slC intC v37) :: (un 2 ((.int .i64 q1) :: (un 28 []))))), [], 0⟩
def newelref01_Rest_b4 {R : Type} (N : Nat) (rc : Arr Int → Int → Int → Option R) (v37 : Arr Int) (v38 : Int) (v39 : Int) (kr : Int → Int → Bool → Option R) (k0 : Int → Option R) : Option R :=
  bif decide (v39 < (↑(Arr.n v37) : Int)) then
   bif decide ((0 : Int) ≤ v39) && decide (v39 < (↑(Arr.n v37) : Int)) then
    bif decide ((0 : Int) ≤ v39) && decide (v39 < (↑(Arr.n v37) : Int)) then
     bif Arr.f v37 (Int.toNat v39) == (0 : Int) then
      kr (w64 (v38 + Arr.f v37 (Int.toNat v39))) (w64 (v39 + (1 : Int))) true
     else
      rc v37 (w64 (v38 + Arr.f v37 (Int.toNat v39))) (w64 (v39 + (1 : Int)))
    else
     Option.none
   else
    Option.none
  else
   k0 v38
def newelref01_Rest_l4 {R : Type} (N : Nat) : Nat → Arr Int → Int → Int → (Int → Int → Bool → Option R) → (Int → Option R) → Option R
  | 0, _, _, _, _, _ => Option.none
  | n + 1, v37, v38, v39, kr, k0 => newelref01_Rest_b4 N (fun v37 v38 v39 => newelref01_Rest_l4 N n v37 v38 v39 kr k0) v37 v38 v39 kr k0


def newelref01_Rest_m {R : Type} (N : Nat) (a35 : Int) (a36 : Arr Int) (k : Int → Int → Bool → Option R) : Option R :=
  bif a35 == (0 : Int) then
   k (0 : Int) (0 : Int) true
  else
   newelref01_Rest_l4 N N a36 (0 : Int) (0 : Int) (fun r40 r41 r42 =>
    k r40 r41 r42) (fun r43 =>
    k r43 ((↑(Arr.n a36) : Int)) false)
noncomputable def newelref01_Rest {R : Type} : Nat → Int → Arr Int → (Int → Int → Bool → Option R) → Option R := lock (@newelref01_Rest_m R)
theorem newelref01_Rest_def {R : Type} (N : Nat) (a35 : Int) (a36 : Arr Int) (k : Int → Int → Bool → Option R) : newelref01_Rest N a35 a36 k = newelref01_Rest_m N a35 a36 k := by unfold newelref01_Rest; rw [lock_eq]
def newelref01_Rest_sp : Sp := ⟨[rInt .i64, rSl intC], []⟩
theorem newelref01_Rest_sp_ok : newelref01_Rest_sp.Ok := ⟨(allCons (rInt_ok .i64) (allCons (rSl_ok intC_ok) allNil)), eNil⟩
def newelref01_Rest_rs : Sp := ⟨[rTup [rInt .i64, rInt .i64, rBool]], []⟩
theorem newelref01_Rest_rs_ok : newelref01_Rest_rs.Ok := ⟨(allCons (rTup_ok (allCons (rInt_ok .i64) (allCons (rInt_ok .i64) (allCons rBool_ok allNil)))) allNil), eNil⟩
def newelref01_Rest_run {R : Type} (N : Nat) (args : List SV) (T : Tab) (kf : SV × Tab → Option R) : Option R :=
  newelref01_Rest_m N (toI (lget args 0)) (lstC intC (lget args 1)) (fun q0 q1 q2 => kf (lget [.tup [.int .i64 q0, .int .i64 q1, .bool q2]] 0, []))
def newelref01_Rest_d4 {R : Type} (N : Nat) (S0 : St) (k : Exit → St → Option R) : Option R :=
  newelref01_Rest_l4 N N (lstC intC (lget S0.tmps 1)) (toI (lget S0.tmps 4)) (toI (lget S0.tmps 7)) (fun q0 q1 q2 => k .ret (newelref01_Rest_x4_r q0 q1 q2)) (fun q1 => k (.exit 0) (newelref01_Rest_x4_0 (lstC intC (lget S0.tmps 1)) q1))
def newelref01_Rest_lp {R : Type} (N : Nat) : Lp R := fun body S k => bif (Go.Sx.keyOf body).getD 0 == 4 then newelref01_Rest_L4.head.raw 0 S (fun S0 => newelref01_Rest_d4 N S0 k) else Option.none
theorem newelref01_Rest_l4_eq {R : Type} (N : Nat) (k : Exit → St → Option R) (n : Nat) : ∀ (v0 : Arr Int) (v1 : Int) (v2 : Int), loopM E.Θ (newelref01_Behind_cal N) (newelref01_Rest_lp N) (noJn) 0 newelref01_Rest_L4 (bodyAt E 38 4) n (newelref01_Rest_h4 v0 v1 v2) k = newelref01_Rest_l4 N n v0 v1 v2 (fun q0 q1 q2 => k .ret (newelref01_Rest_x4_r q0 q1 q2)) (fun q1 => k (.exit 0) (newelref01_Rest_x4_0 v0 q1)) := by
  induction n with
  | zero => intro v0 v1 v2; rfl
  | succ n ih =>
    intro v0 v1 v2
    refine Eq.trans (b := newelref01_Rest_b4 N (fun v0 v1 v2 => loopM E.Θ (newelref01_Behind_cal N) (newelref01_Rest_lp N) (noJn) 0 newelref01_Rest_L4 (bodyAt E 38 4) n (newelref01_Rest_h4 v0 v1 v2) k) v0 v1 v2 (fun q0 q1 q2 => k .ret (newelref01_Rest_x4_r q0 q1 q2)) (fun q1 => k (.exit 0) (newelref01_Rest_x4_0 v0 q1))) (by kernel_rfl) ?_
    have h : (fun (v0 : Arr Int) (v1 : Int) (v2 : Int) => loopM E.Θ (newelref01_Behind_cal N) (newelref01_Rest_lp N) (noJn) 0 newelref01_Rest_L4 (bodyAt E 38 4) n (newelref01_Rest_h4 v0 v1 v2) k) = (fun (v0 : Arr Int) (v1 : Int) (v2 : Int) => newelref01_Rest_l4 N n v0 v1 v2 (fun q0 q1 q2 => k .ret (newelref01_Rest_x4_r q0 q1 q2)) (fun q1 => k (.exit 0) (newelref01_Rest_x4_0 v0 q1))) := funext fun v0 => funext fun v1 => funext fun v2 => ih v0 v1 v2
    rw [h]
    rfl
theorem newelref01_Rest_k4 {R : Type} (N : Nat) : LpKey (R := R) E 38 0 (newelref01_Rest_lp N) 4 :=
  lpKey_of hE (newelref01_Behind_cal_ok N) (jn := noJn) newelref01_Rest_L4_ok [] kNil (by kernel_rfl) [] jNil (by kernel_rfl) N fun S k =>
    Eq.trans (b := newelref01_Rest_L4.head.raw 0 S (fun S0 => newelref01_Rest_d4 N S0 k)) (by kernel_rfl) (congrArg (newelref01_Rest_L4.head.raw 0 S) (funext fun S0 => Eq.trans (newelref01_Rest_l4_eq N k N (lstC intC (lget S0.tmps 1)) (toI (lget S0.tmps 4)) (toI (lget S0.tmps 7))).symm (by kernel_rfl)))
noncomputable def newelref01_Rest_go {R : Type} (N : Nat) (args : List SV) (T : Tab) (kf : SV × Tab → Option R) : Option R :=
  newelref01_Rest N (toI (lget args 0)) (lstC intC (lget args 1)) (fun q0 q1 q2 => kf (lget [.tup [.int .i64 q0, .int .i64 q1, .bool q2]] 0, []))
noncomputable def newelref01_Rest_cal {R : Type} (N : Nat) : Cal R := callM (newelref01_Behind_cal N) 38 0 newelref01_Rest_sp (newelref01_Rest_go N)
theorem newelref01_Rest_cal_ok {R : Type} (N : Nat) : CalOk E.P (newelref01_Rest_cal (R := R) N) :=
  callM_ok hE (newelref01_Behind_cal_ok N) (lp := newelref01_Rest_lp N) (jn := noJn) (keys := [4]) (kCons (newelref01_Rest_k4 N) kNil) (by kernel_rfl) (js := []) jNil (by kernel_rfl) newelref01_Rest_sp_ok newelref01_Rest_rs_ok (fun args T kf => Eq.trans (newelref01_Rest_def N (toI (lget args 0)) (lstC intC (lget args 1)) (fun q0 q1 q2 => kf (lget [.tup [.int .i64 q0, .int .i64 q1, .bool q2]] 0, []))) (by kernel_rfl : newelref01_Rest_run N args T kf = fnM E (newelref01_Behind_cal N) (newelref01_Rest_lp N) (noJn) 38 (newelref01_Rest_sp.vs args) (newelref01_Rest_sp.tab T) 0 (resK newelref01_Rest_rs kf)))


def newelref03_within_m {R : Type} (N : Nat) (a44 : Int) (a45 : Int) (a46 : Int) (k : Bool → Option R) : Option R :=
  bif decide (a44 ≥ a45) then
   k (decide (a44 ≤ a46))
  else
   k false
noncomputable def newelref03_within {R : Type} : Nat → Int → Int → Int → (Bool → Option R) → Option R := lock (@newelref03_within_m R)
theorem newelref03_within_def {R : Type} (N : Nat) (a44 : Int) (a45 : Int) (a46 : Int) (k : Bool → Option R) : newelref03_within N a44 a45 a46 k = newelref03_within_m N a44 a45 a46 k := by unfold newelref03_within; rw [lock_eq]
def newelref03_within_sp : Sp := ⟨[rInt .i64, rInt .i64, rInt .i64], []⟩
theorem newelref03_within_sp_ok : newelref03_within_sp.Ok := ⟨(allCons (rInt_ok .i64) (allCons (rInt_ok .i64) (allCons (rInt_ok .i64) allNil))), eNil⟩
def newelref03_within_rs : Sp := ⟨[rBool], []⟩
theorem newelref03_within_rs_ok : newelref03_within_rs.Ok := ⟨(allCons rBool_ok allNil), eNil⟩
def newelref03_within_run {R : Type} (N : Nat) (args : List SV) (T : Tab) (kf : SV × Tab → Option R) : Option R :=
  newelref03_within_m N (toI (lget args 0)) (toI (lget args 1)) (toI (lget args 2)) (fun q0 => kf (lget [.bool q0] 0, []))
def newelref03_within_lp {R : Type} (N : Nat) : Lp R := fun body S k => Option.none
noncomputable def newelref03_within_go {R : Type} (N : Nat) (args : List SV) (T : Tab) (kf : SV × Tab → Option R) : Option R :=
  newelref03_within N (toI (lget args 0)) (toI (lget args 1)) (toI (lget args 2)) (fun q0 => kf (lget [.bool q0] 0, []))
noncomputable def newelref03_within_cal {R : Type} (N : Nat) : Cal R := callM (newelref01_Rest_cal N) 80 0 newelref03_within_sp (newelref03_within_go N)
theorem newelref03_within_cal_ok {R : Type} (N : Nat) : CalOk E.P (newelref03_within_cal (R := R) N) :=
  callM_ok hE (newelref01_Rest_cal_ok N) (lp := newelref03_within_lp N) (jn := noJn) (keys := []) kNil (by kernel_rfl) (js := []) jNil (by kernel_rfl) newelref03_within_sp_ok newelref03_within_rs_ok (fun args T kf => Eq.trans (newelref03_within_def N (toI (lget args 0)) (toI (lget args 1)) (toI (lget args 2)) (fun q0 => kf (lget [.bool q0] 0, []))) (by kernel_rfl : newelref03_within_run N args T kf = fnM E (newelref01_Rest_cal N) (newelref03_within_lp N) (noJn) 80 (newelref03_within_sp.vs args) (newelref03_within_sp.tab T) 0 (resK newelref03_within_rs kf)))

def newelref03_Check_L4 : LoopSp := ⟨⟨[1, 3], ⟨(dr 1 ((rPtr 0 0) :: (dr 1 ((rInt .i64) :: (dr 130 []))))), [(0, eBlkC api_CircuitC)]⟩, 1⟩, [(Option.none, ⟨[2], ⟨(dr 2 ((rInt .i64) :: (dr 131 []))), []⟩, 0⟩), (some 0, ⟨[1], ⟨(dr 1 ((rPtr 0 0) :: (dr 132 []))), [(0, eBlkC api_CircuitC)]⟩, 1⟩)]⟩
theorem newelref03_Check_L4_ok : newelref03_Check_L4.Ok := ⟨⟨(drCons 1 (allCons (rPtr_ok 0 0) (drCons 1 (allCons (rInt_ok .i64) (drCons 130 allNil))))), (eCons (eBlkC_ok api_CircuitC_ok api_CircuitC_len) eNil)⟩, (xCons ⟨(drCons 2 (allCons (rInt_ok .i64) (drCons 131 allNil))), eNil⟩ (xCons ⟨(drCons 1 (allCons (rPtr_ok 0 0) (drCons 132 allNil))), (eCons (eBlkC_ok api_CircuitC_ok api_CircuitC_len) eNil)⟩ xNil))⟩
def newelref03_Check_h4 (v51 : Int) (v52 : api_Circuit) : St := ⟨(un 1 ((.ptr 0 0) :: (un 1 ((.int .i64 v51) :: (un 130 []))))), [(0, .blk (Cod.enc api_CircuitC v52))], 1⟩
def newelref03_Check_x4_r (q0 : Int) : St := ⟨(un 2 ((.int .i64 q0) :: (un 131 []))), [], 0⟩
def newelref03_Check_x4_0 (v52 : api_Circuit) : St := ⟨(un 1 ((.ptr 0 0) :: (un 132 []))), [(0, .blk (Cod.enc api_CircuitC v52))], 1⟩
def newelref03_Check_b4 {R : Type} (N : Nat) (rc : Int → api_Circuit → Option R) (v51 : Int) (v52 : api_Circuit) (kr : Int → Option R) (k0 : Unit → Option R) : Option R :=
  bif decide (v51 < (↑(Arr.n (api_Circuit.Switches v52)) : Int)) then
   bif decide ((0 : Int) ≤ v51) && decide (v51 < (↑(Arr.n (api_Circuit.Switches v52)) : Int)) then
    bif decide (IntKind.wrap IntKind.u64 (api_Circuit.Hazards v52) < (0 : Int)) then
     Option.none
    else
     newelref03_within N (Arr.f (api_Circuit.Switches v52) (Int.toNat v51)) (0 : Int) (w64 (w64 ((1 : Int) * (2 : Int) ^ min (Int.toNat (IntKind.wrap IntKind.u64 (api_Circuit.Hazards v52))) (IntKind.bits IntKind.i64)) - (1 : Int))) (fun r53 =>
     bif !r53 then
      kr (30 : Int)
     else
      rc (w64 (v51 + (1 : Int))) v52)
   else
    Option.none
  else
   k0 ()
def newelref03_Check_l4 {R : Type} (N : Nat) : Nat → Int → api_Circuit → (Int → Option R) → (Unit → Option R) → Option R
  | 0, _, _, _, _ => Option.none
  | n + 1, v51, v52, kr, k0 => newelref03_Check_b4 N (fun v51 v52 => newelref03_Check_l4 N n v51 v52 kr k0) v51 v52 kr k0

def newelref03_Check_L24 : LoopSp := ⟨⟨[1, 4, 5, 6, 7, 8], ⟨(dr 1 ((rPtr 0 0) :: (dr 2 ((rRow 1) :: (rInt .i64) :: (rPtr 2 0) :: (rInt .i64) :: (rInt .i64) :: (dr 125 []))))), [(0, eBlkC api_CircuitC), (1, eRow intC), (2, eBlkC api_WireC)]⟩, 3⟩, [(Option.none, ⟨[2], ⟨(dr 2 ((rInt .i64) :: (dr 131 []))), []⟩, 0⟩), (some 5, ⟨[1, 4, 5], ⟨(dr 1 ((rPtr 0 0) :: (dr 2 ((rRow 1) :: (rInt .i64) :: (dr 128 []))))), [(0, eBlkC api_CircuitC), (1, eRow intC)]⟩, 2⟩)]⟩
theorem newelref03_Check_L24_ok : newelref03_Check_L24.Ok := ⟨⟨(drCons 1 (allCons (rPtr_ok 0 0) (drCons 2 (allCons (rRow_ok 1) (allCons (rInt_ok .i64) (allCons (rPtr_ok 2 0) (allCons (rInt_ok .i64) (allCons (rInt_ok .i64) (drCons 125 allNil))))))))), (eCons (eBlkC_ok api_CircuitC_ok api_CircuitC_len) (eCons (eRow_ok intC_ok) (eCons (eBlkC_ok api_WireC_ok api_WireC_len) eNil)))⟩, (xCons ⟨(drCons 2 (allCons (rInt_ok .i64) (drCons 131 allNil))), eNil⟩ (xCons ⟨(drCons 1 (allCons (rPtr_ok 0 0) (drCons 2 (allCons (rRow_ok 1) (allCons (rInt_ok .i64) (drCons 128 allNil)))))), (eCons (eBlkC_ok api_CircuitC_ok api_CircuitC_len) (eCons (eRow_ok intC_ok) eNil))⟩ xNil))⟩
def newelref03_Check_h24 (v61 : Int) (v62 : Int) (v63 : Int) (v64 : api_Circuit) (v65 : Bool) (v66 : Arr Int) (v67 : api_Wire) : St := ⟨(un 1 ((.ptr 0 0) :: (un 2 ((.row 1) :: (.int .i64 v61) :: (.ptr 2 0) :: (.int .i64 v62) :: (.int .i64 v63) :: (un 125 []))))), [(0, .blk (Cod.enc api_CircuitC v64)), (1, rowE intC v65 v66), (2, .blk (Cod.enc api_WireC v67))], 3⟩
def newelref03_Check_x24_r (q0 : Int) : St := ⟨(un 2 ((.int .i64 q0) :: (un 131 []))), [], 0⟩
def newelref03_Check_x24_5 (v61 : Int) (v64 : api_Circuit) (v65 : Bool) (q3 : Arr Int) : St := ⟨(un 1 ((.ptr 0 0) :: (un 2 ((.row 1) :: (.int .i64 v61) :: (un 128 []))))), [(0, .blk (Cod.enc api_CircuitC v64)), (1, rowE intC v65 q3)], 2⟩
def newelref03_Check_b24 {R : Type} (N : Nat) (rc : Int → Int → Int → api_Circuit → Bool → Arr Int → api_Wire → Option R) (v61 : Int) (v62 : Int) (v63 : Int) (v64 : api_Circuit) (v65 : Bool) (v66 : Arr Int) (v67 : api_Wire) (kr : Int → Option R) (k5 : Arr Int → Option R) : Option R :=
  bif decide (v63 < (↑(Arr.n (api_Wire.Of v67)) : Int)) then
   bif decide ((0 : Int) ≤ v63) && decide (v63 < (↑(Arr.n (api_Wire.Of v67)) : Int)) then
    newelref03_within N (Arr.f (api_Wire.Of v67) (Int.toNat v63)) (w64 (v62 + (1 : Int))) (w64 ((↑(Arr.n (api_Circuit.Wires v64)) : Int) - (1 : Int))) (fun r68 =>
    bif !r68 then
     kr (30 : Int)
    else
     bif decide ((0 : Int) ≤ v63) && decide (v63 < (↑(Arr.n (api_Wire.Of v67)) : Int)) then
      bif decide ((0 : Int) ≤ Arr.f (api_Wire.Of v67) (Int.toNat v63)) && decide (Arr.f (api_Wire.Of v67) (Int.toNat v63) < (↑(Arr.n v66) : Int)) then
       bif decide ((0 : Int) ≤ Arr.f (api_Wire.Of v67) (Int.toNat v63)) && decide (Arr.f (api_Wire.Of v67) (Int.toNat v63) < (↑(Arr.n v66) : Int)) then
        rc v61 (Arr.f (api_Wire.Of v67) (Int.toNat v63)) (w64 (v63 + (1 : Int))) v64 v65 (lst intC (Arr.n v66) (setCs (Int.toNat (Arr.f (api_Wire.Of v67) (Int.toNat v63))) (0 : Nat) (Cod.cell intC (Arr.f v66)) [SV.int IntKind.i64 (w64 (Arr.f v66 (Int.toNat (Arr.f (api_Wire.Of v67) (Int.toNat v63))) + (1 : Int)))])) v67
       else
        Option.none
      else
       Option.none
     else
      Option.none)
   else
    Option.none
  else
   k5 v66
def newelref03_Check_l24 {R : Type} (N : Nat) : Nat → Int → Int → Int → api_Circuit → Bool → Arr Int → api_Wire → (Int → Option R) → (Arr Int → Option R) → Option R
  | 0, _, _, _, _, _, _, _, _, _ => Option.none
  | n + 1, v61, v62, v63, v64, v65, v66, v67, kr, k5 => newelref03_Check_b24 N (fun v61 v62 v63 v64 v65 v66 v67 => newelref03_Check_l24 N n v61 v62 v63 v64 v65 v66 v67 kr k5) v61 v62 v63 v64 v65 v66 v67 kr k5

def newelref03_Check_L10 : LoopSp := ⟨⟨[1, 4, 5], ⟨(dr 1 ((rPtr 0 0) :: (dr 2 ((rRow 1) :: (rInt .i64) :: (dr 128 []))))), [(0, eBlkC api_CircuitC), (1, eRow intC)]⟩, 2⟩, [(Option.none, ⟨[2], ⟨(dr 2 ((rInt .i64) :: (dr 131 []))), []⟩, 0⟩), (some 2, ⟨[4], ⟨(dr 4 ((rRow 0) :: (dr 129 []))), [(0, eRow intC)]⟩, 1⟩)]⟩
theorem newelref03_Check_L10_ok : newelref03_Check_L10.Ok := ⟨⟨(drCons 1 (allCons (rPtr_ok 0 0) (drCons 2 (allCons (rRow_ok 1) (allCons (rInt_ok .i64) (drCons 128 allNil)))))), (eCons (eBlkC_ok api_CircuitC_ok api_CircuitC_len) (eCons (eRow_ok intC_ok) eNil))⟩, (xCons ⟨(drCons 2 (allCons (rInt_ok .i64) (drCons 131 allNil))), eNil⟩ (xCons ⟨(drCons 4 (allCons (rRow_ok 0) (drCons 129 allNil))), (eCons (eRow_ok intC_ok) eNil)⟩ xNil))⟩
def newelref03_Check_h10 (v55 : Int) (v56 : api_Circuit) (v57 : Bool) (v58 : Arr Int) : St := ⟨(un 1 ((.ptr 0 0) :: (un 2 ((.row 1) :: (.int .i64 v55) :: (un 128 []))))), [(0, .blk (Cod.enc api_CircuitC v56)), (1, rowE intC v57 v58)], 2⟩
def newelref03_Check_x10_r (q0 : Int) : St := ⟨(un 2 ((.int .i64 q0) :: (un 131 []))), [], 0⟩
def newelref03_Check_x10_2 (v57 : Bool) (q1 : Arr Int) : St := ⟨(un 4 ((.row 0) :: (un 129 []))), [(0, rowE intC v57 q1)], 1⟩
def newelref03_Check_b10 {R : Type} (N : Nat) (rc : Int → api_Circuit → Bool → Arr Int → Option R) (v55 : Int) (v56 : api_Circuit) (v57 : Bool) (v58 : Arr Int) (kr : Int → Option R) (k2 : Arr Int → Option R) : Option R :=
  bif decide (v55 < (↑(Arr.n (api_Circuit.Wires v56)) : Int)) then
   bif decide ((0 : Int) ≤ v55) && decide (v55 < (↑(Arr.n (api_Circuit.Wires v56)) : Int)) then
    bif api_Wire.Kind (Arr.f (api_Circuit.Wires v56) (Int.toNat v55)) == (1 : Int) then
     bif (↑(Arr.n (api_Wire.Of (Arr.f (api_Circuit.Wires v56) (Int.toNat v55)))) : Int) != (1 : Int) then
      kr (30 : Int)
     else
      bif decide ((0 : Int) < (↑(Arr.n (api_Wire.Of (Arr.f (api_Circuit.Wires v56) (Int.toNat v55)))) : Int)) then
       newelref03_within N (Arr.f (api_Wire.Of (Arr.f (api_Circuit.Wires v56) (Int.toNat v55))) (Int.toNat (0 : Int))) (0 : Int) (w64 ((↑(Arr.n (api_Circuit.Switches v56)) : Int) - (1 : Int))) (fun r59 =>
       bif !r59 then
        kr (30 : Int)
       else
        rc (w64 (v55 + (1 : Int))) v56 v57 v58)
      else
       Option.none
    else
     bif api_Wire.Kind (Arr.f (api_Circuit.Wires v56) (Int.toNat v55)) == (2 : Int) then
      newelref03_within N ((↑(Arr.n (api_Wire.Of (Arr.f (api_Circuit.Wires v56) (Int.toNat v55)))) : Int)) (1 : Int) (8 : Int) (fun r60 =>
      bif !r60 then
       kr (30 : Int)
      else
       newelref03_Check_l24 N N v55 v55 (0 : Int) v56 v57 v58 (Arr.f (api_Circuit.Wires v56) (Int.toNat v55)) (fun r69 =>
        kr r69) (fun r70 =>
        rc (w64 (v55 + (1 : Int))) v56 v57 r70))
     else
      bif api_Wire.Kind (Arr.f (api_Circuit.Wires v56) (Int.toNat v55)) == (3 : Int) then
       newelref03_within N ((↑(Arr.n (api_Wire.Of (Arr.f (api_Circuit.Wires v56) (Int.toNat v55)))) : Int)) (1 : Int) (8 : Int) (fun r71 =>
       bif !r71 then
        kr (30 : Int)
       else
        newelref03_Check_l24 N N v55 v55 (0 : Int) v56 v57 v58 (Arr.f (api_Circuit.Wires v56) (Int.toNat v55)) (fun r72 =>
         kr r72) (fun r73 =>
         rc (w64 (v55 + (1 : Int))) v56 v57 r73))
      else
       kr (30 : Int)
   else
    Option.none
  else
   k2 v58
def newelref03_Check_l10 {R : Type} (N : Nat) : Nat → Int → api_Circuit → Bool → Arr Int → (Int → Option R) → (Arr Int → Option R) → Option R
  | 0, _, _, _, _, _, _ => Option.none
  | n + 1, v55, v56, v57, v58, kr, k2 => newelref03_Check_b10 N (fun v55 v56 v57 v58 => newelref03_Check_l10 N n v55 v56 v57 v58 kr k2) v55 v56 v57 v58 kr k2

def newelref03_Check_L31 : LoopSp := ⟨⟨[4, 9], ⟨(dr 4 ((rRow 0) :: (dr 4 ((rInt .i64) :: (dr 124 []))))), [(0, eRow intC)]⟩, 1⟩, [(Option.none, ⟨[2], ⟨(dr 2 ((rInt .i64) :: (dr 131 []))), []⟩, 0⟩), (some 7, ⟨[], ⟨(dr 134 []), []⟩, 0⟩)]⟩
theorem newelref03_Check_L31_ok : newelref03_Check_L31.Ok := ⟨⟨(drCons 4 (allCons (rRow_ok 0) (drCons 4 (allCons (rInt_ok .i64) (drCons 124 allNil))))), (eCons (eRow_ok intC_ok) eNil)⟩, (xCons ⟨(drCons 2 (allCons (rInt_ok .i64) (drCons 131 allNil))), eNil⟩ (xCons ⟨(drCons 134 allNil), eNil⟩ xNil))⟩
def newelref03_Check_h31 (v76 : Int) (v77 : Bool) (v78 : Arr Int) : St := ⟨(un 4 ((.row 0) :: (un 4 ((.int .i64 v76) :: (un 124 []))))), [(0, rowE intC v77 v78)], 1⟩
def newelref03_Check_x31_r (q0 : Int) : St := ⟨(un 2 ((.int .i64 q0) :: (un 131 []))), [], 0⟩
def newelref03_Check_x31_7  : St := ⟨(un 134 []), [], 0⟩
def newelref03_Check_b31 {R : Type} (N : Nat) (rc : Int → Bool → Arr Int → Option R) (v76 : Int) (v77 : Bool) (v78 : Arr Int) (kr : Int → Option R) (k7 : Unit → Option R) : Option R :=
  bif decide (v76 < (↑(Arr.n v78) : Int)) then
   bif decide ((0 : Int) ≤ v76) && decide (v76 < (↑(Arr.n v78) : Int)) then
    bif Arr.f v78 (Int.toNat v76) != (1 : Int) then
     kr (30 : Int)
    else
     rc (w64 (v76 + (1 : Int))) v77 v78
   else
    Option.none
  else
   k7 ()
def newelref03_Check_l31 {R : Type} (N : Nat) : Nat → Int → Bool → Arr Int → (Int → Option R) → (Unit → Option R) → Option R
  | 0, _, _, _, _, _ => Option.none
  | n + 1, v76, v77, v78, kr, k7 => newelref03_Check_b31 N (fun v76 v77 v78 => newelref03_Check_l31 N n v76 v77 v78 kr k7) v76 v77 v78 kr k7


def newelref03_Check_m {R : Type} (N : Nat) (a47 : api_Circuit) (k : Int → Option R) : Option R :=
  newelref03_within N (api_Circuit.Hazards a47) (1 : Int) (8 : Int) (fun r48 =>
  bif !r48 then
   k (30 : Int)
  else
   newelref03_within N ((↑(Arr.n (api_Circuit.Switches a47)) : Int)) (1 : Int) (12 : Int) (fun r49 =>
   bif !r49 then
    k (30 : Int)
   else
    newelref03_within N ((↑(Arr.n (api_Circuit.Wires a47)) : Int)) (1 : Int) (24 : Int) (fun r50 =>
    bif !r50 then
     k (30 : Int)
    else
     newelref03_Check_l4 N N (0 : Int) a47 (fun r54 =>
      k r54) (fun (_ : Unit) =>
      bif decide ((↑(Arr.n (api_Circuit.Wires a47)) : Int) ≤ (↑(Arr.n (api_Circuit.Wires a47)) : Int)) && decide ((↑(Arr.n (api_Circuit.Wires a47)) : Int) ≤ (1073741824 : Int)) then
       newelref03_Check_l10 N N (0 : Int) a47 false (lst intC (Int.toNat (↑(Arr.n (api_Circuit.Wires a47)) : Int)) (zeroC [SV.int IntKind.i64 (0 : Int)])) (fun r74 =>
        k r74) (fun r75 =>
        newelref03_Check_l31 N N (1 : Int) false r75 (fun r79 =>
         k r79) (fun (_ : Unit) =>
         k (0 : Int)))
      else
       Option.none))))
noncomputable def newelref03_Check {R : Type} : Nat → api_Circuit → (Int → Option R) → Option R := lock (@newelref03_Check_m R)
theorem newelref03_Check_def {R : Type} (N : Nat) (a47 : api_Circuit) (k : Int → Option R) : newelref03_Check N a47 k = newelref03_Check_m N a47 k := by unfold newelref03_Check; rw [lock_eq]
def newelref03_Check_sp : Sp := ⟨[rAgg api_CircuitC], []⟩
theorem newelref03_Check_sp_ok : newelref03_Check_sp.Ok := ⟨(allCons (rAgg_ok api_CircuitC_ok api_CircuitC_len) allNil), eNil⟩
def newelref03_Check_rs : Sp := ⟨[rInt .i64], []⟩
theorem newelref03_Check_rs_ok : newelref03_Check_rs.Ok := ⟨(allCons (rInt_ok .i64) allNil), eNil⟩
def newelref03_Check_run {R : Type} (N : Nat) (args : List SV) (T : Tab) (kf : SV × Tab → Option R) : Option R :=
  newelref03_Check_m N (Cod.dec api_CircuitC (lget (toCs (lget args 0)))) (fun q0 => kf (lget [.int .i64 q0] 0, []))
def newelref03_Check_d31 {R : Type} (N : Nat) (S0 : St) (k : Exit → St → Option R) : Option R :=
  newelref03_Check_l31 N N (toI (lget S0.tmps 9)) (entNl (entAt S0.tab 0)) (lst intC (entN (entAt S0.tab 0)) (entC (entAt S0.tab 0))) (fun q0 => k .ret (newelref03_Check_x31_r q0)) (fun (_ : Unit) => k (.exit 7) (newelref03_Check_x31_7 ))
def newelref03_Check_d24 {R : Type} (N : Nat) (S0 : St) (k : Exit → St → Option R) : Option R :=
  newelref03_Check_l24 N N (toI (lget S0.tmps 5)) (toI (lget S0.tmps 7)) (toI (lget S0.tmps 8)) (Cod.dec api_CircuitC (lget (entCs (entAt S0.tab 0)))) (entNl (entAt S0.tab 1)) (lst intC (entN (entAt S0.tab 1)) (entC (entAt S0.tab 1))) (Cod.dec api_WireC (lget (entCs (entAt S0.tab 2)))) (fun q0 => k .ret (newelref03_Check_x24_r q0)) (fun q3 => k (.exit 5) (newelref03_Check_x24_5 (toI (lget S0.tmps 5)) (Cod.dec api_CircuitC (lget (entCs (entAt S0.tab 0)))) (entNl (entAt S0.tab 1)) q3))
def newelref03_Check_d10 {R : Type} (N : Nat) (S0 : St) (k : Exit → St → Option R) : Option R :=
  newelref03_Check_l10 N N (toI (lget S0.tmps 5)) (Cod.dec api_CircuitC (lget (entCs (entAt S0.tab 0)))) (entNl (entAt S0.tab 1)) (lst intC (entN (entAt S0.tab 1)) (entC (entAt S0.tab 1))) (fun q0 => k .ret (newelref03_Check_x10_r q0)) (fun q1 => k (.exit 2) (newelref03_Check_x10_2 (entNl (entAt S0.tab 1)) q1))
def newelref03_Check_d4 {R : Type} (N : Nat) (S0 : St) (k : Exit → St → Option R) : Option R :=
  newelref03_Check_l4 N N (toI (lget S0.tmps 3)) (Cod.dec api_CircuitC (lget (entCs (entAt S0.tab 0)))) (fun q0 => k .ret (newelref03_Check_x4_r q0)) (fun (_ : Unit) => k (.exit 0) (newelref03_Check_x4_0 (Cod.dec api_CircuitC (lget (entCs (entAt S0.tab 0))))))
def newelref03_Check_lp {R : Type} (N : Nat) : Lp R := fun body S k => bif (Go.Sx.keyOf body).getD 0 == 4 then newelref03_Check_L4.head.raw 0 S (fun S0 => newelref03_Check_d4 N S0 k) else bif (Go.Sx.keyOf body).getD 0 == 10 then newelref03_Check_L10.head.raw 0 S (fun S0 => newelref03_Check_d10 N S0 k) else bif (Go.Sx.keyOf body).getD 0 == 24 then newelref03_Check_L24.head.raw 0 S (fun S0 => newelref03_Check_d24 N S0 k) else bif (Go.Sx.keyOf body).getD 0 == 31 then newelref03_Check_L31.head.raw 0 S (fun S0 => newelref03_Check_d31 N S0 k) else Option.none
theorem newelref03_Check_l4_eq {R : Type} (N : Nat) (k : Exit → St → Option R) (n : Nat) : ∀ (v0 : Int) (v1 : api_Circuit), loopM E.Θ (newelref03_within_cal N) (newelref03_Check_lp N) (noJn) 0 newelref03_Check_L4 (bodyAt E 26 4) n (newelref03_Check_h4 v0 v1) k = newelref03_Check_l4 N n v0 v1 (fun q0 => k .ret (newelref03_Check_x4_r q0)) (fun (_ : Unit) => k (.exit 0) (newelref03_Check_x4_0 v1)) := by
  induction n with
  | zero => intro v0 v1; rfl
  | succ n ih =>
    intro v0 v1
    refine Eq.trans (b := newelref03_Check_b4 N (fun v0 v1 => loopM E.Θ (newelref03_within_cal N) (newelref03_Check_lp N) (noJn) 0 newelref03_Check_L4 (bodyAt E 26 4) n (newelref03_Check_h4 v0 v1) k) v0 v1 (fun q0 => k .ret (newelref03_Check_x4_r q0)) (fun (_ : Unit) => k (.exit 0) (newelref03_Check_x4_0 v1))) (by kernel_rfl) ?_
    have h : (fun (v0 : Int) (v1 : api_Circuit) => loopM E.Θ (newelref03_within_cal N) (newelref03_Check_lp N) (noJn) 0 newelref03_Check_L4 (bodyAt E 26 4) n (newelref03_Check_h4 v0 v1) k) = (fun (v0 : Int) (v1 : api_Circuit) => newelref03_Check_l4 N n v0 v1 (fun q0 => k .ret (newelref03_Check_x4_r q0)) (fun (_ : Unit) => k (.exit 0) (newelref03_Check_x4_0 v1))) := funext fun v0 => funext fun v1 => ih v0 v1
    rw [h]
    rfl
theorem newelref03_Check_l10_eq {R : Type} (N : Nat) (k : Exit → St → Option R) (n : Nat) : ∀ (v0 : Int) (v1 : api_Circuit) (v2 : Bool) (v3 : Arr Int), loopM E.Θ (newelref03_within_cal N) (newelref03_Check_lp N) (noJn) 0 newelref03_Check_L10 (bodyAt E 26 10) n (newelref03_Check_h10 v0 v1 v2 v3) k = newelref03_Check_l10 N n v0 v1 v2 v3 (fun q0 => k .ret (newelref03_Check_x10_r q0)) (fun q1 => k (.exit 2) (newelref03_Check_x10_2 v2 q1)) := by
  induction n with
  | zero => intro v0 v1 v2 v3; rfl
  | succ n ih =>
    intro v0 v1 v2 v3
    refine Eq.trans (b := newelref03_Check_b10 N (fun v0 v1 v2 v3 => loopM E.Θ (newelref03_within_cal N) (newelref03_Check_lp N) (noJn) 0 newelref03_Check_L10 (bodyAt E 26 10) n (newelref03_Check_h10 v0 v1 v2 v3) k) v0 v1 v2 v3 (fun q0 => k .ret (newelref03_Check_x10_r q0)) (fun q1 => k (.exit 2) (newelref03_Check_x10_2 v2 q1))) (by kernel_rfl) ?_
    have h : (fun (v0 : Int) (v1 : api_Circuit) (v2 : Bool) (v3 : Arr Int) => loopM E.Θ (newelref03_within_cal N) (newelref03_Check_lp N) (noJn) 0 newelref03_Check_L10 (bodyAt E 26 10) n (newelref03_Check_h10 v0 v1 v2 v3) k) = (fun (v0 : Int) (v1 : api_Circuit) (v2 : Bool) (v3 : Arr Int) => newelref03_Check_l10 N n v0 v1 v2 v3 (fun q0 => k .ret (newelref03_Check_x10_r q0)) (fun q1 => k (.exit 2) (newelref03_Check_x10_2 v2 q1))) := funext fun v0 => funext fun v1 => funext fun v2 => funext fun v3 => ih v0 v1 v2 v3
    rw [h]
    rfl
theorem newelref03_Check_l24_eq {R : Type} (N : Nat) (k : Exit → St → Option R) (n : Nat) : ∀ (v0 : Int) (v1 : Int) (v2 : Int) (v3 : api_Circuit) (v4 : Bool) (v5 : Arr Int) (v6 : api_Wire), loopM E.Θ (newelref03_within_cal N) (newelref03_Check_lp N) (noJn) 0 newelref03_Check_L24 (bodyAt E 26 24) n (newelref03_Check_h24 v0 v1 v2 v3 v4 v5 v6) k = newelref03_Check_l24 N n v0 v1 v2 v3 v4 v5 v6 (fun q0 => k .ret (newelref03_Check_x24_r q0)) (fun q3 => k (.exit 5) (newelref03_Check_x24_5 v0 v3 v4 q3)) := by
  induction n with
  | zero => intro v0 v1 v2 v3 v4 v5 v6; rfl
  | succ n ih =>
    intro v0 v1 v2 v3 v4 v5 v6
    refine Eq.trans (b := newelref03_Check_b24 N (fun v0 v1 v2 v3 v4 v5 v6 => loopM E.Θ (newelref03_within_cal N) (newelref03_Check_lp N) (noJn) 0 newelref03_Check_L24 (bodyAt E 26 24) n (newelref03_Check_h24 v0 v1 v2 v3 v4 v5 v6) k) v0 v1 v2 v3 v4 v5 v6 (fun q0 => k .ret (newelref03_Check_x24_r q0)) (fun q3 => k (.exit 5) (newelref03_Check_x24_5 v0 v3 v4 q3))) (by kernel_rfl) ?_
    have h : (fun (v0 : Int) (v1 : Int) (v2 : Int) (v3 : api_Circuit) (v4 : Bool) (v5 : Arr Int) (v6 : api_Wire) => loopM E.Θ (newelref03_within_cal N) (newelref03_Check_lp N) (noJn) 0 newelref03_Check_L24 (bodyAt E 26 24) n (newelref03_Check_h24 v0 v1 v2 v3 v4 v5 v6) k) = (fun (v0 : Int) (v1 : Int) (v2 : Int) (v3 : api_Circuit) (v4 : Bool) (v5 : Arr Int) (v6 : api_Wire) => newelref03_Check_l24 N n v0 v1 v2 v3 v4 v5 v6 (fun q0 => k .ret (newelref03_Check_x24_r q0)) (fun q3 => k (.exit 5) (newelref03_Check_x24_5 v0 v3 v4 q3))) := funext fun v0 => funext fun v1 => funext fun v2 => funext fun v3 => funext fun v4 => funext fun v5 => funext fun v6 => ih v0 v1 v2 v3 v4 v5 v6
    rw [h]
    rfl
theorem newelref03_Check_l31_eq {R : Type} (N : Nat) (k : Exit → St → Option R) (n : Nat) : ∀ (v0 : Int) (v1 : Bool) (v2 : Arr Int), loopM E.Θ (newelref03_within_cal N) (newelref03_Check_lp N) (noJn) 0 newelref03_Check_L31 (bodyAt E 26 31) n (newelref03_Check_h31 v0 v1 v2) k = newelref03_Check_l31 N n v0 v1 v2 (fun q0 => k .ret (newelref03_Check_x31_r q0)) (fun (_ : Unit) => k (.exit 7) (newelref03_Check_x31_7 )) := by
  induction n with
  | zero => intro v0 v1 v2; rfl
  | succ n ih =>
    intro v0 v1 v2
    refine Eq.trans (b := newelref03_Check_b31 N (fun v0 v1 v2 => loopM E.Θ (newelref03_within_cal N) (newelref03_Check_lp N) (noJn) 0 newelref03_Check_L31 (bodyAt E 26 31) n (newelref03_Check_h31 v0 v1 v2) k) v0 v1 v2 (fun q0 => k .ret (newelref03_Check_x31_r q0)) (fun (_ : Unit) => k (.exit 7) (newelref03_Check_x31_7 ))) (by kernel_rfl) ?_
    have h : (fun (v0 : Int) (v1 : Bool) (v2 : Arr Int) => loopM E.Θ (newelref03_within_cal N) (newelref03_Check_lp N) (noJn) 0 newelref03_Check_L31 (bodyAt E 26 31) n (newelref03_Check_h31 v0 v1 v2) k) = (fun (v0 : Int) (v1 : Bool) (v2 : Arr Int) => newelref03_Check_l31 N n v0 v1 v2 (fun q0 => k .ret (newelref03_Check_x31_r q0)) (fun (_ : Unit) => k (.exit 7) (newelref03_Check_x31_7 ))) := funext fun v0 => funext fun v1 => funext fun v2 => ih v0 v1 v2
    rw [h]
    rfl
theorem newelref03_Check_k31 {R : Type} (N : Nat) : LpKey (R := R) E 26 0 (newelref03_Check_lp N) 31 :=
  lpKey_of hE (newelref03_within_cal_ok N) (jn := noJn) newelref03_Check_L31_ok [] kNil (by kernel_rfl) [] jNil (by kernel_rfl) N fun S k =>
    Eq.trans (b := newelref03_Check_L31.head.raw 0 S (fun S0 => newelref03_Check_d31 N S0 k)) (by kernel_rfl) (congrArg (newelref03_Check_L31.head.raw 0 S) (funext fun S0 => Eq.trans (newelref03_Check_l31_eq N k N (toI (lget S0.tmps 9)) (entNl (entAt S0.tab 0)) (lst intC (entN (entAt S0.tab 0)) (entC (entAt S0.tab 0)))).symm (by kernel_rfl)))
theorem newelref03_Check_k4 {R : Type} (N : Nat) : LpKey (R := R) E 26 0 (newelref03_Check_lp N) 4 :=
  lpKey_of hE (newelref03_within_cal_ok N) (jn := noJn) newelref03_Check_L4_ok [] kNil (by kernel_rfl) [] jNil (by kernel_rfl) N fun S k =>
    Eq.trans (b := newelref03_Check_L4.head.raw 0 S (fun S0 => newelref03_Check_d4 N S0 k)) (by kernel_rfl) (congrArg (newelref03_Check_L4.head.raw 0 S) (funext fun S0 => Eq.trans (newelref03_Check_l4_eq N k N (toI (lget S0.tmps 3)) (Cod.dec api_CircuitC (lget (entCs (entAt S0.tab 0))))).symm (by kernel_rfl)))
theorem newelref03_Check_k24 {R : Type} (N : Nat) : LpKey (R := R) E 26 0 (newelref03_Check_lp N) 24 :=
  lpKey_of hE (newelref03_within_cal_ok N) (jn := noJn) newelref03_Check_L24_ok [] kNil (by kernel_rfl) [] jNil (by kernel_rfl) N fun S k =>
    Eq.trans (b := newelref03_Check_L24.head.raw 0 S (fun S0 => newelref03_Check_d24 N S0 k)) (by kernel_rfl) (congrArg (newelref03_Check_L24.head.raw 0 S) (funext fun S0 => Eq.trans (newelref03_Check_l24_eq N k N (toI (lget S0.tmps 5)) (toI (lget S0.tmps 7)) (toI (lget S0.tmps 8)) (Cod.dec api_CircuitC (lget (entCs (entAt S0.tab 0)))) (entNl (entAt S0.tab 1)) (lst intC (entN (entAt S0.tab 1)) (entC (entAt S0.tab 1))) (Cod.dec api_WireC (lget (entCs (entAt S0.tab 2))))).symm (by kernel_rfl)))
theorem newelref03_Check_k10 {R : Type} (N : Nat) : LpKey (R := R) E 26 0 (newelref03_Check_lp N) 10 :=
  lpKey_of hE (newelref03_within_cal_ok N) (jn := noJn) newelref03_Check_L10_ok [24] (kCons (newelref03_Check_k24 N) kNil) (by kernel_rfl) [] jNil (by kernel_rfl) N fun S k =>
    Eq.trans (b := newelref03_Check_L10.head.raw 0 S (fun S0 => newelref03_Check_d10 N S0 k)) (by kernel_rfl) (congrArg (newelref03_Check_L10.head.raw 0 S) (funext fun S0 => Eq.trans (newelref03_Check_l10_eq N k N (toI (lget S0.tmps 5)) (Cod.dec api_CircuitC (lget (entCs (entAt S0.tab 0)))) (entNl (entAt S0.tab 1)) (lst intC (entN (entAt S0.tab 1)) (entC (entAt S0.tab 1)))).symm (by kernel_rfl)))
noncomputable def newelref03_Check_go {R : Type} (N : Nat) (args : List SV) (T : Tab) (kf : SV × Tab → Option R) : Option R :=
  newelref03_Check N (Cod.dec api_CircuitC (lget (toCs (lget args 0)))) (fun q0 => kf (lget [.int .i64 q0] 0, []))
noncomputable def newelref03_Check_cal {R : Type} (N : Nat) : Cal R := callM (newelref03_within_cal N) 26 0 newelref03_Check_sp (newelref03_Check_go N)
theorem newelref03_Check_cal_ok {R : Type} (N : Nat) : CalOk E.P (newelref03_Check_cal (R := R) N) :=
  callM_ok hE (newelref03_within_cal_ok N) (lp := newelref03_Check_lp N) (jn := noJn) (keys := [4, 10, 24, 31]) (kCons (newelref03_Check_k4 N) (kCons (newelref03_Check_k10 N) (kCons (newelref03_Check_k24 N) (kCons (newelref03_Check_k31 N) kNil)))) (by kernel_rfl) (js := []) jNil (by kernel_rfl) newelref03_Check_sp_ok newelref03_Check_rs_ok (fun args T kf => Eq.trans (newelref03_Check_def N (Cod.dec api_CircuitC (lget (toCs (lget args 0)))) (fun q0 => kf (lget [.int .i64 q0] 0, []))) (by kernel_rfl : newelref03_Check_run N args T kf = fnM E (newelref03_within_cal N) (newelref03_Check_lp N) (noJn) 26 (newelref03_Check_sp.vs args) (newelref03_Check_sp.tab T) 0 (resK newelref03_Check_rs kf)))


def newelref03_Hazards_m {R : Type} (N : Nat) (a80 : api_Circuit) (a81 : Int) (k : Bool → Option R) : Option R :=
  bif decide (IntKind.wrap IntKind.u64 (api_Circuit.Hazards a80) < (0 : Int)) then
   Option.none
  else
   newelref03_within N a81 (0 : Int) (w64 (w64 ((1 : Int) * (2 : Int) ^ min (Int.toNat (IntKind.wrap IntKind.u64 (api_Circuit.Hazards a80))) (IntKind.bits IntKind.i64)) - (1 : Int))) (fun r82 =>
   k r82)
noncomputable def newelref03_Hazards {R : Type} : Nat → api_Circuit → Int → (Bool → Option R) → Option R := lock (@newelref03_Hazards_m R)
theorem newelref03_Hazards_def {R : Type} (N : Nat) (a80 : api_Circuit) (a81 : Int) (k : Bool → Option R) : newelref03_Hazards N a80 a81 k = newelref03_Hazards_m N a80 a81 k := by unfold newelref03_Hazards; rw [lock_eq]
def newelref03_Hazards_sp : Sp := ⟨[rAgg api_CircuitC, rInt .i64], []⟩
theorem newelref03_Hazards_sp_ok : newelref03_Hazards_sp.Ok := ⟨(allCons (rAgg_ok api_CircuitC_ok api_CircuitC_len) (allCons (rInt_ok .i64) allNil)), eNil⟩
def newelref03_Hazards_rs : Sp := ⟨[rBool], []⟩
theorem newelref03_Hazards_rs_ok : newelref03_Hazards_rs.Ok := ⟨(allCons rBool_ok allNil), eNil⟩
def newelref03_Hazards_run {R : Type} (N : Nat) (args : List SV) (T : Tab) (kf : SV × Tab → Option R) : Option R :=
  newelref03_Hazards_m N (Cod.dec api_CircuitC (lget (toCs (lget args 0)))) (toI (lget args 1)) (fun q0 => kf (lget [.bool q0] 0, []))
def newelref03_Hazards_lp {R : Type} (N : Nat) : Lp R := fun body S k => Option.none
noncomputable def newelref03_Hazards_go {R : Type} (N : Nat) (args : List SV) (T : Tab) (kf : SV × Tab → Option R) : Option R :=
  newelref03_Hazards N (Cod.dec api_CircuitC (lget (toCs (lget args 0)))) (toI (lget args 1)) (fun q0 => kf (lget [.bool q0] 0, []))
noncomputable def newelref03_Hazards_cal {R : Type} (N : Nat) : Cal R := callM (newelref03_Check_cal N) 29 0 newelref03_Hazards_sp (newelref03_Hazards_go N)
theorem newelref03_Hazards_cal_ok {R : Type} (N : Nat) : CalOk E.P (newelref03_Hazards_cal (R := R) N) :=
  callM_ok hE (newelref03_Check_cal_ok N) (lp := newelref03_Hazards_lp N) (jn := noJn) (keys := []) kNil (by kernel_rfl) (js := []) jNil (by kernel_rfl) newelref03_Hazards_sp_ok newelref03_Hazards_rs_ok (fun args T kf => Eq.trans (newelref03_Hazards_def N (Cod.dec api_CircuitC (lget (toCs (lget args 0)))) (toI (lget args 1)) (fun q0 => kf (lget [.bool q0] 0, []))) (by kernel_rfl : newelref03_Hazards_run N args T kf = fnM E (newelref03_Check_cal N) (newelref03_Hazards_lp N) (noJn) 29 (newelref03_Hazards_sp.vs args) (newelref03_Hazards_sp.tab T) 0 (resK newelref03_Hazards_rs kf)))


def drive_to_m {R : Type} (N : Nat) (a84 : Int) (k : api_Span → Option R) : Option R :=
  k (api_Span.mk (0 : Int) a84)
noncomputable def drive_to {R : Type} : Nat → Int → (api_Span → Option R) → Option R := lock (@drive_to_m R)
theorem drive_to_def {R : Type} (N : Nat) (a84 : Int) (k : api_Span → Option R) : drive_to N a84 k = drive_to_m N a84 k := by unfold drive_to; rw [lock_eq]
def drive_to_sp : Sp := ⟨[rInt .i64], []⟩
theorem drive_to_sp_ok : drive_to_sp.Ok := ⟨(allCons (rInt_ok .i64) allNil), eNil⟩
def drive_to_rs : Sp := ⟨[rAgg api_SpanC], []⟩
theorem drive_to_rs_ok : drive_to_rs.Ok := ⟨(allCons (rAgg_ok api_SpanC_ok api_SpanC_len) allNil), eNil⟩
def drive_to_run {R : Type} (N : Nat) (args : List SV) (T : Tab) (kf : SV × Tab → Option R) : Option R :=
  drive_to_m N (toI (lget args 0)) (fun q0 => kf (lget [.agg (Cod.enc api_SpanC q0)] 0, []))
def drive_to_lp {R : Type} (N : Nat) : Lp R := fun body S k => Option.none
noncomputable def drive_to_go {R : Type} (N : Nat) (args : List SV) (T : Tab) (kf : SV × Tab → Option R) : Option R :=
  drive_to N (toI (lget args 0)) (fun q0 => kf (lget [.agg (Cod.enc api_SpanC q0)] 0, []))
noncomputable def drive_to_cal {R : Type} (N : Nat) : Cal R := callM (newelref03_Hazards_cal N) 68 0 drive_to_sp (drive_to_go N)
theorem drive_to_cal_ok {R : Type} (N : Nat) : CalOk E.P (drive_to_cal (R := R) N) :=
  callM_ok hE (newelref03_Hazards_cal_ok N) (lp := drive_to_lp N) (jn := noJn) (keys := []) kNil (by kernel_rfl) (js := []) jNil (by kernel_rfl) drive_to_sp_ok drive_to_rs_ok (fun args T kf => Eq.trans (drive_to_def N (toI (lget args 0)) (fun q0 => kf (lget [.agg (Cod.enc api_SpanC q0)] 0, []))) (by kernel_rfl : drive_to_run N args T kf = fnM E (newelref03_Hazards_cal N) (drive_to_lp N) (noJn) 68 (drive_to_sp.vs args) (drive_to_sp.tab T) 0 (resK drive_to_rs kf)))


def drive_in_m {R : Type} (N : Nat) (a86 : Int) (a87 : api_Span) (k : Bool → Option R) : Option R :=
  bif decide (api_Span.Low a87 ≤ a86) then
   k (decide (a86 ≤ api_Span.High a87))
  else
   k false
noncomputable def drive_in {R : Type} : Nat → Int → api_Span → (Bool → Option R) → Option R := lock (@drive_in_m R)
theorem drive_in_def {R : Type} (N : Nat) (a86 : Int) (a87 : api_Span) (k : Bool → Option R) : drive_in N a86 a87 k = drive_in_m N a86 a87 k := by unfold drive_in; rw [lock_eq]
def drive_in_sp : Sp := ⟨[rInt .i64, rAgg api_SpanC], []⟩
theorem drive_in_sp_ok : drive_in_sp.Ok := ⟨(allCons (rInt_ok .i64) (allCons (rAgg_ok api_SpanC_ok api_SpanC_len) allNil)), eNil⟩
def drive_in_rs : Sp := ⟨[rBool], []⟩
theorem drive_in_rs_ok : drive_in_rs.Ok := ⟨(allCons rBool_ok allNil), eNil⟩
def drive_in_run {R : Type} (N : Nat) (args : List SV) (T : Tab) (kf : SV × Tab → Option R) : Option R :=
  drive_in_m N (toI (lget args 0)) (Cod.dec api_SpanC (lget (toCs (lget args 1)))) (fun q0 => kf (lget [.bool q0] 0, []))
def drive_in_lp {R : Type} (N : Nat) : Lp R := fun body S k => Option.none
noncomputable def drive_in_go {R : Type} (N : Nat) (args : List SV) (T : Tab) (kf : SV × Tab → Option R) : Option R :=
  drive_in N (toI (lget args 0)) (Cod.dec api_SpanC (lget (toCs (lget args 1)))) (fun q0 => kf (lget [.bool q0] 0, []))
noncomputable def drive_in_cal {R : Type} (N : Nat) : Cal R := callM (drive_to_cal N) 67 0 drive_in_sp (drive_in_go N)
theorem drive_in_cal_ok {R : Type} (N : Nat) : CalOk E.P (drive_in_cal (R := R) N) :=
  callM_ok hE (drive_to_cal_ok N) (lp := drive_in_lp N) (jn := noJn) (keys := []) kNil (by kernel_rfl) (js := []) jNil (by kernel_rfl) drive_in_sp_ok drive_in_rs_ok (fun args T kf => Eq.trans (drive_in_def N (toI (lget args 0)) (Cod.dec api_SpanC (lget (toCs (lget args 1)))) (fun q0 => kf (lget [.bool q0] 0, []))) (by kernel_rfl : drive_in_run N args T kf = fnM E (drive_to_cal N) (drive_in_lp N) (noJn) 67 (drive_in_sp.vs args) (drive_in_sp.tab T) 0 (resK drive_in_rs kf)))


def drive_Check_1_m {R : Type} (N : Nat) (a96 : api_Brake) (k : Bool → Option R) : Option R :=
  drive_to N (10000000 : Int) (fun r97 =>
  drive_in N (api_Brake.Force a96) r97 (fun r98 =>
  bif r98 then
   drive_to N (20 : Int) (fun r99 =>
   drive_in N (api_Brake.Delay a96) r99 (fun r100 =>
   k r100))
  else
   k false))
noncomputable def drive_Check_1 {R : Type} : Nat → api_Brake → (Bool → Option R) → Option R := lock (@drive_Check_1_m R)
theorem drive_Check_1_def {R : Type} (N : Nat) (a96 : api_Brake) (k : Bool → Option R) : drive_Check_1 N a96 k = drive_Check_1_m N a96 k := by unfold drive_Check_1; rw [lock_eq]
def drive_Check_1_sp : Sp := ⟨[rAgg api_BrakeC], []⟩
theorem drive_Check_1_sp_ok : drive_Check_1_sp.Ok := ⟨(allCons (rAgg_ok api_BrakeC_ok api_BrakeC_len) allNil), eNil⟩
def drive_Check_1_rs : Sp := ⟨[rBool], []⟩
theorem drive_Check_1_rs_ok : drive_Check_1_rs.Ok := ⟨(allCons rBool_ok allNil), eNil⟩
def drive_Check_1_run {R : Type} (N : Nat) (args : List SV) (T : Tab) (kf : SV × Tab → Option R) : Option R :=
  drive_Check_1_m N (Cod.dec api_BrakeC (lget (toCs (lget args 0)))) (fun q0 => kf (lget [.bool q0] 0, []))
def drive_Check_1_lp {R : Type} (N : Nat) : Lp R := fun body S k => Option.none
noncomputable def drive_Check_1_go {R : Type} (N : Nat) (args : List SV) (T : Tab) (kf : SV × Tab → Option R) : Option R :=
  drive_Check_1 N (Cod.dec api_BrakeC (lget (toCs (lget args 0)))) (fun q0 => kf (lget [.bool q0] 0, []))
noncomputable def drive_Check_1_cal {R : Type} (N : Nat) : Cal R := callM (drive_in_cal N) 113 0 drive_Check_1_sp (drive_Check_1_go N)
theorem drive_Check_1_cal_ok {R : Type} (N : Nat) : CalOk E.P (drive_Check_1_cal (R := R) N) :=
  callM_ok hE (drive_in_cal_ok N) (lp := drive_Check_1_lp N) (jn := noJn) (keys := []) kNil (by kernel_rfl) (js := []) jNil (by kernel_rfl) drive_Check_1_sp_ok drive_Check_1_rs_ok (fun args T kf => Eq.trans (drive_Check_1_def N (Cod.dec api_BrakeC (lget (toCs (lget args 0)))) (fun q0 => kf (lget [.bool q0] 0, []))) (by kernel_rfl : drive_Check_1_run N args T kf = fnM E (drive_in_cal N) (drive_Check_1_lp N) (noJn) 113 (drive_Check_1_sp.vs args) (drive_Check_1_sp.tab T) 0 (resK drive_Check_1_rs kf)))

def drive_Check_L5 : LoopSp := ⟨⟨[3, 42, 43, 44], ⟨(dr 3 ((rFunc 113 0 []) :: (dr 38 ((rSl api_BrakeC) :: (rInt .i64) :: (rInt .i64) :: (dr 8 []))))), []⟩, 0⟩, [(Option.none, ⟨[2], ⟨(dr 2 ((rInt .i64) :: (dr 50 []))), []⟩, 0⟩), (some 0, ⟨[], ⟨(dr 53 []), []⟩, 0⟩)]⟩
theorem drive_Check_L5_ok : drive_Check_L5.Ok := ⟨⟨(drCons 3 (allCons (rFunc_ok 113 0 allNil) (drCons 38 (allCons (rSl_ok api_BrakeC_ok) (allCons (rInt_ok .i64) (allCons (rInt_ok .i64) (drCons 8 allNil))))))), eNil⟩, (xCons ⟨(drCons 2 (allCons (rInt_ok .i64) (drCons 50 allNil))), eNil⟩ (xCons ⟨(drCons 53 allNil), eNil⟩ xNil))⟩
def drive_Check_h5 (v93 : Arr api_Brake) (v94 : Int) (v95 : Int) : St := ⟨(un 3 ((.func 113 0 []) :: (un 38 ((slC api_BrakeC v93) :: (.int .i64 v94) :: (.int .i64 v95) :: (un 8 []))))), [], 0⟩
def drive_Check_x5_r (q0 : Int) : St := ⟨(un 2 ((.int .i64 q0) :: (un 50 []))), [], 0⟩
def drive_Check_x5_0  : St := ⟨(un 53 []), [], 0⟩
def drive_Check_b5 {R : Type} (N : Nat) (rc : Arr api_Brake → Int → Int → Option R) (v93 : Arr api_Brake) (v94 : Int) (v95 : Int) (kr : Int → Option R) (k0 : Unit → Option R) : Option R :=
  bif decide (v95 < v94) then
   bif decide ((0 : Int) ≤ v95) && decide (v95 < (↑(Arr.n v93) : Int)) then
    drive_Check_1 N (Arr.f v93 (Int.toNat v95)) (fun r101 =>
    bif !r101 then
     kr (10 : Int)
    else
     rc v93 v94 (w64 (v95 + (1 : Int))))
   else
    Option.none
  else
   k0 ()
def drive_Check_l5 {R : Type} (N : Nat) : Nat → Arr api_Brake → Int → Int → (Int → Option R) → (Unit → Option R) → Option R
  | 0, _, _, _, _, _ => Option.none
  | n + 1, v93, v94, v95, kr, k0 => drive_Check_b5 N (fun v93 v94 v95 => drive_Check_l5 N n v93 v94 v95 kr k0) v93 v94 v95 kr k0


def drive_Check_m {R : Type} (N : Nat) (a83 : api_Escalator) (k : Int → Option R) : Option R :=
  bif decide (api_Escalator.Empty a83 < (1 : Int)) then
   k (10 : Int)
  else
   bif decide (api_Escalator.Empty a83 > (100000 : Int)) then
    k (10 : Int)
   else
    drive_to N (100 : Int) (fun r85 =>
    drive_in N (api_Escalator.Pull a83) r85 (fun r88 =>
    bif !r88 then
     k (10 : Int)
    else
     drive_to N (10000000 : Int) (fun r89 =>
     drive_in N (api_Escalator.Drag a83) r89 (fun r90 =>
     bif !r90 then
      k (10 : Int)
     else
      drive_to N (10000000 : Int) (fun r91 =>
      drive_in N (api_Escalator.Motor a83) r91 (fun r92 =>
      bif !r92 then
       k (10 : Int)
      else
       bif decide ((↑(Arr.n (api_Escalator.Brakes a83)) : Int) > (3 : Int)) then
        k (10 : Int)
       else
        drive_Check_l5 N N (api_Escalator.Brakes a83) ((↑(Arr.n (api_Escalator.Brakes a83)) : Int)) (0 : Int) (fun r102 =>
         k r102) (fun (_ : Unit) =>
         k (0 : Int))))))))
noncomputable def drive_Check {R : Type} : Nat → api_Escalator → (Int → Option R) → Option R := lock (@drive_Check_m R)
theorem drive_Check_def {R : Type} (N : Nat) (a83 : api_Escalator) (k : Int → Option R) : drive_Check N a83 k = drive_Check_m N a83 k := by unfold drive_Check; rw [lock_eq]
def drive_Check_sp : Sp := ⟨[rAgg api_EscalatorC], []⟩
theorem drive_Check_sp_ok : drive_Check_sp.Ok := ⟨(allCons (rAgg_ok api_EscalatorC_ok api_EscalatorC_len) allNil), eNil⟩
def drive_Check_rs : Sp := ⟨[rInt .i64], []⟩
theorem drive_Check_rs_ok : drive_Check_rs.Ok := ⟨(allCons (rInt_ok .i64) allNil), eNil⟩
def drive_Check_run {R : Type} (N : Nat) (args : List SV) (T : Tab) (kf : SV × Tab → Option R) : Option R :=
  drive_Check_m N (Cod.dec api_EscalatorC (lget (toCs (lget args 0)))) (fun q0 => kf (lget [.int .i64 q0] 0, []))
def drive_Check_d5 {R : Type} (N : Nat) (S0 : St) (k : Exit → St → Option R) : Option R :=
  drive_Check_l5 N N (lstC api_BrakeC (lget S0.tmps 42)) (toI (lget S0.tmps 43)) (toI (lget S0.tmps 44)) (fun q0 => k .ret (drive_Check_x5_r q0)) (fun (_ : Unit) => k (.exit 0) (drive_Check_x5_0 ))
def drive_Check_lp {R : Type} (N : Nat) : Lp R := fun body S k => bif (Go.Sx.keyOf body).getD 0 == 5 then drive_Check_L5.head.raw 0 S (fun S0 => drive_Check_d5 N S0 k) else Option.none
theorem drive_Check_l5_eq {R : Type} (N : Nat) (k : Exit → St → Option R) (n : Nat) : ∀ (v0 : Arr api_Brake) (v1 : Int) (v2 : Int), loopM E.Θ (drive_Check_1_cal N) (drive_Check_lp N) (noJn) 0 drive_Check_L5 (bodyAt E 66 5) n (drive_Check_h5 v0 v1 v2) k = drive_Check_l5 N n v0 v1 v2 (fun q0 => k .ret (drive_Check_x5_r q0)) (fun (_ : Unit) => k (.exit 0) (drive_Check_x5_0 )) := by
  induction n with
  | zero => intro v0 v1 v2; rfl
  | succ n ih =>
    intro v0 v1 v2
    refine Eq.trans (b := drive_Check_b5 N (fun v0 v1 v2 => loopM E.Θ (drive_Check_1_cal N) (drive_Check_lp N) (noJn) 0 drive_Check_L5 (bodyAt E 66 5) n (drive_Check_h5 v0 v1 v2) k) v0 v1 v2 (fun q0 => k .ret (drive_Check_x5_r q0)) (fun (_ : Unit) => k (.exit 0) (drive_Check_x5_0 ))) (by kernel_rfl) ?_
    have h : (fun (v0 : Arr api_Brake) (v1 : Int) (v2 : Int) => loopM E.Θ (drive_Check_1_cal N) (drive_Check_lp N) (noJn) 0 drive_Check_L5 (bodyAt E 66 5) n (drive_Check_h5 v0 v1 v2) k) = (fun (v0 : Arr api_Brake) (v1 : Int) (v2 : Int) => drive_Check_l5 N n v0 v1 v2 (fun q0 => k .ret (drive_Check_x5_r q0)) (fun (_ : Unit) => k (.exit 0) (drive_Check_x5_0 ))) := funext fun v0 => funext fun v1 => funext fun v2 => ih v0 v1 v2
    rw [h]
    rfl
theorem drive_Check_k5 {R : Type} (N : Nat) : LpKey (R := R) E 66 0 (drive_Check_lp N) 5 :=
  lpKey_of hE (drive_Check_1_cal_ok N) (jn := noJn) drive_Check_L5_ok [] kNil (by kernel_rfl) [] jNil (by kernel_rfl) N fun S k =>
    Eq.trans (b := drive_Check_L5.head.raw 0 S (fun S0 => drive_Check_d5 N S0 k)) (by kernel_rfl) (congrArg (drive_Check_L5.head.raw 0 S) (funext fun S0 => Eq.trans (drive_Check_l5_eq N k N (lstC api_BrakeC (lget S0.tmps 42)) (toI (lget S0.tmps 43)) (toI (lget S0.tmps 44))).symm (by kernel_rfl)))
noncomputable def drive_Check_go {R : Type} (N : Nat) (args : List SV) (T : Tab) (kf : SV × Tab → Option R) : Option R :=
  drive_Check N (Cod.dec api_EscalatorC (lget (toCs (lget args 0)))) (fun q0 => kf (lget [.int .i64 q0] 0, []))
noncomputable def drive_Check_cal {R : Type} (N : Nat) : Cal R := callM (drive_Check_1_cal N) 66 0 drive_Check_sp (drive_Check_go N)
theorem drive_Check_cal_ok {R : Type} (N : Nat) : CalOk E.P (drive_Check_cal (R := R) N) :=
  callM_ok hE (drive_Check_1_cal_ok N) (lp := drive_Check_lp N) (jn := noJn) (keys := [5]) (kCons (drive_Check_k5 N) kNil) (by kernel_rfl) (js := []) jNil (by kernel_rfl) drive_Check_sp_ok drive_Check_rs_ok (fun args T kf => Eq.trans (drive_Check_def N (Cod.dec api_EscalatorC (lget (toCs (lget args 0)))) (fun q0 => kf (lget [.int .i64 q0] 0, []))) (by kernel_rfl : drive_Check_run N args T kf = fnM E (drive_Check_1_cal N) (drive_Check_lp N) (noJn) 66 (drive_Check_sp.vs args) (drive_Check_sp.tab T) 0 (resK drive_Check_rs kf)))


def drive_checkStop_m {R : Type} (N : Nat) (a105 : api_Escalator) (a106 : api_Stop) (k : Int → Option R) : Option R :=
  drive_Check N a105 (fun r107 =>
  bif r107 != (0 : Int) then
   k r107
  else
   drive_to N (1000 : Int) (fun r108 =>
   drive_in N (api_Stop.Speed a106) r108 (fun r109 =>
   bif !r109 then
    k (11 : Int)
   else
    bif decide (api_Span.Low (api_Stop.Loads a106) < (0 : Int)) then
     k (11 : Int)
    else
     bif decide (api_Span.Low (api_Stop.Loads a106) > api_Span.High (api_Stop.Loads a106)) then
      k (11 : Int)
     else
      bif decide (api_Span.High (api_Stop.Loads a106) > (100000 : Int)) then
       k (11 : Int)
      else
       bif decide (api_Stop.Fail a106 < (0 : Int)) then
        k (11 : Int)
       else
        bif decide (api_Stop.Fail a106 ≥ w64 ((1 : Int) * (2 : Int) ^ min (Int.toNat (↑(Arr.n (api_Escalator.Brakes a105)) : Int)) (IntKind.bits IntKind.i64))) then
         k (11 : Int)
        else
         k (0 : Int))))
noncomputable def drive_checkStop {R : Type} : Nat → api_Escalator → api_Stop → (Int → Option R) → Option R := lock (@drive_checkStop_m R)
theorem drive_checkStop_def {R : Type} (N : Nat) (a105 : api_Escalator) (a106 : api_Stop) (k : Int → Option R) : drive_checkStop N a105 a106 k = drive_checkStop_m N a105 a106 k := by unfold drive_checkStop; rw [lock_eq]
def drive_checkStop_sp : Sp := ⟨[rAgg api_EscalatorC, rAgg api_StopC], []⟩
theorem drive_checkStop_sp_ok : drive_checkStop_sp.Ok := ⟨(allCons (rAgg_ok api_EscalatorC_ok api_EscalatorC_len) (allCons (rAgg_ok api_StopC_ok api_StopC_len) allNil)), eNil⟩
def drive_checkStop_rs : Sp := ⟨[rInt .i64], []⟩
theorem drive_checkStop_rs_ok : drive_checkStop_rs.Ok := ⟨(allCons (rInt_ok .i64) allNil), eNil⟩
def drive_checkStop_run {R : Type} (N : Nat) (args : List SV) (T : Tab) (kf : SV × Tab → Option R) : Option R :=
  drive_checkStop_m N (Cod.dec api_EscalatorC (lget (toCs (lget args 0)))) (Cod.dec api_StopC (lget (toCs (lget args 1)))) (fun q0 => kf (lget [.int .i64 q0] 0, []))
def drive_checkStop_lp {R : Type} (N : Nat) : Lp R := fun body S k => Option.none
noncomputable def drive_checkStop_go {R : Type} (N : Nat) (args : List SV) (T : Tab) (kf : SV × Tab → Option R) : Option R :=
  drive_checkStop N (Cod.dec api_EscalatorC (lget (toCs (lget args 0)))) (Cod.dec api_StopC (lget (toCs (lget args 1)))) (fun q0 => kf (lget [.int .i64 q0] 0, []))
noncomputable def drive_checkStop_cal {R : Type} (N : Nat) : Cal R := callM (drive_Check_cal N) 83 0 drive_checkStop_sp (drive_checkStop_go N)
theorem drive_checkStop_cal_ok {R : Type} (N : Nat) : CalOk E.P (drive_checkStop_cal (R := R) N) :=
  callM_ok hE (drive_Check_cal_ok N) (lp := drive_checkStop_lp N) (jn := noJn) (keys := []) kNil (by kernel_rfl) (js := []) jNil (by kernel_rfl) drive_checkStop_sp_ok drive_checkStop_rs_ok (fun args T kf => Eq.trans (drive_checkStop_def N (Cod.dec api_EscalatorC (lget (toCs (lget args 0)))) (Cod.dec api_StopC (lget (toCs (lget args 1)))) (fun q0 => kf (lget [.int .i64 q0] 0, []))) (by kernel_rfl : drive_checkStop_run N args T kf = fnM E (drive_Check_cal N) (drive_checkStop_lp N) (noJn) 83 (drive_checkStop_sp.vs args) (drive_checkStop_sp.tab T) 0 (resK drive_checkStop_rs kf)))

def drive_motion_grip_L2 : LoopSp := ⟨⟨[0, 2, 9, 10, 11], ⟨((rEptr drive_motionC) :: (dr 1 ((rInt .i64) :: (dr 6 ((rSl api_BrakeC) :: (rInt .i64) :: (rInt .i64) :: (dr 28 [])))))), []⟩, 0⟩, [(some 0, ⟨[2], ⟨(dr 2 ((rInt .i64) :: (dr 37 []))), []⟩, 0⟩)]⟩
theorem drive_motion_grip_L2_ok : drive_motion_grip_L2.Ok := ⟨⟨(allCons (rEptr_ok drive_motionC_ok) (drCons 1 (allCons (rInt_ok .i64) (drCons 6 (allCons (rSl_ok api_BrakeC_ok) (allCons (rInt_ok .i64) (allCons (rInt_ok .i64) (drCons 28 allNil)))))))), eNil⟩, (xCons ⟨(drCons 2 (allCons (rInt_ok .i64) (drCons 37 allNil))), eNil⟩ xNil)⟩
def drive_motion_grip_h2 (v129 : drive_motion) (v130 : Int) (v131 : Arr api_Brake) (v132 : Int) (v133 : Int) : St := ⟨((.eptr (Cod.size drive_motionC) (lget (Cod.enc drive_motionC v129))) :: (un 1 ((.int .i64 v130) :: (un 6 ((slC api_BrakeC v131) :: (.int .i64 v132) :: (.int .i64 v133) :: (un 28 [])))))), [], 0⟩
def drive_motion_grip_x2_0 (q0 : Int) : St := ⟨(un 2 ((.int .i64 q0) :: (un 37 []))), [], 0⟩
def drive_motion_grip_b2 {R : Type} (N : Nat) (rc : drive_motion → Int → Arr api_Brake → Int → Int → Option R) (v129 : drive_motion) (v130 : Int) (v131 : Arr api_Brake) (v132 : Int) (v133 : Int) (k0 : Int → Option R) : Option R :=
  bif decide (v133 < v132) then
   bif decide ((0 : Int) ≤ v133) && decide (v133 < (↑(Arr.n v131) : Int)) then
    bif decide (v133 < (0 : Int)) then
     Option.none
    else
     bif w64 (↑(BitVec.toNat (BitVec.ofInt (IntKind.bits IntKind.i64) (Int.fdiv (api_Stop.Fail (drive_motion.f_s v129)) ((2 : Int) ^ min (Int.toNat v133) (IntKind.bits IntKind.i64))) &&& BitVec.ofInt (IntKind.bits IntKind.i64) (1 : Int))) : Int) == (0 : Int) then
      bif decide (api_Brake.Delay (Arr.f v131 (Int.toNat v133)) ≤ drive_motion.f_time v129) then
       rc v129 (w64 (v130 + api_Brake.Force (Arr.f v131 (Int.toNat v133)))) v131 v132 (w64 (v133 + (1 : Int)))
      else
       rc v129 v130 v131 v132 (w64 (v133 + (1 : Int)))
     else
      rc v129 v130 v131 v132 (w64 (v133 + (1 : Int)))
   else
    Option.none
  else
   k0 v130
def drive_motion_grip_l2 {R : Type} (N : Nat) : Nat → drive_motion → Int → Arr api_Brake → Int → Int → (Int → Option R) → Option R
  | 0, _, _, _, _, _, _ => Option.none
  | n + 1, v129, v130, v131, v132, v133, k0 => drive_motion_grip_b2 N (fun v129 v130 v131 v132 v133 => drive_motion_grip_l2 N n v129 v130 v131 v132 v133 k0) v129 v130 v131 v132 v133 k0


def drive_motion_grip_m {R : Type} (N : Nat) (a128 : drive_motion) (k : Int → Option R) : Option R :=
  drive_motion_grip_l2 N N a128 (0 : Int) (api_Escalator.Brakes (drive_motion.f_e a128)) ((↑(Arr.n (api_Escalator.Brakes (drive_motion.f_e a128))) : Int)) (0 : Int) (fun r134 =>
   k r134)
noncomputable def drive_motion_grip {R : Type} : Nat → drive_motion → (Int → Option R) → Option R := lock (@drive_motion_grip_m R)
theorem drive_motion_grip_def {R : Type} (N : Nat) (a128 : drive_motion) (k : Int → Option R) : drive_motion_grip N a128 k = drive_motion_grip_m N a128 k := by unfold drive_motion_grip; rw [lock_eq]
def drive_motion_grip_sp : Sp := ⟨[rEptr drive_motionC], []⟩
theorem drive_motion_grip_sp_ok : drive_motion_grip_sp.Ok := ⟨(allCons (rEptr_ok drive_motionC_ok) allNil), eNil⟩
def drive_motion_grip_rs : Sp := ⟨[rInt .i64], []⟩
theorem drive_motion_grip_rs_ok : drive_motion_grip_rs.Ok := ⟨(allCons (rInt_ok .i64) allNil), eNil⟩
def drive_motion_grip_run {R : Type} (N : Nat) (args : List SV) (T : Tab) (kf : SV × Tab → Option R) : Option R :=
  drive_motion_grip_m N (Cod.dec drive_motionC (toE (lget args 0))) (fun q0 => kf (lget [.int .i64 q0] 0, []))
def drive_motion_grip_d2 {R : Type} (N : Nat) (S0 : St) (k : Exit → St → Option R) : Option R :=
  drive_motion_grip_l2 N N (Cod.dec drive_motionC (toE (lget S0.tmps 0))) (toI (lget S0.tmps 2)) (lstC api_BrakeC (lget S0.tmps 9)) (toI (lget S0.tmps 10)) (toI (lget S0.tmps 11)) (fun q0 => k (.exit 0) (drive_motion_grip_x2_0 q0))
def drive_motion_grip_lp {R : Type} (N : Nat) : Lp R := fun body S k => bif (Go.Sx.keyOf body).getD 0 == 2 then drive_motion_grip_L2.head.raw 0 S (fun S0 => drive_motion_grip_d2 N S0 k) else Option.none
theorem drive_motion_grip_l2_eq {R : Type} (N : Nat) (k : Exit → St → Option R) (n : Nat) : ∀ (v0 : drive_motion) (v1 : Int) (v2 : Arr api_Brake) (v3 : Int) (v4 : Int), loopM E.Θ (drive_checkStop_cal N) (drive_motion_grip_lp N) (noJn) 0 drive_motion_grip_L2 (bodyAt E 86 2) n (drive_motion_grip_h2 v0 v1 v2 v3 v4) k = drive_motion_grip_l2 N n v0 v1 v2 v3 v4 (fun q0 => k (.exit 0) (drive_motion_grip_x2_0 q0)) := by
  induction n with
  | zero => intro v0 v1 v2 v3 v4; rfl
  | succ n ih =>
    intro v0 v1 v2 v3 v4
    refine Eq.trans (b := drive_motion_grip_b2 N (fun v0 v1 v2 v3 v4 => loopM E.Θ (drive_checkStop_cal N) (drive_motion_grip_lp N) (noJn) 0 drive_motion_grip_L2 (bodyAt E 86 2) n (drive_motion_grip_h2 v0 v1 v2 v3 v4) k) v0 v1 v2 v3 v4 (fun q0 => k (.exit 0) (drive_motion_grip_x2_0 q0))) (by kernel_rfl) ?_
    have h : (fun (v0 : drive_motion) (v1 : Int) (v2 : Arr api_Brake) (v3 : Int) (v4 : Int) => loopM E.Θ (drive_checkStop_cal N) (drive_motion_grip_lp N) (noJn) 0 drive_motion_grip_L2 (bodyAt E 86 2) n (drive_motion_grip_h2 v0 v1 v2 v3 v4) k) = (fun (v0 : drive_motion) (v1 : Int) (v2 : Arr api_Brake) (v3 : Int) (v4 : Int) => drive_motion_grip_l2 N n v0 v1 v2 v3 v4 (fun q0 => k (.exit 0) (drive_motion_grip_x2_0 q0))) := funext fun v0 => funext fun v1 => funext fun v2 => funext fun v3 => funext fun v4 => ih v0 v1 v2 v3 v4
    rw [h]
    rfl
theorem drive_motion_grip_k2 {R : Type} (N : Nat) : LpKey (R := R) E 86 0 (drive_motion_grip_lp N) 2 :=
  lpKey_of hE (drive_checkStop_cal_ok N) (jn := noJn) drive_motion_grip_L2_ok [] kNil (by kernel_rfl) [] jNil (by kernel_rfl) N fun S k =>
    Eq.trans (b := drive_motion_grip_L2.head.raw 0 S (fun S0 => drive_motion_grip_d2 N S0 k)) (by kernel_rfl) (congrArg (drive_motion_grip_L2.head.raw 0 S) (funext fun S0 => Eq.trans (drive_motion_grip_l2_eq N k N (Cod.dec drive_motionC (toE (lget S0.tmps 0))) (toI (lget S0.tmps 2)) (lstC api_BrakeC (lget S0.tmps 9)) (toI (lget S0.tmps 10)) (toI (lget S0.tmps 11))).symm (by kernel_rfl)))
noncomputable def drive_motion_grip_go {R : Type} (N : Nat) (args : List SV) (T : Tab) (kf : SV × Tab → Option R) : Option R :=
  drive_motion_grip N (Cod.dec drive_motionC (toE (lget args 0))) (fun q0 => kf (lget [.int .i64 q0] 0, []))
noncomputable def drive_motion_grip_cal {R : Type} (N : Nat) : Cal R := callM (drive_checkStop_cal N) 86 0 drive_motion_grip_sp (drive_motion_grip_go N)
theorem drive_motion_grip_cal_ok {R : Type} (N : Nat) : CalOk E.P (drive_motion_grip_cal (R := R) N) :=
  callM_ok hE (drive_checkStop_cal_ok N) (lp := drive_motion_grip_lp N) (jn := noJn) (keys := [2]) (kCons (drive_motion_grip_k2 N) kNil) (by kernel_rfl) (js := []) jNil (by kernel_rfl) drive_motion_grip_sp_ok drive_motion_grip_rs_ok (fun args T kf => Eq.trans (drive_motion_grip_def N (Cod.dec drive_motionC (toE (lget args 0))) (fun q0 => kf (lget [.int .i64 q0] 0, []))) (by kernel_rfl : drive_motion_grip_run N args T kf = fnM E (drive_checkStop_cal N) (drive_motion_grip_lp N) (noJn) 86 (drive_motion_grip_sp.vs args) (drive_motion_grip_sp.tab T) 0 (resK drive_motion_grip_rs kf)))


def drive_floor_m {R : Type} (N : Nat) (a144 : Int) (a145 : Int) (k : Int → Option R) : Option R :=
  bif a145 == (0 : Int) then
   Option.none
  else
   bif a145 == (0 : Int) then
    Option.none
   else
    bif decide (Int.tmod a144 a145 < (0 : Int)) then
     k (w64 (w64 (Int.tdiv a144 a145) - (1 : Int)))
    else
     k (w64 (Int.tdiv a144 a145))
noncomputable def drive_floor {R : Type} : Nat → Int → Int → (Int → Option R) → Option R := lock (@drive_floor_m R)
theorem drive_floor_def {R : Type} (N : Nat) (a144 : Int) (a145 : Int) (k : Int → Option R) : drive_floor N a144 a145 k = drive_floor_m N a144 a145 k := by unfold drive_floor; rw [lock_eq]
def drive_floor_sp : Sp := ⟨[rInt .i64, rInt .i64], []⟩
theorem drive_floor_sp_ok : drive_floor_sp.Ok := ⟨(allCons (rInt_ok .i64) (allCons (rInt_ok .i64) allNil)), eNil⟩
def drive_floor_rs : Sp := ⟨[rInt .i64], []⟩
theorem drive_floor_rs_ok : drive_floor_rs.Ok := ⟨(allCons (rInt_ok .i64) allNil), eNil⟩
def drive_floor_run {R : Type} (N : Nat) (args : List SV) (T : Tab) (kf : SV × Tab → Option R) : Option R :=
  drive_floor_m N (toI (lget args 0)) (toI (lget args 1)) (fun q0 => kf (lget [.int .i64 q0] 0, []))
def drive_floor_lp {R : Type} (N : Nat) : Lp R := fun body S k => Option.none
noncomputable def drive_floor_go {R : Type} (N : Nat) (args : List SV) (T : Tab) (kf : SV × Tab → Option R) : Option R :=
  drive_floor N (toI (lget args 0)) (toI (lget args 1)) (fun q0 => kf (lget [.int .i64 q0] 0, []))
noncomputable def drive_floor_cal {R : Type} (N : Nat) : Cal R := callM (drive_motion_grip_cal N) 145 0 drive_floor_sp (drive_floor_go N)
theorem drive_floor_cal_ok {R : Type} (N : Nat) : CalOk E.P (drive_floor_cal (R := R) N) :=
  callM_ok hE (drive_motion_grip_cal_ok N) (lp := drive_floor_lp N) (jn := noJn) (keys := []) kNil (by kernel_rfl) (js := []) jNil (by kernel_rfl) drive_floor_sp_ok drive_floor_rs_ok (fun args T kf => Eq.trans (drive_floor_def N (toI (lget args 0)) (toI (lget args 1)) (fun q0 => kf (lget [.int .i64 q0] 0, []))) (by kernel_rfl : drive_floor_run N args T kf = fnM E (drive_motion_grip_cal N) (drive_floor_lp N) (noJn) 145 (drive_floor_sp.vs args) (drive_floor_sp.tab T) 0 (resK drive_floor_rs kf)))


def drive_ahead_m {R : Type} (N : Nat) (a140 : Int) (a141 : Int) (a142 : Int) (a143 : Int) (k : Int → Option R) : Option R :=
  drive_floor N (w64 (a141 - a142)) a143 (fun r146 =>
  k (if w64 (a140 + r146) > (0 : Int) then w64 (a140 + r146) else (0 : Int)))
noncomputable def drive_ahead {R : Type} : Nat → Int → Int → Int → Int → (Int → Option R) → Option R := lock (@drive_ahead_m R)
theorem drive_ahead_def {R : Type} (N : Nat) (a140 : Int) (a141 : Int) (a142 : Int) (a143 : Int) (k : Int → Option R) : drive_ahead N a140 a141 a142 a143 k = drive_ahead_m N a140 a141 a142 a143 k := by unfold drive_ahead; rw [lock_eq]
def drive_ahead_sp : Sp := ⟨[rInt .i64, rInt .i64, rInt .i64, rInt .i64], []⟩
theorem drive_ahead_sp_ok : drive_ahead_sp.Ok := ⟨(allCons (rInt_ok .i64) (allCons (rInt_ok .i64) (allCons (rInt_ok .i64) (allCons (rInt_ok .i64) allNil)))), eNil⟩
def drive_ahead_rs : Sp := ⟨[rInt .i64], []⟩
theorem drive_ahead_rs_ok : drive_ahead_rs.Ok := ⟨(allCons (rInt_ok .i64) allNil), eNil⟩
def drive_ahead_run {R : Type} (N : Nat) (args : List SV) (T : Tab) (kf : SV × Tab → Option R) : Option R :=
  drive_ahead_m N (toI (lget args 0)) (toI (lget args 1)) (toI (lget args 2)) (toI (lget args 3)) (fun q0 => kf (lget [.int .i64 q0] 0, []))
def drive_ahead_lp {R : Type} (N : Nat) : Lp R := fun body S k => Option.none
noncomputable def drive_ahead_go {R : Type} (N : Nat) (args : List SV) (T : Tab) (kf : SV × Tab → Option R) : Option R :=
  drive_ahead N (toI (lget args 0)) (toI (lget args 1)) (toI (lget args 2)) (toI (lget args 3)) (fun q0 => kf (lget [.int .i64 q0] 0, []))
noncomputable def drive_ahead_cal {R : Type} (N : Nat) : Cal R := callM (drive_floor_cal N) 114 0 drive_ahead_sp (drive_ahead_go N)
theorem drive_ahead_cal_ok {R : Type} (N : Nat) : CalOk E.P (drive_ahead_cal (R := R) N) :=
  callM_ok hE (drive_floor_cal_ok N) (lp := drive_ahead_lp N) (jn := noJn) (keys := []) kNil (by kernel_rfl) (js := []) jNil (by kernel_rfl) drive_ahead_sp_ok drive_ahead_rs_ok (fun args T kf => Eq.trans (drive_ahead_def N (toI (lget args 0)) (toI (lget args 1)) (toI (lget args 2)) (toI (lget args 3)) (fun q0 => kf (lget [.int .i64 q0] 0, []))) (by kernel_rfl : drive_ahead_run N args T kf = fnM E (drive_floor_cal N) (drive_ahead_lp N) (noJn) 114 (drive_ahead_sp.vs args) (drive_ahead_sp.tab T) 0 (resK drive_ahead_rs kf)))


def drive_tick_m {R : Type} (N : Nat) (a136 : api_Escalator) (a137 : Int) (a138 : Int) (a139 : Int) (k : Int → Option R) : Option R :=
  bif api_Escalator.Up a136 then
   bif decide (a137 < (0 : Int)) then
    drive_ahead N (w64 ((0 : Int) - a137)) (w64 ((0 : Int) - w64 ((0 : Int) - w64 (api_Escalator.Pull a136 * a138)))) (w64 (api_Escalator.Drag a136 + a139)) (w64 (api_Escalator.Empty a136 + a138)) (fun r147 =>
    k (w64 ((0 : Int) - r147)))
   else
    bif a137 == (0 : Int) then
     bif decide (w64 ((0 : Int) - w64 (api_Escalator.Pull a136 * a138)) < (0 : Int)) then
      drive_ahead N (w64 ((0 : Int) - a137)) (w64 ((0 : Int) - w64 ((0 : Int) - w64 (api_Escalator.Pull a136 * a138)))) (w64 (api_Escalator.Drag a136 + a139)) (w64 (api_Escalator.Empty a136 + a138)) (fun r148 =>
      k (w64 ((0 : Int) - r148)))
     else
      drive_ahead N a137 (w64 ((0 : Int) - w64 (api_Escalator.Pull a136 * a138))) (w64 (api_Escalator.Drag a136 + a139)) (w64 (api_Escalator.Empty a136 + a138)) (fun r149 =>
      k r149)
    else
     drive_ahead N a137 (w64 ((0 : Int) - w64 (api_Escalator.Pull a136 * a138))) (w64 (api_Escalator.Drag a136 + a139)) (w64 (api_Escalator.Empty a136 + a138)) (fun r150 =>
     k r150)
  else
   bif decide (a137 < (0 : Int)) then
    drive_ahead N (w64 ((0 : Int) - a137)) (w64 ((0 : Int) - w64 (api_Escalator.Pull a136 * a138))) (w64 (api_Escalator.Drag a136 + a139)) (w64 (api_Escalator.Empty a136 + a138)) (fun r151 =>
    k (w64 ((0 : Int) - r151)))
   else
    bif a137 == (0 : Int) then
     bif decide (w64 (api_Escalator.Pull a136 * a138) < (0 : Int)) then
      drive_ahead N (w64 ((0 : Int) - a137)) (w64 ((0 : Int) - w64 (api_Escalator.Pull a136 * a138))) (w64 (api_Escalator.Drag a136 + a139)) (w64 (api_Escalator.Empty a136 + a138)) (fun r152 =>
      k (w64 ((0 : Int) - r152)))
     else
      drive_ahead N a137 (w64 (api_Escalator.Pull a136 * a138)) (w64 (api_Escalator.Drag a136 + a139)) (w64 (api_Escalator.Empty a136 + a138)) (fun r153 =>
      k r153)
    else
     drive_ahead N a137 (w64 (api_Escalator.Pull a136 * a138)) (w64 (api_Escalator.Drag a136 + a139)) (w64 (api_Escalator.Empty a136 + a138)) (fun r154 =>
     k r154)
noncomputable def drive_tick {R : Type} : Nat → api_Escalator → Int → Int → Int → (Int → Option R) → Option R := lock (@drive_tick_m R)
theorem drive_tick_def {R : Type} (N : Nat) (a136 : api_Escalator) (a137 : Int) (a138 : Int) (a139 : Int) (k : Int → Option R) : drive_tick N a136 a137 a138 a139 k = drive_tick_m N a136 a137 a138 a139 k := by unfold drive_tick; rw [lock_eq]
def drive_tick_sp : Sp := ⟨[rAgg api_EscalatorC, rInt .i64, rInt .i64, rInt .i64], []⟩
theorem drive_tick_sp_ok : drive_tick_sp.Ok := ⟨(allCons (rAgg_ok api_EscalatorC_ok api_EscalatorC_len) (allCons (rInt_ok .i64) (allCons (rInt_ok .i64) (allCons (rInt_ok .i64) allNil)))), eNil⟩
def drive_tick_rs : Sp := ⟨[rInt .i64], []⟩
theorem drive_tick_rs_ok : drive_tick_rs.Ok := ⟨(allCons (rInt_ok .i64) allNil), eNil⟩
def drive_tick_run {R : Type} (N : Nat) (args : List SV) (T : Tab) (kf : SV × Tab → Option R) : Option R :=
  drive_tick_m N (Cod.dec api_EscalatorC (lget (toCs (lget args 0)))) (toI (lget args 1)) (toI (lget args 2)) (toI (lget args 3)) (fun q0 => kf (lget [.int .i64 q0] 0, []))
def drive_tick_lp {R : Type} (N : Nat) : Lp R := fun body S k => Option.none
noncomputable def drive_tick_go {R : Type} (N : Nat) (args : List SV) (T : Tab) (kf : SV × Tab → Option R) : Option R :=
  drive_tick N (Cod.dec api_EscalatorC (lget (toCs (lget args 0)))) (toI (lget args 1)) (toI (lget args 2)) (toI (lget args 3)) (fun q0 => kf (lget [.int .i64 q0] 0, []))
noncomputable def drive_tick_cal {R : Type} (N : Nat) : Cal R := callM (drive_ahead_cal N) 69 0 drive_tick_sp (drive_tick_go N)
theorem drive_tick_cal_ok {R : Type} (N : Nat) : CalOk E.P (drive_tick_cal (R := R) N) :=
  callM_ok hE (drive_ahead_cal_ok N) (lp := drive_tick_lp N) (jn := noJn) (keys := []) kNil (by kernel_rfl) (js := []) jNil (by kernel_rfl) drive_tick_sp_ok drive_tick_rs_ok (fun args T kf => Eq.trans (drive_tick_def N (Cod.dec api_EscalatorC (lget (toCs (lget args 0)))) (toI (lget args 1)) (toI (lget args 2)) (toI (lget args 3)) (fun q0 => kf (lget [.int .i64 q0] 0, []))) (by kernel_rfl : drive_tick_run N args T kf = fnM E (drive_ahead_cal N) (drive_tick_lp N) (noJn) 69 (drive_tick_sp.vs args) (drive_tick_sp.tab T) 0 (resK drive_tick_rs kf)))


def drive_motion_with_m {R : Type} (N : Nat) (a126 : Int) (a127 : drive_motion) (k : Int → drive_motion → Option R) : Option R :=
  drive_motion_grip N a127 (fun r135 =>
  drive_tick N (drive_motion.f_e a127) (drive_motion.f_speed a127) a126 r135 (fun r155 =>
  k r155 (drive_motion.mk (drive_motion.f_e a127) (drive_motion.f_s a127) r155 (w64 (drive_motion.f_time a127 + (1 : Int))))))
noncomputable def drive_motion_with {R : Type} : Nat → Int → drive_motion → (Int → drive_motion → Option R) → Option R := lock (@drive_motion_with_m R)
theorem drive_motion_with_def {R : Type} (N : Nat) (a126 : Int) (a127 : drive_motion) (k : Int → drive_motion → Option R) : drive_motion_with N a126 a127 k = drive_motion_with_m N a126 a127 k := by unfold drive_motion_with; rw [lock_eq]
def drive_motion_with_sp : Sp := ⟨[rPtr 0 0, rInt .i64], [(0, eBlkC drive_motionC)]⟩
theorem drive_motion_with_sp_ok : drive_motion_with_sp.Ok := ⟨(allCons (rPtr_ok 0 0) (allCons (rInt_ok .i64) allNil)), (eCons (eBlkC_ok drive_motionC_ok drive_motionC_len) eNil)⟩
def drive_motion_with_rs : Sp := ⟨[rInt .i64], [(0, eBlkC drive_motionC)]⟩
theorem drive_motion_with_rs_ok : drive_motion_with_rs.Ok := ⟨(allCons (rInt_ok .i64) allNil), (eCons (eBlkC_ok drive_motionC_ok drive_motionC_len) eNil)⟩
def drive_motion_with_run {R : Type} (N : Nat) (args : List SV) (T : Tab) (kf : SV × Tab → Option R) : Option R :=
  drive_motion_with_m N (toI (lget args 1)) (Cod.dec drive_motionC (lget (entCs (entAt T 0)))) (fun q0 q1 => kf (lget [.int .i64 q0] 0, [(0, .blk (Cod.enc drive_motionC q1))]))
def drive_motion_with_lp {R : Type} (N : Nat) : Lp R := fun body S k => Option.none
noncomputable def drive_motion_with_go {R : Type} (N : Nat) (args : List SV) (T : Tab) (kf : SV × Tab → Option R) : Option R :=
  drive_motion_with N (toI (lget args 1)) (Cod.dec drive_motionC (lget (entCs (entAt T 0)))) (fun q0 q1 => kf (lget [.int .i64 q0] 0, [(0, .blk (Cod.enc drive_motionC q1))]))
noncomputable def drive_motion_with_cal {R : Type} (N : Nat) : Cal R := callM (drive_tick_cal N) 91 1 drive_motion_with_sp (drive_motion_with_go N)
theorem drive_motion_with_cal_ok {R : Type} (N : Nat) : CalOk E.P (drive_motion_with_cal (R := R) N) :=
  callM_ok hE (drive_tick_cal_ok N) (lp := drive_motion_with_lp N) (jn := noJn) (keys := []) kNil (by kernel_rfl) (js := []) jNil (by kernel_rfl) drive_motion_with_sp_ok drive_motion_with_rs_ok (fun args T kf => Eq.trans (drive_motion_with_def N (toI (lget args 1)) (Cod.dec drive_motionC (lget (entCs (entAt T 0)))) (fun q0 q1 => kf (lget [.int .i64 q0] 0, [(0, .blk (Cod.enc drive_motionC q1))]))) (by kernel_rfl : drive_motion_with_run N args T kf = fnM E (drive_tick_cal N) (drive_motion_with_lp N) (noJn) 91 (drive_motion_with_sp.vs args) (drive_motion_with_sp.tab T) 1 (resK drive_motion_with_rs kf)))


def drive_motion_extreme_m {R : Type} (N : Nat) (a124 : Bool) (a125 : drive_motion) (k : Int → drive_motion → Option R) : Option R :=
  drive_motion_with N (api_Span.Low (api_Stop.Loads (drive_motion.f_s a125))) a125 (fun r156 r157 =>
  drive_motion_with N (api_Span.High (api_Stop.Loads (drive_motion.f_s a125))) a125 (fun r158 r159 =>
  bif a124 then
   bif decide (r158 > r156) then
    k (api_Span.High (api_Stop.Loads (drive_motion.f_s r159))) r159
   else
    bif !a124 then
     bif decide (r158 < r156) then
      k (api_Span.High (api_Stop.Loads (drive_motion.f_s r159))) r159
     else
      k (api_Span.Low (api_Stop.Loads (drive_motion.f_s r157))) r157
    else
     k (api_Span.Low (api_Stop.Loads (drive_motion.f_s r157))) r157
  else
   bif !a124 then
    bif decide (r158 < r156) then
     k (api_Span.High (api_Stop.Loads (drive_motion.f_s r159))) r159
    else
     k (api_Span.Low (api_Stop.Loads (drive_motion.f_s r157))) r157
   else
    k (api_Span.Low (api_Stop.Loads (drive_motion.f_s r157))) r157))
noncomputable def drive_motion_extreme {R : Type} : Nat → Bool → drive_motion → (Int → drive_motion → Option R) → Option R := lock (@drive_motion_extreme_m R)
theorem drive_motion_extreme_def {R : Type} (N : Nat) (a124 : Bool) (a125 : drive_motion) (k : Int → drive_motion → Option R) : drive_motion_extreme N a124 a125 k = drive_motion_extreme_m N a124 a125 k := by unfold drive_motion_extreme; rw [lock_eq]
def drive_motion_extreme_sp : Sp := ⟨[rPtr 0 0, rBool], [(0, eBlkC drive_motionC)]⟩
theorem drive_motion_extreme_sp_ok : drive_motion_extreme_sp.Ok := ⟨(allCons (rPtr_ok 0 0) (allCons rBool_ok allNil)), (eCons (eBlkC_ok drive_motionC_ok drive_motionC_len) eNil)⟩
def drive_motion_extreme_rs : Sp := ⟨[rInt .i64], [(0, eBlkC drive_motionC)]⟩
theorem drive_motion_extreme_rs_ok : drive_motion_extreme_rs.Ok := ⟨(allCons (rInt_ok .i64) allNil), (eCons (eBlkC_ok drive_motionC_ok drive_motionC_len) eNil)⟩
def drive_motion_extreme_run {R : Type} (N : Nat) (args : List SV) (T : Tab) (kf : SV × Tab → Option R) : Option R :=
  drive_motion_extreme_m N (toB (lget args 1)) (Cod.dec drive_motionC (lget (entCs (entAt T 0)))) (fun q0 q1 => kf (lget [.int .i64 q0] 0, [(0, .blk (Cod.enc drive_motionC q1))]))
def drive_motion_extreme_lp {R : Type} (N : Nat) : Lp R := fun body S k => Option.none
noncomputable def drive_motion_extreme_go {R : Type} (N : Nat) (args : List SV) (T : Tab) (kf : SV × Tab → Option R) : Option R :=
  drive_motion_extreme N (toB (lget args 1)) (Cod.dec drive_motionC (lget (entCs (entAt T 0)))) (fun q0 q1 => kf (lget [.int .i64 q0] 0, [(0, .blk (Cod.enc drive_motionC q1))]))
noncomputable def drive_motion_extreme_cal {R : Type} (N : Nat) : Cal R := callM (drive_motion_with_cal N) 85 1 drive_motion_extreme_sp (drive_motion_extreme_go N)
theorem drive_motion_extreme_cal_ok {R : Type} (N : Nat) : CalOk E.P (drive_motion_extreme_cal (R := R) N) :=
  callM_ok hE (drive_motion_with_cal_ok N) (lp := drive_motion_extreme_lp N) (jn := noJn) (keys := []) kNil (by kernel_rfl) (js := []) jNil (by kernel_rfl) drive_motion_extreme_sp_ok drive_motion_extreme_rs_ok (fun args T kf => Eq.trans (drive_motion_extreme_def N (toB (lget args 1)) (Cod.dec drive_motionC (lget (entCs (entAt T 0)))) (fun q0 q1 => kf (lget [.int .i64 q0] 0, [(0, .blk (Cod.enc drive_motionC q1))]))) (by kernel_rfl : drive_motion_extreme_run N args T kf = fnM E (drive_motion_with_cal N) (drive_motion_extreme_lp N) (noJn) 85 (drive_motion_extreme_sp.vs args) (drive_motion_extreme_sp.tab T) 1 (resK drive_motion_extreme_rs kf)))

def drive_run_L3 : LoopSp := ⟨⟨[2, 6, 7, 8], ⟨(dr 2 ((rBool) :: (dr 3 ((rPtr 0 0) :: (rPtr 1 0) :: (rPtr 2 0) :: (dr 35 []))))), [(0, eBlk [rInt .i64, rRow 3, rBool]), (1, eBlkC drive_motionC), (2, eBlk [rInt .i64, rRow 4, rBool]), (3, eRow intC), (4, eRow intC)]⟩, 5⟩, [(some 0, ⟨[6, 8], ⟨(dr 6 ((rPtr 0 0) :: (dr 1 ((rPtr 1 0) :: (dr 35 []))))), [(0, eBlk [rInt .i64, rRow 2, rBool]), (1, eBlk [rInt .i64, rRow 3, rBool]), (2, eRow intC), (3, eRow intC)]⟩, 4⟩)]⟩
theorem drive_run_L3_ok : drive_run_L3.Ok := ⟨⟨(drCons 2 (allCons rBool_ok (drCons 3 (allCons (rPtr_ok 0 0) (allCons (rPtr_ok 1 0) (allCons (rPtr_ok 2 0) (drCons 35 allNil))))))), (eCons (eBlk_ok (allCons (rInt_ok .i64) (allCons (rRow_ok 3) (allCons rBool_ok allNil)))) (eCons (eBlkC_ok drive_motionC_ok drive_motionC_len) (eCons (eBlk_ok (allCons (rInt_ok .i64) (allCons (rRow_ok 4) (allCons rBool_ok allNil)))) (eCons (eRow_ok intC_ok) (eCons (eRow_ok intC_ok) eNil)))))⟩, (xCons ⟨(drCons 6 (allCons (rPtr_ok 0 0) (drCons 1 (allCons (rPtr_ok 1 0) (drCons 35 allNil))))), (eCons (eBlk_ok (allCons (rInt_ok .i64) (allCons (rRow_ok 2) (allCons rBool_ok allNil)))) (eCons (eBlk_ok (allCons (rInt_ok .i64) (allCons (rRow_ok 3) (allCons rBool_ok allNil)))) (eCons (eRow_ok intC_ok) (eCons (eRow_ok intC_ok) eNil))))⟩ xNil)⟩
def drive_run_h3 (v114 : Bool) (v115 : Int) (v116 : Bool) (v117 : drive_motion) (v118 : Int) (v119 : Bool) (v120 : Bool) (v121 : Arr Int) (v122 : Bool) (v123 : Arr Int) : St := ⟨(un 2 ((.bool v114) :: (un 3 ((.ptr 0 0) :: (.ptr 1 0) :: (.ptr 2 0) :: (un 35 []))))), [(0, .blk [.int .i64 v115, .row 3, .bool v116]), (1, .blk (Cod.enc drive_motionC v117)), (2, .blk [.int .i64 v118, .row 4, .bool v119]), (3, rowE intC v120 v121), (4, rowE intC v122 v123)], 5⟩
def drive_run_x3_0 (v115 : Int) (v116 : Bool) (v120 : Bool) (v121 : Arr Int) (q2 : Int) (q3 : Bool) (q6 : Bool) (q7 : Arr Int) : St := ⟨(un 6 ((.ptr 0 0) :: (un 1 ((.ptr 1 0) :: (un 35 []))))), [(0, .blk [.int .i64 v115, .row 2, .bool v116]), (1, .blk [.int .i64 q2, .row 3, .bool q3]), (2, rowE intC v120 v121), (3, rowE intC q6 q7)], 4⟩
def drive_run_b3 {R : Type} (N : Nat) (rc : Bool → Int → Bool → drive_motion → Int → Bool → Bool → Arr Int → Bool → Arr Int → Option R) (v114 : Bool) (v115 : Int) (v116 : Bool) (v117 : drive_motion) (v118 : Int) (v119 : Bool) (v120 : Bool) (v121 : Arr Int) (v122 : Bool) (v123 : Arr Int) (k0 : Int → Bool → Bool → Arr Int → Option R) : Option R :=
  bif !v119 then
   bif decide (drive_motion.f_time v117 < (100 : Int)) then
    drive_motion_extreme N v114 v117 (fun r160 r161 =>
    bif room (Arr.n v123 + (1 : Nat)) then
     rc v114 v115 v116 r161 (w64 (v118 + drive_motion.f_speed r161)) (drive_motion.f_speed r161 == (0 : Int)) v120 v121 false (lst intC (Arr.n v123 + (1 : Nat)) (catC (Arr.n v123) (Cod.cell intC (Arr.f v123)) (litC [SV.int IntKind.i64 (0 : Int)] [[SV.int IntKind.i64 r160]])))
    else
     Option.none)
   else
    k0 v118 v119 v122 v123
  else
   k0 v118 v119 v122 v123
def drive_run_l3 {R : Type} (N : Nat) : Nat → Bool → Int → Bool → drive_motion → Int → Bool → Bool → Arr Int → Bool → Arr Int → (Int → Bool → Bool → Arr Int → Option R) → Option R
  | 0, _, _, _, _, _, _, _, _, _, _, _ => Option.none
  | n + 1, v114, v115, v116, v117, v118, v119, v120, v121, v122, v123, k0 => drive_run_b3 N (fun v114 v115 v116 v117 v118 v119 v120 v121 v122 v123 => drive_run_l3 N n v114 v115 v116 v117 v118 v119 v120 v121 v122 v123 k0) v114 v115 v116 v117 v118 v119 v120 v121 v122 v123 k0


def drive_run_m {R : Type} (N : Nat) (a111 : api_Escalator) (a112 : api_Stop) (a113 : Bool) (k : Int → Bool → Bool → Arr Int → Option R) : Option R :=
  drive_run_l3 N N a113 (0 : Int) false (drive_motion.mk a111 a112 (api_Stop.Speed a112) (0 : Int)) (0 : Int) (api_Stop.Speed a112 == (0 : Int)) true (lst intC (0 : Nat) (zeroC [SV.int IntKind.i64 (0 : Int)])) true (lst intC (0 : Nat) (zeroC [SV.int IntKind.i64 (0 : Int)])) (fun r162 r163 r164 r165 =>
   k r162 r163 r164 r165)
noncomputable def drive_run {R : Type} : Nat → api_Escalator → api_Stop → Bool → (Int → Bool → Bool → Arr Int → Option R) → Option R := lock (@drive_run_m R)
theorem drive_run_def {R : Type} (N : Nat) (a111 : api_Escalator) (a112 : api_Stop) (a113 : Bool) (k : Int → Bool → Bool → Arr Int → Option R) : drive_run N a111 a112 a113 k = drive_run_m N a111 a112 a113 k := by unfold drive_run; rw [lock_eq]
def drive_run_sp : Sp := ⟨[rAgg api_EscalatorC, rAgg api_StopC, rBool], []⟩
theorem drive_run_sp_ok : drive_run_sp.Ok := ⟨(allCons (rAgg_ok api_EscalatorC_ok api_EscalatorC_len) (allCons (rAgg_ok api_StopC_ok api_StopC_len) (allCons rBool_ok allNil))), eNil⟩
def drive_run_rs : Sp := ⟨[rAggs [rInt .i64, rRow 0, rBool]], [(0, eRow intC)]⟩
theorem drive_run_rs_ok : drive_run_rs.Ok := ⟨(allCons (rAggs_ok (allCons (rInt_ok .i64) (allCons (rRow_ok 0) (allCons rBool_ok allNil)))) allNil), (eCons (eRow_ok intC_ok) eNil)⟩
def drive_run_run {R : Type} (N : Nat) (args : List SV) (T : Tab) (kf : SV × Tab → Option R) : Option R :=
  drive_run_m N (Cod.dec api_EscalatorC (lget (toCs (lget args 0)))) (Cod.dec api_StopC (lget (toCs (lget args 1)))) (toB (lget args 2)) (fun q0 q1 q2 q3 => kf (lget [.agg [.int .i64 q0, .row 0, .bool q1]] 0, [(0, rowE intC q2 q3)]))
def drive_run_d3 {R : Type} (N : Nat) (S0 : St) (k : Exit → St → Option R) : Option R :=
  drive_run_l3 N N (toB (lget S0.tmps 2)) (toI (lget (entCs (entAt S0.tab 0)) 0)) (toB (lget (entCs (entAt S0.tab 0)) 2)) (Cod.dec drive_motionC (lget (entCs (entAt S0.tab 1)))) (toI (lget (entCs (entAt S0.tab 2)) 0)) (toB (lget (entCs (entAt S0.tab 2)) 2)) (entNl (entAt S0.tab 3)) (lst intC (entN (entAt S0.tab 3)) (entC (entAt S0.tab 3))) (entNl (entAt S0.tab 4)) (lst intC (entN (entAt S0.tab 4)) (entC (entAt S0.tab 4))) (fun q2 q3 q6 q7 => k (.exit 0) (drive_run_x3_0 (toI (lget (entCs (entAt S0.tab 0)) 0)) (toB (lget (entCs (entAt S0.tab 0)) 2)) (entNl (entAt S0.tab 3)) (lst intC (entN (entAt S0.tab 3)) (entC (entAt S0.tab 3))) q2 q3 q6 q7))
def drive_run_lp {R : Type} (N : Nat) : Lp R := fun body S k => bif (Go.Sx.keyOf body).getD 0 == 3 then drive_run_L3.head.raw 0 S (fun S0 => drive_run_d3 N S0 k) else Option.none
theorem drive_run_l3_eq {R : Type} (N : Nat) (k : Exit → St → Option R) (n : Nat) : ∀ (v0 : Bool) (v1 : Int) (v2 : Bool) (v3 : drive_motion) (v4 : Int) (v5 : Bool) (v6 : Bool) (v7 : Arr Int) (v8 : Bool) (v9 : Arr Int), loopM E.Θ (drive_motion_extreme_cal N) (drive_run_lp N) (noJn) 0 drive_run_L3 (bodyAt E 84 3) n (drive_run_h3 v0 v1 v2 v3 v4 v5 v6 v7 v8 v9) k = drive_run_l3 N n v0 v1 v2 v3 v4 v5 v6 v7 v8 v9 (fun q2 q3 q6 q7 => k (.exit 0) (drive_run_x3_0 v1 v2 v6 v7 q2 q3 q6 q7)) := by
  induction n with
  | zero => intro v0 v1 v2 v3 v4 v5 v6 v7 v8 v9; rfl
  | succ n ih =>
    intro v0 v1 v2 v3 v4 v5 v6 v7 v8 v9
    refine Eq.trans (b := drive_run_b3 N (fun v0 v1 v2 v3 v4 v5 v6 v7 v8 v9 => loopM E.Θ (drive_motion_extreme_cal N) (drive_run_lp N) (noJn) 0 drive_run_L3 (bodyAt E 84 3) n (drive_run_h3 v0 v1 v2 v3 v4 v5 v6 v7 v8 v9) k) v0 v1 v2 v3 v4 v5 v6 v7 v8 v9 (fun q2 q3 q6 q7 => k (.exit 0) (drive_run_x3_0 v1 v2 v6 v7 q2 q3 q6 q7))) (by kernel_rfl) ?_
    have h : (fun (v0 : Bool) (v1 : Int) (v2 : Bool) (v3 : drive_motion) (v4 : Int) (v5 : Bool) (v6 : Bool) (v7 : Arr Int) (v8 : Bool) (v9 : Arr Int) => loopM E.Θ (drive_motion_extreme_cal N) (drive_run_lp N) (noJn) 0 drive_run_L3 (bodyAt E 84 3) n (drive_run_h3 v0 v1 v2 v3 v4 v5 v6 v7 v8 v9) k) = (fun (v0 : Bool) (v1 : Int) (v2 : Bool) (v3 : drive_motion) (v4 : Int) (v5 : Bool) (v6 : Bool) (v7 : Arr Int) (v8 : Bool) (v9 : Arr Int) => drive_run_l3 N n v0 v1 v2 v3 v4 v5 v6 v7 v8 v9 (fun q2 q3 q6 q7 => k (.exit 0) (drive_run_x3_0 v1 v2 v6 v7 q2 q3 q6 q7))) := funext fun v0 => funext fun v1 => funext fun v2 => funext fun v3 => funext fun v4 => funext fun v5 => funext fun v6 => funext fun v7 => funext fun v8 => funext fun v9 => ih v0 v1 v2 v3 v4 v5 v6 v7 v8 v9
    rw [h]
    rfl
theorem drive_run_k3 {R : Type} (N : Nat) : LpKey (R := R) E 84 0 (drive_run_lp N) 3 :=
  lpKey_of hE (drive_motion_extreme_cal_ok N) (jn := noJn) drive_run_L3_ok [] kNil (by kernel_rfl) [] jNil (by kernel_rfl) N fun S k =>
    Eq.trans (b := drive_run_L3.head.raw 0 S (fun S0 => drive_run_d3 N S0 k)) (by kernel_rfl) (congrArg (drive_run_L3.head.raw 0 S) (funext fun S0 => Eq.trans (drive_run_l3_eq N k N (toB (lget S0.tmps 2)) (toI (lget (entCs (entAt S0.tab 0)) 0)) (toB (lget (entCs (entAt S0.tab 0)) 2)) (Cod.dec drive_motionC (lget (entCs (entAt S0.tab 1)))) (toI (lget (entCs (entAt S0.tab 2)) 0)) (toB (lget (entCs (entAt S0.tab 2)) 2)) (entNl (entAt S0.tab 3)) (lst intC (entN (entAt S0.tab 3)) (entC (entAt S0.tab 3))) (entNl (entAt S0.tab 4)) (lst intC (entN (entAt S0.tab 4)) (entC (entAt S0.tab 4)))).symm (by kernel_rfl)))
noncomputable def drive_run_go {R : Type} (N : Nat) (args : List SV) (T : Tab) (kf : SV × Tab → Option R) : Option R :=
  drive_run N (Cod.dec api_EscalatorC (lget (toCs (lget args 0)))) (Cod.dec api_StopC (lget (toCs (lget args 1)))) (toB (lget args 2)) (fun q0 q1 q2 q3 => kf (lget [.agg [.int .i64 q0, .row 0, .bool q1]] 0, [(0, rowE intC q2 q3)]))
noncomputable def drive_run_cal {R : Type} (N : Nat) : Cal R := callM (drive_motion_extreme_cal N) 84 0 drive_run_sp (drive_run_go N)
theorem drive_run_cal_ok {R : Type} (N : Nat) : CalOk E.P (drive_run_cal (R := R) N) :=
  callM_ok hE (drive_motion_extreme_cal_ok N) (lp := drive_run_lp N) (jn := noJn) (keys := [3]) (kCons (drive_run_k3 N) kNil) (by kernel_rfl) (js := []) jNil (by kernel_rfl) drive_run_sp_ok drive_run_rs_ok (fun args T kf => Eq.trans (drive_run_def N (Cod.dec api_EscalatorC (lget (toCs (lget args 0)))) (Cod.dec api_StopC (lget (toCs (lget args 1)))) (toB (lget args 2)) (fun q0 q1 q2 q3 => kf (lget [.agg [.int .i64 q0, .row 0, .bool q1]] 0, [(0, rowE intC q2 q3)]))) (by kernel_rfl : drive_run_run N args T kf = fnM E (drive_motion_extreme_cal N) (drive_run_lp N) (noJn) 84 (drive_run_sp.vs args) (drive_run_sp.tab T) 0 (resK drive_run_rs kf)))


def drive_Distance_m {R : Type} (N : Nat) (a103 : api_Escalator) (a104 : api_Stop) (k : api_Span → api_Span → Int → Option R) : Option R :=
  drive_checkStop N a103 a104 (fun r110 =>
  bif r110 != (0 : Int) then
   k (api_Span.mk (0 : Int) (0 : Int)) (api_Span.mk (0 : Int) (0 : Int)) r110
  else
   drive_run N a103 a104 true (fun r166 r167 r168 r169 =>
   drive_run N a103 a104 false (fun r170 r171 r172 r173 =>
   bif !r167 then
    k (api_Span.mk (0 : Int) (0 : Int)) (api_Span.mk (0 : Int) (0 : Int)) (12 : Int)
   else
    k (api_Span.mk r170 r166) (api_Span.mk (↑(Arr.n r173) : Int) (↑(Arr.n r169) : Int)) (0 : Int))))
noncomputable def drive_Distance {R : Type} : Nat → api_Escalator → api_Stop → (api_Span → api_Span → Int → Option R) → Option R := lock (@drive_Distance_m R)
theorem drive_Distance_def {R : Type} (N : Nat) (a103 : api_Escalator) (a104 : api_Stop) (k : api_Span → api_Span → Int → Option R) : drive_Distance N a103 a104 k = drive_Distance_m N a103 a104 k := by unfold drive_Distance; rw [lock_eq]
def drive_Distance_sp : Sp := ⟨[rAgg api_EscalatorC, rAgg api_StopC], []⟩
theorem drive_Distance_sp_ok : drive_Distance_sp.Ok := ⟨(allCons (rAgg_ok api_EscalatorC_ok api_EscalatorC_len) (allCons (rAgg_ok api_StopC_ok api_StopC_len) allNil)), eNil⟩
def drive_Distance_rs : Sp := ⟨[rTup [rAgg api_SpanC, rAgg api_SpanC, rInt .i64]], []⟩
theorem drive_Distance_rs_ok : drive_Distance_rs.Ok := ⟨(allCons (rTup_ok (allCons (rAgg_ok api_SpanC_ok api_SpanC_len) (allCons (rAgg_ok api_SpanC_ok api_SpanC_len) (allCons (rInt_ok .i64) allNil)))) allNil), eNil⟩
def drive_Distance_run {R : Type} (N : Nat) (args : List SV) (T : Tab) (kf : SV × Tab → Option R) : Option R :=
  drive_Distance_m N (Cod.dec api_EscalatorC (lget (toCs (lget args 0)))) (Cod.dec api_StopC (lget (toCs (lget args 1)))) (fun q0 q1 q2 => kf (lget [.tup [.agg (Cod.enc api_SpanC q0), .agg (Cod.enc api_SpanC q1), .int .i64 q2]] 0, []))
def drive_Distance_lp {R : Type} (N : Nat) : Lp R := fun body S k => Option.none
noncomputable def drive_Distance_go {R : Type} (N : Nat) (args : List SV) (T : Tab) (kf : SV × Tab → Option R) : Option R :=
  drive_Distance N (Cod.dec api_EscalatorC (lget (toCs (lget args 0)))) (Cod.dec api_StopC (lget (toCs (lget args 1)))) (fun q0 q1 q2 => kf (lget [.tup [.agg (Cod.enc api_SpanC q0), .agg (Cod.enc api_SpanC q1), .int .i64 q2]] 0, []))
noncomputable def drive_Distance_cal {R : Type} (N : Nat) : Cal R := callM (drive_run_cal N) 32 0 drive_Distance_sp (drive_Distance_go N)
theorem drive_Distance_cal_ok {R : Type} (N : Nat) : CalOk E.P (drive_Distance_cal (R := R) N) :=
  callM_ok hE (drive_run_cal_ok N) (lp := drive_Distance_lp N) (jn := noJn) (keys := []) kNil (by kernel_rfl) (js := []) jNil (by kernel_rfl) drive_Distance_sp_ok drive_Distance_rs_ok (fun args T kf => Eq.trans (drive_Distance_def N (Cod.dec api_EscalatorC (lget (toCs (lget args 0)))) (Cod.dec api_StopC (lget (toCs (lget args 1)))) (fun q0 q1 q2 => kf (lget [.tup [.agg (Cod.enc api_SpanC q0), .agg (Cod.enc api_SpanC q1), .int .i64 q2]] 0, []))) (by kernel_rfl : drive_Distance_run N args T kf = fnM E (drive_run_cal N) (drive_Distance_lp N) (noJn) 32 (drive_Distance_sp.vs args) (drive_Distance_sp.tab T) 0 (resK drive_Distance_rs kf)))

def drive_Back_L7 : LoopSp := ⟨⟨[7, 8, 20], ⟨(dr 7 ((rPtr 0 0) :: (rInt .i64) :: (dr 11 ((rInt .i64) :: (dr 12 []))))), [(0, eBlkC drive_motionC)]⟩, 1⟩, [(some 0, ⟨[7, 8], ⟨(dr 7 ((rPtr 0 0) :: (rInt .i64) :: (dr 24 []))), [(0, eBlkC drive_motionC)]⟩, 1⟩)]⟩
theorem drive_Back_L7_ok : drive_Back_L7.Ok := ⟨⟨(drCons 7 (allCons (rPtr_ok 0 0) (allCons (rInt_ok .i64) (drCons 11 (allCons (rInt_ok .i64) (drCons 12 allNil)))))), (eCons (eBlkC_ok drive_motionC_ok drive_motionC_len) eNil)⟩, (xCons ⟨(drCons 7 (allCons (rPtr_ok 0 0) (allCons (rInt_ok .i64) (drCons 24 allNil)))), (eCons (eBlkC_ok drive_motionC_ok drive_motionC_len) eNil)⟩ xNil)⟩
def drive_Back_h7 (v177 : Int) (v178 : Int) (v179 : drive_motion) : St := ⟨(un 7 ((.ptr 0 0) :: (.int .i64 v177) :: (un 11 ((.int .i64 v178) :: (un 12 []))))), [(0, .blk (Cod.enc drive_motionC v179))], 1⟩
def drive_Back_x7_0 (q0 : Int) (q1 : drive_motion) : St := ⟨(un 7 ((.ptr 0 0) :: (.int .i64 q0) :: (un 24 []))), [(0, .blk (Cod.enc drive_motionC q1))], 1⟩
def drive_Back_b7 {R : Type} (N : Nat) (rc : Int → Int → drive_motion → Option R) (v177 : Int) (v178 : Int) (v179 : drive_motion) (k0 : Int → drive_motion → Option R) : Option R :=
  bif decide (v178 < (100 : Int)) then
   drive_motion_extreme N false v179 (fun r180 r181 =>
   rc (w64 (v177 - if drive_motion.f_speed r181 < (0 : Int) then drive_motion.f_speed r181 else (0 : Int))) (w64 (v178 + (1 : Int))) r181)
  else
   k0 v177 v179
def drive_Back_l7 {R : Type} (N : Nat) : Nat → Int → Int → drive_motion → (Int → drive_motion → Option R) → Option R
  | 0, _, _, _, _ => Option.none
  | n + 1, v177, v178, v179, k0 => drive_Back_b7 N (fun v177 v178 v179 => drive_Back_l7 N n v177 v178 v179 k0) v177 v178 v179 k0


def drive_Back_m {R : Type} (N : Nat) (a174 : api_Escalator) (a175 : api_Stop) (k : Int → Int → Option R) : Option R :=
  drive_checkStop N a174 a175 (fun r176 =>
  bif r176 != (0 : Int) then
   k (0 : Int) r176
  else
   drive_Back_l7 N N (0 : Int) (0 : Int) (drive_motion.mk a174 a175 (api_Stop.Speed a175) (0 : Int)) (fun r182 r183 =>
    bif decide (drive_motion.f_speed r183 < (0 : Int)) then
     k (0 : Int) (12 : Int)
    else
     k r182 (0 : Int)))
noncomputable def drive_Back {R : Type} : Nat → api_Escalator → api_Stop → (Int → Int → Option R) → Option R := lock (@drive_Back_m R)
theorem drive_Back_def {R : Type} (N : Nat) (a174 : api_Escalator) (a175 : api_Stop) (k : Int → Int → Option R) : drive_Back N a174 a175 k = drive_Back_m N a174 a175 k := by unfold drive_Back; rw [lock_eq]
def drive_Back_sp : Sp := ⟨[rAgg api_EscalatorC, rAgg api_StopC], []⟩
theorem drive_Back_sp_ok : drive_Back_sp.Ok := ⟨(allCons (rAgg_ok api_EscalatorC_ok api_EscalatorC_len) (allCons (rAgg_ok api_StopC_ok api_StopC_len) allNil)), eNil⟩
def drive_Back_rs : Sp := ⟨[rTup [rInt .i64, rInt .i64]], []⟩
theorem drive_Back_rs_ok : drive_Back_rs.Ok := ⟨(allCons (rTup_ok (allCons (rInt_ok .i64) (allCons (rInt_ok .i64) allNil))) allNil), eNil⟩
def drive_Back_run {R : Type} (N : Nat) (args : List SV) (T : Tab) (kf : SV × Tab → Option R) : Option R :=
  drive_Back_m N (Cod.dec api_EscalatorC (lget (toCs (lget args 0)))) (Cod.dec api_StopC (lget (toCs (lget args 1)))) (fun q0 q1 => kf (lget [.tup [.int .i64 q0, .int .i64 q1]] 0, []))
def drive_Back_d7 {R : Type} (N : Nat) (S0 : St) (k : Exit → St → Option R) : Option R :=
  drive_Back_l7 N N (toI (lget S0.tmps 8)) (toI (lget S0.tmps 20)) (Cod.dec drive_motionC (lget (entCs (entAt S0.tab 0)))) (fun q0 q1 => k (.exit 0) (drive_Back_x7_0 q0 q1))
def drive_Back_lp {R : Type} (N : Nat) : Lp R := fun body S k => bif (Go.Sx.keyOf body).getD 0 == 7 then drive_Back_L7.head.raw 0 S (fun S0 => drive_Back_d7 N S0 k) else Option.none
theorem drive_Back_l7_eq {R : Type} (N : Nat) (k : Exit → St → Option R) (n : Nat) : ∀ (v0 : Int) (v1 : Int) (v2 : drive_motion), loopM E.Θ (drive_Distance_cal N) (drive_Back_lp N) (noJn) 0 drive_Back_L7 (bodyAt E 33 7) n (drive_Back_h7 v0 v1 v2) k = drive_Back_l7 N n v0 v1 v2 (fun q0 q1 => k (.exit 0) (drive_Back_x7_0 q0 q1)) := by
  induction n with
  | zero => intro v0 v1 v2; rfl
  | succ n ih =>
    intro v0 v1 v2
    refine Eq.trans (b := drive_Back_b7 N (fun v0 v1 v2 => loopM E.Θ (drive_Distance_cal N) (drive_Back_lp N) (noJn) 0 drive_Back_L7 (bodyAt E 33 7) n (drive_Back_h7 v0 v1 v2) k) v0 v1 v2 (fun q0 q1 => k (.exit 0) (drive_Back_x7_0 q0 q1))) (by kernel_rfl) ?_
    have h : (fun (v0 : Int) (v1 : Int) (v2 : drive_motion) => loopM E.Θ (drive_Distance_cal N) (drive_Back_lp N) (noJn) 0 drive_Back_L7 (bodyAt E 33 7) n (drive_Back_h7 v0 v1 v2) k) = (fun (v0 : Int) (v1 : Int) (v2 : drive_motion) => drive_Back_l7 N n v0 v1 v2 (fun q0 q1 => k (.exit 0) (drive_Back_x7_0 q0 q1))) := funext fun v0 => funext fun v1 => funext fun v2 => ih v0 v1 v2
    rw [h]
    rfl
theorem drive_Back_k7 {R : Type} (N : Nat) : LpKey (R := R) E 33 0 (drive_Back_lp N) 7 :=
  lpKey_of hE (drive_Distance_cal_ok N) (jn := noJn) drive_Back_L7_ok [] kNil (by kernel_rfl) [] jNil (by kernel_rfl) N fun S k =>
    Eq.trans (b := drive_Back_L7.head.raw 0 S (fun S0 => drive_Back_d7 N S0 k)) (by kernel_rfl) (congrArg (drive_Back_L7.head.raw 0 S) (funext fun S0 => Eq.trans (drive_Back_l7_eq N k N (toI (lget S0.tmps 8)) (toI (lget S0.tmps 20)) (Cod.dec drive_motionC (lget (entCs (entAt S0.tab 0))))).symm (by kernel_rfl)))
noncomputable def drive_Back_go {R : Type} (N : Nat) (args : List SV) (T : Tab) (kf : SV × Tab → Option R) : Option R :=
  drive_Back N (Cod.dec api_EscalatorC (lget (toCs (lget args 0)))) (Cod.dec api_StopC (lget (toCs (lget args 1)))) (fun q0 q1 => kf (lget [.tup [.int .i64 q0, .int .i64 q1]] 0, []))
noncomputable def drive_Back_cal {R : Type} (N : Nat) : Cal R := callM (drive_Distance_cal N) 33 0 drive_Back_sp (drive_Back_go N)
theorem drive_Back_cal_ok {R : Type} (N : Nat) : CalOk E.P (drive_Back_cal (R := R) N) :=
  callM_ok hE (drive_Distance_cal_ok N) (lp := drive_Back_lp N) (jn := noJn) (keys := [7]) (kCons (drive_Back_k7 N) kNil) (by kernel_rfl) (js := []) jNil (by kernel_rfl) drive_Back_sp_ok drive_Back_rs_ok (fun args T kf => Eq.trans (drive_Back_def N (Cod.dec api_EscalatorC (lget (toCs (lget args 0)))) (Cod.dec api_StopC (lget (toCs (lget args 1)))) (fun q0 q1 => kf (lget [.tup [.int .i64 q0, .int .i64 q1]] 0, []))) (by kernel_rfl : drive_Back_run N args T kf = fnM E (drive_Distance_cal N) (drive_Back_lp N) (noJn) 33 (drive_Back_sp.vs args) (drive_Back_sp.tab T) 0 (resK drive_Back_rs kf)))


def drive_Holds_m {R : Type} (N : Nat) (a184 : api_Escalator) (a185 : api_Stop) (k : Bool → Int → Option R) : Option R :=
  drive_checkStop N a184 a185 (fun r186 =>
  bif r186 != (0 : Int) then
   k false r186
  else
   drive_motion_grip N (drive_motion.mk a184 a185 (0 : Int) (20 : Int)) (fun r187 =>
   k (decide (w64 (api_Escalator.Pull a184 * api_Span.High (api_Stop.Loads a185)) ≤ w64 (api_Escalator.Drag a184 + r187))) (0 : Int)))
noncomputable def drive_Holds {R : Type} : Nat → api_Escalator → api_Stop → (Bool → Int → Option R) → Option R := lock (@drive_Holds_m R)
theorem drive_Holds_def {R : Type} (N : Nat) (a184 : api_Escalator) (a185 : api_Stop) (k : Bool → Int → Option R) : drive_Holds N a184 a185 k = drive_Holds_m N a184 a185 k := by unfold drive_Holds; rw [lock_eq]
def drive_Holds_sp : Sp := ⟨[rAgg api_EscalatorC, rAgg api_StopC], []⟩
theorem drive_Holds_sp_ok : drive_Holds_sp.Ok := ⟨(allCons (rAgg_ok api_EscalatorC_ok api_EscalatorC_len) (allCons (rAgg_ok api_StopC_ok api_StopC_len) allNil)), eNil⟩
def drive_Holds_rs : Sp := ⟨[rTup [rBool, rInt .i64]], []⟩
theorem drive_Holds_rs_ok : drive_Holds_rs.Ok := ⟨(allCons (rTup_ok (allCons rBool_ok (allCons (rInt_ok .i64) allNil))) allNil), eNil⟩
def drive_Holds_run {R : Type} (N : Nat) (args : List SV) (T : Tab) (kf : SV × Tab → Option R) : Option R :=
  drive_Holds_m N (Cod.dec api_EscalatorC (lget (toCs (lget args 0)))) (Cod.dec api_StopC (lget (toCs (lget args 1)))) (fun q0 q1 => kf (lget [.tup [.bool q0, .int .i64 q1]] 0, []))
def drive_Holds_lp {R : Type} (N : Nat) : Lp R := fun body S k => Option.none
noncomputable def drive_Holds_go {R : Type} (N : Nat) (args : List SV) (T : Tab) (kf : SV × Tab → Option R) : Option R :=
  drive_Holds N (Cod.dec api_EscalatorC (lget (toCs (lget args 0)))) (Cod.dec api_StopC (lget (toCs (lget args 1)))) (fun q0 q1 => kf (lget [.tup [.bool q0, .int .i64 q1]] 0, []))
noncomputable def drive_Holds_cal {R : Type} (N : Nat) : Cal R := callM (drive_Back_cal N) 34 0 drive_Holds_sp (drive_Holds_go N)
theorem drive_Holds_cal_ok {R : Type} (N : Nat) : CalOk E.P (drive_Holds_cal (R := R) N) :=
  callM_ok hE (drive_Back_cal_ok N) (lp := drive_Holds_lp N) (jn := noJn) (keys := []) kNil (by kernel_rfl) (js := []) jNil (by kernel_rfl) drive_Holds_sp_ok drive_Holds_rs_ok (fun args T kf => Eq.trans (drive_Holds_def N (Cod.dec api_EscalatorC (lget (toCs (lget args 0)))) (Cod.dec api_StopC (lget (toCs (lget args 1)))) (fun q0 q1 => kf (lget [.tup [.bool q0, .int .i64 q1]] 0, []))) (by kernel_rfl : drive_Holds_run N args T kf = fnM E (drive_Back_cal N) (drive_Holds_lp N) (noJn) 34 (drive_Holds_sp.vs args) (drive_Holds_sp.tab T) 0 (resK drive_Holds_rs kf)))


def drive_Play_1_m {R : Type} (N : Nat) (a209 : Int) (a210 : Int) (a211 : Int) (a212 : Int) (a213 : Int) (k : Bool → Option R) : Option R :=
  drive_in N a209 (api_Span.mk a211 a212) (fun r214 =>
  k !r214)
noncomputable def drive_Play_1 {R : Type} : Nat → Int → Int → Int → Int → Int → (Bool → Option R) → Option R := lock (@drive_Play_1_m R)
theorem drive_Play_1_def {R : Type} (N : Nat) (a209 : Int) (a210 : Int) (a211 : Int) (a212 : Int) (a213 : Int) (k : Bool → Option R) : drive_Play_1 N a209 a210 a211 a212 a213 k = drive_Play_1_m N a209 a210 a211 a212 a213 k := by unfold drive_Play_1; rw [lock_eq]
def drive_Play_1_sp : Sp := ⟨[rInt .i64, rPtr 0 0], [(0, eBlk [rInt .i64, rInt .i64, rInt .i64, rInt .i64])]⟩
theorem drive_Play_1_sp_ok : drive_Play_1_sp.Ok := ⟨(allCons (rInt_ok .i64) (allCons (rPtr_ok 0 0) allNil)), (eCons (eBlk_ok (allCons (rInt_ok .i64) (allCons (rInt_ok .i64) (allCons (rInt_ok .i64) (allCons (rInt_ok .i64) allNil))))) eNil)⟩
def drive_Play_1_rs : Sp := ⟨[rBool], [(0, eBlk [rInt .i64, rInt .i64, rInt .i64, rInt .i64])]⟩
theorem drive_Play_1_rs_ok : drive_Play_1_rs.Ok := ⟨(allCons rBool_ok allNil), (eCons (eBlk_ok (allCons (rInt_ok .i64) (allCons (rInt_ok .i64) (allCons (rInt_ok .i64) (allCons (rInt_ok .i64) allNil))))) eNil)⟩
def drive_Play_1_run {R : Type} (N : Nat) (args : List SV) (T : Tab) (kf : SV × Tab → Option R) : Option R :=
  drive_Play_1_m N (toI (lget args 0)) (toI (lget (entCs (entAt T 0)) 0)) (toI (lget (entCs (entAt T 0)) 1)) (toI (lget (entCs (entAt T 0)) 2)) (toI (lget (entCs (entAt T 0)) 3)) (fun q0 => kf (lget [.bool q0] 0, [(0, .blk [.int .i64 (toI (lget (entCs (entAt T 0)) 0)), .int .i64 (toI (lget (entCs (entAt T 0)) 1)), .int .i64 (toI (lget (entCs (entAt T 0)) 2)), .int .i64 (toI (lget (entCs (entAt T 0)) 3))])]))
def drive_Play_1_lp {R : Type} (N : Nat) : Lp R := fun body S k => Option.none
noncomputable def drive_Play_1_go {R : Type} (N : Nat) (args : List SV) (T : Tab) (kf : SV × Tab → Option R) : Option R :=
  drive_Play_1 N (toI (lget args 0)) (toI (lget (entCs (entAt T 0)) 0)) (toI (lget (entCs (entAt T 0)) 1)) (toI (lget (entCs (entAt T 0)) 2)) (toI (lget (entCs (entAt T 0)) 3)) (fun q0 => kf (lget [.bool q0] 0, [(0, .blk [.int .i64 (toI (lget (entCs (entAt T 0)) 0)), .int .i64 (toI (lget (entCs (entAt T 0)) 1)), .int .i64 (toI (lget (entCs (entAt T 0)) 2)), .int .i64 (toI (lget (entCs (entAt T 0)) 3))])]))
noncomputable def drive_Play_1_cal {R : Type} (N : Nat) : Cal R := callM (drive_Holds_cal N) 90 1 drive_Play_1_sp (drive_Play_1_go N)
theorem drive_Play_1_cal_ok {R : Type} (N : Nat) : CalOk E.P (drive_Play_1_cal (R := R) N) :=
  callM_ok hE (drive_Holds_cal_ok N) (lp := drive_Play_1_lp N) (jn := noJn) (keys := []) kNil (by kernel_rfl) (js := []) jNil (by kernel_rfl) drive_Play_1_sp_ok drive_Play_1_rs_ok (fun args T kf => Eq.trans (drive_Play_1_def N (toI (lget args 0)) (toI (lget (entCs (entAt T 0)) 0)) (toI (lget (entCs (entAt T 0)) 1)) (toI (lget (entCs (entAt T 0)) 2)) (toI (lget (entCs (entAt T 0)) 3)) (fun q0 => kf (lget [.bool q0] 0, [(0, .blk [.int .i64 (toI (lget (entCs (entAt T 0)) 0)), .int .i64 (toI (lget (entCs (entAt T 0)) 1)), .int .i64 (toI (lget (entCs (entAt T 0)) 2)), .int .i64 (toI (lget (entCs (entAt T 0)) 3))])]))) (by kernel_rfl : drive_Play_1_run N args T kf = fnM E (drive_Holds_cal N) (drive_Play_1_lp N) (noJn) 90 (drive_Play_1_sp.vs args) (drive_Play_1_sp.tab T) 1 (resK drive_Play_1_rs kf)))

def slices_IndexFunc___int_int__L2 : LoopSp := ⟨⟨[0, 1, 7, 8], ⟨((rSl intC) :: (rFunc 90 0 [rPtr 0 0]) :: (dr 5 ((rInt .i64) :: (rInt .i64) :: (dr 10 [])))), [(0, eBlk [rInt .i64, rInt .i64, rInt .i64, rInt .i64])]⟩, 1⟩, [(Option.none, ⟨[4], ⟨(dr 4 ((rInt .i64) :: (dr 14 []))), [(0, eBlk [rInt .i64, rInt .i64, rInt .i64, rInt .i64])]⟩, 1⟩), (some 0, ⟨[], ⟨(dr 19 []), [(0, eBlk [rInt .i64, rInt .i64, rInt .i64, rInt .i64])]⟩, 1⟩)]⟩
theorem slices_IndexFunc___int_int__L2_ok : slices_IndexFunc___int_int__L2.Ok := ⟨⟨(allCons (rSl_ok intC_ok) (allCons (rFunc_ok 90 0 (allCons (rPtr_ok 0 0) allNil)) (drCons 5 (allCons (rInt_ok .i64) (allCons (rInt_ok .i64) (drCons 10 allNil)))))), (eCons (eBlk_ok (allCons (rInt_ok .i64) (allCons (rInt_ok .i64) (allCons (rInt_ok .i64) (allCons (rInt_ok .i64) allNil))))) eNil)⟩, (xCons ⟨(drCons 4 (allCons (rInt_ok .i64) (drCons 14 allNil))), (eCons (eBlk_ok (allCons (rInt_ok .i64) (allCons (rInt_ok .i64) (allCons (rInt_ok .i64) (allCons (rInt_ok .i64) allNil))))) eNil)⟩ (xCons ⟨(drCons 19 allNil), (eCons (eBlk_ok (allCons (rInt_ok .i64) (allCons (rInt_ok .i64) (allCons (rInt_ok .i64) (allCons (rInt_ok .i64) allNil))))) eNil)⟩ xNil))⟩
def slices_IndexFunc___int_int__h2 (v202 : Arr Int) (v203 : Int) (v204 : Int) (v205 : Int) (v206 : Int) (v207 : Int) (v208 : Int) : St := ⟨((slC intC v202) :: (.func 90 0 [.ptr 0 0]) :: (un 5 ((.int .i64 v203) :: (.int .i64 v204) :: (un 10 [])))), [(0, .blk [.int .i64 v205, .int .i64 v206, .int .i64 v207, .int .i64 v208])], 1⟩
def slices_IndexFunc___int_int__x2_r (v205 : Int) (v206 : Int) (v207 : Int) (v208 : Int) (q0 : Int) : St := ⟨(un 4 ((.int .i64 q0) :: (un 14 []))), [(0, .blk [.int .i64 v205, .int .i64 v206, .int .i64 v207, .int .i64 v208])], 1⟩
def slices_IndexFunc___int_int__x2_0 (v205 : Int) (v206 : Int) (v207 : Int) (v208 : Int) : St := ⟨(un 19 []), [(0, .blk [.int .i64 v205, .int .i64 v206, .int .i64 v207, .int .i64 v208])], 1⟩
def slices_IndexFunc___int_int__b2 {R : Type} (N : Nat) (rc : Arr Int → Int → Int → Int → Int → Int → Int → Option R) (v202 : Arr Int) (v203 : Int) (v204 : Int) (v205 : Int) (v206 : Int) (v207 : Int) (v208 : Int) (kr : Int → Option R) (k0 : Unit → Option R) : Option R :=
  bif decide (v204 < v203) then
   bif decide ((0 : Int) ≤ v204) && decide (v204 < (↑(Arr.n v202) : Int)) then
    drive_Play_1 N (Arr.f v202 (Int.toNat v204)) v205 v206 v207 v208 (fun r215 =>
    bif r215 then
     kr v204
    else
     rc v202 v203 (w64 (v204 + (1 : Int))) v205 v206 v207 v208)
   else
    Option.none
  else
   k0 ()
def slices_IndexFunc___int_int__l2 {R : Type} (N : Nat) : Nat → Arr Int → Int → Int → Int → Int → Int → Int → (Int → Option R) → (Unit → Option R) → Option R
  | 0, _, _, _, _, _, _, _, _, _ => Option.none
  | n + 1, v202, v203, v204, v205, v206, v207, v208, kr, k0 => slices_IndexFunc___int_int__b2 N (fun v202 v203 v204 v205 v206 v207 v208 => slices_IndexFunc___int_int__l2 N n v202 v203 v204 v205 v206 v207 v208 kr k0) v202 v203 v204 v205 v206 v207 v208 kr k0


def slices_IndexFunc___int_int__m {R : Type} (N : Nat) (a197 : Arr Int) (a198 : Int) (a199 : Int) (a200 : Int) (a201 : Int) (k : Int → Option R) : Option R :=
  slices_IndexFunc___int_int__l2 N N a197 ((↑(Arr.n a197) : Int)) (0 : Int) a198 a199 a200 a201 (fun r216 =>
   k r216) (fun (_ : Unit) =>
   k (-1 : Int))
noncomputable def slices_IndexFunc___int_int_ {R : Type} : Nat → Arr Int → Int → Int → Int → Int → (Int → Option R) → Option R := lock (@slices_IndexFunc___int_int__m R)
theorem slices_IndexFunc___int_int__def {R : Type} (N : Nat) (a197 : Arr Int) (a198 : Int) (a199 : Int) (a200 : Int) (a201 : Int) (k : Int → Option R) : slices_IndexFunc___int_int_ N a197 a198 a199 a200 a201 k = slices_IndexFunc___int_int__m N a197 a198 a199 a200 a201 k := by unfold slices_IndexFunc___int_int_; rw [lock_eq]
def slices_IndexFunc___int_int__sp : Sp := ⟨[rSl intC, rFunc 90 0 [rPtr 0 0]], [(0, eBlk [rInt .i64, rInt .i64, rInt .i64, rInt .i64])]⟩
theorem slices_IndexFunc___int_int__sp_ok : slices_IndexFunc___int_int__sp.Ok := ⟨(allCons (rSl_ok intC_ok) (allCons (rFunc_ok 90 0 (allCons (rPtr_ok 0 0) allNil)) allNil)), (eCons (eBlk_ok (allCons (rInt_ok .i64) (allCons (rInt_ok .i64) (allCons (rInt_ok .i64) (allCons (rInt_ok .i64) allNil))))) eNil)⟩
def slices_IndexFunc___int_int__rs : Sp := ⟨[rInt .i64], [(0, eBlk [rInt .i64, rInt .i64, rInt .i64, rInt .i64])]⟩
theorem slices_IndexFunc___int_int__rs_ok : slices_IndexFunc___int_int__rs.Ok := ⟨(allCons (rInt_ok .i64) allNil), (eCons (eBlk_ok (allCons (rInt_ok .i64) (allCons (rInt_ok .i64) (allCons (rInt_ok .i64) (allCons (rInt_ok .i64) allNil))))) eNil)⟩
def slices_IndexFunc___int_int__run {R : Type} (N : Nat) (args : List SV) (T : Tab) (kf : SV × Tab → Option R) : Option R :=
  slices_IndexFunc___int_int__m N (lstC intC (lget args 0)) (toI (lget (entCs (entAt T 0)) 0)) (toI (lget (entCs (entAt T 0)) 1)) (toI (lget (entCs (entAt T 0)) 2)) (toI (lget (entCs (entAt T 0)) 3)) (fun q0 => kf (lget [.int .i64 q0] 0, [(0, .blk [.int .i64 (toI (lget (entCs (entAt T 0)) 0)), .int .i64 (toI (lget (entCs (entAt T 0)) 1)), .int .i64 (toI (lget (entCs (entAt T 0)) 2)), .int .i64 (toI (lget (entCs (entAt T 0)) 3))])]))
def slices_IndexFunc___int_int__d2 {R : Type} (N : Nat) (S0 : St) (k : Exit → St → Option R) : Option R :=
  slices_IndexFunc___int_int__l2 N N (lstC intC (lget S0.tmps 0)) (toI (lget S0.tmps 7)) (toI (lget S0.tmps 8)) (toI (lget (entCs (entAt S0.tab 0)) 0)) (toI (lget (entCs (entAt S0.tab 0)) 1)) (toI (lget (entCs (entAt S0.tab 0)) 2)) (toI (lget (entCs (entAt S0.tab 0)) 3)) (fun q0 => k .ret (slices_IndexFunc___int_int__x2_r (toI (lget (entCs (entAt S0.tab 0)) 0)) (toI (lget (entCs (entAt S0.tab 0)) 1)) (toI (lget (entCs (entAt S0.tab 0)) 2)) (toI (lget (entCs (entAt S0.tab 0)) 3)) q0)) (fun (_ : Unit) => k (.exit 0) (slices_IndexFunc___int_int__x2_0 (toI (lget (entCs (entAt S0.tab 0)) 0)) (toI (lget (entCs (entAt S0.tab 0)) 1)) (toI (lget (entCs (entAt S0.tab 0)) 2)) (toI (lget (entCs (entAt S0.tab 0)) 3))))
def slices_IndexFunc___int_int__lp {R : Type} (N : Nat) : Lp R := fun body S k => bif (Go.Sx.keyOf body).getD 0 == 2 then slices_IndexFunc___int_int__L2.head.raw 1 S (fun S0 => slices_IndexFunc___int_int__d2 N S0 k) else Option.none
theorem slices_IndexFunc___int_int__l2_eq {R : Type} (N : Nat) (k : Exit → St → Option R) (n : Nat) : ∀ (v0 : Arr Int) (v1 : Int) (v2 : Int) (v3 : Int) (v4 : Int) (v5 : Int) (v6 : Int), loopM E.Θ (drive_Play_1_cal N) (slices_IndexFunc___int_int__lp N) (noJn) 1 slices_IndexFunc___int_int__L2 (bodyAt E 128 2) n (slices_IndexFunc___int_int__h2 v0 v1 v2 v3 v4 v5 v6) k = slices_IndexFunc___int_int__l2 N n v0 v1 v2 v3 v4 v5 v6 (fun q0 => k .ret (slices_IndexFunc___int_int__x2_r v3 v4 v5 v6 q0)) (fun (_ : Unit) => k (.exit 0) (slices_IndexFunc___int_int__x2_0 v3 v4 v5 v6)) := by
  induction n with
  | zero => intro v0 v1 v2 v3 v4 v5 v6; rfl
  | succ n ih =>
    intro v0 v1 v2 v3 v4 v5 v6
    refine Eq.trans (b := slices_IndexFunc___int_int__b2 N (fun v0 v1 v2 v3 v4 v5 v6 => loopM E.Θ (drive_Play_1_cal N) (slices_IndexFunc___int_int__lp N) (noJn) 1 slices_IndexFunc___int_int__L2 (bodyAt E 128 2) n (slices_IndexFunc___int_int__h2 v0 v1 v2 v3 v4 v5 v6) k) v0 v1 v2 v3 v4 v5 v6 (fun q0 => k .ret (slices_IndexFunc___int_int__x2_r v3 v4 v5 v6 q0)) (fun (_ : Unit) => k (.exit 0) (slices_IndexFunc___int_int__x2_0 v3 v4 v5 v6))) (by kernel_rfl) ?_
    have h : (fun (v0 : Arr Int) (v1 : Int) (v2 : Int) (v3 : Int) (v4 : Int) (v5 : Int) (v6 : Int) => loopM E.Θ (drive_Play_1_cal N) (slices_IndexFunc___int_int__lp N) (noJn) 1 slices_IndexFunc___int_int__L2 (bodyAt E 128 2) n (slices_IndexFunc___int_int__h2 v0 v1 v2 v3 v4 v5 v6) k) = (fun (v0 : Arr Int) (v1 : Int) (v2 : Int) (v3 : Int) (v4 : Int) (v5 : Int) (v6 : Int) => slices_IndexFunc___int_int__l2 N n v0 v1 v2 v3 v4 v5 v6 (fun q0 => k .ret (slices_IndexFunc___int_int__x2_r v3 v4 v5 v6 q0)) (fun (_ : Unit) => k (.exit 0) (slices_IndexFunc___int_int__x2_0 v3 v4 v5 v6))) := funext fun v0 => funext fun v1 => funext fun v2 => funext fun v3 => funext fun v4 => funext fun v5 => funext fun v6 => ih v0 v1 v2 v3 v4 v5 v6
    rw [h]
    rfl
theorem slices_IndexFunc___int_int__k2 {R : Type} (N : Nat) : LpKey (R := R) E 128 1 (slices_IndexFunc___int_int__lp N) 2 :=
  lpKey_of hE (drive_Play_1_cal_ok N) (jn := noJn) slices_IndexFunc___int_int__L2_ok [] kNil (by kernel_rfl) [] jNil (by kernel_rfl) N fun S k =>
    Eq.trans (b := slices_IndexFunc___int_int__L2.head.raw 1 S (fun S0 => slices_IndexFunc___int_int__d2 N S0 k)) (by kernel_rfl) (congrArg (slices_IndexFunc___int_int__L2.head.raw 1 S) (funext fun S0 => Eq.trans (slices_IndexFunc___int_int__l2_eq N k N (lstC intC (lget S0.tmps 0)) (toI (lget S0.tmps 7)) (toI (lget S0.tmps 8)) (toI (lget (entCs (entAt S0.tab 0)) 0)) (toI (lget (entCs (entAt S0.tab 0)) 1)) (toI (lget (entCs (entAt S0.tab 0)) 2)) (toI (lget (entCs (entAt S0.tab 0)) 3))).symm (by kernel_rfl)))
noncomputable def slices_IndexFunc___int_int__go {R : Type} (N : Nat) (args : List SV) (T : Tab) (kf : SV × Tab → Option R) : Option R :=
  slices_IndexFunc___int_int_ N (lstC intC (lget args 0)) (toI (lget (entCs (entAt T 0)) 0)) (toI (lget (entCs (entAt T 0)) 1)) (toI (lget (entCs (entAt T 0)) 2)) (toI (lget (entCs (entAt T 0)) 3)) (fun q0 => kf (lget [.int .i64 q0] 0, [(0, .blk [.int .i64 (toI (lget (entCs (entAt T 0)) 0)), .int .i64 (toI (lget (entCs (entAt T 0)) 1)), .int .i64 (toI (lget (entCs (entAt T 0)) 2)), .int .i64 (toI (lget (entCs (entAt T 0)) 3))])]))
noncomputable def slices_IndexFunc___int_int__cal {R : Type} (N : Nat) : Cal R := callM (drive_Play_1_cal N) 128 1 slices_IndexFunc___int_int__sp (slices_IndexFunc___int_int__go N)
theorem slices_IndexFunc___int_int__cal_ok {R : Type} (N : Nat) : CalOk E.P (slices_IndexFunc___int_int__cal (R := R) N) :=
  callM_ok hE (drive_Play_1_cal_ok N) (lp := slices_IndexFunc___int_int__lp N) (jn := noJn) (keys := [2]) (kCons (slices_IndexFunc___int_int__k2 N) kNil) (by kernel_rfl) (js := []) jNil (by kernel_rfl) slices_IndexFunc___int_int__sp_ok slices_IndexFunc___int_int__rs_ok (fun args T kf => Eq.trans (slices_IndexFunc___int_int__def N (lstC intC (lget args 0)) (toI (lget (entCs (entAt T 0)) 0)) (toI (lget (entCs (entAt T 0)) 1)) (toI (lget (entCs (entAt T 0)) 2)) (toI (lget (entCs (entAt T 0)) 3)) (fun q0 => kf (lget [.int .i64 q0] 0, [(0, .blk [.int .i64 (toI (lget (entCs (entAt T 0)) 0)), .int .i64 (toI (lget (entCs (entAt T 0)) 1)), .int .i64 (toI (lget (entCs (entAt T 0)) 2)), .int .i64 (toI (lget (entCs (entAt T 0)) 3))])]))) (by kernel_rfl : slices_IndexFunc___int_int__run N args T kf = fnM E (drive_Play_1_cal N) (slices_IndexFunc___int_int__lp N) (noJn) 128 (slices_IndexFunc___int_int__sp.vs args) (slices_IndexFunc___int_int__sp.tab T) 1 (resK slices_IndexFunc___int_int__rs kf)))


def slices_ContainsFunc___int_int__m {R : Type} (N : Nat) (a192 : Arr Int) (a193 : Int) (a194 : Int) (a195 : Int) (a196 : Int) (k : Bool → Option R) : Option R :=
  slices_IndexFunc___int_int_ N a192 a193 a194 a195 a196 (fun r217 =>
  k (decide (r217 ≥ (0 : Int))))
noncomputable def slices_ContainsFunc___int_int_ {R : Type} : Nat → Arr Int → Int → Int → Int → Int → (Bool → Option R) → Option R := lock (@slices_ContainsFunc___int_int__m R)
theorem slices_ContainsFunc___int_int__def {R : Type} (N : Nat) (a192 : Arr Int) (a193 : Int) (a194 : Int) (a195 : Int) (a196 : Int) (k : Bool → Option R) : slices_ContainsFunc___int_int_ N a192 a193 a194 a195 a196 k = slices_ContainsFunc___int_int__m N a192 a193 a194 a195 a196 k := by unfold slices_ContainsFunc___int_int_; rw [lock_eq]
def slices_ContainsFunc___int_int__sp : Sp := ⟨[rSl intC, rFunc 90 0 [rPtr 0 0]], [(0, eBlk [rInt .i64, rInt .i64, rInt .i64, rInt .i64])]⟩
theorem slices_ContainsFunc___int_int__sp_ok : slices_ContainsFunc___int_int__sp.Ok := ⟨(allCons (rSl_ok intC_ok) (allCons (rFunc_ok 90 0 (allCons (rPtr_ok 0 0) allNil)) allNil)), (eCons (eBlk_ok (allCons (rInt_ok .i64) (allCons (rInt_ok .i64) (allCons (rInt_ok .i64) (allCons (rInt_ok .i64) allNil))))) eNil)⟩
def slices_ContainsFunc___int_int__rs : Sp := ⟨[rBool], [(0, eBlk [rInt .i64, rInt .i64, rInt .i64, rInt .i64])]⟩
theorem slices_ContainsFunc___int_int__rs_ok : slices_ContainsFunc___int_int__rs.Ok := ⟨(allCons rBool_ok allNil), (eCons (eBlk_ok (allCons (rInt_ok .i64) (allCons (rInt_ok .i64) (allCons (rInt_ok .i64) (allCons (rInt_ok .i64) allNil))))) eNil)⟩
def slices_ContainsFunc___int_int__run {R : Type} (N : Nat) (args : List SV) (T : Tab) (kf : SV × Tab → Option R) : Option R :=
  slices_ContainsFunc___int_int__m N (lstC intC (lget args 0)) (toI (lget (entCs (entAt T 0)) 0)) (toI (lget (entCs (entAt T 0)) 1)) (toI (lget (entCs (entAt T 0)) 2)) (toI (lget (entCs (entAt T 0)) 3)) (fun q0 => kf (lget [.bool q0] 0, [(0, .blk [.int .i64 (toI (lget (entCs (entAt T 0)) 0)), .int .i64 (toI (lget (entCs (entAt T 0)) 1)), .int .i64 (toI (lget (entCs (entAt T 0)) 2)), .int .i64 (toI (lget (entCs (entAt T 0)) 3))])]))
def slices_ContainsFunc___int_int__lp {R : Type} (N : Nat) : Lp R := fun body S k => Option.none
noncomputable def slices_ContainsFunc___int_int__go {R : Type} (N : Nat) (args : List SV) (T : Tab) (kf : SV × Tab → Option R) : Option R :=
  slices_ContainsFunc___int_int_ N (lstC intC (lget args 0)) (toI (lget (entCs (entAt T 0)) 0)) (toI (lget (entCs (entAt T 0)) 1)) (toI (lget (entCs (entAt T 0)) 2)) (toI (lget (entCs (entAt T 0)) 3)) (fun q0 => kf (lget [.bool q0] 0, [(0, .blk [.int .i64 (toI (lget (entCs (entAt T 0)) 0)), .int .i64 (toI (lget (entCs (entAt T 0)) 1)), .int .i64 (toI (lget (entCs (entAt T 0)) 2)), .int .i64 (toI (lget (entCs (entAt T 0)) 3))])]))
noncomputable def slices_ContainsFunc___int_int__cal {R : Type} (N : Nat) : Cal R := callM (slices_IndexFunc___int_int__cal N) 89 1 slices_ContainsFunc___int_int__sp (slices_ContainsFunc___int_int__go N)
theorem slices_ContainsFunc___int_int__cal_ok {R : Type} (N : Nat) : CalOk E.P (slices_ContainsFunc___int_int__cal (R := R) N) :=
  callM_ok hE (slices_IndexFunc___int_int__cal_ok N) (lp := slices_ContainsFunc___int_int__lp N) (jn := noJn) (keys := []) kNil (by kernel_rfl) (js := []) jNil (by kernel_rfl) slices_ContainsFunc___int_int__sp_ok slices_ContainsFunc___int_int__rs_ok (fun args T kf => Eq.trans (slices_ContainsFunc___int_int__def N (lstC intC (lget args 0)) (toI (lget (entCs (entAt T 0)) 0)) (toI (lget (entCs (entAt T 0)) 1)) (toI (lget (entCs (entAt T 0)) 2)) (toI (lget (entCs (entAt T 0)) 3)) (fun q0 => kf (lget [.bool q0] 0, [(0, .blk [.int .i64 (toI (lget (entCs (entAt T 0)) 0)), .int .i64 (toI (lget (entCs (entAt T 0)) 1)), .int .i64 (toI (lget (entCs (entAt T 0)) 2)), .int .i64 (toI (lget (entCs (entAt T 0)) 3))])]))) (by kernel_rfl : slices_ContainsFunc___int_int__run N args T kf = fnM E (slices_IndexFunc___int_int__cal N) (slices_ContainsFunc___int_int__lp N) (noJn) 89 (slices_ContainsFunc___int_int__sp.vs args) (slices_ContainsFunc___int_int__sp.tab T) 1 (resK slices_ContainsFunc___int_int__rs kf)))

def drive_Play_L9 : LoopSp := ⟨⟨[9, 10, 32, 33, 34], ⟨(dr 9 ((rPtr 0 0) :: (rRow 1) :: (dr 21 ((rSl intC) :: (rInt .i64) :: (rInt .i64) :: (dr 10 []))))), [(0, eBlkC drive_motionC), (1, eRow intC)]⟩, 2⟩, [(some 0, ⟨[10], ⟨(dr 10 ((rRow 0) :: (dr 34 []))), [(0, eRow intC)]⟩, 1⟩)]⟩
theorem drive_Play_L9_ok : drive_Play_L9.Ok := ⟨⟨(drCons 9 (allCons (rPtr_ok 0 0) (allCons (rRow_ok 1) (drCons 21 (allCons (rSl_ok intC_ok) (allCons (rInt_ok .i64) (allCons (rInt_ok .i64) (drCons 10 allNil)))))))), (eCons (eBlkC_ok drive_motionC_ok drive_motionC_len) (eCons (eRow_ok intC_ok) eNil))⟩, (xCons ⟨(drCons 10 (allCons (rRow_ok 0) (drCons 34 allNil))), (eCons (eRow_ok intC_ok) eNil)⟩ xNil)⟩
def drive_Play_h9 (v219 : Arr Int) (v220 : Int) (v221 : Int) (v222 : drive_motion) (v223 : Bool) (v224 : Arr Int) : St := ⟨(un 9 ((.ptr 0 0) :: (.row 1) :: (un 21 ((slC intC v219) :: (.int .i64 v220) :: (.int .i64 v221) :: (un 10 []))))), [(0, .blk (Cod.enc drive_motionC v222)), (1, rowE intC v223 v224)], 2⟩
def drive_Play_x9_0 (q0 : Bool) (q1 : Arr Int) : St := ⟨(un 10 ((.row 0) :: (un 34 []))), [(0, rowE intC q0 q1)], 1⟩
def drive_Play_b9 {R : Type} (N : Nat) (rc : Arr Int → Int → Int → drive_motion → Bool → Arr Int → Option R) (v219 : Arr Int) (v220 : Int) (v221 : Int) (v222 : drive_motion) (v223 : Bool) (v224 : Arr Int) (k0 : Bool → Arr Int → Option R) : Option R :=
  bif decide (v221 < v220) then
   bif decide ((0 : Int) ≤ v221) && decide (v221 < (↑(Arr.n v219) : Int)) then
    drive_motion_with N (Arr.f v219 (Int.toNat v221)) v222 (fun r225 r226 =>
    bif room (Arr.n v224 + (1 : Nat)) then
     rc v219 v220 (w64 (v221 + (1 : Int))) r226 false (lst intC (Arr.n v224 + (1 : Nat)) (catC (Arr.n v224) (Cod.cell intC (Arr.f v224)) (litC [SV.int IntKind.i64 (0 : Int)] [[SV.int IntKind.i64 r225]])))
    else
     Option.none)
   else
    Option.none
  else
   k0 v223 v224
def drive_Play_l9 {R : Type} (N : Nat) : Nat → Arr Int → Int → Int → drive_motion → Bool → Arr Int → (Bool → Arr Int → Option R) → Option R
  | 0, _, _, _, _, _, _, _ => Option.none
  | n + 1, v219, v220, v221, v222, v223, v224, k0 => drive_Play_b9 N (fun v219 v220 v221 v222 v223 v224 => drive_Play_l9 N n v219 v220 v221 v222 v223 v224 k0) v219 v220 v221 v222 v223 v224 k0


def drive_Play_m {R : Type} (N : Nat) (a188 : api_Escalator) (a189 : api_Stop) (a190 : Arr Int) (k : Int → Bool → Arr Int → Option R) : Option R :=
  drive_checkStop N a188 a189 (fun r191 =>
  bif r191 != (0 : Int) then
   k r191 true (lst intC (0 : Nat) (zeroC [SV.int IntKind.i64 (0 : Int)]))
  else
   bif decide ((↑(Arr.n a190) : Int) > (100 : Int)) then
    k (1 : Int) true (lst intC (0 : Nat) (zeroC [SV.int IntKind.i64 (0 : Int)]))
   else
    slices_ContainsFunc___int_int_ N a190 (api_Stop.Speed a189) (api_Span.Low (api_Stop.Loads a189)) (api_Span.High (api_Stop.Loads a189)) (api_Stop.Fail a189) (fun r218 =>
    bif r218 then
     k (1 : Int) true (lst intC (0 : Nat) (zeroC [SV.int IntKind.i64 (0 : Int)]))
    else
     drive_Play_l9 N N a190 ((↑(Arr.n a190) : Int)) (0 : Int) (drive_motion.mk a188 a189 (api_Stop.Speed a189) (0 : Int)) true (lst intC (0 : Nat) (zeroC [SV.int IntKind.i64 (0 : Int)])) (fun r227 r228 =>
      k (0 : Int) r227 r228)))
noncomputable def drive_Play {R : Type} : Nat → api_Escalator → api_Stop → Arr Int → (Int → Bool → Arr Int → Option R) → Option R := lock (@drive_Play_m R)
theorem drive_Play_def {R : Type} (N : Nat) (a188 : api_Escalator) (a189 : api_Stop) (a190 : Arr Int) (k : Int → Bool → Arr Int → Option R) : drive_Play N a188 a189 a190 k = drive_Play_m N a188 a189 a190 k := by unfold drive_Play; rw [lock_eq]
def drive_Play_sp : Sp := ⟨[rAgg api_EscalatorC, rAgg api_StopC, rSl intC], []⟩
theorem drive_Play_sp_ok : drive_Play_sp.Ok := ⟨(allCons (rAgg_ok api_EscalatorC_ok api_EscalatorC_len) (allCons (rAgg_ok api_StopC_ok api_StopC_len) (allCons (rSl_ok intC_ok) allNil))), eNil⟩
def drive_Play_rs : Sp := ⟨[rTup [rRow 0, rInt .i64]], [(0, eRow intC)]⟩
theorem drive_Play_rs_ok : drive_Play_rs.Ok := ⟨(allCons (rTup_ok (allCons (rRow_ok 0) (allCons (rInt_ok .i64) allNil))) allNil), (eCons (eRow_ok intC_ok) eNil)⟩
def drive_Play_run {R : Type} (N : Nat) (args : List SV) (T : Tab) (kf : SV × Tab → Option R) : Option R :=
  drive_Play_m N (Cod.dec api_EscalatorC (lget (toCs (lget args 0)))) (Cod.dec api_StopC (lget (toCs (lget args 1)))) (lstC intC (lget args 2)) (fun q0 q1 q2 => kf (lget [.tup [.row 0, .int .i64 q0]] 0, [(0, rowE intC q1 q2)]))
def drive_Play_d9 {R : Type} (N : Nat) (S0 : St) (k : Exit → St → Option R) : Option R :=
  drive_Play_l9 N N (lstC intC (lget S0.tmps 32)) (toI (lget S0.tmps 33)) (toI (lget S0.tmps 34)) (Cod.dec drive_motionC (lget (entCs (entAt S0.tab 0)))) (entNl (entAt S0.tab 1)) (lst intC (entN (entAt S0.tab 1)) (entC (entAt S0.tab 1))) (fun q0 q1 => k (.exit 0) (drive_Play_x9_0 q0 q1))
def drive_Play_lp {R : Type} (N : Nat) : Lp R := fun body S k => bif (Go.Sx.keyOf body).getD 0 == 9 then drive_Play_L9.head.raw 0 S (fun S0 => drive_Play_d9 N S0 k) else Option.none
theorem drive_Play_l9_eq {R : Type} (N : Nat) (k : Exit → St → Option R) (n : Nat) : ∀ (v0 : Arr Int) (v1 : Int) (v2 : Int) (v3 : drive_motion) (v4 : Bool) (v5 : Arr Int), loopM E.Θ (slices_ContainsFunc___int_int__cal N) (drive_Play_lp N) (noJn) 0 drive_Play_L9 (bodyAt E 36 9) n (drive_Play_h9 v0 v1 v2 v3 v4 v5) k = drive_Play_l9 N n v0 v1 v2 v3 v4 v5 (fun q0 q1 => k (.exit 0) (drive_Play_x9_0 q0 q1)) := by
  induction n with
  | zero => intro v0 v1 v2 v3 v4 v5; rfl
  | succ n ih =>
    intro v0 v1 v2 v3 v4 v5
    refine Eq.trans (b := drive_Play_b9 N (fun v0 v1 v2 v3 v4 v5 => loopM E.Θ (slices_ContainsFunc___int_int__cal N) (drive_Play_lp N) (noJn) 0 drive_Play_L9 (bodyAt E 36 9) n (drive_Play_h9 v0 v1 v2 v3 v4 v5) k) v0 v1 v2 v3 v4 v5 (fun q0 q1 => k (.exit 0) (drive_Play_x9_0 q0 q1))) (by kernel_rfl) ?_
    have h : (fun (v0 : Arr Int) (v1 : Int) (v2 : Int) (v3 : drive_motion) (v4 : Bool) (v5 : Arr Int) => loopM E.Θ (slices_ContainsFunc___int_int__cal N) (drive_Play_lp N) (noJn) 0 drive_Play_L9 (bodyAt E 36 9) n (drive_Play_h9 v0 v1 v2 v3 v4 v5) k) = (fun (v0 : Arr Int) (v1 : Int) (v2 : Int) (v3 : drive_motion) (v4 : Bool) (v5 : Arr Int) => drive_Play_l9 N n v0 v1 v2 v3 v4 v5 (fun q0 q1 => k (.exit 0) (drive_Play_x9_0 q0 q1))) := funext fun v0 => funext fun v1 => funext fun v2 => funext fun v3 => funext fun v4 => funext fun v5 => ih v0 v1 v2 v3 v4 v5
    rw [h]
    rfl
theorem drive_Play_k9 {R : Type} (N : Nat) : LpKey (R := R) E 36 0 (drive_Play_lp N) 9 :=
  lpKey_of hE (slices_ContainsFunc___int_int__cal_ok N) (jn := noJn) drive_Play_L9_ok [] kNil (by kernel_rfl) [] jNil (by kernel_rfl) N fun S k =>
    Eq.trans (b := drive_Play_L9.head.raw 0 S (fun S0 => drive_Play_d9 N S0 k)) (by kernel_rfl) (congrArg (drive_Play_L9.head.raw 0 S) (funext fun S0 => Eq.trans (drive_Play_l9_eq N k N (lstC intC (lget S0.tmps 32)) (toI (lget S0.tmps 33)) (toI (lget S0.tmps 34)) (Cod.dec drive_motionC (lget (entCs (entAt S0.tab 0)))) (entNl (entAt S0.tab 1)) (lst intC (entN (entAt S0.tab 1)) (entC (entAt S0.tab 1)))).symm (by kernel_rfl)))
noncomputable def drive_Play_go {R : Type} (N : Nat) (args : List SV) (T : Tab) (kf : SV × Tab → Option R) : Option R :=
  drive_Play N (Cod.dec api_EscalatorC (lget (toCs (lget args 0)))) (Cod.dec api_StopC (lget (toCs (lget args 1)))) (lstC intC (lget args 2)) (fun q0 q1 q2 => kf (lget [.tup [.row 0, .int .i64 q0]] 0, [(0, rowE intC q1 q2)]))
noncomputable def drive_Play_cal {R : Type} (N : Nat) : Cal R := callM (slices_ContainsFunc___int_int__cal N) 36 0 drive_Play_sp (drive_Play_go N)
theorem drive_Play_cal_ok {R : Type} (N : Nat) : CalOk E.P (drive_Play_cal (R := R) N) :=
  callM_ok hE (slices_ContainsFunc___int_int__cal_ok N) (lp := drive_Play_lp N) (jn := noJn) (keys := [9]) (kCons (drive_Play_k9 N) kNil) (by kernel_rfl) (js := []) jNil (by kernel_rfl) drive_Play_sp_ok drive_Play_rs_ok (fun args T kf => Eq.trans (drive_Play_def N (Cod.dec api_EscalatorC (lget (toCs (lget args 0)))) (Cod.dec api_StopC (lget (toCs (lget args 1)))) (lstC intC (lget args 2)) (fun q0 q1 q2 => kf (lget [.tup [.row 0, .int .i64 q0]] 0, [(0, rowE intC q1 q2)]))) (by kernel_rfl : drive_Play_run N args T kf = fnM E (slices_ContainsFunc___int_int__cal N) (drive_Play_lp N) (noJn) 36 (drive_Play_sp.vs args) (drive_Play_sp.tab T) 0 (resK drive_Play_rs kf)))

def drive_Critical_L8 : LoopSp := ⟨⟨[2, 3, 4, 5, 11, 37, 38], ⟨(dr 2 ((rInt .i64) :: (rInt .i64) :: (rPtr 0 0) :: (rPtr 1 0) :: (dr 5 ((rRow 2) :: (dr 25 ((rInt .i64) :: (rInt .i64) :: (dr 57 []))))))), [(0, eBlkC api_EscalatorC), (1, eBlkC api_StopC), (2, eRow intC)]⟩, 3⟩, [(some 0, ⟨[11], ⟨(dr 11 ((rRow 0) :: (dr 84 []))), [(0, eRow intC)]⟩, 1⟩)]⟩
theorem drive_Critical_L8_ok : drive_Critical_L8.Ok := ⟨⟨(drCons 2 (allCons (rInt_ok .i64) (allCons (rInt_ok .i64) (allCons (rPtr_ok 0 0) (allCons (rPtr_ok 1 0) (drCons 5 (allCons (rRow_ok 2) (drCons 25 (allCons (rInt_ok .i64) (allCons (rInt_ok .i64) (drCons 57 allNil))))))))))), (eCons (eBlkC_ok api_EscalatorC_ok api_EscalatorC_len) (eCons (eBlkC_ok api_StopC_ok api_StopC_len) (eCons (eRow_ok intC_ok) eNil)))⟩, (xCons ⟨(drCons 11 (allCons (rRow_ok 0) (drCons 84 allNil))), (eCons (eRow_ok intC_ok) eNil)⟩ xNil)⟩
def drive_Critical_h8 (v238 : Int) (v239 : Int) (v240 : Int) (v241 : Int) (v242 : api_Escalator) (v243 : api_Stop) (v244 : Bool) (v245 : Arr Int) : St := ⟨(un 2 ((.int .i64 v238) :: (.int .i64 v239) :: (.ptr 0 0) :: (.ptr 1 0) :: (un 5 ((.row 2) :: (un 25 ((.int .i64 v240) :: (.int .i64 v241) :: (un 57 []))))))), [(0, .blk (Cod.enc api_EscalatorC v242)), (1, .blk (Cod.enc api_StopC v243)), (2, rowE intC v244 v245)], 3⟩
def drive_Critical_x8_0 (q0 : Bool) (q1 : Arr Int) : St := ⟨(un 11 ((.row 0) :: (un 84 []))), [(0, rowE intC q0 q1)], 1⟩
def drive_Critical_b8 {R : Type} (N : Nat) (rc : Int → Int → Int → Int → api_Escalator → api_Stop → Bool → Arr Int → Option R) (v238 : Int) (v239 : Int) (v240 : Int) (v241 : Int) (v242 : api_Escalator) (v243 : api_Stop) (v244 : Bool) (v245 : Arr Int) (k0 : Bool → Arr Int → Option R) : Option R :=
  bif decide (v241 < v240) then
   bif decide (v241 < (0 : Int)) then
    Option.none
   else
    bif w64 (↑(BitVec.toNat (BitVec.ofInt (IntKind.bits IntKind.i64) (api_Stop.Fail v243) ||| BitVec.ofInt (IntKind.bits IntKind.i64) (w64 ((1 : Int) * (2 : Int) ^ min (Int.toNat v241) (IntKind.bits IntKind.i64))))) : Int) == api_Stop.Fail v243 then
     rc v238 v239 v240 (w64 (v241 + (1 : Int))) v242 v243 v244 v245
    else
     drive_run N v242 (api_Stop.mk (api_Stop.Speed v243) (api_Stop.Loads v243) (w64 (↑(BitVec.toNat (BitVec.ofInt (IntKind.bits IntKind.i64) (api_Stop.Fail v243) ||| BitVec.ofInt (IntKind.bits IntKind.i64) (w64 ((1 : Int) * (2 : Int) ^ min (Int.toNat v241) (IntKind.bits IntKind.i64))))) : Int))) true (fun r246 r247 r248 r249 =>
     drive_Back N v242 (api_Stop.mk (api_Stop.Speed v243) (api_Stop.Loads v243) (w64 (↑(BitVec.toNat (BitVec.ofInt (IntKind.bits IntKind.i64) (api_Stop.Fail v243) ||| BitVec.ofInt (IntKind.bits IntKind.i64) (w64 ((1 : Int) * (2 : Int) ^ min (Int.toNat v241) (IntKind.bits IntKind.i64))))) : Int))) (fun r250 r251 =>
     drive_Holds N v242 (api_Stop.mk (api_Stop.Speed v243) (api_Stop.Loads v243) (w64 (↑(BitVec.toNat (BitVec.ofInt (IntKind.bits IntKind.i64) (api_Stop.Fail v243) ||| BitVec.ofInt (IntKind.bits IntKind.i64) (w64 ((1 : Int) * (2 : Int) ^ min (Int.toNat v241) (IntKind.bits IntKind.i64))))) : Int))) (fun r252 r253 =>
     bif !r247 then
      bif room (Arr.n v245 + (1 : Nat)) then
       rc v238 v239 v240 (w64 (v241 + (1 : Int))) v242 v243 false (lst intC (Arr.n v245 + (1 : Nat)) (catC (Arr.n v245) (Cod.cell intC (Arr.f v245)) (litC [SV.int IntKind.i64 (0 : Int)] [[SV.int IntKind.i64 v241]])))
      else
       Option.none
     else
      bif decide (r246 > v238) then
       bif room (Arr.n v245 + (1 : Nat)) then
        rc v238 v239 v240 (w64 (v241 + (1 : Int))) v242 v243 false (lst intC (Arr.n v245 + (1 : Nat)) (catC (Arr.n v245) (Cod.cell intC (Arr.f v245)) (litC [SV.int IntKind.i64 (0 : Int)] [[SV.int IntKind.i64 v241]])))
       else
        Option.none
      else
       bif r251 != (0 : Int) then
        bif room (Arr.n v245 + (1 : Nat)) then
         rc v238 v239 v240 (w64 (v241 + (1 : Int))) v242 v243 false (lst intC (Arr.n v245 + (1 : Nat)) (catC (Arr.n v245) (Cod.cell intC (Arr.f v245)) (litC [SV.int IntKind.i64 (0 : Int)] [[SV.int IntKind.i64 v241]])))
        else
         Option.none
       else
        bif decide (r250 > v239) then
         bif room (Arr.n v245 + (1 : Nat)) then
          rc v238 v239 v240 (w64 (v241 + (1 : Int))) v242 v243 false (lst intC (Arr.n v245 + (1 : Nat)) (catC (Arr.n v245) (Cod.cell intC (Arr.f v245)) (litC [SV.int IntKind.i64 (0 : Int)] [[SV.int IntKind.i64 v241]])))
         else
          Option.none
        else
         bif !r252 then
          bif room (Arr.n v245 + (1 : Nat)) then
           rc v238 v239 v240 (w64 (v241 + (1 : Int))) v242 v243 false (lst intC (Arr.n v245 + (1 : Nat)) (catC (Arr.n v245) (Cod.cell intC (Arr.f v245)) (litC [SV.int IntKind.i64 (0 : Int)] [[SV.int IntKind.i64 v241]])))
          else
           Option.none
         else
          rc v238 v239 v240 (w64 (v241 + (1 : Int))) v242 v243 v244 v245)))
  else
   k0 v244 v245
def drive_Critical_l8 {R : Type} (N : Nat) : Nat → Int → Int → Int → Int → api_Escalator → api_Stop → Bool → Arr Int → (Bool → Arr Int → Option R) → Option R
  | 0, _, _, _, _, _, _, _, _, _ => Option.none
  | n + 1, v238, v239, v240, v241, v242, v243, v244, v245, k0 => drive_Critical_b8 N (fun v238 v239 v240 v241 v242 v243 v244 v245 => drive_Critical_l8 N n v238 v239 v240 v241 v242 v243 v244 v245 k0) v238 v239 v240 v241 v242 v243 v244 v245 k0


def drive_Critical_m {R : Type} (N : Nat) (a229 : api_Escalator) (a230 : api_Stop) (a231 : Int) (a232 : Int) (k : Int → Bool → Arr Int → Option R) : Option R :=
  drive_checkStop N a229 a230 (fun r233 =>
  bif r233 != (0 : Int) then
   k r233 true (lst intC (0 : Nat) (zeroC [SV.int IntKind.i64 (0 : Int)]))
  else
   drive_to N (10000000 : Int) (fun r234 =>
   drive_in N a231 r234 (fun r235 =>
   bif !r235 then
    k (1 : Int) true (lst intC (0 : Nat) (zeroC [SV.int IntKind.i64 (0 : Int)]))
   else
    drive_to N (10000000 : Int) (fun r236 =>
    drive_in N a232 r236 (fun r237 =>
    bif !r237 then
     k (1 : Int) true (lst intC (0 : Nat) (zeroC [SV.int IntKind.i64 (0 : Int)]))
    else
     drive_Critical_l8 N N a231 a232 ((↑(Arr.n (api_Escalator.Brakes a229)) : Int)) (0 : Int) a229 a230 true (lst intC (0 : Nat) (zeroC [SV.int IntKind.i64 (0 : Int)])) (fun r254 r255 =>
      k (0 : Int) r254 r255))))))
noncomputable def drive_Critical {R : Type} : Nat → api_Escalator → api_Stop → Int → Int → (Int → Bool → Arr Int → Option R) → Option R := lock (@drive_Critical_m R)
theorem drive_Critical_def {R : Type} (N : Nat) (a229 : api_Escalator) (a230 : api_Stop) (a231 : Int) (a232 : Int) (k : Int → Bool → Arr Int → Option R) : drive_Critical N a229 a230 a231 a232 k = drive_Critical_m N a229 a230 a231 a232 k := by unfold drive_Critical; rw [lock_eq]
def drive_Critical_sp : Sp := ⟨[rAgg api_EscalatorC, rAgg api_StopC, rInt .i64, rInt .i64], []⟩
theorem drive_Critical_sp_ok : drive_Critical_sp.Ok := ⟨(allCons (rAgg_ok api_EscalatorC_ok api_EscalatorC_len) (allCons (rAgg_ok api_StopC_ok api_StopC_len) (allCons (rInt_ok .i64) (allCons (rInt_ok .i64) allNil)))), eNil⟩
def drive_Critical_rs : Sp := ⟨[rTup [rRow 0, rInt .i64]], [(0, eRow intC)]⟩
theorem drive_Critical_rs_ok : drive_Critical_rs.Ok := ⟨(allCons (rTup_ok (allCons (rRow_ok 0) (allCons (rInt_ok .i64) allNil))) allNil), (eCons (eRow_ok intC_ok) eNil)⟩
def drive_Critical_run {R : Type} (N : Nat) (args : List SV) (T : Tab) (kf : SV × Tab → Option R) : Option R :=
  drive_Critical_m N (Cod.dec api_EscalatorC (lget (toCs (lget args 0)))) (Cod.dec api_StopC (lget (toCs (lget args 1)))) (toI (lget args 2)) (toI (lget args 3)) (fun q0 q1 q2 => kf (lget [.tup [.row 0, .int .i64 q0]] 0, [(0, rowE intC q1 q2)]))
def drive_Critical_d8 {R : Type} (N : Nat) (S0 : St) (k : Exit → St → Option R) : Option R :=
  drive_Critical_l8 N N (toI (lget S0.tmps 2)) (toI (lget S0.tmps 3)) (toI (lget S0.tmps 37)) (toI (lget S0.tmps 38)) (Cod.dec api_EscalatorC (lget (entCs (entAt S0.tab 0)))) (Cod.dec api_StopC (lget (entCs (entAt S0.tab 1)))) (entNl (entAt S0.tab 2)) (lst intC (entN (entAt S0.tab 2)) (entC (entAt S0.tab 2))) (fun q0 q1 => k (.exit 0) (drive_Critical_x8_0 q0 q1))
def drive_Critical_lp {R : Type} (N : Nat) : Lp R := fun body S k => bif (Go.Sx.keyOf body).getD 0 == 8 then drive_Critical_L8.head.raw 0 S (fun S0 => drive_Critical_d8 N S0 k) else Option.none
theorem drive_Critical_l8_eq {R : Type} (N : Nat) (k : Exit → St → Option R) (n : Nat) : ∀ (v0 : Int) (v1 : Int) (v2 : Int) (v3 : Int) (v4 : api_Escalator) (v5 : api_Stop) (v6 : Bool) (v7 : Arr Int), loopM E.Θ (drive_Play_cal N) (drive_Critical_lp N) (noJn) 0 drive_Critical_L8 (bodyAt E 31 8) n (drive_Critical_h8 v0 v1 v2 v3 v4 v5 v6 v7) k = drive_Critical_l8 N n v0 v1 v2 v3 v4 v5 v6 v7 (fun q0 q1 => k (.exit 0) (drive_Critical_x8_0 q0 q1)) := by
  induction n with
  | zero => intro v0 v1 v2 v3 v4 v5 v6 v7; rfl
  | succ n ih =>
    intro v0 v1 v2 v3 v4 v5 v6 v7
    refine Eq.trans (b := drive_Critical_b8 N (fun v0 v1 v2 v3 v4 v5 v6 v7 => loopM E.Θ (drive_Play_cal N) (drive_Critical_lp N) (noJn) 0 drive_Critical_L8 (bodyAt E 31 8) n (drive_Critical_h8 v0 v1 v2 v3 v4 v5 v6 v7) k) v0 v1 v2 v3 v4 v5 v6 v7 (fun q0 q1 => k (.exit 0) (drive_Critical_x8_0 q0 q1))) (by kernel_rfl) ?_
    have h : (fun (v0 : Int) (v1 : Int) (v2 : Int) (v3 : Int) (v4 : api_Escalator) (v5 : api_Stop) (v6 : Bool) (v7 : Arr Int) => loopM E.Θ (drive_Play_cal N) (drive_Critical_lp N) (noJn) 0 drive_Critical_L8 (bodyAt E 31 8) n (drive_Critical_h8 v0 v1 v2 v3 v4 v5 v6 v7) k) = (fun (v0 : Int) (v1 : Int) (v2 : Int) (v3 : Int) (v4 : api_Escalator) (v5 : api_Stop) (v6 : Bool) (v7 : Arr Int) => drive_Critical_l8 N n v0 v1 v2 v3 v4 v5 v6 v7 (fun q0 q1 => k (.exit 0) (drive_Critical_x8_0 q0 q1))) := funext fun v0 => funext fun v1 => funext fun v2 => funext fun v3 => funext fun v4 => funext fun v5 => funext fun v6 => funext fun v7 => ih v0 v1 v2 v3 v4 v5 v6 v7
    rw [h]
    rfl
theorem drive_Critical_k8 {R : Type} (N : Nat) : LpKey (R := R) E 31 0 (drive_Critical_lp N) 8 :=
  lpKey_of hE (drive_Play_cal_ok N) (jn := noJn) drive_Critical_L8_ok [] kNil (by kernel_rfl) [] jNil (by kernel_rfl) N fun S k =>
    Eq.trans (b := drive_Critical_L8.head.raw 0 S (fun S0 => drive_Critical_d8 N S0 k)) (by kernel_rfl) (congrArg (drive_Critical_L8.head.raw 0 S) (funext fun S0 => Eq.trans (drive_Critical_l8_eq N k N (toI (lget S0.tmps 2)) (toI (lget S0.tmps 3)) (toI (lget S0.tmps 37)) (toI (lget S0.tmps 38)) (Cod.dec api_EscalatorC (lget (entCs (entAt S0.tab 0)))) (Cod.dec api_StopC (lget (entCs (entAt S0.tab 1)))) (entNl (entAt S0.tab 2)) (lst intC (entN (entAt S0.tab 2)) (entC (entAt S0.tab 2)))).symm (by kernel_rfl)))
noncomputable def drive_Critical_go {R : Type} (N : Nat) (args : List SV) (T : Tab) (kf : SV × Tab → Option R) : Option R :=
  drive_Critical N (Cod.dec api_EscalatorC (lget (toCs (lget args 0)))) (Cod.dec api_StopC (lget (toCs (lget args 1)))) (toI (lget args 2)) (toI (lget args 3)) (fun q0 q1 q2 => kf (lget [.tup [.row 0, .int .i64 q0]] 0, [(0, rowE intC q1 q2)]))
noncomputable def drive_Critical_cal {R : Type} (N : Nat) : Cal R := callM (drive_Play_cal N) 31 0 drive_Critical_sp (drive_Critical_go N)
theorem drive_Critical_cal_ok {R : Type} (N : Nat) : CalOk E.P (drive_Critical_cal (R := R) N) :=
  callM_ok hE (drive_Play_cal_ok N) (lp := drive_Critical_lp N) (jn := noJn) (keys := [8]) (kCons (drive_Critical_k8 N) kNil) (by kernel_rfl) (js := []) jNil (by kernel_rfl) drive_Critical_sp_ok drive_Critical_rs_ok (fun args T kf => Eq.trans (drive_Critical_def N (Cod.dec api_EscalatorC (lget (toCs (lget args 0)))) (Cod.dec api_StopC (lget (toCs (lget args 1)))) (toI (lget args 2)) (toI (lget args 3)) (fun q0 q1 q2 => kf (lget [.tup [.row 0, .int .i64 q0]] 0, [(0, rowE intC q1 q2)]))) (by kernel_rfl : drive_Critical_run N args T kf = fnM E (drive_Play_cal N) (drive_Critical_lp N) (noJn) 31 (drive_Critical_sp.vs args) (drive_Critical_sp.tab T) 0 (resK drive_Critical_rs kf)))

def slices_Index___bool_bool__L2 : LoopSp := ⟨⟨[0, 1, 7, 8], ⟨((rSl boolC) :: (rBool) :: (dr 5 ((rInt .i64) :: (rInt .i64) :: (dr 10 [])))), []⟩, 0⟩, [(Option.none, ⟨[4], ⟨(dr 4 ((rInt .i64) :: (dr 14 []))), []⟩, 0⟩), (some 0, ⟨[], ⟨(dr 19 []), []⟩, 0⟩)]⟩
theorem slices_Index___bool_bool__L2_ok : slices_Index___bool_bool__L2.Ok := ⟨⟨(allCons (rSl_ok boolC_ok) (allCons rBool_ok (drCons 5 (allCons (rInt_ok .i64) (allCons (rInt_ok .i64) (drCons 10 allNil)))))), eNil⟩, (xCons ⟨(drCons 4 (allCons (rInt_ok .i64) (drCons 14 allNil))), eNil⟩ (xCons ⟨(drCons 19 allNil), eNil⟩ xNil))⟩
def slices_Index___bool_bool__h2 (v261 : Arr Bool) (v262 : Bool) (v263 : Int) (v264 : Int) : St := ⟨((slC boolC v261) :: (.bool v262) :: (un 5 ((.int .i64 v263) :: (.int .i64 v264) :: (un 10 [])))), [], 0⟩
def slices_Index___bool_bool__x2_r (q0 : Int) : St := ⟨(un 4 ((.int .i64 q0) :: (un 14 []))), [], 0⟩
def slices_Index___bool_bool__x2_0  : St := ⟨(un 19 []), [], 0⟩
def slices_Index___bool_bool__b2 {R : Type} (N : Nat) (rc : Arr Bool → Bool → Int → Int → Option R) (v261 : Arr Bool) (v262 : Bool) (v263 : Int) (v264 : Int) (kr : Int → Option R) (k0 : Unit → Option R) : Option R :=
  bif decide (v264 < v263) then
   bif decide ((0 : Int) ≤ v264) && decide (v264 < (↑(Arr.n v261) : Int)) then
    bif v262 == Arr.f v261 (Int.toNat v264) then
     kr v264
    else
     rc v261 v262 v263 (w64 (v264 + (1 : Int)))
   else
    Option.none
  else
   k0 ()
def slices_Index___bool_bool__l2 {R : Type} (N : Nat) : Nat → Arr Bool → Bool → Int → Int → (Int → Option R) → (Unit → Option R) → Option R
  | 0, _, _, _, _, _, _ => Option.none
  | n + 1, v261, v262, v263, v264, kr, k0 => slices_Index___bool_bool__b2 N (fun v261 v262 v263 v264 => slices_Index___bool_bool__l2 N n v261 v262 v263 v264 kr k0) v261 v262 v263 v264 kr k0


def slices_Index___bool_bool__m {R : Type} (N : Nat) (a259 : Arr Bool) (a260 : Bool) (k : Int → Option R) : Option R :=
  slices_Index___bool_bool__l2 N N a259 a260 ((↑(Arr.n a259) : Int)) (0 : Int) (fun r265 =>
   k r265) (fun (_ : Unit) =>
   k (-1 : Int))
noncomputable def slices_Index___bool_bool_ {R : Type} : Nat → Arr Bool → Bool → (Int → Option R) → Option R := lock (@slices_Index___bool_bool__m R)
theorem slices_Index___bool_bool__def {R : Type} (N : Nat) (a259 : Arr Bool) (a260 : Bool) (k : Int → Option R) : slices_Index___bool_bool_ N a259 a260 k = slices_Index___bool_bool__m N a259 a260 k := by unfold slices_Index___bool_bool_; rw [lock_eq]
def slices_Index___bool_bool__sp : Sp := ⟨[rSl boolC, rBool], []⟩
theorem slices_Index___bool_bool__sp_ok : slices_Index___bool_bool__sp.Ok := ⟨(allCons (rSl_ok boolC_ok) (allCons rBool_ok allNil)), eNil⟩
def slices_Index___bool_bool__rs : Sp := ⟨[rInt .i64], []⟩
theorem slices_Index___bool_bool__rs_ok : slices_Index___bool_bool__rs.Ok := ⟨(allCons (rInt_ok .i64) allNil), eNil⟩
def slices_Index___bool_bool__run {R : Type} (N : Nat) (args : List SV) (T : Tab) (kf : SV × Tab → Option R) : Option R :=
  slices_Index___bool_bool__m N (lstC boolC (lget args 0)) (toB (lget args 1)) (fun q0 => kf (lget [.int .i64 q0] 0, []))
def slices_Index___bool_bool__d2 {R : Type} (N : Nat) (S0 : St) (k : Exit → St → Option R) : Option R :=
  slices_Index___bool_bool__l2 N N (lstC boolC (lget S0.tmps 0)) (toB (lget S0.tmps 1)) (toI (lget S0.tmps 7)) (toI (lget S0.tmps 8)) (fun q0 => k .ret (slices_Index___bool_bool__x2_r q0)) (fun (_ : Unit) => k (.exit 0) (slices_Index___bool_bool__x2_0 ))
def slices_Index___bool_bool__lp {R : Type} (N : Nat) : Lp R := fun body S k => bif (Go.Sx.keyOf body).getD 0 == 2 then slices_Index___bool_bool__L2.head.raw 0 S (fun S0 => slices_Index___bool_bool__d2 N S0 k) else Option.none
theorem slices_Index___bool_bool__l2_eq {R : Type} (N : Nat) (k : Exit → St → Option R) (n : Nat) : ∀ (v0 : Arr Bool) (v1 : Bool) (v2 : Int) (v3 : Int), loopM E.Θ (drive_Critical_cal N) (slices_Index___bool_bool__lp N) (noJn) 0 slices_Index___bool_bool__L2 (bodyAt E 154 2) n (slices_Index___bool_bool__h2 v0 v1 v2 v3) k = slices_Index___bool_bool__l2 N n v0 v1 v2 v3 (fun q0 => k .ret (slices_Index___bool_bool__x2_r q0)) (fun (_ : Unit) => k (.exit 0) (slices_Index___bool_bool__x2_0 )) := by
  induction n with
  | zero => intro v0 v1 v2 v3; rfl
  | succ n ih =>
    intro v0 v1 v2 v3
    refine Eq.trans (b := slices_Index___bool_bool__b2 N (fun v0 v1 v2 v3 => loopM E.Θ (drive_Critical_cal N) (slices_Index___bool_bool__lp N) (noJn) 0 slices_Index___bool_bool__L2 (bodyAt E 154 2) n (slices_Index___bool_bool__h2 v0 v1 v2 v3) k) v0 v1 v2 v3 (fun q0 => k .ret (slices_Index___bool_bool__x2_r q0)) (fun (_ : Unit) => k (.exit 0) (slices_Index___bool_bool__x2_0 ))) (by kernel_rfl) ?_
    have h : (fun (v0 : Arr Bool) (v1 : Bool) (v2 : Int) (v3 : Int) => loopM E.Θ (drive_Critical_cal N) (slices_Index___bool_bool__lp N) (noJn) 0 slices_Index___bool_bool__L2 (bodyAt E 154 2) n (slices_Index___bool_bool__h2 v0 v1 v2 v3) k) = (fun (v0 : Arr Bool) (v1 : Bool) (v2 : Int) (v3 : Int) => slices_Index___bool_bool__l2 N n v0 v1 v2 v3 (fun q0 => k .ret (slices_Index___bool_bool__x2_r q0)) (fun (_ : Unit) => k (.exit 0) (slices_Index___bool_bool__x2_0 ))) := funext fun v0 => funext fun v1 => funext fun v2 => funext fun v3 => ih v0 v1 v2 v3
    rw [h]
    rfl
theorem slices_Index___bool_bool__k2 {R : Type} (N : Nat) : LpKey (R := R) E 154 0 (slices_Index___bool_bool__lp N) 2 :=
  lpKey_of hE (drive_Critical_cal_ok N) (jn := noJn) slices_Index___bool_bool__L2_ok [] kNil (by kernel_rfl) [] jNil (by kernel_rfl) N fun S k =>
    Eq.trans (b := slices_Index___bool_bool__L2.head.raw 0 S (fun S0 => slices_Index___bool_bool__d2 N S0 k)) (by kernel_rfl) (congrArg (slices_Index___bool_bool__L2.head.raw 0 S) (funext fun S0 => Eq.trans (slices_Index___bool_bool__l2_eq N k N (lstC boolC (lget S0.tmps 0)) (toB (lget S0.tmps 1)) (toI (lget S0.tmps 7)) (toI (lget S0.tmps 8))).symm (by kernel_rfl)))
noncomputable def slices_Index___bool_bool__go {R : Type} (N : Nat) (args : List SV) (T : Tab) (kf : SV × Tab → Option R) : Option R :=
  slices_Index___bool_bool_ N (lstC boolC (lget args 0)) (toB (lget args 1)) (fun q0 => kf (lget [.int .i64 q0] 0, []))
noncomputable def slices_Index___bool_bool__cal {R : Type} (N : Nat) : Cal R := callM (drive_Critical_cal N) 154 0 slices_Index___bool_bool__sp (slices_Index___bool_bool__go N)
theorem slices_Index___bool_bool__cal_ok {R : Type} (N : Nat) : CalOk E.P (slices_Index___bool_bool__cal (R := R) N) :=
  callM_ok hE (drive_Critical_cal_ok N) (lp := slices_Index___bool_bool__lp N) (jn := noJn) (keys := [2]) (kCons (slices_Index___bool_bool__k2 N) kNil) (by kernel_rfl) (js := []) jNil (by kernel_rfl) slices_Index___bool_bool__sp_ok slices_Index___bool_bool__rs_ok (fun args T kf => Eq.trans (slices_Index___bool_bool__def N (lstC boolC (lget args 0)) (toB (lget args 1)) (fun q0 => kf (lget [.int .i64 q0] 0, []))) (by kernel_rfl : slices_Index___bool_bool__run N args T kf = fnM E (drive_Critical_cal N) (slices_Index___bool_bool__lp N) (noJn) 154 (slices_Index___bool_bool__sp.vs args) (slices_Index___bool_bool__sp.tab T) 0 (resK slices_Index___bool_bool__rs kf)))


def slices_Contains___bool_bool__m {R : Type} (N : Nat) (a257 : Arr Bool) (a258 : Bool) (k : Bool → Option R) : Option R :=
  slices_Index___bool_bool_ N a257 a258 (fun r266 =>
  k (decide (r266 ≥ (0 : Int))))
noncomputable def slices_Contains___bool_bool_ {R : Type} : Nat → Arr Bool → Bool → (Bool → Option R) → Option R := lock (@slices_Contains___bool_bool__m R)
theorem slices_Contains___bool_bool__def {R : Type} (N : Nat) (a257 : Arr Bool) (a258 : Bool) (k : Bool → Option R) : slices_Contains___bool_bool_ N a257 a258 k = slices_Contains___bool_bool__m N a257 a258 k := by unfold slices_Contains___bool_bool_; rw [lock_eq]
def slices_Contains___bool_bool__sp : Sp := ⟨[rSl boolC, rBool], []⟩
theorem slices_Contains___bool_bool__sp_ok : slices_Contains___bool_bool__sp.Ok := ⟨(allCons (rSl_ok boolC_ok) (allCons rBool_ok allNil)), eNil⟩
def slices_Contains___bool_bool__rs : Sp := ⟨[rBool], []⟩
theorem slices_Contains___bool_bool__rs_ok : slices_Contains___bool_bool__rs.Ok := ⟨(allCons rBool_ok allNil), eNil⟩
def slices_Contains___bool_bool__run {R : Type} (N : Nat) (args : List SV) (T : Tab) (kf : SV × Tab → Option R) : Option R :=
  slices_Contains___bool_bool__m N (lstC boolC (lget args 0)) (toB (lget args 1)) (fun q0 => kf (lget [.bool q0] 0, []))
def slices_Contains___bool_bool__lp {R : Type} (N : Nat) : Lp R := fun body S k => Option.none
noncomputable def slices_Contains___bool_bool__go {R : Type} (N : Nat) (args : List SV) (T : Tab) (kf : SV × Tab → Option R) : Option R :=
  slices_Contains___bool_bool_ N (lstC boolC (lget args 0)) (toB (lget args 1)) (fun q0 => kf (lget [.bool q0] 0, []))
noncomputable def slices_Contains___bool_bool__cal {R : Type} (N : Nat) : Cal R := callM (slices_Index___bool_bool__cal N) 122 0 slices_Contains___bool_bool__sp (slices_Contains___bool_bool__go N)
theorem slices_Contains___bool_bool__cal_ok {R : Type} (N : Nat) : CalOk E.P (slices_Contains___bool_bool__cal (R := R) N) :=
  callM_ok hE (slices_Index___bool_bool__cal_ok N) (lp := slices_Contains___bool_bool__lp N) (jn := noJn) (keys := []) kNil (by kernel_rfl) (js := []) jNil (by kernel_rfl) slices_Contains___bool_bool__sp_ok slices_Contains___bool_bool__rs_ok (fun args T kf => Eq.trans (slices_Contains___bool_bool__def N (lstC boolC (lget args 0)) (toB (lget args 1)) (fun q0 => kf (lget [.bool q0] 0, []))) (by kernel_rfl : slices_Contains___bool_bool__run N args T kf = fnM E (slices_Index___bool_bool__cal N) (slices_Contains___bool_bool__lp N) (noJn) 122 (slices_Contains___bool_bool__sp.vs args) (slices_Contains___bool_bool__sp.tab T) 0 (resK slices_Contains___bool_bool__rs kf)))


def circuit_isSet_m {R : Type} (N : Nat) (a286 : Int) (a287 : Int) (k : Bool → Option R) : Option R :=
  bif decide (a286 ≥ (0 : Int)) then
   bif decide (a287 < (0 : Int)) then
    Option.none
   else
    k (decide (a286 < w64 ((1 : Int) * (2 : Int) ^ min (Int.toNat a287) (IntKind.bits IntKind.i64))))
  else
   k false
noncomputable def circuit_isSet {R : Type} : Nat → Int → Int → (Bool → Option R) → Option R := lock (@circuit_isSet_m R)
theorem circuit_isSet_def {R : Type} (N : Nat) (a286 : Int) (a287 : Int) (k : Bool → Option R) : circuit_isSet N a286 a287 k = circuit_isSet_m N a286 a287 k := by unfold circuit_isSet; rw [lock_eq]
def circuit_isSet_sp : Sp := ⟨[rInt .i64, rInt .i64], []⟩
theorem circuit_isSet_sp_ok : circuit_isSet_sp.Ok := ⟨(allCons (rInt_ok .i64) (allCons (rInt_ok .i64) allNil)), eNil⟩
def circuit_isSet_rs : Sp := ⟨[rBool], []⟩
theorem circuit_isSet_rs_ok : circuit_isSet_rs.Ok := ⟨(allCons rBool_ok allNil), eNil⟩
def circuit_isSet_run {R : Type} (N : Nat) (args : List SV) (T : Tab) (kf : SV × Tab → Option R) : Option R :=
  circuit_isSet_m N (toI (lget args 0)) (toI (lget args 1)) (fun q0 => kf (lget [.bool q0] 0, []))
def circuit_isSet_lp {R : Type} (N : Nat) : Lp R := fun body S k => Option.none
noncomputable def circuit_isSet_go {R : Type} (N : Nat) (args : List SV) (T : Tab) (kf : SV × Tab → Option R) : Option R :=
  circuit_isSet N (toI (lget args 0)) (toI (lget args 1)) (fun q0 => kf (lget [.bool q0] 0, []))
noncomputable def circuit_isSet_cal {R : Type} (N : Nat) : Cal R := callM (slices_Contains___bool_bool__cal N) 87 0 circuit_isSet_sp (circuit_isSet_go N)
theorem circuit_isSet_cal_ok {R : Type} (N : Nat) : CalOk E.P (circuit_isSet_cal (R := R) N) :=
  callM_ok hE (slices_Contains___bool_bool__cal_ok N) (lp := circuit_isSet_lp N) (jn := noJn) (keys := []) kNil (by kernel_rfl) (js := []) jNil (by kernel_rfl) circuit_isSet_sp_ok circuit_isSet_rs_ok (fun args T kf => Eq.trans (circuit_isSet_def N (toI (lget args 0)) (toI (lget args 1)) (fun q0 => kf (lget [.bool q0] 0, []))) (by kernel_rfl : circuit_isSet_run N args T kf = fnM E (slices_Contains___bool_bool__cal N) (circuit_isSet_lp N) (noJn) 87 (circuit_isSet_sp.vs args) (circuit_isSet_sp.tab T) 0 (resK circuit_isSet_rs kf)))


def circuit_Check_1_m {R : Type} (N : Nat) (a282 : Int) (a283 : Int) (a284 : Arr Int) (a285 : Arr api_Wire) (k : Bool → Option R) : Option R :=
  circuit_isSet N a282 a283 (fun r288 =>
  k !r288)
noncomputable def circuit_Check_1 {R : Type} : Nat → Int → Int → Arr Int → Arr api_Wire → (Bool → Option R) → Option R := lock (@circuit_Check_1_m R)
theorem circuit_Check_1_def {R : Type} (N : Nat) (a282 : Int) (a283 : Int) (a284 : Arr Int) (a285 : Arr api_Wire) (k : Bool → Option R) : circuit_Check_1 N a282 a283 a284 a285 k = circuit_Check_1_m N a282 a283 a284 a285 k := by unfold circuit_Check_1; rw [lock_eq]
def circuit_Check_1_sp : Sp := ⟨[rInt .i64, rPtr 0 0], [(0, eBlk [rInt .i64, rSl intC, rSl api_WireC])]⟩
theorem circuit_Check_1_sp_ok : circuit_Check_1_sp.Ok := ⟨(allCons (rInt_ok .i64) (allCons (rPtr_ok 0 0) allNil)), (eCons (eBlk_ok (allCons (rInt_ok .i64) (allCons (rSl_ok intC_ok) (allCons (rSl_ok api_WireC_ok) allNil)))) eNil)⟩
def circuit_Check_1_rs : Sp := ⟨[rBool], [(0, eBlk [rInt .i64, rSl intC, rSl api_WireC])]⟩
theorem circuit_Check_1_rs_ok : circuit_Check_1_rs.Ok := ⟨(allCons rBool_ok allNil), (eCons (eBlk_ok (allCons (rInt_ok .i64) (allCons (rSl_ok intC_ok) (allCons (rSl_ok api_WireC_ok) allNil)))) eNil)⟩
def circuit_Check_1_run {R : Type} (N : Nat) (args : List SV) (T : Tab) (kf : SV × Tab → Option R) : Option R :=
  circuit_Check_1_m N (toI (lget args 0)) (toI (lget (entCs (entAt T 0)) 0)) (lstC intC (lget (entCs (entAt T 0)) 1)) (lstC api_WireC (lget (entCs (entAt T 0)) 2)) (fun q0 => kf (lget [.bool q0] 0, [(0, .blk [.int .i64 (toI (lget (entCs (entAt T 0)) 0)), slC intC (lstC intC (lget (entCs (entAt T 0)) 1)), slC api_WireC (lstC api_WireC (lget (entCs (entAt T 0)) 2))])]))
def circuit_Check_1_lp {R : Type} (N : Nat) : Lp R := fun body S k => Option.none
noncomputable def circuit_Check_1_go {R : Type} (N : Nat) (args : List SV) (T : Tab) (kf : SV × Tab → Option R) : Option R :=
  circuit_Check_1 N (toI (lget args 0)) (toI (lget (entCs (entAt T 0)) 0)) (lstC intC (lget (entCs (entAt T 0)) 1)) (lstC api_WireC (lget (entCs (entAt T 0)) 2)) (fun q0 => kf (lget [.bool q0] 0, [(0, .blk [.int .i64 (toI (lget (entCs (entAt T 0)) 0)), slC intC (lstC intC (lget (entCs (entAt T 0)) 1)), slC api_WireC (lstC api_WireC (lget (entCs (entAt T 0)) 2))])]))
noncomputable def circuit_Check_1_cal {R : Type} (N : Nat) : Cal R := callM (circuit_isSet_cal N) 123 1 circuit_Check_1_sp (circuit_Check_1_go N)
theorem circuit_Check_1_cal_ok {R : Type} (N : Nat) : CalOk E.P (circuit_Check_1_cal (R := R) N) :=
  callM_ok hE (circuit_isSet_cal_ok N) (lp := circuit_Check_1_lp N) (jn := noJn) (keys := []) kNil (by kernel_rfl) (js := []) jNil (by kernel_rfl) circuit_Check_1_sp_ok circuit_Check_1_rs_ok (fun args T kf => Eq.trans (circuit_Check_1_def N (toI (lget args 0)) (toI (lget (entCs (entAt T 0)) 0)) (lstC intC (lget (entCs (entAt T 0)) 1)) (lstC api_WireC (lget (entCs (entAt T 0)) 2)) (fun q0 => kf (lget [.bool q0] 0, [(0, .blk [.int .i64 (toI (lget (entCs (entAt T 0)) 0)), slC intC (lstC intC (lget (entCs (entAt T 0)) 1)), slC api_WireC (lstC api_WireC (lget (entCs (entAt T 0)) 2))])]))) (by kernel_rfl : circuit_Check_1_run N args T kf = fnM E (circuit_isSet_cal N) (circuit_Check_1_lp N) (noJn) 123 (circuit_Check_1_sp.vs args) (circuit_Check_1_sp.tab T) 1 (resK circuit_Check_1_rs kf)))

def slices_IndexFunc___int_int__v2_L2 : LoopSp := ⟨⟨[0, 1, 7, 8], ⟨((rSl intC) :: (rFunc 123 0 [rPtr 0 0]) :: (dr 5 ((rInt .i64) :: (rInt .i64) :: (dr 10 [])))), [(0, eBlk [rInt .i64, rSl intC, rSl api_WireC])]⟩, 1⟩, [(Option.none, ⟨[4], ⟨(dr 4 ((rInt .i64) :: (dr 14 []))), [(0, eBlk [rInt .i64, rSl intC, rSl api_WireC])]⟩, 1⟩), (some 0, ⟨[], ⟨(dr 19 []), [(0, eBlk [rInt .i64, rSl intC, rSl api_WireC])]⟩, 1⟩)]⟩
theorem slices_IndexFunc___int_int__v2_L2_ok : slices_IndexFunc___int_int__v2_L2.Ok := ⟨⟨(allCons (rSl_ok intC_ok) (allCons (rFunc_ok 123 0 (allCons (rPtr_ok 0 0) allNil)) (drCons 5 (allCons (rInt_ok .i64) (allCons (rInt_ok .i64) (drCons 10 allNil)))))), (eCons (eBlk_ok (allCons (rInt_ok .i64) (allCons (rSl_ok intC_ok) (allCons (rSl_ok api_WireC_ok) allNil)))) eNil)⟩, (xCons ⟨(drCons 4 (allCons (rInt_ok .i64) (drCons 14 allNil))), (eCons (eBlk_ok (allCons (rInt_ok .i64) (allCons (rSl_ok intC_ok) (allCons (rSl_ok api_WireC_ok) allNil)))) eNil)⟩ (xCons ⟨(drCons 19 allNil), (eCons (eBlk_ok (allCons (rInt_ok .i64) (allCons (rSl_ok intC_ok) (allCons (rSl_ok api_WireC_ok) allNil)))) eNil)⟩ xNil))⟩
def slices_IndexFunc___int_int__v2_h2 (v276 : Arr Int) (v277 : Int) (v278 : Int) (v279 : Int) (v280 : Arr Int) (v281 : Arr api_Wire) : St := ⟨((slC intC v276) :: (.func 123 0 [.ptr 0 0]) :: (un 5 ((.int .i64 v277) :: (.int .i64 v278) :: (un 10 [])))), [(0, .blk [.int .i64 v279, slC intC v280, slC api_WireC v281])], 1⟩
def slices_IndexFunc___int_int__v2_x2_r (v279 : Int) (v280 : Arr Int) (v281 : Arr api_Wire) (q0 : Int) : St := ⟨(un 4 ((.int .i64 q0) :: (un 14 []))), [(0, .blk [.int .i64 v279, slC intC v280, slC api_WireC v281])], 1⟩
def slices_IndexFunc___int_int__v2_x2_0 (v279 : Int) (v280 : Arr Int) (v281 : Arr api_Wire) : St := ⟨(un 19 []), [(0, .blk [.int .i64 v279, slC intC v280, slC api_WireC v281])], 1⟩
def slices_IndexFunc___int_int__v2_b2 {R : Type} (N : Nat) (rc : Arr Int → Int → Int → Int → Arr Int → Arr api_Wire → Option R) (v276 : Arr Int) (v277 : Int) (v278 : Int) (v279 : Int) (v280 : Arr Int) (v281 : Arr api_Wire) (kr : Int → Option R) (k0 : Unit → Option R) : Option R :=
  bif decide (v278 < v277) then
   bif decide ((0 : Int) ≤ v278) && decide (v278 < (↑(Arr.n v276) : Int)) then
    circuit_Check_1 N (Arr.f v276 (Int.toNat v278)) v279 v280 v281 (fun r289 =>
    bif r289 then
     kr v278
    else
     rc v276 v277 (w64 (v278 + (1 : Int))) v279 v280 v281)
   else
    Option.none
  else
   k0 ()
def slices_IndexFunc___int_int__v2_l2 {R : Type} (N : Nat) : Nat → Arr Int → Int → Int → Int → Arr Int → Arr api_Wire → (Int → Option R) → (Unit → Option R) → Option R
  | 0, _, _, _, _, _, _, _, _ => Option.none
  | n + 1, v276, v277, v278, v279, v280, v281, kr, k0 => slices_IndexFunc___int_int__v2_b2 N (fun v276 v277 v278 v279 v280 v281 => slices_IndexFunc___int_int__v2_l2 N n v276 v277 v278 v279 v280 v281 kr k0) v276 v277 v278 v279 v280 v281 kr k0


def slices_IndexFunc___int_int__v2_m {R : Type} (N : Nat) (a272 : Arr Int) (a273 : Int) (a274 : Arr Int) (a275 : Arr api_Wire) (k : Int → Option R) : Option R :=
  slices_IndexFunc___int_int__v2_l2 N N a272 ((↑(Arr.n a272) : Int)) (0 : Int) a273 a274 a275 (fun r290 =>
   k r290) (fun (_ : Unit) =>
   k (-1 : Int))
noncomputable def slices_IndexFunc___int_int__v2 {R : Type} : Nat → Arr Int → Int → Arr Int → Arr api_Wire → (Int → Option R) → Option R := lock (@slices_IndexFunc___int_int__v2_m R)
theorem slices_IndexFunc___int_int__v2_def {R : Type} (N : Nat) (a272 : Arr Int) (a273 : Int) (a274 : Arr Int) (a275 : Arr api_Wire) (k : Int → Option R) : slices_IndexFunc___int_int__v2 N a272 a273 a274 a275 k = slices_IndexFunc___int_int__v2_m N a272 a273 a274 a275 k := by unfold slices_IndexFunc___int_int__v2; rw [lock_eq]
def slices_IndexFunc___int_int__v2_sp : Sp := ⟨[rSl intC, rFunc 123 0 [rPtr 0 0]], [(0, eBlk [rInt .i64, rSl intC, rSl api_WireC])]⟩
theorem slices_IndexFunc___int_int__v2_sp_ok : slices_IndexFunc___int_int__v2_sp.Ok := ⟨(allCons (rSl_ok intC_ok) (allCons (rFunc_ok 123 0 (allCons (rPtr_ok 0 0) allNil)) allNil)), (eCons (eBlk_ok (allCons (rInt_ok .i64) (allCons (rSl_ok intC_ok) (allCons (rSl_ok api_WireC_ok) allNil)))) eNil)⟩
def slices_IndexFunc___int_int__v2_rs : Sp := ⟨[rInt .i64], [(0, eBlk [rInt .i64, rSl intC, rSl api_WireC])]⟩
theorem slices_IndexFunc___int_int__v2_rs_ok : slices_IndexFunc___int_int__v2_rs.Ok := ⟨(allCons (rInt_ok .i64) allNil), (eCons (eBlk_ok (allCons (rInt_ok .i64) (allCons (rSl_ok intC_ok) (allCons (rSl_ok api_WireC_ok) allNil)))) eNil)⟩
def slices_IndexFunc___int_int__v2_run {R : Type} (N : Nat) (args : List SV) (T : Tab) (kf : SV × Tab → Option R) : Option R :=
  slices_IndexFunc___int_int__v2_m N (lstC intC (lget args 0)) (toI (lget (entCs (entAt T 0)) 0)) (lstC intC (lget (entCs (entAt T 0)) 1)) (lstC api_WireC (lget (entCs (entAt T 0)) 2)) (fun q0 => kf (lget [.int .i64 q0] 0, [(0, .blk [.int .i64 (toI (lget (entCs (entAt T 0)) 0)), slC intC (lstC intC (lget (entCs (entAt T 0)) 1)), slC api_WireC (lstC api_WireC (lget (entCs (entAt T 0)) 2))])]))
def slices_IndexFunc___int_int__v2_d2 {R : Type} (N : Nat) (S0 : St) (k : Exit → St → Option R) : Option R :=
  slices_IndexFunc___int_int__v2_l2 N N (lstC intC (lget S0.tmps 0)) (toI (lget S0.tmps 7)) (toI (lget S0.tmps 8)) (toI (lget (entCs (entAt S0.tab 0)) 0)) (lstC intC (lget (entCs (entAt S0.tab 0)) 1)) (lstC api_WireC (lget (entCs (entAt S0.tab 0)) 2)) (fun q0 => k .ret (slices_IndexFunc___int_int__v2_x2_r (toI (lget (entCs (entAt S0.tab 0)) 0)) (lstC intC (lget (entCs (entAt S0.tab 0)) 1)) (lstC api_WireC (lget (entCs (entAt S0.tab 0)) 2)) q0)) (fun (_ : Unit) => k (.exit 0) (slices_IndexFunc___int_int__v2_x2_0 (toI (lget (entCs (entAt S0.tab 0)) 0)) (lstC intC (lget (entCs (entAt S0.tab 0)) 1)) (lstC api_WireC (lget (entCs (entAt S0.tab 0)) 2))))
def slices_IndexFunc___int_int__v2_lp {R : Type} (N : Nat) : Lp R := fun body S k => bif (Go.Sx.keyOf body).getD 0 == 2 then slices_IndexFunc___int_int__v2_L2.head.raw 1 S (fun S0 => slices_IndexFunc___int_int__v2_d2 N S0 k) else Option.none
theorem slices_IndexFunc___int_int__v2_l2_eq {R : Type} (N : Nat) (k : Exit → St → Option R) (n : Nat) : ∀ (v0 : Arr Int) (v1 : Int) (v2 : Int) (v3 : Int) (v4 : Arr Int) (v5 : Arr api_Wire), loopM E.Θ (circuit_Check_1_cal N) (slices_IndexFunc___int_int__v2_lp N) (noJn) 1 slices_IndexFunc___int_int__v2_L2 (bodyAt E 128 2) n (slices_IndexFunc___int_int__v2_h2 v0 v1 v2 v3 v4 v5) k = slices_IndexFunc___int_int__v2_l2 N n v0 v1 v2 v3 v4 v5 (fun q0 => k .ret (slices_IndexFunc___int_int__v2_x2_r v3 v4 v5 q0)) (fun (_ : Unit) => k (.exit 0) (slices_IndexFunc___int_int__v2_x2_0 v3 v4 v5)) := by
  induction n with
  | zero => intro v0 v1 v2 v3 v4 v5; rfl
  | succ n ih =>
    intro v0 v1 v2 v3 v4 v5
    refine Eq.trans (b := slices_IndexFunc___int_int__v2_b2 N (fun v0 v1 v2 v3 v4 v5 => loopM E.Θ (circuit_Check_1_cal N) (slices_IndexFunc___int_int__v2_lp N) (noJn) 1 slices_IndexFunc___int_int__v2_L2 (bodyAt E 128 2) n (slices_IndexFunc___int_int__v2_h2 v0 v1 v2 v3 v4 v5) k) v0 v1 v2 v3 v4 v5 (fun q0 => k .ret (slices_IndexFunc___int_int__v2_x2_r v3 v4 v5 q0)) (fun (_ : Unit) => k (.exit 0) (slices_IndexFunc___int_int__v2_x2_0 v3 v4 v5))) (by kernel_rfl) ?_
    have h : (fun (v0 : Arr Int) (v1 : Int) (v2 : Int) (v3 : Int) (v4 : Arr Int) (v5 : Arr api_Wire) => loopM E.Θ (circuit_Check_1_cal N) (slices_IndexFunc___int_int__v2_lp N) (noJn) 1 slices_IndexFunc___int_int__v2_L2 (bodyAt E 128 2) n (slices_IndexFunc___int_int__v2_h2 v0 v1 v2 v3 v4 v5) k) = (fun (v0 : Arr Int) (v1 : Int) (v2 : Int) (v3 : Int) (v4 : Arr Int) (v5 : Arr api_Wire) => slices_IndexFunc___int_int__v2_l2 N n v0 v1 v2 v3 v4 v5 (fun q0 => k .ret (slices_IndexFunc___int_int__v2_x2_r v3 v4 v5 q0)) (fun (_ : Unit) => k (.exit 0) (slices_IndexFunc___int_int__v2_x2_0 v3 v4 v5))) := funext fun v0 => funext fun v1 => funext fun v2 => funext fun v3 => funext fun v4 => funext fun v5 => ih v0 v1 v2 v3 v4 v5
    rw [h]
    rfl
theorem slices_IndexFunc___int_int__v2_k2 {R : Type} (N : Nat) : LpKey (R := R) E 128 1 (slices_IndexFunc___int_int__v2_lp N) 2 :=
  lpKey_of hE (circuit_Check_1_cal_ok N) (jn := noJn) slices_IndexFunc___int_int__v2_L2_ok [] kNil (by kernel_rfl) [] jNil (by kernel_rfl) N fun S k =>
    Eq.trans (b := slices_IndexFunc___int_int__v2_L2.head.raw 1 S (fun S0 => slices_IndexFunc___int_int__v2_d2 N S0 k)) (by kernel_rfl) (congrArg (slices_IndexFunc___int_int__v2_L2.head.raw 1 S) (funext fun S0 => Eq.trans (slices_IndexFunc___int_int__v2_l2_eq N k N (lstC intC (lget S0.tmps 0)) (toI (lget S0.tmps 7)) (toI (lget S0.tmps 8)) (toI (lget (entCs (entAt S0.tab 0)) 0)) (lstC intC (lget (entCs (entAt S0.tab 0)) 1)) (lstC api_WireC (lget (entCs (entAt S0.tab 0)) 2))).symm (by kernel_rfl)))
noncomputable def slices_IndexFunc___int_int__v2_go {R : Type} (N : Nat) (args : List SV) (T : Tab) (kf : SV × Tab → Option R) : Option R :=
  slices_IndexFunc___int_int__v2 N (lstC intC (lget args 0)) (toI (lget (entCs (entAt T 0)) 0)) (lstC intC (lget (entCs (entAt T 0)) 1)) (lstC api_WireC (lget (entCs (entAt T 0)) 2)) (fun q0 => kf (lget [.int .i64 q0] 0, [(0, .blk [.int .i64 (toI (lget (entCs (entAt T 0)) 0)), slC intC (lstC intC (lget (entCs (entAt T 0)) 1)), slC api_WireC (lstC api_WireC (lget (entCs (entAt T 0)) 2))])]))
noncomputable def slices_IndexFunc___int_int__v2_cal {R : Type} (N : Nat) : Cal R := callM (circuit_Check_1_cal N) 128 1 slices_IndexFunc___int_int__v2_sp (slices_IndexFunc___int_int__v2_go N)
theorem slices_IndexFunc___int_int__v2_cal_ok {R : Type} (N : Nat) : CalOk E.P (slices_IndexFunc___int_int__v2_cal (R := R) N) :=
  callM_ok hE (circuit_Check_1_cal_ok N) (lp := slices_IndexFunc___int_int__v2_lp N) (jn := noJn) (keys := [2]) (kCons (slices_IndexFunc___int_int__v2_k2 N) kNil) (by kernel_rfl) (js := []) jNil (by kernel_rfl) slices_IndexFunc___int_int__v2_sp_ok slices_IndexFunc___int_int__v2_rs_ok (fun args T kf => Eq.trans (slices_IndexFunc___int_int__v2_def N (lstC intC (lget args 0)) (toI (lget (entCs (entAt T 0)) 0)) (lstC intC (lget (entCs (entAt T 0)) 1)) (lstC api_WireC (lget (entCs (entAt T 0)) 2)) (fun q0 => kf (lget [.int .i64 q0] 0, [(0, .blk [.int .i64 (toI (lget (entCs (entAt T 0)) 0)), slC intC (lstC intC (lget (entCs (entAt T 0)) 1)), slC api_WireC (lstC api_WireC (lget (entCs (entAt T 0)) 2))])]))) (by kernel_rfl : slices_IndexFunc___int_int__v2_run N args T kf = fnM E (circuit_Check_1_cal N) (slices_IndexFunc___int_int__v2_lp N) (noJn) 128 (slices_IndexFunc___int_int__v2_sp.vs args) (slices_IndexFunc___int_int__v2_sp.tab T) 1 (resK slices_IndexFunc___int_int__v2_rs kf)))


def slices_ContainsFunc___int_int__v2_m {R : Type} (N : Nat) (a268 : Arr Int) (a269 : Int) (a270 : Arr Int) (a271 : Arr api_Wire) (k : Bool → Option R) : Option R :=
  slices_IndexFunc___int_int__v2 N a268 a269 a270 a271 (fun r291 =>
  k (decide (r291 ≥ (0 : Int))))
noncomputable def slices_ContainsFunc___int_int__v2 {R : Type} : Nat → Arr Int → Int → Arr Int → Arr api_Wire → (Bool → Option R) → Option R := lock (@slices_ContainsFunc___int_int__v2_m R)
theorem slices_ContainsFunc___int_int__v2_def {R : Type} (N : Nat) (a268 : Arr Int) (a269 : Int) (a270 : Arr Int) (a271 : Arr api_Wire) (k : Bool → Option R) : slices_ContainsFunc___int_int__v2 N a268 a269 a270 a271 k = slices_ContainsFunc___int_int__v2_m N a268 a269 a270 a271 k := by unfold slices_ContainsFunc___int_int__v2; rw [lock_eq]
def slices_ContainsFunc___int_int__v2_sp : Sp := ⟨[rSl intC, rFunc 123 0 [rPtr 0 0]], [(0, eBlk [rInt .i64, rSl intC, rSl api_WireC])]⟩
theorem slices_ContainsFunc___int_int__v2_sp_ok : slices_ContainsFunc___int_int__v2_sp.Ok := ⟨(allCons (rSl_ok intC_ok) (allCons (rFunc_ok 123 0 (allCons (rPtr_ok 0 0) allNil)) allNil)), (eCons (eBlk_ok (allCons (rInt_ok .i64) (allCons (rSl_ok intC_ok) (allCons (rSl_ok api_WireC_ok) allNil)))) eNil)⟩
def slices_ContainsFunc___int_int__v2_rs : Sp := ⟨[rBool], [(0, eBlk [rInt .i64, rSl intC, rSl api_WireC])]⟩
theorem slices_ContainsFunc___int_int__v2_rs_ok : slices_ContainsFunc___int_int__v2_rs.Ok := ⟨(allCons rBool_ok allNil), (eCons (eBlk_ok (allCons (rInt_ok .i64) (allCons (rSl_ok intC_ok) (allCons (rSl_ok api_WireC_ok) allNil)))) eNil)⟩
def slices_ContainsFunc___int_int__v2_run {R : Type} (N : Nat) (args : List SV) (T : Tab) (kf : SV × Tab → Option R) : Option R :=
  slices_ContainsFunc___int_int__v2_m N (lstC intC (lget args 0)) (toI (lget (entCs (entAt T 0)) 0)) (lstC intC (lget (entCs (entAt T 0)) 1)) (lstC api_WireC (lget (entCs (entAt T 0)) 2)) (fun q0 => kf (lget [.bool q0] 0, [(0, .blk [.int .i64 (toI (lget (entCs (entAt T 0)) 0)), slC intC (lstC intC (lget (entCs (entAt T 0)) 1)), slC api_WireC (lstC api_WireC (lget (entCs (entAt T 0)) 2))])]))
def slices_ContainsFunc___int_int__v2_lp {R : Type} (N : Nat) : Lp R := fun body S k => Option.none
noncomputable def slices_ContainsFunc___int_int__v2_go {R : Type} (N : Nat) (args : List SV) (T : Tab) (kf : SV × Tab → Option R) : Option R :=
  slices_ContainsFunc___int_int__v2 N (lstC intC (lget args 0)) (toI (lget (entCs (entAt T 0)) 0)) (lstC intC (lget (entCs (entAt T 0)) 1)) (lstC api_WireC (lget (entCs (entAt T 0)) 2)) (fun q0 => kf (lget [.bool q0] 0, [(0, .blk [.int .i64 (toI (lget (entCs (entAt T 0)) 0)), slC intC (lstC intC (lget (entCs (entAt T 0)) 1)), slC api_WireC (lstC api_WireC (lget (entCs (entAt T 0)) 2))])]))
noncomputable def slices_ContainsFunc___int_int__v2_cal {R : Type} (N : Nat) : Cal R := callM (slices_IndexFunc___int_int__v2_cal N) 89 1 slices_ContainsFunc___int_int__v2_sp (slices_ContainsFunc___int_int__v2_go N)
theorem slices_ContainsFunc___int_int__v2_cal_ok {R : Type} (N : Nat) : CalOk E.P (slices_ContainsFunc___int_int__v2_cal (R := R) N) :=
  callM_ok hE (slices_IndexFunc___int_int__v2_cal_ok N) (lp := slices_ContainsFunc___int_int__v2_lp N) (jn := noJn) (keys := []) kNil (by kernel_rfl) (js := []) jNil (by kernel_rfl) slices_ContainsFunc___int_int__v2_sp_ok slices_ContainsFunc___int_int__v2_rs_ok (fun args T kf => Eq.trans (slices_ContainsFunc___int_int__v2_def N (lstC intC (lget args 0)) (toI (lget (entCs (entAt T 0)) 0)) (lstC intC (lget (entCs (entAt T 0)) 1)) (lstC api_WireC (lget (entCs (entAt T 0)) 2)) (fun q0 => kf (lget [.bool q0] 0, [(0, .blk [.int .i64 (toI (lget (entCs (entAt T 0)) 0)), slC intC (lstC intC (lget (entCs (entAt T 0)) 1)), slC api_WireC (lstC api_WireC (lget (entCs (entAt T 0)) 2))])]))) (by kernel_rfl : slices_ContainsFunc___int_int__v2_run N args T kf = fnM E (slices_IndexFunc___int_int__v2_cal N) (slices_ContainsFunc___int_int__v2_lp N) (noJn) 89 (slices_ContainsFunc___int_int__v2_sp.vs args) (slices_ContainsFunc___int_int__v2_sp.tab T) 1 (resK slices_ContainsFunc___int_int__v2_rs kf)))

def circuit_ascending_L2 : LoopSp := ⟨⟨[1, 2, 9, 10, 11], ⟨(dr 1 ((rInt .i64) :: (rInt .i64) :: (dr 6 ((rSl intC) :: (rInt .i64) :: (rInt .i64) :: (dr 14 []))))), []⟩, 0⟩, [(Option.none, ⟨[6], ⟨(dr 6 ((rBool) :: (dr 19 []))), []⟩, 0⟩), (some 0, ⟨[], ⟨(dr 26 []), []⟩, 0⟩)]⟩
theorem circuit_ascending_L2_ok : circuit_ascending_L2.Ok := ⟨⟨(drCons 1 (allCons (rInt_ok .i64) (allCons (rInt_ok .i64) (drCons 6 (allCons (rSl_ok intC_ok) (allCons (rInt_ok .i64) (allCons (rInt_ok .i64) (drCons 14 allNil)))))))), eNil⟩, (xCons ⟨(drCons 6 (allCons rBool_ok (drCons 19 allNil))), eNil⟩ (xCons ⟨(drCons 26 allNil), eNil⟩ xNil))⟩
def circuit_ascending_h2 (v302 : Int) (v303 : Int) (v304 : Arr Int) (v305 : Int) (v306 : Int) : St := ⟨(un 1 ((.int .i64 v302) :: (.int .i64 v303) :: (un 6 ((slC intC v304) :: (.int .i64 v305) :: (.int .i64 v306) :: (un 14 []))))), [], 0⟩
def circuit_ascending_x2_r (q0 : Bool) : St := ⟨(un 6 ((.bool q0) :: (un 19 []))), [], 0⟩
def circuit_ascending_x2_0  : St := ⟨(un 26 []), [], 0⟩
def circuit_ascending_b2 {R : Type} (N : Nat) (rc : Int → Int → Arr Int → Int → Int → Option R) (v302 : Int) (v303 : Int) (v304 : Arr Int) (v305 : Int) (v306 : Int) (kr : Bool → Option R) (k0 : Unit → Option R) : Option R :=
  bif decide (v306 < v305) then
   bif decide ((0 : Int) ≤ v306) && decide (v306 < (↑(Arr.n v304) : Int)) then
    bif decide (Arr.f v304 (Int.toNat v306) < v302) then
     kr false
    else
     bif decide (Arr.f v304 (Int.toNat v306) ≥ v303) then
      kr false
     else
      rc (w64 (Arr.f v304 (Int.toNat v306) + (1 : Int))) v303 v304 v305 (w64 (v306 + (1 : Int)))
   else
    Option.none
  else
   k0 ()
def circuit_ascending_l2 {R : Type} (N : Nat) : Nat → Int → Int → Arr Int → Int → Int → (Bool → Option R) → (Unit → Option R) → Option R
  | 0, _, _, _, _, _, _, _ => Option.none
  | n + 1, v302, v303, v304, v305, v306, kr, k0 => circuit_ascending_b2 N (fun v302 v303 v304 v305 v306 => circuit_ascending_l2 N n v302 v303 v304 v305 v306 kr k0) v302 v303 v304 v305 v306 kr k0


def circuit_ascending_m {R : Type} (N : Nat) (a299 : Arr Int) (a300 : Int) (a301 : Int) (k : Bool → Option R) : Option R :=
  circuit_ascending_l2 N N a300 a301 a299 ((↑(Arr.n a299) : Int)) (0 : Int) (fun r307 =>
   k r307) (fun (_ : Unit) =>
   k true)
noncomputable def circuit_ascending {R : Type} : Nat → Arr Int → Int → Int → (Bool → Option R) → Option R := lock (@circuit_ascending_m R)
theorem circuit_ascending_def {R : Type} (N : Nat) (a299 : Arr Int) (a300 : Int) (a301 : Int) (k : Bool → Option R) : circuit_ascending N a299 a300 a301 k = circuit_ascending_m N a299 a300 a301 k := by unfold circuit_ascending; rw [lock_eq]
def circuit_ascending_sp : Sp := ⟨[rSl intC, rInt .i64, rInt .i64], []⟩
theorem circuit_ascending_sp_ok : circuit_ascending_sp.Ok := ⟨(allCons (rSl_ok intC_ok) (allCons (rInt_ok .i64) (allCons (rInt_ok .i64) allNil))), eNil⟩
def circuit_ascending_rs : Sp := ⟨[rBool], []⟩
theorem circuit_ascending_rs_ok : circuit_ascending_rs.Ok := ⟨(allCons rBool_ok allNil), eNil⟩
def circuit_ascending_run {R : Type} (N : Nat) (args : List SV) (T : Tab) (kf : SV × Tab → Option R) : Option R :=
  circuit_ascending_m N (lstC intC (lget args 0)) (toI (lget args 1)) (toI (lget args 2)) (fun q0 => kf (lget [.bool q0] 0, []))
def circuit_ascending_d2 {R : Type} (N : Nat) (S0 : St) (k : Exit → St → Option R) : Option R :=
  circuit_ascending_l2 N N (toI (lget S0.tmps 1)) (toI (lget S0.tmps 2)) (lstC intC (lget S0.tmps 9)) (toI (lget S0.tmps 10)) (toI (lget S0.tmps 11)) (fun q0 => k .ret (circuit_ascending_x2_r q0)) (fun (_ : Unit) => k (.exit 0) (circuit_ascending_x2_0 ))
def circuit_ascending_lp {R : Type} (N : Nat) : Lp R := fun body S k => bif (Go.Sx.keyOf body).getD 0 == 2 then circuit_ascending_L2.head.raw 0 S (fun S0 => circuit_ascending_d2 N S0 k) else Option.none
theorem circuit_ascending_l2_eq {R : Type} (N : Nat) (k : Exit → St → Option R) (n : Nat) : ∀ (v0 : Int) (v1 : Int) (v2 : Arr Int) (v3 : Int) (v4 : Int), loopM E.Θ (slices_ContainsFunc___int_int__v2_cal N) (circuit_ascending_lp N) (noJn) 0 circuit_ascending_L2 (bodyAt E 124 2) n (circuit_ascending_h2 v0 v1 v2 v3 v4) k = circuit_ascending_l2 N n v0 v1 v2 v3 v4 (fun q0 => k .ret (circuit_ascending_x2_r q0)) (fun (_ : Unit) => k (.exit 0) (circuit_ascending_x2_0 )) := by
  induction n with
  | zero => intro v0 v1 v2 v3 v4; rfl
  | succ n ih =>
    intro v0 v1 v2 v3 v4
    refine Eq.trans (b := circuit_ascending_b2 N (fun v0 v1 v2 v3 v4 => loopM E.Θ (slices_ContainsFunc___int_int__v2_cal N) (circuit_ascending_lp N) (noJn) 0 circuit_ascending_L2 (bodyAt E 124 2) n (circuit_ascending_h2 v0 v1 v2 v3 v4) k) v0 v1 v2 v3 v4 (fun q0 => k .ret (circuit_ascending_x2_r q0)) (fun (_ : Unit) => k (.exit 0) (circuit_ascending_x2_0 ))) (by kernel_rfl) ?_
    have h : (fun (v0 : Int) (v1 : Int) (v2 : Arr Int) (v3 : Int) (v4 : Int) => loopM E.Θ (slices_ContainsFunc___int_int__v2_cal N) (circuit_ascending_lp N) (noJn) 0 circuit_ascending_L2 (bodyAt E 124 2) n (circuit_ascending_h2 v0 v1 v2 v3 v4) k) = (fun (v0 : Int) (v1 : Int) (v2 : Arr Int) (v3 : Int) (v4 : Int) => circuit_ascending_l2 N n v0 v1 v2 v3 v4 (fun q0 => k .ret (circuit_ascending_x2_r q0)) (fun (_ : Unit) => k (.exit 0) (circuit_ascending_x2_0 ))) := funext fun v0 => funext fun v1 => funext fun v2 => funext fun v3 => funext fun v4 => ih v0 v1 v2 v3 v4
    rw [h]
    rfl
theorem circuit_ascending_k2 {R : Type} (N : Nat) : LpKey (R := R) E 124 0 (circuit_ascending_lp N) 2 :=
  lpKey_of hE (slices_ContainsFunc___int_int__v2_cal_ok N) (jn := noJn) circuit_ascending_L2_ok [] kNil (by kernel_rfl) [] jNil (by kernel_rfl) N fun S k =>
    Eq.trans (b := circuit_ascending_L2.head.raw 0 S (fun S0 => circuit_ascending_d2 N S0 k)) (by kernel_rfl) (congrArg (circuit_ascending_L2.head.raw 0 S) (funext fun S0 => Eq.trans (circuit_ascending_l2_eq N k N (toI (lget S0.tmps 1)) (toI (lget S0.tmps 2)) (lstC intC (lget S0.tmps 9)) (toI (lget S0.tmps 10)) (toI (lget S0.tmps 11))).symm (by kernel_rfl)))
noncomputable def circuit_ascending_go {R : Type} (N : Nat) (args : List SV) (T : Tab) (kf : SV × Tab → Option R) : Option R :=
  circuit_ascending N (lstC intC (lget args 0)) (toI (lget args 1)) (toI (lget args 2)) (fun q0 => kf (lget [.bool q0] 0, []))
noncomputable def circuit_ascending_cal {R : Type} (N : Nat) : Cal R := callM (slices_ContainsFunc___int_int__v2_cal N) 124 0 circuit_ascending_sp (circuit_ascending_go N)
theorem circuit_ascending_cal_ok {R : Type} (N : Nat) : CalOk E.P (circuit_ascending_cal (R := R) N) :=
  callM_ok hE (slices_ContainsFunc___int_int__v2_cal_ok N) (lp := circuit_ascending_lp N) (jn := noJn) (keys := [2]) (kCons (circuit_ascending_k2 N) kNil) (by kernel_rfl) (js := []) jNil (by kernel_rfl) circuit_ascending_sp_ok circuit_ascending_rs_ok (fun args T kf => Eq.trans (circuit_ascending_def N (lstC intC (lget args 0)) (toI (lget args 1)) (toI (lget args 2)) (fun q0 => kf (lget [.bool q0] 0, []))) (by kernel_rfl : circuit_ascending_run N args T kf = fnM E (slices_ContainsFunc___int_int__v2_cal N) (circuit_ascending_lp N) (noJn) 124 (circuit_ascending_sp.vs args) (circuit_ascending_sp.tab T) 0 (resK circuit_ascending_rs kf)))


def circuit_Check_2_m {R : Type} (N : Nat) (a329 : Int) (k : Bool → Option R) : Option R :=
  k (a329 != (1 : Int))
noncomputable def circuit_Check_2 {R : Type} : Nat → Int → (Bool → Option R) → Option R := lock (@circuit_Check_2_m R)
theorem circuit_Check_2_def {R : Type} (N : Nat) (a329 : Int) (k : Bool → Option R) : circuit_Check_2 N a329 k = circuit_Check_2_m N a329 k := by unfold circuit_Check_2; rw [lock_eq]
def circuit_Check_2_sp : Sp := ⟨[rInt .i64], []⟩
theorem circuit_Check_2_sp_ok : circuit_Check_2_sp.Ok := ⟨(allCons (rInt_ok .i64) allNil), eNil⟩
def circuit_Check_2_rs : Sp := ⟨[rBool], []⟩
theorem circuit_Check_2_rs_ok : circuit_Check_2_rs.Ok := ⟨(allCons rBool_ok allNil), eNil⟩
def circuit_Check_2_run {R : Type} (N : Nat) (args : List SV) (T : Tab) (kf : SV × Tab → Option R) : Option R :=
  circuit_Check_2_m N (toI (lget args 0)) (fun q0 => kf (lget [.bool q0] 0, []))
def circuit_Check_2_lp {R : Type} (N : Nat) : Lp R := fun body S k => Option.none
noncomputable def circuit_Check_2_go {R : Type} (N : Nat) (args : List SV) (T : Tab) (kf : SV × Tab → Option R) : Option R :=
  circuit_Check_2 N (toI (lget args 0)) (fun q0 => kf (lget [.bool q0] 0, []))
noncomputable def circuit_Check_2_cal {R : Type} (N : Nat) : Cal R := callM (circuit_ascending_cal N) 125 0 circuit_Check_2_sp (circuit_Check_2_go N)
theorem circuit_Check_2_cal_ok {R : Type} (N : Nat) : CalOk E.P (circuit_Check_2_cal (R := R) N) :=
  callM_ok hE (circuit_ascending_cal_ok N) (lp := circuit_Check_2_lp N) (jn := noJn) (keys := []) kNil (by kernel_rfl) (js := []) jNil (by kernel_rfl) circuit_Check_2_sp_ok circuit_Check_2_rs_ok (fun args T kf => Eq.trans (circuit_Check_2_def N (toI (lget args 0)) (fun q0 => kf (lget [.bool q0] 0, []))) (by kernel_rfl : circuit_Check_2_run N args T kf = fnM E (circuit_ascending_cal N) (circuit_Check_2_lp N) (noJn) 125 (circuit_Check_2_sp.vs args) (circuit_Check_2_sp.tab T) 0 (resK circuit_Check_2_rs kf)))

def slices_IndexFunc___int_int__v3_L2 : LoopSp := ⟨⟨[0, 1, 7, 8], ⟨((rSl intC) :: (rFunc 125 0 []) :: (dr 5 ((rInt .i64) :: (rInt .i64) :: (dr 10 [])))), []⟩, 0⟩, [(Option.none, ⟨[4], ⟨(dr 4 ((rInt .i64) :: (dr 14 []))), []⟩, 0⟩), (some 0, ⟨[], ⟨(dr 19 []), []⟩, 0⟩)]⟩
theorem slices_IndexFunc___int_int__v3_L2_ok : slices_IndexFunc___int_int__v3_L2.Ok := ⟨⟨(allCons (rSl_ok intC_ok) (allCons (rFunc_ok 125 0 allNil) (drCons 5 (allCons (rInt_ok .i64) (allCons (rInt_ok .i64) (drCons 10 allNil)))))), eNil⟩, (xCons ⟨(drCons 4 (allCons (rInt_ok .i64) (drCons 14 allNil))), eNil⟩ (xCons ⟨(drCons 19 allNil), eNil⟩ xNil))⟩
def slices_IndexFunc___int_int__v3_h2 (v326 : Arr Int) (v327 : Int) (v328 : Int) : St := ⟨((slC intC v326) :: (.func 125 0 []) :: (un 5 ((.int .i64 v327) :: (.int .i64 v328) :: (un 10 [])))), [], 0⟩
def slices_IndexFunc___int_int__v3_x2_r (q0 : Int) : St := ⟨(un 4 ((.int .i64 q0) :: (un 14 []))), [], 0⟩
def slices_IndexFunc___int_int__v3_x2_0  : St := ⟨(un 19 []), [], 0⟩
def slices_IndexFunc___int_int__v3_b2 {R : Type} (N : Nat) (rc : Arr Int → Int → Int → Option R) (v326 : Arr Int) (v327 : Int) (v328 : Int) (kr : Int → Option R) (k0 : Unit → Option R) : Option R :=
  bif decide (v328 < v327) then
   bif decide ((0 : Int) ≤ v328) && decide (v328 < (↑(Arr.n v326) : Int)) then
    circuit_Check_2 N (Arr.f v326 (Int.toNat v328)) (fun r330 =>
    bif r330 then
     kr v328
    else
     rc v326 v327 (w64 (v328 + (1 : Int))))
   else
    Option.none
  else
   k0 ()
def slices_IndexFunc___int_int__v3_l2 {R : Type} (N : Nat) : Nat → Arr Int → Int → Int → (Int → Option R) → (Unit → Option R) → Option R
  | 0, _, _, _, _, _ => Option.none
  | n + 1, v326, v327, v328, kr, k0 => slices_IndexFunc___int_int__v3_b2 N (fun v326 v327 v328 => slices_IndexFunc___int_int__v3_l2 N n v326 v327 v328 kr k0) v326 v327 v328 kr k0


def slices_IndexFunc___int_int__v3_m {R : Type} (N : Nat) (a325 : Arr Int) (k : Int → Option R) : Option R :=
  slices_IndexFunc___int_int__v3_l2 N N a325 ((↑(Arr.n a325) : Int)) (0 : Int) (fun r331 =>
   k r331) (fun (_ : Unit) =>
   k (-1 : Int))
noncomputable def slices_IndexFunc___int_int__v3 {R : Type} : Nat → Arr Int → (Int → Option R) → Option R := lock (@slices_IndexFunc___int_int__v3_m R)
theorem slices_IndexFunc___int_int__v3_def {R : Type} (N : Nat) (a325 : Arr Int) (k : Int → Option R) : slices_IndexFunc___int_int__v3 N a325 k = slices_IndexFunc___int_int__v3_m N a325 k := by unfold slices_IndexFunc___int_int__v3; rw [lock_eq]
def slices_IndexFunc___int_int__v3_sp : Sp := ⟨[rSl intC, rFunc 125 0 []], []⟩
theorem slices_IndexFunc___int_int__v3_sp_ok : slices_IndexFunc___int_int__v3_sp.Ok := ⟨(allCons (rSl_ok intC_ok) (allCons (rFunc_ok 125 0 allNil) allNil)), eNil⟩
def slices_IndexFunc___int_int__v3_rs : Sp := ⟨[rInt .i64], []⟩
theorem slices_IndexFunc___int_int__v3_rs_ok : slices_IndexFunc___int_int__v3_rs.Ok := ⟨(allCons (rInt_ok .i64) allNil), eNil⟩
def slices_IndexFunc___int_int__v3_run {R : Type} (N : Nat) (args : List SV) (T : Tab) (kf : SV × Tab → Option R) : Option R :=
  slices_IndexFunc___int_int__v3_m N (lstC intC (lget args 0)) (fun q0 => kf (lget [.int .i64 q0] 0, []))
def slices_IndexFunc___int_int__v3_d2 {R : Type} (N : Nat) (S0 : St) (k : Exit → St → Option R) : Option R :=
  slices_IndexFunc___int_int__v3_l2 N N (lstC intC (lget S0.tmps 0)) (toI (lget S0.tmps 7)) (toI (lget S0.tmps 8)) (fun q0 => k .ret (slices_IndexFunc___int_int__v3_x2_r q0)) (fun (_ : Unit) => k (.exit 0) (slices_IndexFunc___int_int__v3_x2_0 ))
def slices_IndexFunc___int_int__v3_lp {R : Type} (N : Nat) : Lp R := fun body S k => bif (Go.Sx.keyOf body).getD 0 == 2 then slices_IndexFunc___int_int__v3_L2.head.raw 0 S (fun S0 => slices_IndexFunc___int_int__v3_d2 N S0 k) else Option.none
theorem slices_IndexFunc___int_int__v3_l2_eq {R : Type} (N : Nat) (k : Exit → St → Option R) (n : Nat) : ∀ (v0 : Arr Int) (v1 : Int) (v2 : Int), loopM E.Θ (circuit_Check_2_cal N) (slices_IndexFunc___int_int__v3_lp N) (noJn) 0 slices_IndexFunc___int_int__v3_L2 (bodyAt E 128 2) n (slices_IndexFunc___int_int__v3_h2 v0 v1 v2) k = slices_IndexFunc___int_int__v3_l2 N n v0 v1 v2 (fun q0 => k .ret (slices_IndexFunc___int_int__v3_x2_r q0)) (fun (_ : Unit) => k (.exit 0) (slices_IndexFunc___int_int__v3_x2_0 )) := by
  induction n with
  | zero => intro v0 v1 v2; rfl
  | succ n ih =>
    intro v0 v1 v2
    refine Eq.trans (b := slices_IndexFunc___int_int__v3_b2 N (fun v0 v1 v2 => loopM E.Θ (circuit_Check_2_cal N) (slices_IndexFunc___int_int__v3_lp N) (noJn) 0 slices_IndexFunc___int_int__v3_L2 (bodyAt E 128 2) n (slices_IndexFunc___int_int__v3_h2 v0 v1 v2) k) v0 v1 v2 (fun q0 => k .ret (slices_IndexFunc___int_int__v3_x2_r q0)) (fun (_ : Unit) => k (.exit 0) (slices_IndexFunc___int_int__v3_x2_0 ))) (by kernel_rfl) ?_
    have h : (fun (v0 : Arr Int) (v1 : Int) (v2 : Int) => loopM E.Θ (circuit_Check_2_cal N) (slices_IndexFunc___int_int__v3_lp N) (noJn) 0 slices_IndexFunc___int_int__v3_L2 (bodyAt E 128 2) n (slices_IndexFunc___int_int__v3_h2 v0 v1 v2) k) = (fun (v0 : Arr Int) (v1 : Int) (v2 : Int) => slices_IndexFunc___int_int__v3_l2 N n v0 v1 v2 (fun q0 => k .ret (slices_IndexFunc___int_int__v3_x2_r q0)) (fun (_ : Unit) => k (.exit 0) (slices_IndexFunc___int_int__v3_x2_0 ))) := funext fun v0 => funext fun v1 => funext fun v2 => ih v0 v1 v2
    rw [h]
    rfl
theorem slices_IndexFunc___int_int__v3_k2 {R : Type} (N : Nat) : LpKey (R := R) E 128 0 (slices_IndexFunc___int_int__v3_lp N) 2 :=
  lpKey_of hE (circuit_Check_2_cal_ok N) (jn := noJn) slices_IndexFunc___int_int__v3_L2_ok [] kNil (by kernel_rfl) [] jNil (by kernel_rfl) N fun S k =>
    Eq.trans (b := slices_IndexFunc___int_int__v3_L2.head.raw 0 S (fun S0 => slices_IndexFunc___int_int__v3_d2 N S0 k)) (by kernel_rfl) (congrArg (slices_IndexFunc___int_int__v3_L2.head.raw 0 S) (funext fun S0 => Eq.trans (slices_IndexFunc___int_int__v3_l2_eq N k N (lstC intC (lget S0.tmps 0)) (toI (lget S0.tmps 7)) (toI (lget S0.tmps 8))).symm (by kernel_rfl)))
noncomputable def slices_IndexFunc___int_int__v3_go {R : Type} (N : Nat) (args : List SV) (T : Tab) (kf : SV × Tab → Option R) : Option R :=
  slices_IndexFunc___int_int__v3 N (lstC intC (lget args 0)) (fun q0 => kf (lget [.int .i64 q0] 0, []))
noncomputable def slices_IndexFunc___int_int__v3_cal {R : Type} (N : Nat) : Cal R := callM (circuit_Check_2_cal N) 128 0 slices_IndexFunc___int_int__v3_sp (slices_IndexFunc___int_int__v3_go N)
theorem slices_IndexFunc___int_int__v3_cal_ok {R : Type} (N : Nat) : CalOk E.P (slices_IndexFunc___int_int__v3_cal (R := R) N) :=
  callM_ok hE (circuit_Check_2_cal_ok N) (lp := slices_IndexFunc___int_int__v3_lp N) (jn := noJn) (keys := [2]) (kCons (slices_IndexFunc___int_int__v3_k2 N) kNil) (by kernel_rfl) (js := []) jNil (by kernel_rfl) slices_IndexFunc___int_int__v3_sp_ok slices_IndexFunc___int_int__v3_rs_ok (fun args T kf => Eq.trans (slices_IndexFunc___int_int__v3_def N (lstC intC (lget args 0)) (fun q0 => kf (lget [.int .i64 q0] 0, []))) (by kernel_rfl : slices_IndexFunc___int_int__v3_run N args T kf = fnM E (circuit_Check_2_cal N) (slices_IndexFunc___int_int__v3_lp N) (noJn) 128 (slices_IndexFunc___int_int__v3_sp.vs args) (slices_IndexFunc___int_int__v3_sp.tab T) 0 (resK slices_IndexFunc___int_int__v3_rs kf)))


def slices_ContainsFunc___int_int__v3_m {R : Type} (N : Nat) (a324 : Arr Int) (k : Bool → Option R) : Option R :=
  slices_IndexFunc___int_int__v3 N a324 (fun r332 =>
  k (decide (r332 ≥ (0 : Int))))
noncomputable def slices_ContainsFunc___int_int__v3 {R : Type} : Nat → Arr Int → (Bool → Option R) → Option R := lock (@slices_ContainsFunc___int_int__v3_m R)
theorem slices_ContainsFunc___int_int__v3_def {R : Type} (N : Nat) (a324 : Arr Int) (k : Bool → Option R) : slices_ContainsFunc___int_int__v3 N a324 k = slices_ContainsFunc___int_int__v3_m N a324 k := by unfold slices_ContainsFunc___int_int__v3; rw [lock_eq]
def slices_ContainsFunc___int_int__v3_sp : Sp := ⟨[rSl intC, rFunc 125 0 []], []⟩
theorem slices_ContainsFunc___int_int__v3_sp_ok : slices_ContainsFunc___int_int__v3_sp.Ok := ⟨(allCons (rSl_ok intC_ok) (allCons (rFunc_ok 125 0 allNil) allNil)), eNil⟩
def slices_ContainsFunc___int_int__v3_rs : Sp := ⟨[rBool], []⟩
theorem slices_ContainsFunc___int_int__v3_rs_ok : slices_ContainsFunc___int_int__v3_rs.Ok := ⟨(allCons rBool_ok allNil), eNil⟩
def slices_ContainsFunc___int_int__v3_run {R : Type} (N : Nat) (args : List SV) (T : Tab) (kf : SV × Tab → Option R) : Option R :=
  slices_ContainsFunc___int_int__v3_m N (lstC intC (lget args 0)) (fun q0 => kf (lget [.bool q0] 0, []))
def slices_ContainsFunc___int_int__v3_lp {R : Type} (N : Nat) : Lp R := fun body S k => Option.none
noncomputable def slices_ContainsFunc___int_int__v3_go {R : Type} (N : Nat) (args : List SV) (T : Tab) (kf : SV × Tab → Option R) : Option R :=
  slices_ContainsFunc___int_int__v3 N (lstC intC (lget args 0)) (fun q0 => kf (lget [.bool q0] 0, []))
noncomputable def slices_ContainsFunc___int_int__v3_cal {R : Type} (N : Nat) : Cal R := callM (slices_IndexFunc___int_int__v3_cal N) 89 0 slices_ContainsFunc___int_int__v3_sp (slices_ContainsFunc___int_int__v3_go N)
theorem slices_ContainsFunc___int_int__v3_cal_ok {R : Type} (N : Nat) : CalOk E.P (slices_ContainsFunc___int_int__v3_cal (R := R) N) :=
  callM_ok hE (slices_IndexFunc___int_int__v3_cal_ok N) (lp := slices_ContainsFunc___int_int__v3_lp N) (jn := noJn) (keys := []) kNil (by kernel_rfl) (js := []) jNil (by kernel_rfl) slices_ContainsFunc___int_int__v3_sp_ok slices_ContainsFunc___int_int__v3_rs_ok (fun args T kf => Eq.trans (slices_ContainsFunc___int_int__v3_def N (lstC intC (lget args 0)) (fun q0 => kf (lget [.bool q0] 0, []))) (by kernel_rfl : slices_ContainsFunc___int_int__v3_run N args T kf = fnM E (slices_IndexFunc___int_int__v3_cal N) (slices_ContainsFunc___int_int__v3_lp N) (noJn) 89 (slices_ContainsFunc___int_int__v3_sp.vs args) (slices_ContainsFunc___int_int__v3_sp.tab T) 0 (resK slices_ContainsFunc___int_int__v3_rs kf)))


end
end Go.Proofs.Ytpillmoddoccfaa
