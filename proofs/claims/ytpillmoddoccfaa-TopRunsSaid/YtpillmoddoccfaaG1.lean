/-
  Models of the functions, and that they are what the code does. Written by a program.
-/
import Derived.Test.YtpillmoddoccfaaCod
import Derived.Test.YtpillmoddoccfaaSxRun
set_option maxRecDepth 100000
set_option maxHeartbeats 0
set_option linter.unusedVariables false
namespace Go.Proofs.Ytpillmoddoccfaa
open Go.Sx
noncomputable section

def newellaw01_Far_m {R : Type} (N : Nat) (a0 : api_Escalator) (k : Bool → Option R) : Option R :=
  k (decide ((↑(Arr.n (api_Escalator.Brakes a0)) : Int) > (10 : Int)))
noncomputable def newellaw01_Far {R : Type} : Nat → api_Escalator → (Bool → Option R) → Option R := lock (@newellaw01_Far_m R)
theorem newellaw01_Far_def {R : Type} (N : Nat) (a0 : api_Escalator) (k : Bool → Option R) : newellaw01_Far N a0 k = newellaw01_Far_m N a0 k := by unfold newellaw01_Far; rw [lock_eq]
def newellaw01_Far_sp : Sp := ⟨[rAgg api_EscalatorC], []⟩
theorem newellaw01_Far_sp_ok : newellaw01_Far_sp.Ok := ⟨(allCons (rAgg_ok api_EscalatorC_ok api_EscalatorC_len) allNil), eNil⟩
def newellaw01_Far_rs : Sp := ⟨[rBool], []⟩
theorem newellaw01_Far_rs_ok : newellaw01_Far_rs.Ok := ⟨(allCons rBool_ok allNil), eNil⟩
def newellaw01_Far_run {R : Type} (N : Nat) (args : List SV) (T : Tab) (kf : SV × Tab → Option R) : Option R :=
  newellaw01_Far_m N (Cod.dec api_EscalatorC (lget (toCs (lget args 0)))) (fun q0 => kf (lget [.bool q0] 0, []))
def newellaw01_Far_lp {R : Type} (N : Nat) : Lp R := fun body S k => Option.none
noncomputable def newellaw01_Far_go {R : Type} (N : Nat) (args : List SV) (T : Tab) (kf : SV × Tab → Option R) : Option R :=
  newellaw01_Far N (Cod.dec api_EscalatorC (lget (toCs (lget args 0)))) (fun q0 => kf (lget [.bool q0] 0, []))
noncomputable def newellaw01_Far_cal {R : Type} (N : Nat) : Cal R := callM (noCal E) 10 0 newellaw01_Far_sp (newellaw01_Far_go N)
theorem newellaw01_Far_cal_ok {R : Type} (N : Nat) : CalOk E.P (newellaw01_Far_cal (R := R) N) :=
  callM_ok hE (noCal_ok E) (lp := newellaw01_Far_lp N) (jn := noJn) (keys := []) kNil (by kernel_rfl) (js := []) jNil (by kernel_rfl) newellaw01_Far_sp_ok newellaw01_Far_rs_ok (fun args T kf => Eq.trans (newellaw01_Far_def N (Cod.dec api_EscalatorC (lget (toCs (lget args 0)))) (fun q0 => kf (lget [.bool q0] 0, []))) (by kernel_rfl : newellaw01_Far_run N args T kf = fnM E (noCal E) (newellaw01_Far_lp N) (noJn) 10 (newellaw01_Far_sp.vs args) (newellaw01_Far_sp.tab T) 0 (resK newellaw01_Far_rs kf)))


def newellaw11_Far_m {R : Type} (N : Nat) (a1 : api_Band) (k : Bool → Option R) : Option R :=
  k (decide ((↑(Arr.n (api_Band.Paces a1)) : Int) > (10 : Int)))
noncomputable def newellaw11_Far {R : Type} : Nat → api_Band → (Bool → Option R) → Option R := lock (@newellaw11_Far_m R)
theorem newellaw11_Far_def {R : Type} (N : Nat) (a1 : api_Band) (k : Bool → Option R) : newellaw11_Far N a1 k = newellaw11_Far_m N a1 k := by unfold newellaw11_Far; rw [lock_eq]
def newellaw11_Far_sp : Sp := ⟨[rAgg api_BandC], []⟩
theorem newellaw11_Far_sp_ok : newellaw11_Far_sp.Ok := ⟨(allCons (rAgg_ok api_BandC_ok api_BandC_len) allNil), eNil⟩
def newellaw11_Far_rs : Sp := ⟨[rBool], []⟩
theorem newellaw11_Far_rs_ok : newellaw11_Far_rs.Ok := ⟨(allCons rBool_ok allNil), eNil⟩
def newellaw11_Far_run {R : Type} (N : Nat) (args : List SV) (T : Tab) (kf : SV × Tab → Option R) : Option R :=
  newellaw11_Far_m N (Cod.dec api_BandC (lget (toCs (lget args 0)))) (fun q0 => kf (lget [.bool q0] 0, []))
def newellaw11_Far_lp {R : Type} (N : Nat) : Lp R := fun body S k => Option.none
noncomputable def newellaw11_Far_go {R : Type} (N : Nat) (args : List SV) (T : Tab) (kf : SV × Tab → Option R) : Option R :=
  newellaw11_Far N (Cod.dec api_BandC (lget (toCs (lget args 0)))) (fun q0 => kf (lget [.bool q0] 0, []))
noncomputable def newellaw11_Far_cal {R : Type} (N : Nat) : Cal R := callM (newellaw01_Far_cal N) 11 0 newellaw11_Far_sp (newellaw11_Far_go N)
theorem newellaw11_Far_cal_ok {R : Type} (N : Nat) : CalOk E.P (newellaw11_Far_cal (R := R) N) :=
  callM_ok hE (newellaw01_Far_cal_ok N) (lp := newellaw11_Far_lp N) (jn := noJn) (keys := []) kNil (by kernel_rfl) (js := []) jNil (by kernel_rfl) newellaw11_Far_sp_ok newellaw11_Far_rs_ok (fun args T kf => Eq.trans (newellaw11_Far_def N (Cod.dec api_BandC (lget (toCs (lget args 0)))) (fun q0 => kf (lget [.bool q0] 0, []))) (by kernel_rfl : newellaw11_Far_run N args T kf = fnM E (newellaw01_Far_cal N) (newellaw11_Far_lp N) (noJn) 11 (newellaw11_Far_sp.vs args) (newellaw11_Far_sp.tab T) 0 (resK newellaw11_Far_rs kf)))


def newelref01_within_m {R : Type} (N : Nat) (a3 : Int) (a4 : Int) (a5 : Int) (k : Bool → Option R) : Option R :=
  bif decide (a3 ≥ a4) then
   k (decide (a3 ≤ a5))
  else
   k false
noncomputable def newelref01_within {R : Type} : Nat → Int → Int → Int → (Bool → Option R) → Option R := lock (@newelref01_within_m R)
theorem newelref01_within_def {R : Type} (N : Nat) (a3 : Int) (a4 : Int) (a5 : Int) (k : Bool → Option R) : newelref01_within N a3 a4 a5 k = newelref01_within_m N a3 a4 a5 k := by unfold newelref01_within; rw [lock_eq]
def newelref01_within_sp : Sp := ⟨[rInt .i64, rInt .i64, rInt .i64], []⟩
theorem newelref01_within_sp_ok : newelref01_within_sp.Ok := ⟨(allCons (rInt_ok .i64) (allCons (rInt_ok .i64) (allCons (rInt_ok .i64) allNil))), eNil⟩
def newelref01_within_rs : Sp := ⟨[rBool], []⟩
theorem newelref01_within_rs_ok : newelref01_within_rs.Ok := ⟨(allCons rBool_ok allNil), eNil⟩
def newelref01_within_run {R : Type} (N : Nat) (args : List SV) (T : Tab) (kf : SV × Tab → Option R) : Option R :=
  newelref01_within_m N (toI (lget args 0)) (toI (lget args 1)) (toI (lget args 2)) (fun q0 => kf (lget [.bool q0] 0, []))
def newelref01_within_lp {R : Type} (N : Nat) : Lp R := fun body S k => Option.none
noncomputable def newelref01_within_go {R : Type} (N : Nat) (args : List SV) (T : Tab) (kf : SV × Tab → Option R) : Option R :=
  newelref01_within N (toI (lget args 0)) (toI (lget args 1)) (toI (lget args 2)) (fun q0 => kf (lget [.bool q0] 0, []))
noncomputable def newelref01_within_cal {R : Type} (N : Nat) : Cal R := callM (newellaw11_Far_cal N) 58 0 newelref01_within_sp (newelref01_within_go N)
theorem newelref01_within_cal_ok {R : Type} (N : Nat) : CalOk E.P (newelref01_within_cal (R := R) N) :=
  callM_ok hE (newellaw11_Far_cal_ok N) (lp := newelref01_within_lp N) (jn := noJn) (keys := []) kNil (by kernel_rfl) (js := []) jNil (by kernel_rfl) newelref01_within_sp_ok newelref01_within_rs_ok (fun args T kf => Eq.trans (newelref01_within_def N (toI (lget args 0)) (toI (lget args 1)) (toI (lget args 2)) (fun q0 => kf (lget [.bool q0] 0, []))) (by kernel_rfl : newelref01_within_run N args T kf = fnM E (newellaw11_Far_cal N) (newelref01_within_lp N) (noJn) 58 (newelref01_within_sp.vs args) (newelref01_within_sp.tab T) 0 (resK newelref01_within_rs kf)))

def newelref01_Check_L4 : LoopSp := ⟨⟨[1, 3], ⟨(dr 1 ((rPtr 0 0) :: (dr 1 ((rInt .i64) :: (dr 53 []))))), [(0, eBlkC api_EscalatorC)]⟩, 1⟩, [(Option.none, ⟨[2], ⟨(dr 2 ((rInt .i64) :: (dr 54 []))), []⟩, 0⟩), (some 0, ⟨[], ⟨(dr 57 []), []⟩, 0⟩)]⟩
theorem newelref01_Check_L4_ok : newelref01_Check_L4.Ok := ⟨⟨(drCons 1 (allCons (rPtr_ok 0 0) (drCons 1 (allCons (rInt_ok .i64) (drCons 53 allNil))))), (eCons (eBlkC_ok api_EscalatorC_ok api_EscalatorC_len) eNil)⟩, (xCons ⟨(drCons 2 (allCons (rInt_ok .i64) (drCons 54 allNil))), eNil⟩ (xCons ⟨(drCons 57 allNil), eNil⟩ xNil))⟩
def newelref01_Check_h4 (v10 : Int) (v11 : api_Escalator) : St := ⟨(un 1 ((.ptr 0 0) :: (un 1 ((.int .i64 v10) :: (un 53 []))))), [(0, .blk (Cod.enc api_EscalatorC v11))], 1⟩
def newelref01_Check_x4_r (q0 : Int) : St := ⟨(un 2 ((.int .i64 q0) :: (un 54 []))), [], 0⟩
def newelref01_Check_x4_0  : St := ⟨(un 57 []), [], 0⟩
def newelref01_Check_b4 {R : Type} (N : Nat) (rc : Int → api_Escalator → Option R) (v10 : Int) (v11 : api_Escalator) (kr : Int → Option R) (k0 : Unit → Option R) : Option R :=
  bif decide (v10 < (↑(Arr.n (api_Escalator.Brakes v11)) : Int)) then
   bif decide ((0 : Int) ≤ v10) && decide (v10 < (↑(Arr.n (api_Escalator.Brakes v11)) : Int)) then
    newelref01_within N (api_Brake.Force (Arr.f (api_Escalator.Brakes v11) (Int.toNat v10))) (0 : Int) (10000000 : Int) (fun r12 =>
    bif !r12 then
     kr (10 : Int)
    else
     bif decide ((0 : Int) ≤ v10) && decide (v10 < (↑(Arr.n (api_Escalator.Brakes v11)) : Int)) then
      newelref01_within N (api_Brake.Delay (Arr.f (api_Escalator.Brakes v11) (Int.toNat v10))) (0 : Int) (20 : Int) (fun r13 =>
      bif !r13 then
       kr (10 : Int)
      else
       rc (w64 (v10 + (1 : Int))) v11)
     else
      Option.none)
   else
    Option.none
  else
   k0 ()
def newelref01_Check_l4 {R : Type} (N : Nat) : Nat → Int → api_Escalator → (Int → Option R) → (Unit → Option R) → Option R
  | 0, _, _, _, _ => Option.none
  | n + 1, v10, v11, kr, k0 => newelref01_Check_b4 N (fun v10 v11 => newelref01_Check_l4 N n v10 v11 kr k0) v10 v11 kr k0


def newelref01_Check_m {R : Type} (N : Nat) (a2 : api_Escalator) (k : Int → Option R) : Option R :=
  newelref01_within N (api_Escalator.Empty a2) (1 : Int) (100000 : Int) (fun r6 =>
  bif !r6 then
   k (10 : Int)
  else
   newelref01_within N (api_Escalator.Pull a2) (0 : Int) (100 : Int) (fun r7 =>
   bif !r7 then
    k (10 : Int)
   else
    newelref01_within N (api_Escalator.Drag a2) (0 : Int) (10000000 : Int) (fun r8 =>
    bif !r8 then
     k (10 : Int)
    else
     newelref01_within N (api_Escalator.Motor a2) (0 : Int) (10000000 : Int) (fun r9 =>
     bif !r9 then
      k (10 : Int)
     else
      bif decide ((↑(Arr.n (api_Escalator.Brakes a2)) : Int) > (3 : Int)) then
       k (10 : Int)
      else
       newelref01_Check_l4 N N (0 : Int) a2 (fun r14 =>
        k r14) (fun (_ : Unit) =>
        k (0 : Int))))))
noncomputable def newelref01_Check {R : Type} : Nat → api_Escalator → (Int → Option R) → Option R := lock (@newelref01_Check_m R)
theorem newelref01_Check_def {R : Type} (N : Nat) (a2 : api_Escalator) (k : Int → Option R) : newelref01_Check N a2 k = newelref01_Check_m N a2 k := by unfold newelref01_Check; rw [lock_eq]
def newelref01_Check_sp : Sp := ⟨[rAgg api_EscalatorC], []⟩
theorem newelref01_Check_sp_ok : newelref01_Check_sp.Ok := ⟨(allCons (rAgg_ok api_EscalatorC_ok api_EscalatorC_len) allNil), eNil⟩
def newelref01_Check_rs : Sp := ⟨[rInt .i64], []⟩
theorem newelref01_Check_rs_ok : newelref01_Check_rs.Ok := ⟨(allCons (rInt_ok .i64) allNil), eNil⟩
def newelref01_Check_run {R : Type} (N : Nat) (args : List SV) (T : Tab) (kf : SV × Tab → Option R) : Option R :=
  newelref01_Check_m N (Cod.dec api_EscalatorC (lget (toCs (lget args 0)))) (fun q0 => kf (lget [.int .i64 q0] 0, []))
def newelref01_Check_d4 {R : Type} (N : Nat) (S0 : St) (k : Exit → St → Option R) : Option R :=
  newelref01_Check_l4 N N (toI (lget S0.tmps 3)) (Cod.dec api_EscalatorC (lget (entCs (entAt S0.tab 0)))) (fun q0 => k .ret (newelref01_Check_x4_r q0)) (fun (_ : Unit) => k (.exit 0) (newelref01_Check_x4_0 ))
def newelref01_Check_lp {R : Type} (N : Nat) : Lp R := fun body S k => bif (Go.Sx.keyOf body).getD 0 == 4 then newelref01_Check_L4.head.raw 0 S (fun S0 => newelref01_Check_d4 N S0 k) else Option.none
theorem newelref01_Check_l4_eq {R : Type} (N : Nat) (k : Exit → St → Option R) (n : Nat) : ∀ (v0 : Int) (v1 : api_Escalator), loopM E.Θ (newelref01_within_cal N) (newelref01_Check_lp N) (noJn) 0 newelref01_Check_L4 (bodyAt E 12 4) n (newelref01_Check_h4 v0 v1) k = newelref01_Check_l4 N n v0 v1 (fun q0 => k .ret (newelref01_Check_x4_r q0)) (fun (_ : Unit) => k (.exit 0) (newelref01_Check_x4_0 )) := by
  induction n with
  | zero => intro v0 v1; rfl
  | succ n ih =>
    intro v0 v1
    refine Eq.trans (b := newelref01_Check_b4 N (fun v0 v1 => loopM E.Θ (newelref01_within_cal N) (newelref01_Check_lp N) (noJn) 0 newelref01_Check_L4 (bodyAt E 12 4) n (newelref01_Check_h4 v0 v1) k) v0 v1 (fun q0 => k .ret (newelref01_Check_x4_r q0)) (fun (_ : Unit) => k (.exit 0) (newelref01_Check_x4_0 ))) (by kernel_rfl) ?_
    have h : (fun (v0 : Int) (v1 : api_Escalator) => loopM E.Θ (newelref01_within_cal N) (newelref01_Check_lp N) (noJn) 0 newelref01_Check_L4 (bodyAt E 12 4) n (newelref01_Check_h4 v0 v1) k) = (fun (v0 : Int) (v1 : api_Escalator) => newelref01_Check_l4 N n v0 v1 (fun q0 => k .ret (newelref01_Check_x4_r q0)) (fun (_ : Unit) => k (.exit 0) (newelref01_Check_x4_0 ))) := funext fun v0 => funext fun v1 => ih v0 v1
    rw [h]
    rfl
theorem newelref01_Check_k4 {R : Type} (N : Nat) : LpKey (R := R) E 12 0 (newelref01_Check_lp N) 4 :=
  lpKey_of hE (newelref01_within_cal_ok N) (jn := noJn) newelref01_Check_L4_ok [] kNil (by kernel_rfl) [] jNil (by kernel_rfl) N fun S k =>
    Eq.trans (b := newelref01_Check_L4.head.raw 0 S (fun S0 => newelref01_Check_d4 N S0 k)) (by kernel_rfl) (congrArg (newelref01_Check_L4.head.raw 0 S) (funext fun S0 => Eq.trans (newelref01_Check_l4_eq N k N (toI (lget S0.tmps 3)) (Cod.dec api_EscalatorC (lget (entCs (entAt S0.tab 0))))).symm (by kernel_rfl)))
noncomputable def newelref01_Check_go {R : Type} (N : Nat) (args : List SV) (T : Tab) (kf : SV × Tab → Option R) : Option R :=
  newelref01_Check N (Cod.dec api_EscalatorC (lget (toCs (lget args 0)))) (fun q0 => kf (lget [.int .i64 q0] 0, []))
noncomputable def newelref01_Check_cal {R : Type} (N : Nat) : Cal R := callM (newelref01_within_cal N) 12 0 newelref01_Check_sp (newelref01_Check_go N)
theorem newelref01_Check_cal_ok {R : Type} (N : Nat) : CalOk E.P (newelref01_Check_cal (R := R) N) :=
  callM_ok hE (newelref01_within_cal_ok N) (lp := newelref01_Check_lp N) (jn := noJn) (keys := [4]) (kCons (newelref01_Check_k4 N) kNil) (by kernel_rfl) (js := []) jNil (by kernel_rfl) newelref01_Check_sp_ok newelref01_Check_rs_ok (fun args T kf => Eq.trans (newelref01_Check_def N (Cod.dec api_EscalatorC (lget (toCs (lget args 0)))) (fun q0 => kf (lget [.int .i64 q0] 0, []))) (by kernel_rfl : newelref01_Check_run N args T kf = fnM E (newelref01_within_cal N) (newelref01_Check_lp N) (noJn) 12 (newelref01_Check_sp.vs args) (newelref01_Check_sp.tab T) 0 (resK newelref01_Check_rs kf)))


def newelref11_within_m {R : Type} (N : Nat) (a16 : Int) (a17 : Int) (a18 : Int) (k : Bool → Option R) : Option R :=
  bif decide (a16 ≥ a17) then
   k (decide (a16 ≤ a18))
  else
   k false
noncomputable def newelref11_within {R : Type} : Nat → Int → Int → Int → (Bool → Option R) → Option R := lock (@newelref11_within_m R)
theorem newelref11_within_def {R : Type} (N : Nat) (a16 : Int) (a17 : Int) (a18 : Int) (k : Bool → Option R) : newelref11_within N a16 a17 a18 k = newelref11_within_m N a16 a17 a18 k := by unfold newelref11_within; rw [lock_eq]
def newelref11_within_sp : Sp := ⟨[rInt .i64, rInt .i64, rInt .i64], []⟩
theorem newelref11_within_sp_ok : newelref11_within_sp.Ok := ⟨(allCons (rInt_ok .i64) (allCons (rInt_ok .i64) (allCons (rInt_ok .i64) allNil))), eNil⟩
def newelref11_within_rs : Sp := ⟨[rBool], []⟩
theorem newelref11_within_rs_ok : newelref11_within_rs.Ok := ⟨(allCons rBool_ok allNil), eNil⟩
def newelref11_within_run {R : Type} (N : Nat) (args : List SV) (T : Tab) (kf : SV × Tab → Option R) : Option R :=
  newelref11_within_m N (toI (lget args 0)) (toI (lget args 1)) (toI (lget args 2)) (fun q0 => kf (lget [.bool q0] 0, []))
def newelref11_within_lp {R : Type} (N : Nat) : Lp R := fun body S k => Option.none
noncomputable def newelref11_within_go {R : Type} (N : Nat) (args : List SV) (T : Tab) (kf : SV × Tab → Option R) : Option R :=
  newelref11_within N (toI (lget args 0)) (toI (lget args 1)) (toI (lget args 2)) (fun q0 => kf (lget [.bool q0] 0, []))
noncomputable def newelref11_within_cal {R : Type} (N : Nat) : Cal R := callM (newelref01_Check_cal N) 59 0 newelref11_within_sp (newelref11_within_go N)
theorem newelref11_within_cal_ok {R : Type} (N : Nat) : CalOk E.P (newelref11_within_cal (R := R) N) :=
  callM_ok hE (newelref01_Check_cal_ok N) (lp := newelref11_within_lp N) (jn := noJn) (keys := []) kNil (by kernel_rfl) (js := []) jNil (by kernel_rfl) newelref11_within_sp_ok newelref11_within_rs_ok (fun args T kf => Eq.trans (newelref11_within_def N (toI (lget args 0)) (toI (lget args 1)) (toI (lget args 2)) (fun q0 => kf (lget [.bool q0] 0, []))) (by kernel_rfl : newelref11_within_run N args T kf = fnM E (newelref01_Check_cal N) (newelref11_within_lp N) (noJn) 59 (newelref11_within_sp.vs args) (newelref11_within_sp.tab T) 0 (resK newelref11_within_rs kf)))

def newelref11_Check_L7 : LoopSp := ⟨⟨[1, 3, 4], ⟨(dr 1 ((rPtr 0 0) :: (dr 1 ((rInt .i64) :: (rInt .i64) :: (dr 68 []))))), [(0, eBlkC api_BandC)]⟩, 1⟩, [(Option.none, ⟨[2], ⟨(dr 2 ((rInt .i64) :: (dr 70 []))), []⟩, 0⟩), (some 0, ⟨[], ⟨(dr 73 []), []⟩, 0⟩)]⟩
theorem newelref11_Check_L7_ok : newelref11_Check_L7.Ok := ⟨⟨(drCons 1 (allCons (rPtr_ok 0 0) (drCons 1 (allCons (rInt_ok .i64) (allCons (rInt_ok .i64) (drCons 68 allNil)))))), (eCons (eBlkC_ok api_BandC_ok api_BandC_len) eNil)⟩, (xCons ⟨(drCons 2 (allCons (rInt_ok .i64) (drCons 70 allNil))), eNil⟩ (xCons ⟨(drCons 73 allNil), eNil⟩ xNil))⟩
def newelref11_Check_h7 (v27 : Int) (v28 : Int) (v29 : api_Band) : St := ⟨(un 1 ((.ptr 0 0) :: (un 1 ((.int .i64 v27) :: (.int .i64 v28) :: (un 68 []))))), [(0, .blk (Cod.enc api_BandC v29))], 1⟩
def newelref11_Check_x7_r (q0 : Int) : St := ⟨(un 2 ((.int .i64 q0) :: (un 70 []))), [], 0⟩
def newelref11_Check_x7_0  : St := ⟨(un 73 []), [], 0⟩
def newelref11_Check_b7 {R : Type} (N : Nat) (rc : Int → Int → api_Band → Option R) (v27 : Int) (v28 : Int) (v29 : api_Band) (kr : Int → Option R) (k0 : Unit → Option R) : Option R :=
  bif decide (v28 < (↑(Arr.n (api_Band.Paces v29)) : Int)) then
   bif decide ((0 : Int) ≤ v28) && decide (v28 < (↑(Arr.n (api_Band.Paces v29)) : Int)) then
    newelref11_within N (Arr.f (api_Band.Paces v29) (Int.toNat v28)) (w64 (v27 + (1 : Int))) (100 : Int) (fun r30 =>
    bif !r30 then
     kr (110 : Int)
    else
     bif decide ((0 : Int) ≤ v28) && decide (v28 < (↑(Arr.n (api_Band.Paces v29)) : Int)) then
      rc (Arr.f (api_Band.Paces v29) (Int.toNat v28)) (w64 (v28 + (1 : Int))) v29
     else
      Option.none)
   else
    Option.none
  else
   k0 ()
def newelref11_Check_l7 {R : Type} (N : Nat) : Nat → Int → Int → api_Band → (Int → Option R) → (Unit → Option R) → Option R
  | 0, _, _, _, _, _ => Option.none
  | n + 1, v27, v28, v29, kr, k0 => newelref11_Check_b7 N (fun v27 v28 v29 => newelref11_Check_l7 N n v27 v28 v29 kr k0) v27 v28 v29 kr k0


def newelref11_Check_m {R : Type} (N : Nat) (a15 : api_Band) (k : Int → Option R) : Option R :=
  newelref11_within N (api_Band.Pull a15) (0 : Int) (100 : Int) (fun r19 =>
  bif !r19 then
   k (110 : Int)
  else
   newelref11_within N (api_Band.Drag a15) (0 : Int) (1000000 : Int) (fun r20 =>
   bif !r20 then
    k (110 : Int)
   else
    newelref11_within N (api_Band.Body a15) (0 : Int) (100 : Int) (fun r21 =>
    bif !r21 then
     k (110 : Int)
    else
     newelref11_within N (api_Band.Ride a15) (1 : Int) (1000 : Int) (fun r22 =>
     bif !r22 then
      k (110 : Int)
     else
      newelref11_within N (api_Band.Most a15) (0 : Int) (100000000 : Int) (fun r23 =>
      bif !r23 then
       k (110 : Int)
      else
       newelref11_within N ((↑(Arr.n (api_Band.Paces a15)) : Int)) (1 : Int) (3 : Int) (fun r24 =>
       bif !r24 then
        k (110 : Int)
       else
        newelref11_within N (api_Band.Den a15) (1 : Int) (100 : Int) (fun r25 =>
        bif !r25 then
         k (110 : Int)
        else
         newelref11_within N (api_Band.Num a15) (0 : Int) (api_Band.Den a15) (fun r26 =>
         bif !r26 then
          k (110 : Int)
         else
          newelref11_Check_l7 N N (0 : Int) (0 : Int) a15 (fun r31 =>
           k r31) (fun (_ : Unit) =>
           k (0 : Int))))))))))
noncomputable def newelref11_Check {R : Type} : Nat → api_Band → (Int → Option R) → Option R := lock (@newelref11_Check_m R)
theorem newelref11_Check_def {R : Type} (N : Nat) (a15 : api_Band) (k : Int → Option R) : newelref11_Check N a15 k = newelref11_Check_m N a15 k := by unfold newelref11_Check; rw [lock_eq]
def newelref11_Check_sp : Sp := ⟨[rAgg api_BandC], []⟩
theorem newelref11_Check_sp_ok : newelref11_Check_sp.Ok := ⟨(allCons (rAgg_ok api_BandC_ok api_BandC_len) allNil), eNil⟩
def newelref11_Check_rs : Sp := ⟨[rInt .i64], []⟩
theorem newelref11_Check_rs_ok : newelref11_Check_rs.Ok := ⟨(allCons (rInt_ok .i64) allNil), eNil⟩
def newelref11_Check_run {R : Type} (N : Nat) (args : List SV) (T : Tab) (kf : SV × Tab → Option R) : Option R :=
  newelref11_Check_m N (Cod.dec api_BandC (lget (toCs (lget args 0)))) (fun q0 => kf (lget [.int .i64 q0] 0, []))
def newelref11_Check_d7 {R : Type} (N : Nat) (S0 : St) (k : Exit → St → Option R) : Option R :=
  newelref11_Check_l7 N N (toI (lget S0.tmps 3)) (toI (lget S0.tmps 4)) (Cod.dec api_BandC (lget (entCs (entAt S0.tab 0)))) (fun q0 => k .ret (newelref11_Check_x7_r q0)) (fun (_ : Unit) => k (.exit 0) (newelref11_Check_x7_0 ))
def newelref11_Check_lp {R : Type} (N : Nat) : Lp R := fun body S k => bif (Go.Sx.keyOf body).getD 0 == 7 then newelref11_Check_L7.head.raw 0 S (fun S0 => newelref11_Check_d7 N S0 k) else Option.none
theorem newelref11_Check_l7_eq {R : Type} (N : Nat) (k : Exit → St → Option R) (n : Nat) : ∀ (v0 : Int) (v1 : Int) (v2 : api_Band), loopM E.Θ (newelref11_within_cal N) (newelref11_Check_lp N) (noJn) 0 newelref11_Check_L7 (bodyAt E 13 7) n (newelref11_Check_h7 v0 v1 v2) k = newelref11_Check_l7 N n v0 v1 v2 (fun q0 => k .ret (newelref11_Check_x7_r q0)) (fun (_ : Unit) => k (.exit 0) (newelref11_Check_x7_0 )) := by
  induction n with
  | zero => intro v0 v1 v2; rfl
  | succ n ih =>
    intro v0 v1 v2
    refine Eq.trans (b := newelref11_Check_b7 N (fun v0 v1 v2 => loopM E.Θ (newelref11_within_cal N) (newelref11_Check_lp N) (noJn) 0 newelref11_Check_L7 (bodyAt E 13 7) n (newelref11_Check_h7 v0 v1 v2) k) v0 v1 v2 (fun q0 => k .ret (newelref11_Check_x7_r q0)) (fun (_ : Unit) => k (.exit 0) (newelref11_Check_x7_0 ))) (by kernel_rfl) ?_
    have h : (fun (v0 : Int) (v1 : Int) (v2 : api_Band) => loopM E.Θ (newelref11_within_cal N) (newelref11_Check_lp N) (noJn) 0 newelref11_Check_L7 (bodyAt E 13 7) n (newelref11_Check_h7 v0 v1 v2) k) = (fun (v0 : Int) (v1 : Int) (v2 : api_Band) => newelref11_Check_l7 N n v0 v1 v2 (fun q0 => k .ret (newelref11_Check_x7_r q0)) (fun (_ : Unit) => k (.exit 0) (newelref11_Check_x7_0 ))) := funext fun v0 => funext fun v1 => funext fun v2 => ih v0 v1 v2
    rw [h]
    rfl
theorem newelref11_Check_k7 {R : Type} (N : Nat) : LpKey (R := R) E 13 0 (newelref11_Check_lp N) 7 :=
  lpKey_of hE (newelref11_within_cal_ok N) (jn := noJn) newelref11_Check_L7_ok [] kNil (by kernel_rfl) [] jNil (by kernel_rfl) N fun S k =>
    Eq.trans (b := newelref11_Check_L7.head.raw 0 S (fun S0 => newelref11_Check_d7 N S0 k)) (by kernel_rfl) (congrArg (newelref11_Check_L7.head.raw 0 S) (funext fun S0 => Eq.trans (newelref11_Check_l7_eq N k N (toI (lget S0.tmps 3)) (toI (lget S0.tmps 4)) (Cod.dec api_BandC (lget (entCs (entAt S0.tab 0))))).symm (by kernel_rfl)))
noncomputable def newelref11_Check_go {R : Type} (N : Nat) (args : List SV) (T : Tab) (kf : SV × Tab → Option R) : Option R :=
  newelref11_Check N (Cod.dec api_BandC (lget (toCs (lget args 0)))) (fun q0 => kf (lget [.int .i64 q0] 0, []))
noncomputable def newelref11_Check_cal {R : Type} (N : Nat) : Cal R := callM (newelref11_within_cal N) 13 0 newelref11_Check_sp (newelref11_Check_go N)
theorem newelref11_Check_cal_ok {R : Type} (N : Nat) : CalOk E.P (newelref11_Check_cal (R := R) N) :=
  callM_ok hE (newelref11_within_cal_ok N) (lp := newelref11_Check_lp N) (jn := noJn) (keys := [7]) (kCons (newelref11_Check_k7 N) kNil) (by kernel_rfl) (js := []) jNil (by kernel_rfl) newelref11_Check_sp_ok newelref11_Check_rs_ok (fun args T kf => Eq.trans (newelref11_Check_def N (Cod.dec api_BandC (lget (toCs (lget args 0)))) (fun q0 => kf (lget [.int .i64 q0] 0, []))) (by kernel_rfl : newelref11_Check_run N args T kf = fnM E (newelref11_within_cal N) (newelref11_Check_lp N) (noJn) 13 (newelref11_Check_sp.vs args) (newelref11_Check_sp.tab T) 0 (resK newelref11_Check_rs kf)))

def newelref11_Pace_L2 : LoopSp := ⟨⟨[1, 2, 5], ⟨(dr 1 ((rInt .i64) :: (rPtr 0 0) :: (dr 2 ((rInt .i64) :: (dr 14 []))))), [(0, eBlkC api_BandC)]⟩, 1⟩, [(Option.none, ⟨[4], ⟨(dr 4 ((rBool) :: (dr 15 []))), []⟩, 0⟩), (some 0, ⟨[], ⟨(dr 20 []), []⟩, 0⟩)]⟩
theorem newelref11_Pace_L2_ok : newelref11_Pace_L2.Ok := ⟨⟨(drCons 1 (allCons (rInt_ok .i64) (allCons (rPtr_ok 0 0) (drCons 2 (allCons (rInt_ok .i64) (drCons 14 allNil)))))), (eCons (eBlkC_ok api_BandC_ok api_BandC_len) eNil)⟩, (xCons ⟨(drCons 4 (allCons rBool_ok (drCons 15 allNil))), eNil⟩ (xCons ⟨(drCons 20 allNil), eNil⟩ xNil))⟩
def newelref11_Pace_h2 (v34 : Int) (v35 : Int) (v36 : api_Band) : St := ⟨(un 1 ((.int .i64 v34) :: (.ptr 0 0) :: (un 2 ((.int .i64 v35) :: (un 14 []))))), [(0, .blk (Cod.enc api_BandC v36))], 1⟩
def newelref11_Pace_x2_r (q0 : Bool) : St := ⟨(un 4 ((.bool q0) :: (un 15 []))), [], 0⟩
def newelref11_Pace_x2_0  : St := ⟨(un 20 []), [], 0⟩
def newelref11_Pace_b2 {R : Type} (N : Nat) (rc : Int → Int → api_Band → Option R) (v34 : Int) (v35 : Int) (v36 : api_Band) (kr : Bool → Option R) (k0 : Unit → Option R) : Option R :=
  bif decide (v35 < (↑(Arr.n (api_Band.Paces v36)) : Int)) then
   bif decide ((0 : Int) ≤ v35) && decide (v35 < (↑(Arr.n (api_Band.Paces v36)) : Int)) then
    bif Arr.f (api_Band.Paces v36) (Int.toNat v35) == v34 then
     kr true
    else
     rc v34 (w64 (v35 + (1 : Int))) v36
   else
    Option.none
  else
   k0 ()
def newelref11_Pace_l2 {R : Type} (N : Nat) : Nat → Int → Int → api_Band → (Bool → Option R) → (Unit → Option R) → Option R
  | 0, _, _, _, _, _ => Option.none
  | n + 1, v34, v35, v36, kr, k0 => newelref11_Pace_b2 N (fun v34 v35 v36 => newelref11_Pace_l2 N n v34 v35 v36 kr k0) v34 v35 v36 kr k0


def newelref11_Pace_m {R : Type} (N : Nat) (a32 : api_Band) (a33 : Int) (k : Bool → Option R) : Option R :=
  newelref11_Pace_l2 N N a33 (0 : Int) a32 (fun r37 =>
   k r37) (fun (_ : Unit) =>
   k false)
noncomputable def newelref11_Pace {R : Type} : Nat → api_Band → Int → (Bool → Option R) → Option R := lock (@newelref11_Pace_m R)
theorem newelref11_Pace_def {R : Type} (N : Nat) (a32 : api_Band) (a33 : Int) (k : Bool → Option R) : newelref11_Pace N a32 a33 k = newelref11_Pace_m N a32 a33 k := by unfold newelref11_Pace; rw [lock_eq]
def newelref11_Pace_sp : Sp := ⟨[rAgg api_BandC, rInt .i64], []⟩
theorem newelref11_Pace_sp_ok : newelref11_Pace_sp.Ok := ⟨(allCons (rAgg_ok api_BandC_ok api_BandC_len) (allCons (rInt_ok .i64) allNil)), eNil⟩
def newelref11_Pace_rs : Sp := ⟨[rBool], []⟩
theorem newelref11_Pace_rs_ok : newelref11_Pace_rs.Ok := ⟨(allCons rBool_ok allNil), eNil⟩
def newelref11_Pace_run {R : Type} (N : Nat) (args : List SV) (T : Tab) (kf : SV × Tab → Option R) : Option R :=
  newelref11_Pace_m N (Cod.dec api_BandC (lget (toCs (lget args 0)))) (toI (lget args 1)) (fun q0 => kf (lget [.bool q0] 0, []))
def newelref11_Pace_d2 {R : Type} (N : Nat) (S0 : St) (k : Exit → St → Option R) : Option R :=
  newelref11_Pace_l2 N N (toI (lget S0.tmps 1)) (toI (lget S0.tmps 5)) (Cod.dec api_BandC (lget (entCs (entAt S0.tab 0)))) (fun q0 => k .ret (newelref11_Pace_x2_r q0)) (fun (_ : Unit) => k (.exit 0) (newelref11_Pace_x2_0 ))
def newelref11_Pace_lp {R : Type} (N : Nat) : Lp R := fun body S k => bif (Go.Sx.keyOf body).getD 0 == 2 then newelref11_Pace_L2.head.raw 0 S (fun S0 => newelref11_Pace_d2 N S0 k) else Option.none
theorem newelref11_Pace_l2_eq {R : Type} (N : Nat) (k : Exit → St → Option R) (n : Nat) : ∀ (v0 : Int) (v1 : Int) (v2 : api_Band), loopM E.Θ (newelref11_Check_cal N) (newelref11_Pace_lp N) (noJn) 0 newelref11_Pace_L2 (bodyAt E 14 2) n (newelref11_Pace_h2 v0 v1 v2) k = newelref11_Pace_l2 N n v0 v1 v2 (fun q0 => k .ret (newelref11_Pace_x2_r q0)) (fun (_ : Unit) => k (.exit 0) (newelref11_Pace_x2_0 )) := by
  induction n with
  | zero => intro v0 v1 v2; rfl
  | succ n ih =>
    intro v0 v1 v2
    refine Eq.trans (b := newelref11_Pace_b2 N (fun v0 v1 v2 => loopM E.Θ (newelref11_Check_cal N) (newelref11_Pace_lp N) (noJn) 0 newelref11_Pace_L2 (bodyAt E 14 2) n (newelref11_Pace_h2 v0 v1 v2) k) v0 v1 v2 (fun q0 => k .ret (newelref11_Pace_x2_r q0)) (fun (_ : Unit) => k (.exit 0) (newelref11_Pace_x2_0 ))) (by kernel_rfl) ?_
    have h : (fun (v0 : Int) (v1 : Int) (v2 : api_Band) => loopM E.Θ (newelref11_Check_cal N) (newelref11_Pace_lp N) (noJn) 0 newelref11_Pace_L2 (bodyAt E 14 2) n (newelref11_Pace_h2 v0 v1 v2) k) = (fun (v0 : Int) (v1 : Int) (v2 : api_Band) => newelref11_Pace_l2 N n v0 v1 v2 (fun q0 => k .ret (newelref11_Pace_x2_r q0)) (fun (_ : Unit) => k (.exit 0) (newelref11_Pace_x2_0 ))) := funext fun v0 => funext fun v1 => funext fun v2 => ih v0 v1 v2
    rw [h]
    rfl
theorem newelref11_Pace_k2 {R : Type} (N : Nat) : LpKey (R := R) E 14 0 (newelref11_Pace_lp N) 2 :=
  lpKey_of hE (newelref11_Check_cal_ok N) (jn := noJn) newelref11_Pace_L2_ok [] kNil (by kernel_rfl) [] jNil (by kernel_rfl) N fun S k =>
    Eq.trans (b := newelref11_Pace_L2.head.raw 0 S (fun S0 => newelref11_Pace_d2 N S0 k)) (by kernel_rfl) (congrArg (newelref11_Pace_L2.head.raw 0 S) (funext fun S0 => Eq.trans (newelref11_Pace_l2_eq N k N (toI (lget S0.tmps 1)) (toI (lget S0.tmps 5)) (Cod.dec api_BandC (lget (entCs (entAt S0.tab 0))))).symm (by kernel_rfl)))
noncomputable def newelref11_Pace_go {R : Type} (N : Nat) (args : List SV) (T : Tab) (kf : SV × Tab → Option R) : Option R :=
  newelref11_Pace N (Cod.dec api_BandC (lget (toCs (lget args 0)))) (toI (lget args 1)) (fun q0 => kf (lget [.bool q0] 0, []))
noncomputable def newelref11_Pace_cal {R : Type} (N : Nat) : Cal R := callM (newelref11_Check_cal N) 14 0 newelref11_Pace_sp (newelref11_Pace_go N)
theorem newelref11_Pace_cal_ok {R : Type} (N : Nat) : CalOk E.P (newelref11_Pace_cal (R := R) N) :=
  callM_ok hE (newelref11_Check_cal_ok N) (lp := newelref11_Pace_lp N) (jn := noJn) (keys := [2]) (kCons (newelref11_Pace_k2 N) kNil) (by kernel_rfl) (js := []) jNil (by kernel_rfl) newelref11_Pace_sp_ok newelref11_Pace_rs_ok (fun args T kf => Eq.trans (newelref11_Pace_def N (Cod.dec api_BandC (lget (toCs (lget args 0)))) (toI (lget args 1)) (fun q0 => kf (lget [.bool q0] 0, []))) (by kernel_rfl : newelref11_Pace_run N args T kf = fnM E (newelref11_Check_cal N) (newelref11_Pace_lp N) (noJn) 14 (newelref11_Pace_sp.vs args) (newelref11_Pace_sp.tab T) 0 (resK newelref11_Pace_rs kf)))


def energy_from0_m {R : Type} (N : Nat) (a45 : Int) (a46 : Int) (k : Bool → Option R) : Option R :=
  bif decide (a45 ≥ (0 : Int)) then
   k (decide (a45 ≤ a46))
  else
   k false
noncomputable def energy_from0 {R : Type} : Nat → Int → Int → (Bool → Option R) → Option R := lock (@energy_from0_m R)
theorem energy_from0_def {R : Type} (N : Nat) (a45 : Int) (a46 : Int) (k : Bool → Option R) : energy_from0 N a45 a46 k = energy_from0_m N a45 a46 k := by unfold energy_from0; rw [lock_eq]
def energy_from0_sp : Sp := ⟨[rInt .i64, rInt .i64], []⟩
theorem energy_from0_sp_ok : energy_from0_sp.Ok := ⟨(allCons (rInt_ok .i64) (allCons (rInt_ok .i64) allNil)), eNil⟩
def energy_from0_rs : Sp := ⟨[rBool], []⟩
theorem energy_from0_rs_ok : energy_from0_rs.Ok := ⟨(allCons rBool_ok allNil), eNil⟩
def energy_from0_run {R : Type} (N : Nat) (args : List SV) (T : Tab) (kf : SV × Tab → Option R) : Option R :=
  energy_from0_m N (toI (lget args 0)) (toI (lget args 1)) (fun q0 => kf (lget [.bool q0] 0, []))
def energy_from0_lp {R : Type} (N : Nat) : Lp R := fun body S k => Option.none
noncomputable def energy_from0_go {R : Type} (N : Nat) (args : List SV) (T : Tab) (kf : SV × Tab → Option R) : Option R :=
  energy_from0 N (toI (lget args 0)) (toI (lget args 1)) (fun q0 => kf (lget [.bool q0] 0, []))
noncomputable def energy_from0_cal {R : Type} (N : Nat) : Cal R := callM (newelref11_Pace_cal N) 112 0 energy_from0_sp (energy_from0_go N)
theorem energy_from0_cal_ok {R : Type} (N : Nat) : CalOk E.P (energy_from0_cal (R := R) N) :=
  callM_ok hE (newelref11_Pace_cal_ok N) (lp := energy_from0_lp N) (jn := noJn) (keys := []) kNil (by kernel_rfl) (js := []) jNil (by kernel_rfl) energy_from0_sp_ok energy_from0_rs_ok (fun args T kf => Eq.trans (energy_from0_def N (toI (lget args 0)) (toI (lget args 1)) (fun q0 => kf (lget [.bool q0] 0, []))) (by kernel_rfl : energy_from0_run N args T kf = fnM E (newelref11_Pace_cal N) (energy_from0_lp N) (noJn) 112 (energy_from0_sp.vs args) (energy_from0_sp.tab T) 0 (resK energy_from0_rs kf)))

def energy_Check_L7 : LoopSp := ⟨⟨[3, 67, 68, 69], ⟨(dr 3 ((rInt .i64) :: (dr 63 ((rSl intC) :: (rInt .i64) :: (rInt .i64) :: (dr 12 []))))), []⟩, 0⟩, [(Option.none, ⟨[2], ⟨(dr 2 ((rInt .i64) :: (dr 79 []))), []⟩, 0⟩), (some 0, ⟨[], ⟨(dr 82 []), []⟩, 0⟩)]⟩
theorem energy_Check_L7_ok : energy_Check_L7.Ok := ⟨⟨(drCons 3 (allCons (rInt_ok .i64) (drCons 63 (allCons (rSl_ok intC_ok) (allCons (rInt_ok .i64) (allCons (rInt_ok .i64) (drCons 12 allNil))))))), eNil⟩, (xCons ⟨(drCons 2 (allCons (rInt_ok .i64) (drCons 79 allNil))), eNil⟩ (xCons ⟨(drCons 82 allNil), eNil⟩ xNil))⟩
def energy_Check_h7 (v52 : Int) (v53 : Arr Int) (v54 : Int) (v55 : Int) : St := ⟨(un 3 ((.int .i64 v52) :: (un 63 ((slC intC v53) :: (.int .i64 v54) :: (.int .i64 v55) :: (un 12 []))))), [], 0⟩
def energy_Check_x7_r (q0 : Int) : St := ⟨(un 2 ((.int .i64 q0) :: (un 79 []))), [], 0⟩
def energy_Check_x7_0  : St := ⟨(un 82 []), [], 0⟩
def energy_Check_b7 {R : Type} (N : Nat) (rc : Int → Arr Int → Int → Int → Option R) (v52 : Int) (v53 : Arr Int) (v54 : Int) (v55 : Int) (kr : Int → Option R) (k0 : Unit → Option R) : Option R :=
  bif decide (v55 < v54) then
   bif decide ((0 : Int) ≤ v55) && decide (v55 < (↑(Arr.n v53) : Int)) then
    bif decide (Arr.f v53 (Int.toNat v55) ≤ v52) then
     kr (110 : Int)
    else
     bif decide (Arr.f v53 (Int.toNat v55) > (100 : Int)) then
      kr (110 : Int)
     else
      rc (Arr.f v53 (Int.toNat v55)) v53 v54 (w64 (v55 + (1 : Int)))
   else
    Option.none
  else
   k0 ()
def energy_Check_l7 {R : Type} (N : Nat) : Nat → Int → Arr Int → Int → Int → (Int → Option R) → (Unit → Option R) → Option R
  | 0, _, _, _, _, _, _ => Option.none
  | n + 1, v52, v53, v54, v55, kr, k0 => energy_Check_b7 N (fun v52 v53 v54 v55 => energy_Check_l7 N n v52 v53 v54 v55 kr k0) v52 v53 v54 v55 kr k0


def energy_Check_m {R : Type} (N : Nat) (a44 : api_Band) (k : Int → Option R) : Option R :=
  energy_from0 N (api_Band.Pull a44) (100 : Int) (fun r47 =>
  bif !r47 then
   k (110 : Int)
  else
   energy_from0 N (api_Band.Drag a44) (1000000 : Int) (fun r48 =>
   bif !r48 then
    k (110 : Int)
   else
    energy_from0 N (api_Band.Body a44) (100 : Int) (fun r49 =>
    bif !r49 then
     k (110 : Int)
    else
     bif decide (api_Band.Ride a44 < (1 : Int)) then
      k (110 : Int)
     else
      bif decide (api_Band.Ride a44 > (1000 : Int)) then
       k (110 : Int)
      else
       energy_from0 N (api_Band.Most a44) (100000000 : Int) (fun r50 =>
       bif !r50 then
        k (110 : Int)
       else
        bif decide (api_Band.Den a44 < (1 : Int)) then
         k (110 : Int)
        else
         bif decide (api_Band.Den a44 > (100 : Int)) then
          k (110 : Int)
         else
          energy_from0 N (api_Band.Num a44) (api_Band.Den a44) (fun r51 =>
          bif !r51 then
           k (110 : Int)
          else
           bif decide ((↑(Arr.n (api_Band.Paces a44)) : Int) < (1 : Int)) then
            k (110 : Int)
           else
            bif decide ((↑(Arr.n (api_Band.Paces a44)) : Int) > (3 : Int)) then
             k (110 : Int)
            else
             energy_Check_l7 N N (0 : Int) (api_Band.Paces a44) ((↑(Arr.n (api_Band.Paces a44)) : Int)) (0 : Int) (fun r56 =>
              k r56) (fun (_ : Unit) =>
              k (0 : Int)))))))
noncomputable def energy_Check {R : Type} : Nat → api_Band → (Int → Option R) → Option R := lock (@energy_Check_m R)
theorem energy_Check_def {R : Type} (N : Nat) (a44 : api_Band) (k : Int → Option R) : energy_Check N a44 k = energy_Check_m N a44 k := by unfold energy_Check; rw [lock_eq]
def energy_Check_sp : Sp := ⟨[rAgg api_BandC], []⟩
theorem energy_Check_sp_ok : energy_Check_sp.Ok := ⟨(allCons (rAgg_ok api_BandC_ok api_BandC_len) allNil), eNil⟩
def energy_Check_rs : Sp := ⟨[rInt .i64], []⟩
theorem energy_Check_rs_ok : energy_Check_rs.Ok := ⟨(allCons (rInt_ok .i64) allNil), eNil⟩
def energy_Check_run {R : Type} (N : Nat) (args : List SV) (T : Tab) (kf : SV × Tab → Option R) : Option R :=
  energy_Check_m N (Cod.dec api_BandC (lget (toCs (lget args 0)))) (fun q0 => kf (lget [.int .i64 q0] 0, []))
def energy_Check_d7 {R : Type} (N : Nat) (S0 : St) (k : Exit → St → Option R) : Option R :=
  energy_Check_l7 N N (toI (lget S0.tmps 3)) (lstC intC (lget S0.tmps 67)) (toI (lget S0.tmps 68)) (toI (lget S0.tmps 69)) (fun q0 => k .ret (energy_Check_x7_r q0)) (fun (_ : Unit) => k (.exit 0) (energy_Check_x7_0 ))
def energy_Check_lp {R : Type} (N : Nat) : Lp R := fun body S k => bif (Go.Sx.keyOf body).getD 0 == 7 then energy_Check_L7.head.raw 0 S (fun S0 => energy_Check_d7 N S0 k) else Option.none
theorem energy_Check_l7_eq {R : Type} (N : Nat) (k : Exit → St → Option R) (n : Nat) : ∀ (v0 : Int) (v1 : Arr Int) (v2 : Int) (v3 : Int), loopM E.Θ (energy_from0_cal N) (energy_Check_lp N) (noJn) 0 energy_Check_L7 (bodyAt E 111 7) n (energy_Check_h7 v0 v1 v2 v3) k = energy_Check_l7 N n v0 v1 v2 v3 (fun q0 => k .ret (energy_Check_x7_r q0)) (fun (_ : Unit) => k (.exit 0) (energy_Check_x7_0 )) := by
  induction n with
  | zero => intro v0 v1 v2 v3; rfl
  | succ n ih =>
    intro v0 v1 v2 v3
    refine Eq.trans (b := energy_Check_b7 N (fun v0 v1 v2 v3 => loopM E.Θ (energy_from0_cal N) (energy_Check_lp N) (noJn) 0 energy_Check_L7 (bodyAt E 111 7) n (energy_Check_h7 v0 v1 v2 v3) k) v0 v1 v2 v3 (fun q0 => k .ret (energy_Check_x7_r q0)) (fun (_ : Unit) => k (.exit 0) (energy_Check_x7_0 ))) (by kernel_rfl) ?_
    have h : (fun (v0 : Int) (v1 : Arr Int) (v2 : Int) (v3 : Int) => loopM E.Θ (energy_from0_cal N) (energy_Check_lp N) (noJn) 0 energy_Check_L7 (bodyAt E 111 7) n (energy_Check_h7 v0 v1 v2 v3) k) = (fun (v0 : Int) (v1 : Arr Int) (v2 : Int) (v3 : Int) => energy_Check_l7 N n v0 v1 v2 v3 (fun q0 => k .ret (energy_Check_x7_r q0)) (fun (_ : Unit) => k (.exit 0) (energy_Check_x7_0 ))) := funext fun v0 => funext fun v1 => funext fun v2 => funext fun v3 => ih v0 v1 v2 v3
    rw [h]
    rfl
theorem energy_Check_k7 {R : Type} (N : Nat) : LpKey (R := R) E 111 0 (energy_Check_lp N) 7 :=
  lpKey_of hE (energy_from0_cal_ok N) (jn := noJn) energy_Check_L7_ok [] kNil (by kernel_rfl) [] jNil (by kernel_rfl) N fun S k =>
    Eq.trans (b := energy_Check_L7.head.raw 0 S (fun S0 => energy_Check_d7 N S0 k)) (by kernel_rfl) (congrArg (energy_Check_L7.head.raw 0 S) (funext fun S0 => Eq.trans (energy_Check_l7_eq N k N (toI (lget S0.tmps 3)) (lstC intC (lget S0.tmps 67)) (toI (lget S0.tmps 68)) (toI (lget S0.tmps 69))).symm (by kernel_rfl)))
noncomputable def energy_Check_go {R : Type} (N : Nat) (args : List SV) (T : Tab) (kf : SV × Tab → Option R) : Option R :=
  energy_Check N (Cod.dec api_BandC (lget (toCs (lget args 0)))) (fun q0 => kf (lget [.int .i64 q0] 0, []))
noncomputable def energy_Check_cal {R : Type} (N : Nat) : Cal R := callM (energy_from0_cal N) 111 0 energy_Check_sp (energy_Check_go N)
theorem energy_Check_cal_ok {R : Type} (N : Nat) : CalOk E.P (energy_Check_cal (R := R) N) :=
  callM_ok hE (energy_from0_cal_ok N) (lp := energy_Check_lp N) (jn := noJn) (keys := [7]) (kCons (energy_Check_k7 N) kNil) (by kernel_rfl) (js := []) jNil (by kernel_rfl) energy_Check_sp_ok energy_Check_rs_ok (fun args T kf => Eq.trans (energy_Check_def N (Cod.dec api_BandC (lget (toCs (lget args 0)))) (fun q0 => kf (lget [.int .i64 q0] 0, []))) (by kernel_rfl : energy_Check_run N args T kf = fnM E (energy_from0_cal N) (energy_Check_lp N) (noJn) 111 (energy_Check_sp.vs args) (energy_Check_sp.tab T) 0 (resK energy_Check_rs kf)))

def slices_Index___int_int__L2 : LoopSp := ⟨⟨[0, 1, 7, 8], ⟨((rSl intC) :: (rInt .i64) :: (dr 5 ((rInt .i64) :: (rInt .i64) :: (dr 10 [])))), []⟩, 0⟩, [(Option.none, ⟨[4], ⟨(dr 4 ((rInt .i64) :: (dr 14 []))), []⟩, 0⟩), (some 0, ⟨[], ⟨(dr 19 []), []⟩, 0⟩)]⟩
theorem slices_Index___int_int__L2_ok : slices_Index___int_int__L2.Ok := ⟨⟨(allCons (rSl_ok intC_ok) (allCons (rInt_ok .i64) (drCons 5 (allCons (rInt_ok .i64) (allCons (rInt_ok .i64) (drCons 10 allNil)))))), eNil⟩, (xCons ⟨(drCons 4 (allCons (rInt_ok .i64) (drCons 14 allNil))), eNil⟩ (xCons ⟨(drCons 19 allNil), eNil⟩ xNil))⟩
def slices_Index___int_int__h2 (v62 : Arr Int) (v63 : Int) (v64 : Int) (v65 : Int) : St := ⟨((slC intC v62) :: (.int .i64 v63) :: (un 5 ((.int .i64 v64) :: (.int .i64 v65) :: (un 10 [])))), [], 0⟩
def slices_Index___int_int__x2_r (q0 : Int) : St := ⟨(un 4 ((.int .i64 q0) :: (un 14 []))), [], 0⟩
def slices_Index___int_int__x2_0  : St := ⟨(un 19 []), [], 0⟩
def slices_Index___int_int__b2 {R : Type} (N : Nat) (rc : Arr Int → Int → Int → Int → Option R) (v62 : Arr Int) (v63 : Int) (v64 : Int) (v65 : Int) (kr : Int → Option R) (k0 : Unit → Option R) : Option R :=
  bif decide (v65 < v64) then
   bif decide ((0 : Int) ≤ v65) && decide (v65 < (↑(Arr.n v62) : Int)) then
    bif v63 == Arr.f v62 (Int.toNat v65) then
     kr v65
    else
     rc v62 v63 v64 (w64 (v65 + (1 : Int)))
   else
    Option.none
  else
   k0 ()
def slices_Index___int_int__l2 {R : Type} (N : Nat) : Nat → Arr Int → Int → Int → Int → (Int → Option R) → (Unit → Option R) → Option R
  | 0, _, _, _, _, _, _ => Option.none
  | n + 1, v62, v63, v64, v65, kr, k0 => slices_Index___int_int__b2 N (fun v62 v63 v64 v65 => slices_Index___int_int__l2 N n v62 v63 v64 v65 kr k0) v62 v63 v64 v65 kr k0


def slices_Index___int_int__m {R : Type} (N : Nat) (a60 : Arr Int) (a61 : Int) (k : Int → Option R) : Option R :=
  slices_Index___int_int__l2 N N a60 a61 ((↑(Arr.n a60) : Int)) (0 : Int) (fun r66 =>
   k r66) (fun (_ : Unit) =>
   k (-1 : Int))
noncomputable def slices_Index___int_int_ {R : Type} : Nat → Arr Int → Int → (Int → Option R) → Option R := lock (@slices_Index___int_int__m R)
theorem slices_Index___int_int__def {R : Type} (N : Nat) (a60 : Arr Int) (a61 : Int) (k : Int → Option R) : slices_Index___int_int_ N a60 a61 k = slices_Index___int_int__m N a60 a61 k := by unfold slices_Index___int_int_; rw [lock_eq]
def slices_Index___int_int__sp : Sp := ⟨[rSl intC, rInt .i64], []⟩
theorem slices_Index___int_int__sp_ok : slices_Index___int_int__sp.Ok := ⟨(allCons (rSl_ok intC_ok) (allCons (rInt_ok .i64) allNil)), eNil⟩
def slices_Index___int_int__rs : Sp := ⟨[rInt .i64], []⟩
theorem slices_Index___int_int__rs_ok : slices_Index___int_int__rs.Ok := ⟨(allCons (rInt_ok .i64) allNil), eNil⟩
def slices_Index___int_int__run {R : Type} (N : Nat) (args : List SV) (T : Tab) (kf : SV × Tab → Option R) : Option R :=
  slices_Index___int_int__m N (lstC intC (lget args 0)) (toI (lget args 1)) (fun q0 => kf (lget [.int .i64 q0] 0, []))
def slices_Index___int_int__d2 {R : Type} (N : Nat) (S0 : St) (k : Exit → St → Option R) : Option R :=
  slices_Index___int_int__l2 N N (lstC intC (lget S0.tmps 0)) (toI (lget S0.tmps 1)) (toI (lget S0.tmps 7)) (toI (lget S0.tmps 8)) (fun q0 => k .ret (slices_Index___int_int__x2_r q0)) (fun (_ : Unit) => k (.exit 0) (slices_Index___int_int__x2_0 ))
def slices_Index___int_int__lp {R : Type} (N : Nat) : Lp R := fun body S k => bif (Go.Sx.keyOf body).getD 0 == 2 then slices_Index___int_int__L2.head.raw 0 S (fun S0 => slices_Index___int_int__d2 N S0 k) else Option.none
theorem slices_Index___int_int__l2_eq {R : Type} (N : Nat) (k : Exit → St → Option R) (n : Nat) : ∀ (v0 : Arr Int) (v1 : Int) (v2 : Int) (v3 : Int), loopM E.Θ (energy_Check_cal N) (slices_Index___int_int__lp N) (noJn) 0 slices_Index___int_int__L2 (bodyAt E 116 2) n (slices_Index___int_int__h2 v0 v1 v2 v3) k = slices_Index___int_int__l2 N n v0 v1 v2 v3 (fun q0 => k .ret (slices_Index___int_int__x2_r q0)) (fun (_ : Unit) => k (.exit 0) (slices_Index___int_int__x2_0 )) := by
  induction n with
  | zero => intro v0 v1 v2 v3; rfl
  | succ n ih =>
    intro v0 v1 v2 v3
    refine Eq.trans (b := slices_Index___int_int__b2 N (fun v0 v1 v2 v3 => loopM E.Θ (energy_Check_cal N) (slices_Index___int_int__lp N) (noJn) 0 slices_Index___int_int__L2 (bodyAt E 116 2) n (slices_Index___int_int__h2 v0 v1 v2 v3) k) v0 v1 v2 v3 (fun q0 => k .ret (slices_Index___int_int__x2_r q0)) (fun (_ : Unit) => k (.exit 0) (slices_Index___int_int__x2_0 ))) (by kernel_rfl) ?_
    have h : (fun (v0 : Arr Int) (v1 : Int) (v2 : Int) (v3 : Int) => loopM E.Θ (energy_Check_cal N) (slices_Index___int_int__lp N) (noJn) 0 slices_Index___int_int__L2 (bodyAt E 116 2) n (slices_Index___int_int__h2 v0 v1 v2 v3) k) = (fun (v0 : Arr Int) (v1 : Int) (v2 : Int) (v3 : Int) => slices_Index___int_int__l2 N n v0 v1 v2 v3 (fun q0 => k .ret (slices_Index___int_int__x2_r q0)) (fun (_ : Unit) => k (.exit 0) (slices_Index___int_int__x2_0 ))) := funext fun v0 => funext fun v1 => funext fun v2 => funext fun v3 => ih v0 v1 v2 v3
    rw [h]
    rfl
theorem slices_Index___int_int__k2 {R : Type} (N : Nat) : LpKey (R := R) E 116 0 (slices_Index___int_int__lp N) 2 :=
  lpKey_of hE (energy_Check_cal_ok N) (jn := noJn) slices_Index___int_int__L2_ok [] kNil (by kernel_rfl) [] jNil (by kernel_rfl) N fun S k =>
    Eq.trans (b := slices_Index___int_int__L2.head.raw 0 S (fun S0 => slices_Index___int_int__d2 N S0 k)) (by kernel_rfl) (congrArg (slices_Index___int_int__L2.head.raw 0 S) (funext fun S0 => Eq.trans (slices_Index___int_int__l2_eq N k N (lstC intC (lget S0.tmps 0)) (toI (lget S0.tmps 1)) (toI (lget S0.tmps 7)) (toI (lget S0.tmps 8))).symm (by kernel_rfl)))
noncomputable def slices_Index___int_int__go {R : Type} (N : Nat) (args : List SV) (T : Tab) (kf : SV × Tab → Option R) : Option R :=
  slices_Index___int_int_ N (lstC intC (lget args 0)) (toI (lget args 1)) (fun q0 => kf (lget [.int .i64 q0] 0, []))
noncomputable def slices_Index___int_int__cal {R : Type} (N : Nat) : Cal R := callM (energy_Check_cal N) 116 0 slices_Index___int_int__sp (slices_Index___int_int__go N)
theorem slices_Index___int_int__cal_ok {R : Type} (N : Nat) : CalOk E.P (slices_Index___int_int__cal (R := R) N) :=
  callM_ok hE (energy_Check_cal_ok N) (lp := slices_Index___int_int__lp N) (jn := noJn) (keys := [2]) (kCons (slices_Index___int_int__k2 N) kNil) (by kernel_rfl) (js := []) jNil (by kernel_rfl) slices_Index___int_int__sp_ok slices_Index___int_int__rs_ok (fun args T kf => Eq.trans (slices_Index___int_int__def N (lstC intC (lget args 0)) (toI (lget args 1)) (fun q0 => kf (lget [.int .i64 q0] 0, []))) (by kernel_rfl : slices_Index___int_int__run N args T kf = fnM E (energy_Check_cal N) (slices_Index___int_int__lp N) (noJn) 116 (slices_Index___int_int__sp.vs args) (slices_Index___int_int__sp.tab T) 0 (resK slices_Index___int_int__rs kf)))


def slices_Contains___int_int__m {R : Type} (N : Nat) (a58 : Arr Int) (a59 : Int) (k : Bool → Option R) : Option R :=
  slices_Index___int_int_ N a58 a59 (fun r67 =>
  k (decide (r67 ≥ (0 : Int))))
noncomputable def slices_Contains___int_int_ {R : Type} : Nat → Arr Int → Int → (Bool → Option R) → Option R := lock (@slices_Contains___int_int__m R)
theorem slices_Contains___int_int__def {R : Type} (N : Nat) (a58 : Arr Int) (a59 : Int) (k : Bool → Option R) : slices_Contains___int_int_ N a58 a59 k = slices_Contains___int_int__m N a58 a59 k := by unfold slices_Contains___int_int_; rw [lock_eq]
def slices_Contains___int_int__sp : Sp := ⟨[rSl intC, rInt .i64], []⟩
theorem slices_Contains___int_int__sp_ok : slices_Contains___int_int__sp.Ok := ⟨(allCons (rSl_ok intC_ok) (allCons (rInt_ok .i64) allNil)), eNil⟩
def slices_Contains___int_int__rs : Sp := ⟨[rBool], []⟩
theorem slices_Contains___int_int__rs_ok : slices_Contains___int_int__rs.Ok := ⟨(allCons rBool_ok allNil), eNil⟩
def slices_Contains___int_int__run {R : Type} (N : Nat) (args : List SV) (T : Tab) (kf : SV × Tab → Option R) : Option R :=
  slices_Contains___int_int__m N (lstC intC (lget args 0)) (toI (lget args 1)) (fun q0 => kf (lget [.bool q0] 0, []))
def slices_Contains___int_int__lp {R : Type} (N : Nat) : Lp R := fun body S k => Option.none
noncomputable def slices_Contains___int_int__go {R : Type} (N : Nat) (args : List SV) (T : Tab) (kf : SV × Tab → Option R) : Option R :=
  slices_Contains___int_int_ N (lstC intC (lget args 0)) (toI (lget args 1)) (fun q0 => kf (lget [.bool q0] 0, []))
noncomputable def slices_Contains___int_int__cal {R : Type} (N : Nat) : Cal R := callM (slices_Index___int_int__cal N) 75 0 slices_Contains___int_int__sp (slices_Contains___int_int__go N)
theorem slices_Contains___int_int__cal_ok {R : Type} (N : Nat) : CalOk E.P (slices_Contains___int_int__cal (R := R) N) :=
  callM_ok hE (slices_Index___int_int__cal_ok N) (lp := slices_Contains___int_int__lp N) (jn := noJn) (keys := []) kNil (by kernel_rfl) (js := []) jNil (by kernel_rfl) slices_Contains___int_int__sp_ok slices_Contains___int_int__rs_ok (fun args T kf => Eq.trans (slices_Contains___int_int__def N (lstC intC (lget args 0)) (toI (lget args 1)) (fun q0 => kf (lget [.bool q0] 0, []))) (by kernel_rfl : slices_Contains___int_int__run N args T kf = fnM E (slices_Index___int_int__cal N) (slices_Contains___int_int__lp N) (noJn) 75 (slices_Contains___int_int__sp.vs args) (slices_Contains___int_int__sp.tab T) 0 (resK slices_Contains___int_int__rs kf)))


def energy_check_m {R : Type} (N : Nat) (a41 : api_Band) (a42 : Int) (a43 : Int) (k : Int → Option R) : Option R :=
  energy_Check N a41 (fun r57 =>
  bif r57 != (0 : Int) then
   k r57
  else
   slices_Contains___int_int_ N (api_Band.Paces a41) a43 (fun r68 =>
   bif !r68 then
    k (112 : Int)
   else
    energy_from0 N a42 (100 : Int) (fun r69 =>
    bif !r69 then
     k (1 : Int)
    else
     k (0 : Int))))
noncomputable def energy_check {R : Type} : Nat → api_Band → Int → Int → (Int → Option R) → Option R := lock (@energy_check_m R)
theorem energy_check_def {R : Type} (N : Nat) (a41 : api_Band) (a42 : Int) (a43 : Int) (k : Int → Option R) : energy_check N a41 a42 a43 k = energy_check_m N a41 a42 a43 k := by unfold energy_check; rw [lock_eq]
def energy_check_sp : Sp := ⟨[rAgg api_BandC, rInt .i64, rInt .i64], []⟩
theorem energy_check_sp_ok : energy_check_sp.Ok := ⟨(allCons (rAgg_ok api_BandC_ok api_BandC_len) (allCons (rInt_ok .i64) (allCons (rInt_ok .i64) allNil))), eNil⟩
def energy_check_rs : Sp := ⟨[rInt .i64], []⟩
theorem energy_check_rs_ok : energy_check_rs.Ok := ⟨(allCons (rInt_ok .i64) allNil), eNil⟩
def energy_check_run {R : Type} (N : Nat) (args : List SV) (T : Tab) (kf : SV × Tab → Option R) : Option R :=
  energy_check_m N (Cod.dec api_BandC (lget (toCs (lget args 0)))) (toI (lget args 1)) (toI (lget args 2)) (fun q0 => kf (lget [.int .i64 q0] 0, []))
def energy_check_lp {R : Type} (N : Nat) : Lp R := fun body S k => Option.none
noncomputable def energy_check_go {R : Type} (N : Nat) (args : List SV) (T : Tab) (kf : SV × Tab → Option R) : Option R :=
  energy_check N (Cod.dec api_BandC (lget (toCs (lget args 0)))) (toI (lget args 1)) (toI (lget args 2)) (fun q0 => kf (lget [.int .i64 q0] 0, []))
noncomputable def energy_check_cal {R : Type} (N : Nat) : Cal R := callM (slices_Contains___int_int__cal N) 63 0 energy_check_sp (energy_check_go N)
theorem energy_check_cal_ok {R : Type} (N : Nat) : CalOk E.P (energy_check_cal (R := R) N) :=
  callM_ok hE (slices_Contains___int_int__cal_ok N) (lp := energy_check_lp N) (jn := noJn) (keys := []) kNil (by kernel_rfl) (js := []) jNil (by kernel_rfl) energy_check_sp_ok energy_check_rs_ok (fun args T kf => Eq.trans (energy_check_def N (Cod.dec api_BandC (lget (toCs (lget args 0)))) (toI (lget args 1)) (toI (lget args 2)) (fun q0 => kf (lget [.int .i64 q0] 0, []))) (by kernel_rfl : energy_check_run N args T kf = fnM E (slices_Contains___int_int__cal N) (energy_check_lp N) (noJn) 63 (energy_check_sp.vs args) (energy_check_sp.tab T) 0 (resK energy_check_rs kf)))


def energy_load_m {R : Type} (N : Nat) (a71 : api_Band) (a72 : Int) (a73 : Int) (k : Int → Option R) : Option R :=
  bif a73 == (0 : Int) then
   Option.none
  else
   k (w64 (w64 (Int.tdiv (w64 (w64 (w64 (a72 * api_Band.Ride a71) + a73) - (1 : Int))) a73) * api_Band.Body a71))
noncomputable def energy_load {R : Type} : Nat → api_Band → Int → Int → (Int → Option R) → Option R := lock (@energy_load_m R)
theorem energy_load_def {R : Type} (N : Nat) (a71 : api_Band) (a72 : Int) (a73 : Int) (k : Int → Option R) : energy_load N a71 a72 a73 k = energy_load_m N a71 a72 a73 k := by unfold energy_load; rw [lock_eq]
def energy_load_sp : Sp := ⟨[rAgg api_BandC, rInt .i64, rInt .i64], []⟩
theorem energy_load_sp_ok : energy_load_sp.Ok := ⟨(allCons (rAgg_ok api_BandC_ok api_BandC_len) (allCons (rInt_ok .i64) (allCons (rInt_ok .i64) allNil))), eNil⟩
def energy_load_rs : Sp := ⟨[rInt .i64], []⟩
theorem energy_load_rs_ok : energy_load_rs.Ok := ⟨(allCons (rInt_ok .i64) allNil), eNil⟩
def energy_load_run {R : Type} (N : Nat) (args : List SV) (T : Tab) (kf : SV × Tab → Option R) : Option R :=
  energy_load_m N (Cod.dec api_BandC (lget (toCs (lget args 0)))) (toI (lget args 1)) (toI (lget args 2)) (fun q0 => kf (lget [.int .i64 q0] 0, []))
def energy_load_lp {R : Type} (N : Nat) : Lp R := fun body S k => Option.none
noncomputable def energy_load_go {R : Type} (N : Nat) (args : List SV) (T : Tab) (kf : SV × Tab → Option R) : Option R :=
  energy_load N (Cod.dec api_BandC (lget (toCs (lget args 0)))) (toI (lget args 1)) (toI (lget args 2)) (fun q0 => kf (lget [.int .i64 q0] 0, []))
noncomputable def energy_load_cal {R : Type} (N : Nat) : Cal R := callM (energy_check_cal N) 64 0 energy_load_sp (energy_load_go N)
theorem energy_load_cal_ok {R : Type} (N : Nat) : CalOk E.P (energy_load_cal (R := R) N) :=
  callM_ok hE (energy_check_cal_ok N) (lp := energy_load_lp N) (jn := noJn) (keys := []) kNil (by kernel_rfl) (js := []) jNil (by kernel_rfl) energy_load_sp_ok energy_load_rs_ok (fun args T kf => Eq.trans (energy_load_def N (Cod.dec api_BandC (lget (toCs (lget args 0)))) (toI (lget args 1)) (toI (lget args 2)) (fun q0 => kf (lget [.int .i64 q0] 0, []))) (by kernel_rfl : energy_load_run N args T kf = fnM E (energy_check_cal N) (energy_load_lp N) (noJn) 64 (energy_load_sp.vs args) (energy_load_sp.tab T) 0 (resK energy_load_rs kf)))


def energy_Load_m {R : Type} (N : Nat) (a38 : api_Band) (a39 : Int) (a40 : Int) (k : Int → Int → Option R) : Option R :=
  energy_check N a38 a39 a40 (fun r70 =>
  bif r70 != (0 : Int) then
   k (0 : Int) r70
  else
   energy_load N a38 a39 a40 (fun r74 =>
   k r74 (0 : Int)))
noncomputable def energy_Load {R : Type} : Nat → api_Band → Int → Int → (Int → Int → Option R) → Option R := lock (@energy_Load_m R)
theorem energy_Load_def {R : Type} (N : Nat) (a38 : api_Band) (a39 : Int) (a40 : Int) (k : Int → Int → Option R) : energy_Load N a38 a39 a40 k = energy_Load_m N a38 a39 a40 k := by unfold energy_Load; rw [lock_eq]
def energy_Load_sp : Sp := ⟨[rAgg api_BandC, rInt .i64, rInt .i64], []⟩
theorem energy_Load_sp_ok : energy_Load_sp.Ok := ⟨(allCons (rAgg_ok api_BandC_ok api_BandC_len) (allCons (rInt_ok .i64) (allCons (rInt_ok .i64) allNil))), eNil⟩
def energy_Load_rs : Sp := ⟨[rTup [rInt .i64, rInt .i64]], []⟩
theorem energy_Load_rs_ok : energy_Load_rs.Ok := ⟨(allCons (rTup_ok (allCons (rInt_ok .i64) (allCons (rInt_ok .i64) allNil))) allNil), eNil⟩
def energy_Load_run {R : Type} (N : Nat) (args : List SV) (T : Tab) (kf : SV × Tab → Option R) : Option R :=
  energy_Load_m N (Cod.dec api_BandC (lget (toCs (lget args 0)))) (toI (lget args 1)) (toI (lget args 2)) (fun q0 q1 => kf (lget [.tup [.int .i64 q0, .int .i64 q1]] 0, []))
def energy_Load_lp {R : Type} (N : Nat) : Lp R := fun body S k => Option.none
noncomputable def energy_Load_go {R : Type} (N : Nat) (args : List SV) (T : Tab) (kf : SV × Tab → Option R) : Option R :=
  energy_Load N (Cod.dec api_BandC (lget (toCs (lget args 0)))) (toI (lget args 1)) (toI (lget args 2)) (fun q0 q1 => kf (lget [.tup [.int .i64 q0, .int .i64 q1]] 0, []))
noncomputable def energy_Load_cal {R : Type} (N : Nat) : Cal R := callM (energy_load_cal N) 16 0 energy_Load_sp (energy_Load_go N)
theorem energy_Load_cal_ok {R : Type} (N : Nat) : CalOk E.P (energy_Load_cal (R := R) N) :=
  callM_ok hE (energy_load_cal_ok N) (lp := energy_Load_lp N) (jn := noJn) (keys := []) kNil (by kernel_rfl) (js := []) jNil (by kernel_rfl) energy_Load_sp_ok energy_Load_rs_ok (fun args T kf => Eq.trans (energy_Load_def N (Cod.dec api_BandC (lget (toCs (lget args 0)))) (toI (lget args 1)) (toI (lget args 2)) (fun q0 q1 => kf (lget [.tup [.int .i64 q0, .int .i64 q1]] 0, []))) (by kernel_rfl : energy_Load_run N args T kf = fnM E (energy_load_cal N) (energy_Load_lp N) (noJn) 16 (energy_Load_sp.vs args) (energy_Load_sp.tab T) 0 (resK energy_Load_rs kf)))


def energy_power_m {R : Type} (N : Nat) (a79 : api_Band) (a80 : Int) (a81 : Int) (k : Int → Option R) : Option R :=
  energy_load N a79 a80 a81 (fun r82 =>
  bif api_Band.Up a79 then
   k (w64 (w64 (w64 (api_Band.Pull a79 * r82) + api_Band.Drag a79) * a81))
  else
   bif decide (w64 (api_Band.Drag a79 - w64 (api_Band.Pull a79 * r82)) ≥ (0 : Int)) then
    k (w64 (w64 (api_Band.Drag a79 - w64 (api_Band.Pull a79 * r82)) * a81))
   else
    bif api_Band.Den a79 == (0 : Int) then
     Option.none
    else
     k (w64 ((0 : Int) - w64 (Int.tdiv (w64 (w64 (w64 (w64 (api_Band.Pull a79 * r82) - api_Band.Drag a79) * a81) * api_Band.Num a79)) (api_Band.Den a79)))))
noncomputable def energy_power {R : Type} : Nat → api_Band → Int → Int → (Int → Option R) → Option R := lock (@energy_power_m R)
theorem energy_power_def {R : Type} (N : Nat) (a79 : api_Band) (a80 : Int) (a81 : Int) (k : Int → Option R) : energy_power N a79 a80 a81 k = energy_power_m N a79 a80 a81 k := by unfold energy_power; rw [lock_eq]
def energy_power_sp : Sp := ⟨[rAgg api_BandC, rInt .i64, rInt .i64], []⟩
theorem energy_power_sp_ok : energy_power_sp.Ok := ⟨(allCons (rAgg_ok api_BandC_ok api_BandC_len) (allCons (rInt_ok .i64) (allCons (rInt_ok .i64) allNil))), eNil⟩
def energy_power_rs : Sp := ⟨[rInt .i64], []⟩
theorem energy_power_rs_ok : energy_power_rs.Ok := ⟨(allCons (rInt_ok .i64) allNil), eNil⟩
def energy_power_run {R : Type} (N : Nat) (args : List SV) (T : Tab) (kf : SV × Tab → Option R) : Option R :=
  energy_power_m N (Cod.dec api_BandC (lget (toCs (lget args 0)))) (toI (lget args 1)) (toI (lget args 2)) (fun q0 => kf (lget [.int .i64 q0] 0, []))
def energy_power_lp {R : Type} (N : Nat) : Lp R := fun body S k => Option.none
noncomputable def energy_power_go {R : Type} (N : Nat) (args : List SV) (T : Tab) (kf : SV × Tab → Option R) : Option R :=
  energy_power N (Cod.dec api_BandC (lget (toCs (lget args 0)))) (toI (lget args 1)) (toI (lget args 2)) (fun q0 => kf (lget [.int .i64 q0] 0, []))
noncomputable def energy_power_cal {R : Type} (N : Nat) : Cal R := callM (energy_Load_cal N) 65 0 energy_power_sp (energy_power_go N)
theorem energy_power_cal_ok {R : Type} (N : Nat) : CalOk E.P (energy_power_cal (R := R) N) :=
  callM_ok hE (energy_Load_cal_ok N) (lp := energy_power_lp N) (jn := noJn) (keys := []) kNil (by kernel_rfl) (js := []) jNil (by kernel_rfl) energy_power_sp_ok energy_power_rs_ok (fun args T kf => Eq.trans (energy_power_def N (Cod.dec api_BandC (lget (toCs (lget args 0)))) (toI (lget args 1)) (toI (lget args 2)) (fun q0 => kf (lget [.int .i64 q0] 0, []))) (by kernel_rfl : energy_power_run N args T kf = fnM E (energy_Load_cal N) (energy_power_lp N) (noJn) 65 (energy_power_sp.vs args) (energy_power_sp.tab T) 0 (resK energy_power_rs kf)))


def energy_Power_m {R : Type} (N : Nat) (a75 : api_Band) (a76 : Int) (a77 : Int) (k : Int → Int → Option R) : Option R :=
  energy_check N a75 a76 a77 (fun r78 =>
  bif r78 != (0 : Int) then
   k (0 : Int) r78
  else
   energy_power N a75 a76 a77 (fun r83 =>
   k r83 (0 : Int)))
noncomputable def energy_Power {R : Type} : Nat → api_Band → Int → Int → (Int → Int → Option R) → Option R := lock (@energy_Power_m R)
theorem energy_Power_def {R : Type} (N : Nat) (a75 : api_Band) (a76 : Int) (a77 : Int) (k : Int → Int → Option R) : energy_Power N a75 a76 a77 k = energy_Power_m N a75 a76 a77 k := by unfold energy_Power; rw [lock_eq]
def energy_Power_sp : Sp := ⟨[rAgg api_BandC, rInt .i64, rInt .i64], []⟩
theorem energy_Power_sp_ok : energy_Power_sp.Ok := ⟨(allCons (rAgg_ok api_BandC_ok api_BandC_len) (allCons (rInt_ok .i64) (allCons (rInt_ok .i64) allNil))), eNil⟩
def energy_Power_rs : Sp := ⟨[rTup [rInt .i64, rInt .i64]], []⟩
theorem energy_Power_rs_ok : energy_Power_rs.Ok := ⟨(allCons (rTup_ok (allCons (rInt_ok .i64) (allCons (rInt_ok .i64) allNil))) allNil), eNil⟩
def energy_Power_run {R : Type} (N : Nat) (args : List SV) (T : Tab) (kf : SV × Tab → Option R) : Option R :=
  energy_Power_m N (Cod.dec api_BandC (lget (toCs (lget args 0)))) (toI (lget args 1)) (toI (lget args 2)) (fun q0 q1 => kf (lget [.tup [.int .i64 q0, .int .i64 q1]] 0, []))
def energy_Power_lp {R : Type} (N : Nat) : Lp R := fun body S k => Option.none
noncomputable def energy_Power_go {R : Type} (N : Nat) (args : List SV) (T : Tab) (kf : SV × Tab → Option R) : Option R :=
  energy_Power N (Cod.dec api_BandC (lget (toCs (lget args 0)))) (toI (lget args 1)) (toI (lget args 2)) (fun q0 q1 => kf (lget [.tup [.int .i64 q0, .int .i64 q1]] 0, []))
noncomputable def energy_Power_cal {R : Type} (N : Nat) : Cal R := callM (energy_power_cal N) 17 0 energy_Power_sp (energy_Power_go N)
theorem energy_Power_cal_ok {R : Type} (N : Nat) : CalOk E.P (energy_Power_cal (R := R) N) :=
  callM_ok hE (energy_power_cal_ok N) (lp := energy_Power_lp N) (jn := noJn) (keys := []) kNil (by kernel_rfl) (js := []) jNil (by kernel_rfl) energy_Power_sp_ok energy_Power_rs_ok (fun args T kf => Eq.trans (energy_Power_def N (Cod.dec api_BandC (lget (toCs (lget args 0)))) (toI (lget args 1)) (toI (lget args 2)) (fun q0 q1 => kf (lget [.tup [.int .i64 q0, .int .i64 q1]] 0, []))) (by kernel_rfl : energy_Power_run N args T kf = fnM E (energy_power_cal N) (energy_Power_lp N) (noJn) 17 (energy_Power_sp.vs args) (energy_Power_sp.tab T) 0 (resK energy_Power_rs kf)))


def drive_to_m {R : Type} (N : Nat) (a89 : Int) (k : api_Span → Option R) : Option R :=
  k (api_Span.mk (0 : Int) a89)
noncomputable def drive_to {R : Type} : Nat → Int → (api_Span → Option R) → Option R := lock (@drive_to_m R)
theorem drive_to_def {R : Type} (N : Nat) (a89 : Int) (k : api_Span → Option R) : drive_to N a89 k = drive_to_m N a89 k := by unfold drive_to; rw [lock_eq]
def drive_to_sp : Sp := ⟨[rInt .i64], []⟩
theorem drive_to_sp_ok : drive_to_sp.Ok := ⟨(allCons (rInt_ok .i64) allNil), eNil⟩
def drive_to_rs : Sp := ⟨[rAgg api_SpanC], []⟩
theorem drive_to_rs_ok : drive_to_rs.Ok := ⟨(allCons (rAgg_ok api_SpanC_ok api_SpanC_len) allNil), eNil⟩
def drive_to_run {R : Type} (N : Nat) (args : List SV) (T : Tab) (kf : SV × Tab → Option R) : Option R :=
  drive_to_m N (toI (lget args 0)) (fun q0 => kf (lget [.agg (Cod.enc api_SpanC q0)] 0, []))
def drive_to_lp {R : Type} (N : Nat) : Lp R := fun body S k => Option.none
noncomputable def drive_to_go {R : Type} (N : Nat) (args : List SV) (T : Tab) (kf : SV × Tab → Option R) : Option R :=
  drive_to N (toI (lget args 0)) (fun q0 => kf (lget [.agg (Cod.enc api_SpanC q0)] 0, []))
noncomputable def drive_to_cal {R : Type} (N : Nat) : Cal R := callM (energy_Power_cal N) 68 0 drive_to_sp (drive_to_go N)
theorem drive_to_cal_ok {R : Type} (N : Nat) : CalOk E.P (drive_to_cal (R := R) N) :=
  callM_ok hE (energy_Power_cal_ok N) (lp := drive_to_lp N) (jn := noJn) (keys := []) kNil (by kernel_rfl) (js := []) jNil (by kernel_rfl) drive_to_sp_ok drive_to_rs_ok (fun args T kf => Eq.trans (drive_to_def N (toI (lget args 0)) (fun q0 => kf (lget [.agg (Cod.enc api_SpanC q0)] 0, []))) (by kernel_rfl : drive_to_run N args T kf = fnM E (energy_Power_cal N) (drive_to_lp N) (noJn) 68 (drive_to_sp.vs args) (drive_to_sp.tab T) 0 (resK drive_to_rs kf)))


def drive_in_m {R : Type} (N : Nat) (a91 : Int) (a92 : api_Span) (k : Bool → Option R) : Option R :=
  bif decide (api_Span.Low a92 ≤ a91) then
   k (decide (a91 ≤ api_Span.High a92))
  else
   k false
noncomputable def drive_in {R : Type} : Nat → Int → api_Span → (Bool → Option R) → Option R := lock (@drive_in_m R)
theorem drive_in_def {R : Type} (N : Nat) (a91 : Int) (a92 : api_Span) (k : Bool → Option R) : drive_in N a91 a92 k = drive_in_m N a91 a92 k := by unfold drive_in; rw [lock_eq]
def drive_in_sp : Sp := ⟨[rInt .i64, rAgg api_SpanC], []⟩
theorem drive_in_sp_ok : drive_in_sp.Ok := ⟨(allCons (rInt_ok .i64) (allCons (rAgg_ok api_SpanC_ok api_SpanC_len) allNil)), eNil⟩
def drive_in_rs : Sp := ⟨[rBool], []⟩
theorem drive_in_rs_ok : drive_in_rs.Ok := ⟨(allCons rBool_ok allNil), eNil⟩
def drive_in_run {R : Type} (N : Nat) (args : List SV) (T : Tab) (kf : SV × Tab → Option R) : Option R :=
  drive_in_m N (toI (lget args 0)) (Cod.dec api_SpanC (lget (toCs (lget args 1)))) (fun q0 => kf (lget [.bool q0] 0, []))
def drive_in_lp {R : Type} (N : Nat) : Lp R := fun body S k => Option.none
noncomputable def drive_in_go {R : Type} (N : Nat) (args : List SV) (T : Tab) (kf : SV × Tab → Option R) : Option R :=
  drive_in N (toI (lget args 0)) (Cod.dec api_SpanC (lget (toCs (lget args 1)))) (fun q0 => kf (lget [.bool q0] 0, []))
noncomputable def drive_in_cal {R : Type} (N : Nat) : Cal R := callM (drive_to_cal N) 67 0 drive_in_sp (drive_in_go N)
theorem drive_in_cal_ok {R : Type} (N : Nat) : CalOk E.P (drive_in_cal (R := R) N) :=
  callM_ok hE (drive_to_cal_ok N) (lp := drive_in_lp N) (jn := noJn) (keys := []) kNil (by kernel_rfl) (js := []) jNil (by kernel_rfl) drive_in_sp_ok drive_in_rs_ok (fun args T kf => Eq.trans (drive_in_def N (toI (lget args 0)) (Cod.dec api_SpanC (lget (toCs (lget args 1)))) (fun q0 => kf (lget [.bool q0] 0, []))) (by kernel_rfl : drive_in_run N args T kf = fnM E (drive_to_cal N) (drive_in_lp N) (noJn) 67 (drive_in_sp.vs args) (drive_in_sp.tab T) 0 (resK drive_in_rs kf)))


def drive_Check_1_m {R : Type} (N : Nat) (a101 : api_Brake) (k : Bool → Option R) : Option R :=
  drive_to N (10000000 : Int) (fun r102 =>
  drive_in N (api_Brake.Force a101) r102 (fun r103 =>
  bif r103 then
   drive_to N (20 : Int) (fun r104 =>
   drive_in N (api_Brake.Delay a101) r104 (fun r105 =>
   k r105))
  else
   k false))
noncomputable def drive_Check_1 {R : Type} : Nat → api_Brake → (Bool → Option R) → Option R := lock (@drive_Check_1_m R)
theorem drive_Check_1_def {R : Type} (N : Nat) (a101 : api_Brake) (k : Bool → Option R) : drive_Check_1 N a101 k = drive_Check_1_m N a101 k := by unfold drive_Check_1; rw [lock_eq]
def drive_Check_1_sp : Sp := ⟨[rAgg api_BrakeC], []⟩
theorem drive_Check_1_sp_ok : drive_Check_1_sp.Ok := ⟨(allCons (rAgg_ok api_BrakeC_ok api_BrakeC_len) allNil), eNil⟩
def drive_Check_1_rs : Sp := ⟨[rBool], []⟩
theorem drive_Check_1_rs_ok : drive_Check_1_rs.Ok := ⟨(allCons rBool_ok allNil), eNil⟩
def drive_Check_1_run {R : Type} (N : Nat) (args : List SV) (T : Tab) (kf : SV × Tab → Option R) : Option R :=
  drive_Check_1_m N (Cod.dec api_BrakeC (lget (toCs (lget args 0)))) (fun q0 => kf (lget [.bool q0] 0, []))
def drive_Check_1_lp {R : Type} (N : Nat) : Lp R := fun body S k => Option.none
noncomputable def drive_Check_1_go {R : Type} (N : Nat) (args : List SV) (T : Tab) (kf : SV × Tab → Option R) : Option R :=
  drive_Check_1 N (Cod.dec api_BrakeC (lget (toCs (lget args 0)))) (fun q0 => kf (lget [.bool q0] 0, []))
noncomputable def drive_Check_1_cal {R : Type} (N : Nat) : Cal R := callM (drive_in_cal N) 113 0 drive_Check_1_sp (drive_Check_1_go N)
theorem drive_Check_1_cal_ok {R : Type} (N : Nat) : CalOk E.P (drive_Check_1_cal (R := R) N) :=
  callM_ok hE (drive_in_cal_ok N) (lp := drive_Check_1_lp N) (jn := noJn) (keys := []) kNil (by kernel_rfl) (js := []) jNil (by kernel_rfl) drive_Check_1_sp_ok drive_Check_1_rs_ok (fun args T kf => Eq.trans (drive_Check_1_def N (Cod.dec api_BrakeC (lget (toCs (lget args 0)))) (fun q0 => kf (lget [.bool q0] 0, []))) (by kernel_rfl : drive_Check_1_run N args T kf = fnM E (drive_in_cal N) (drive_Check_1_lp N) (noJn) 113 (drive_Check_1_sp.vs args) (drive_Check_1_sp.tab T) 0 (resK drive_Check_1_rs kf)))

def drive_Check_L5 : LoopSp := ⟨⟨[3, 42, 43, 44], ⟨(dr 3 ((rFunc 113 0 []) :: (dr 38 ((rSl api_BrakeC) :: (rInt .i64) :: (rInt .i64) :: (dr 8 []))))), []⟩, 0⟩, [(Option.none, ⟨[2], ⟨(dr 2 ((rInt .i64) :: (dr 50 []))), []⟩, 0⟩), (some 0, ⟨[], ⟨(dr 53 []), []⟩, 0⟩)]⟩
theorem drive_Check_L5_ok : drive_Check_L5.Ok := ⟨⟨(drCons 3 (allCons (rFunc_ok 113 0 allNil) (drCons 38 (allCons (rSl_ok api_BrakeC_ok) (allCons (rInt_ok .i64) (allCons (rInt_ok .i64) (drCons 8 allNil))))))), eNil⟩, (xCons ⟨(drCons 2 (allCons (rInt_ok .i64) (drCons 50 allNil))), eNil⟩ (xCons ⟨(drCons 53 allNil), eNil⟩ xNil))⟩
def drive_Check_h5 (v98 : Arr api_Brake) (v99 : Int) (v100 : Int) : St := ⟨(un 3 ((.func 113 0 []) :: (un 38 ((slC api_BrakeC v98) :: (.int .i64 v99) :: (.int .i64 v100) :: (un 8 []))))), [], 0⟩
def drive_Check_x5_r (q0 : Int) : St := ⟨(un 2 ((.int .i64 q0) :: (un 50 []))), [], 0⟩
def drive_Check_x5_0  : St := ⟨(un 53 []), [], 0⟩
def drive_Check_b5 {R : Type} (N : Nat) (rc : Arr api_Brake → Int → Int → Option R) (v98 : Arr api_Brake) (v99 : Int) (v100 : Int) (kr : Int → Option R) (k0 : Unit → Option R) : Option R :=
  bif decide (v100 < v99) then
   bif decide ((0 : Int) ≤ v100) && decide (v100 < (↑(Arr.n v98) : Int)) then
    drive_Check_1 N (Arr.f v98 (Int.toNat v100)) (fun r106 =>
    bif !r106 then
     kr (10 : Int)
    else
     rc v98 v99 (w64 (v100 + (1 : Int))))
   else
    Option.none
  else
   k0 ()
def drive_Check_l5 {R : Type} (N : Nat) : Nat → Arr api_Brake → Int → Int → (Int → Option R) → (Unit → Option R) → Option R
  | 0, _, _, _, _, _ => Option.none
  | n + 1, v98, v99, v100, kr, k0 => drive_Check_b5 N (fun v98 v99 v100 => drive_Check_l5 N n v98 v99 v100 kr k0) v98 v99 v100 kr k0


def drive_Check_m {R : Type} (N : Nat) (a88 : api_Escalator) (k : Int → Option R) : Option R :=
  bif decide (api_Escalator.Empty a88 < (1 : Int)) then
   k (10 : Int)
  else
   bif decide (api_Escalator.Empty a88 > (100000 : Int)) then
    k (10 : Int)
   else
    drive_to N (100 : Int) (fun r90 =>
    drive_in N (api_Escalator.Pull a88) r90 (fun r93 =>
    bif !r93 then
     k (10 : Int)
    else
     drive_to N (10000000 : Int) (fun r94 =>
     drive_in N (api_Escalator.Drag a88) r94 (fun r95 =>
     bif !r95 then
      k (10 : Int)
     else
      drive_to N (10000000 : Int) (fun r96 =>
      drive_in N (api_Escalator.Motor a88) r96 (fun r97 =>
      bif !r97 then
       k (10 : Int)
      else
       bif decide ((↑(Arr.n (api_Escalator.Brakes a88)) : Int) > (3 : Int)) then
        k (10 : Int)
       else
        drive_Check_l5 N N (api_Escalator.Brakes a88) ((↑(Arr.n (api_Escalator.Brakes a88)) : Int)) (0 : Int) (fun r107 =>
         k r107) (fun (_ : Unit) =>
         k (0 : Int))))))))
noncomputable def drive_Check {R : Type} : Nat → api_Escalator → (Int → Option R) → Option R := lock (@drive_Check_m R)
theorem drive_Check_def {R : Type} (N : Nat) (a88 : api_Escalator) (k : Int → Option R) : drive_Check N a88 k = drive_Check_m N a88 k := by unfold drive_Check; rw [lock_eq]
def drive_Check_sp : Sp := ⟨[rAgg api_EscalatorC], []⟩
theorem drive_Check_sp_ok : drive_Check_sp.Ok := ⟨(allCons (rAgg_ok api_EscalatorC_ok api_EscalatorC_len) allNil), eNil⟩
def drive_Check_rs : Sp := ⟨[rInt .i64], []⟩
theorem drive_Check_rs_ok : drive_Check_rs.Ok := ⟨(allCons (rInt_ok .i64) allNil), eNil⟩
def drive_Check_run {R : Type} (N : Nat) (args : List SV) (T : Tab) (kf : SV × Tab → Option R) : Option R :=
  drive_Check_m N (Cod.dec api_EscalatorC (lget (toCs (lget args 0)))) (fun q0 => kf (lget [.int .i64 q0] 0, []))
def drive_Check_d5 {R : Type} (N : Nat) (S0 : St) (k : Exit → St → Option R) : Option R :=
  drive_Check_l5 N N (lstC api_BrakeC (lget S0.tmps 42)) (toI (lget S0.tmps 43)) (toI (lget S0.tmps 44)) (fun q0 => k .ret (drive_Check_x5_r q0)) (fun (_ : Unit) => k (.exit 0) (drive_Check_x5_0 ))
def drive_Check_lp {R : Type} (N : Nat) : Lp R := fun body S k => bif (Go.Sx.keyOf body).getD 0 == 5 then drive_Check_L5.head.raw 0 S (fun S0 => drive_Check_d5 N S0 k) else Option.none
theorem drive_Check_l5_eq {R : Type} (N : Nat) (k : Exit → St → Option R) (n : Nat) : ∀ (v0 : Arr api_Brake) (v1 : Int) (v2 : Int), loopM E.Θ (drive_Check_1_cal N) (drive_Check_lp N) (noJn) 0 drive_Check_L5 (bodyAt E 66 5) n (drive_Check_h5 v0 v1 v2) k = drive_Check_l5 N n v0 v1 v2 (fun q0 => k .ret (drive_Check_x5_r q0)) (fun (_ : Unit) => k (.exit 0) (drive_Check_x5_0 )) := by
  induction n with
  | zero => intro v0 v1 v2; rfl
  | succ n ih =>
    intro v0 v1 v2
    refine Eq.trans (b := drive_Check_b5 N (fun v0 v1 v2 => loopM E.Θ (drive_Check_1_cal N) (drive_Check_lp N) (noJn) 0 drive_Check_L5 (bodyAt E 66 5) n (drive_Check_h5 v0 v1 v2) k) v0 v1 v2 (fun q0 => k .ret (drive_Check_x5_r q0)) (fun (_ : Unit) => k (.exit 0) (drive_Check_x5_0 ))) (by kernel_rfl) ?_
    have h : (fun (v0 : Arr api_Brake) (v1 : Int) (v2 : Int) => loopM E.Θ (drive_Check_1_cal N) (drive_Check_lp N) (noJn) 0 drive_Check_L5 (bodyAt E 66 5) n (drive_Check_h5 v0 v1 v2) k) = (fun (v0 : Arr api_Brake) (v1 : Int) (v2 : Int) => drive_Check_l5 N n v0 v1 v2 (fun q0 => k .ret (drive_Check_x5_r q0)) (fun (_ : Unit) => k (.exit 0) (drive_Check_x5_0 ))) := funext fun v0 => funext fun v1 => funext fun v2 => ih v0 v1 v2
    rw [h]
    rfl
theorem drive_Check_k5 {R : Type} (N : Nat) : LpKey (R := R) E 66 0 (drive_Check_lp N) 5 :=
  lpKey_of hE (drive_Check_1_cal_ok N) (jn := noJn) drive_Check_L5_ok [] kNil (by kernel_rfl) [] jNil (by kernel_rfl) N fun S k =>
    Eq.trans (b := drive_Check_L5.head.raw 0 S (fun S0 => drive_Check_d5 N S0 k)) (by kernel_rfl) (congrArg (drive_Check_L5.head.raw 0 S) (funext fun S0 => Eq.trans (drive_Check_l5_eq N k N (lstC api_BrakeC (lget S0.tmps 42)) (toI (lget S0.tmps 43)) (toI (lget S0.tmps 44))).symm (by kernel_rfl)))
noncomputable def drive_Check_go {R : Type} (N : Nat) (args : List SV) (T : Tab) (kf : SV × Tab → Option R) : Option R :=
  drive_Check N (Cod.dec api_EscalatorC (lget (toCs (lget args 0)))) (fun q0 => kf (lget [.int .i64 q0] 0, []))
noncomputable def drive_Check_cal {R : Type} (N : Nat) : Cal R := callM (drive_Check_1_cal N) 66 0 drive_Check_sp (drive_Check_go N)
theorem drive_Check_cal_ok {R : Type} (N : Nat) : CalOk E.P (drive_Check_cal (R := R) N) :=
  callM_ok hE (drive_Check_1_cal_ok N) (lp := drive_Check_lp N) (jn := noJn) (keys := [5]) (kCons (drive_Check_k5 N) kNil) (by kernel_rfl) (js := []) jNil (by kernel_rfl) drive_Check_sp_ok drive_Check_rs_ok (fun args T kf => Eq.trans (drive_Check_def N (Cod.dec api_EscalatorC (lget (toCs (lget args 0)))) (fun q0 => kf (lget [.int .i64 q0] 0, []))) (by kernel_rfl : drive_Check_run N args T kf = fnM E (drive_Check_1_cal N) (drive_Check_lp N) (noJn) 66 (drive_Check_sp.vs args) (drive_Check_sp.tab T) 0 (resK drive_Check_rs kf)))


def drive_floor_m {R : Type} (N : Nat) (a122 : Int) (a123 : Int) (k : Int → Option R) : Option R :=
  bif a123 == (0 : Int) then
   Option.none
  else
   bif a123 == (0 : Int) then
    Option.none
   else
    bif decide (Int.tmod a122 a123 < (0 : Int)) then
     k (w64 (w64 (Int.tdiv a122 a123) - (1 : Int)))
    else
     k (w64 (Int.tdiv a122 a123))
noncomputable def drive_floor {R : Type} : Nat → Int → Int → (Int → Option R) → Option R := lock (@drive_floor_m R)
theorem drive_floor_def {R : Type} (N : Nat) (a122 : Int) (a123 : Int) (k : Int → Option R) : drive_floor N a122 a123 k = drive_floor_m N a122 a123 k := by unfold drive_floor; rw [lock_eq]
def drive_floor_sp : Sp := ⟨[rInt .i64, rInt .i64], []⟩
theorem drive_floor_sp_ok : drive_floor_sp.Ok := ⟨(allCons (rInt_ok .i64) (allCons (rInt_ok .i64) allNil)), eNil⟩
def drive_floor_rs : Sp := ⟨[rInt .i64], []⟩
theorem drive_floor_rs_ok : drive_floor_rs.Ok := ⟨(allCons (rInt_ok .i64) allNil), eNil⟩
def drive_floor_run {R : Type} (N : Nat) (args : List SV) (T : Tab) (kf : SV × Tab → Option R) : Option R :=
  drive_floor_m N (toI (lget args 0)) (toI (lget args 1)) (fun q0 => kf (lget [.int .i64 q0] 0, []))
def drive_floor_lp {R : Type} (N : Nat) : Lp R := fun body S k => Option.none
noncomputable def drive_floor_go {R : Type} (N : Nat) (args : List SV) (T : Tab) (kf : SV × Tab → Option R) : Option R :=
  drive_floor N (toI (lget args 0)) (toI (lget args 1)) (fun q0 => kf (lget [.int .i64 q0] 0, []))
noncomputable def drive_floor_cal {R : Type} (N : Nat) : Cal R := callM (drive_Check_cal N) 145 0 drive_floor_sp (drive_floor_go N)
theorem drive_floor_cal_ok {R : Type} (N : Nat) : CalOk E.P (drive_floor_cal (R := R) N) :=
  callM_ok hE (drive_Check_cal_ok N) (lp := drive_floor_lp N) (jn := noJn) (keys := []) kNil (by kernel_rfl) (js := []) jNil (by kernel_rfl) drive_floor_sp_ok drive_floor_rs_ok (fun args T kf => Eq.trans (drive_floor_def N (toI (lget args 0)) (toI (lget args 1)) (fun q0 => kf (lget [.int .i64 q0] 0, []))) (by kernel_rfl : drive_floor_run N args T kf = fnM E (drive_Check_cal N) (drive_floor_lp N) (noJn) 145 (drive_floor_sp.vs args) (drive_floor_sp.tab T) 0 (resK drive_floor_rs kf)))


def drive_ahead_m {R : Type} (N : Nat) (a118 : Int) (a119 : Int) (a120 : Int) (a121 : Int) (k : Int → Option R) : Option R :=
  drive_floor N (w64 (a119 - a120)) a121 (fun r124 =>
  k (if w64 (a118 + r124) > (0 : Int) then w64 (a118 + r124) else (0 : Int)))
noncomputable def drive_ahead {R : Type} : Nat → Int → Int → Int → Int → (Int → Option R) → Option R := lock (@drive_ahead_m R)
theorem drive_ahead_def {R : Type} (N : Nat) (a118 : Int) (a119 : Int) (a120 : Int) (a121 : Int) (k : Int → Option R) : drive_ahead N a118 a119 a120 a121 k = drive_ahead_m N a118 a119 a120 a121 k := by unfold drive_ahead; rw [lock_eq]
def drive_ahead_sp : Sp := ⟨[rInt .i64, rInt .i64, rInt .i64, rInt .i64], []⟩
theorem drive_ahead_sp_ok : drive_ahead_sp.Ok := ⟨(allCons (rInt_ok .i64) (allCons (rInt_ok .i64) (allCons (rInt_ok .i64) (allCons (rInt_ok .i64) allNil)))), eNil⟩
def drive_ahead_rs : Sp := ⟨[rInt .i64], []⟩
theorem drive_ahead_rs_ok : drive_ahead_rs.Ok := ⟨(allCons (rInt_ok .i64) allNil), eNil⟩
def drive_ahead_run {R : Type} (N : Nat) (args : List SV) (T : Tab) (kf : SV × Tab → Option R) : Option R :=
  drive_ahead_m N (toI (lget args 0)) (toI (lget args 1)) (toI (lget args 2)) (toI (lget args 3)) (fun q0 => kf (lget [.int .i64 q0] 0, []))
def drive_ahead_lp {R : Type} (N : Nat) : Lp R := fun body S k => Option.none
noncomputable def drive_ahead_go {R : Type} (N : Nat) (args : List SV) (T : Tab) (kf : SV × Tab → Option R) : Option R :=
  drive_ahead N (toI (lget args 0)) (toI (lget args 1)) (toI (lget args 2)) (toI (lget args 3)) (fun q0 => kf (lget [.int .i64 q0] 0, []))
noncomputable def drive_ahead_cal {R : Type} (N : Nat) : Cal R := callM (drive_floor_cal N) 114 0 drive_ahead_sp (drive_ahead_go N)
theorem drive_ahead_cal_ok {R : Type} (N : Nat) : CalOk E.P (drive_ahead_cal (R := R) N) :=
  callM_ok hE (drive_floor_cal_ok N) (lp := drive_ahead_lp N) (jn := noJn) (keys := []) kNil (by kernel_rfl) (js := []) jNil (by kernel_rfl) drive_ahead_sp_ok drive_ahead_rs_ok (fun args T kf => Eq.trans (drive_ahead_def N (toI (lget args 0)) (toI (lget args 1)) (toI (lget args 2)) (toI (lget args 3)) (fun q0 => kf (lget [.int .i64 q0] 0, []))) (by kernel_rfl : drive_ahead_run N args T kf = fnM E (drive_floor_cal N) (drive_ahead_lp N) (noJn) 114 (drive_ahead_sp.vs args) (drive_ahead_sp.tab T) 0 (resK drive_ahead_rs kf)))


def drive_tick_m {R : Type} (N : Nat) (a114 : api_Escalator) (a115 : Int) (a116 : Int) (a117 : Int) (k : Int → Option R) : Option R :=
  bif api_Escalator.Up a114 then
   bif decide (a115 < (0 : Int)) then
    drive_ahead N (w64 ((0 : Int) - a115)) (w64 ((0 : Int) - w64 ((0 : Int) - w64 (api_Escalator.Pull a114 * a116)))) (w64 (api_Escalator.Drag a114 + a117)) (w64 (api_Escalator.Empty a114 + a116)) (fun r125 =>
    k (w64 ((0 : Int) - r125)))
   else
    bif a115 == (0 : Int) then
     bif decide (w64 ((0 : Int) - w64 (api_Escalator.Pull a114 * a116)) < (0 : Int)) then
      drive_ahead N (w64 ((0 : Int) - a115)) (w64 ((0 : Int) - w64 ((0 : Int) - w64 (api_Escalator.Pull a114 * a116)))) (w64 (api_Escalator.Drag a114 + a117)) (w64 (api_Escalator.Empty a114 + a116)) (fun r126 =>
      k (w64 ((0 : Int) - r126)))
     else
      drive_ahead N a115 (w64 ((0 : Int) - w64 (api_Escalator.Pull a114 * a116))) (w64 (api_Escalator.Drag a114 + a117)) (w64 (api_Escalator.Empty a114 + a116)) (fun r127 =>
      k r127)
    else
     drive_ahead N a115 (w64 ((0 : Int) - w64 (api_Escalator.Pull a114 * a116))) (w64 (api_Escalator.Drag a114 + a117)) (w64 (api_Escalator.Empty a114 + a116)) (fun r128 =>
     k r128)
  else
   bif decide (a115 < (0 : Int)) then
    drive_ahead N (w64 ((0 : Int) - a115)) (w64 ((0 : Int) - w64 (api_Escalator.Pull a114 * a116))) (w64 (api_Escalator.Drag a114 + a117)) (w64 (api_Escalator.Empty a114 + a116)) (fun r129 =>
    k (w64 ((0 : Int) - r129)))
   else
    bif a115 == (0 : Int) then
     bif decide (w64 (api_Escalator.Pull a114 * a116) < (0 : Int)) then
      drive_ahead N (w64 ((0 : Int) - a115)) (w64 ((0 : Int) - w64 (api_Escalator.Pull a114 * a116))) (w64 (api_Escalator.Drag a114 + a117)) (w64 (api_Escalator.Empty a114 + a116)) (fun r130 =>
      k (w64 ((0 : Int) - r130)))
     else
      drive_ahead N a115 (w64 (api_Escalator.Pull a114 * a116)) (w64 (api_Escalator.Drag a114 + a117)) (w64 (api_Escalator.Empty a114 + a116)) (fun r131 =>
      k r131)
    else
     drive_ahead N a115 (w64 (api_Escalator.Pull a114 * a116)) (w64 (api_Escalator.Drag a114 + a117)) (w64 (api_Escalator.Empty a114 + a116)) (fun r132 =>
     k r132)
noncomputable def drive_tick {R : Type} : Nat → api_Escalator → Int → Int → Int → (Int → Option R) → Option R := lock (@drive_tick_m R)
theorem drive_tick_def {R : Type} (N : Nat) (a114 : api_Escalator) (a115 : Int) (a116 : Int) (a117 : Int) (k : Int → Option R) : drive_tick N a114 a115 a116 a117 k = drive_tick_m N a114 a115 a116 a117 k := by unfold drive_tick; rw [lock_eq]
def drive_tick_sp : Sp := ⟨[rAgg api_EscalatorC, rInt .i64, rInt .i64, rInt .i64], []⟩
theorem drive_tick_sp_ok : drive_tick_sp.Ok := ⟨(allCons (rAgg_ok api_EscalatorC_ok api_EscalatorC_len) (allCons (rInt_ok .i64) (allCons (rInt_ok .i64) (allCons (rInt_ok .i64) allNil)))), eNil⟩
def drive_tick_rs : Sp := ⟨[rInt .i64], []⟩
theorem drive_tick_rs_ok : drive_tick_rs.Ok := ⟨(allCons (rInt_ok .i64) allNil), eNil⟩
def drive_tick_run {R : Type} (N : Nat) (args : List SV) (T : Tab) (kf : SV × Tab → Option R) : Option R :=
  drive_tick_m N (Cod.dec api_EscalatorC (lget (toCs (lget args 0)))) (toI (lget args 1)) (toI (lget args 2)) (toI (lget args 3)) (fun q0 => kf (lget [.int .i64 q0] 0, []))
def drive_tick_lp {R : Type} (N : Nat) : Lp R := fun body S k => Option.none
noncomputable def drive_tick_go {R : Type} (N : Nat) (args : List SV) (T : Tab) (kf : SV × Tab → Option R) : Option R :=
  drive_tick N (Cod.dec api_EscalatorC (lget (toCs (lget args 0)))) (toI (lget args 1)) (toI (lget args 2)) (toI (lget args 3)) (fun q0 => kf (lget [.int .i64 q0] 0, []))
noncomputable def drive_tick_cal {R : Type} (N : Nat) : Cal R := callM (drive_ahead_cal N) 69 0 drive_tick_sp (drive_tick_go N)
theorem drive_tick_cal_ok {R : Type} (N : Nat) : CalOk E.P (drive_tick_cal (R := R) N) :=
  callM_ok hE (drive_ahead_cal_ok N) (lp := drive_tick_lp N) (jn := noJn) (keys := []) kNil (by kernel_rfl) (js := []) jNil (by kernel_rfl) drive_tick_sp_ok drive_tick_rs_ok (fun args T kf => Eq.trans (drive_tick_def N (Cod.dec api_EscalatorC (lget (toCs (lget args 0)))) (toI (lget args 1)) (toI (lget args 2)) (toI (lget args 3)) (fun q0 => kf (lget [.int .i64 q0] 0, []))) (by kernel_rfl : drive_tick_run N args T kf = fnM E (drive_ahead_cal N) (drive_tick_lp N) (noJn) 69 (drive_tick_sp.vs args) (drive_tick_sp.tab T) 0 (resK drive_tick_rs kf)))


def drive_Step_m {R : Type} (N : Nat) (a84 : api_Escalator) (a85 : Int) (a86 : Int) (a87 : Int) (k : Int → Int → Option R) : Option R :=
  drive_Check N a84 (fun r108 =>
  bif r108 != (0 : Int) then
   k (0 : Int) r108
  else
   drive_in N a85 (api_Span.mk (-10000000 : Int) (10000000 : Int)) (fun r109 =>
   bif !r109 then
    k (0 : Int) (1 : Int)
   else
    drive_to N (100000 : Int) (fun r110 =>
    drive_in N a86 r110 (fun r111 =>
    bif !r111 then
     k (0 : Int) (1 : Int)
    else
     drive_to N (30000000 : Int) (fun r112 =>
     drive_in N a87 r112 (fun r113 =>
     bif !r113 then
      k (0 : Int) (1 : Int)
     else
      drive_tick N a84 a85 a86 a87 (fun r133 =>
      k r133 (0 : Int))))))))
noncomputable def drive_Step {R : Type} : Nat → api_Escalator → Int → Int → Int → (Int → Int → Option R) → Option R := lock (@drive_Step_m R)
theorem drive_Step_def {R : Type} (N : Nat) (a84 : api_Escalator) (a85 : Int) (a86 : Int) (a87 : Int) (k : Int → Int → Option R) : drive_Step N a84 a85 a86 a87 k = drive_Step_m N a84 a85 a86 a87 k := by unfold drive_Step; rw [lock_eq]
def drive_Step_sp : Sp := ⟨[rAgg api_EscalatorC, rInt .i64, rInt .i64, rInt .i64], []⟩
theorem drive_Step_sp_ok : drive_Step_sp.Ok := ⟨(allCons (rAgg_ok api_EscalatorC_ok api_EscalatorC_len) (allCons (rInt_ok .i64) (allCons (rInt_ok .i64) (allCons (rInt_ok .i64) allNil)))), eNil⟩
def drive_Step_rs : Sp := ⟨[rTup [rInt .i64, rInt .i64]], []⟩
theorem drive_Step_rs_ok : drive_Step_rs.Ok := ⟨(allCons (rTup_ok (allCons (rInt_ok .i64) (allCons (rInt_ok .i64) allNil))) allNil), eNil⟩
def drive_Step_run {R : Type} (N : Nat) (args : List SV) (T : Tab) (kf : SV × Tab → Option R) : Option R :=
  drive_Step_m N (Cod.dec api_EscalatorC (lget (toCs (lget args 0)))) (toI (lget args 1)) (toI (lget args 2)) (toI (lget args 3)) (fun q0 q1 => kf (lget [.tup [.int .i64 q0, .int .i64 q1]] 0, []))
def drive_Step_lp {R : Type} (N : Nat) : Lp R := fun body S k => Option.none
noncomputable def drive_Step_go {R : Type} (N : Nat) (args : List SV) (T : Tab) (kf : SV × Tab → Option R) : Option R :=
  drive_Step N (Cod.dec api_EscalatorC (lget (toCs (lget args 0)))) (toI (lget args 1)) (toI (lget args 2)) (toI (lget args 3)) (fun q0 q1 => kf (lget [.tup [.int .i64 q0, .int .i64 q1]] 0, []))
noncomputable def drive_Step_cal {R : Type} (N : Nat) : Cal R := callM (drive_tick_cal N) 18 0 drive_Step_sp (drive_Step_go N)
theorem drive_Step_cal_ok {R : Type} (N : Nat) : CalOk E.P (drive_Step_cal (R := R) N) :=
  callM_ok hE (drive_tick_cal_ok N) (lp := drive_Step_lp N) (jn := noJn) (keys := []) kNil (by kernel_rfl) (js := []) jNil (by kernel_rfl) drive_Step_sp_ok drive_Step_rs_ok (fun args T kf => Eq.trans (drive_Step_def N (Cod.dec api_EscalatorC (lget (toCs (lget args 0)))) (toI (lget args 1)) (toI (lget args 2)) (toI (lget args 3)) (fun q0 q1 => kf (lget [.tup [.int .i64 q0, .int .i64 q1]] 0, []))) (by kernel_rfl : drive_Step_run N args T kf = fnM E (drive_tick_cal N) (drive_Step_lp N) (noJn) 18 (drive_Step_sp.vs args) (drive_Step_sp.tab T) 0 (resK drive_Step_rs kf)))

theorem neweltop_measures_closed {R : Type} (kf : SV × Tab → Option R) : (runG E 400 60).run 15 [] [] 0 kf = kf (.bool true, []) := by kernel_rfl
def neweltop_measures_m {R : Type} (N : Nat) (k : Bool → Option R) : Option R :=
  k true
noncomputable def neweltop_measures {R : Type} : Nat → (Bool → Option R) → Option R := lock (@neweltop_measures_m R)
theorem neweltop_measures_def {R : Type} (N : Nat) (k : Bool → Option R) : neweltop_measures N k = neweltop_measures_m N k := by unfold neweltop_measures; rw [lock_eq]
theorem neweltop_measures_eq {R : Type} (N : Nat) (k : Bool → Option R) : neweltop_measures N k = k true := by rw [neweltop_measures_def]; rfl
def neweltop_measures_sp : Sp := ⟨[], []⟩
noncomputable def neweltop_measures_go {R : Type} (N : Nat) (args : List SV) (T : Tab) (kf : SV × Tab → Option R) : Option R :=
  neweltop_measures N (fun q0 => kf (lget [.bool q0] 0, []))
noncomputable def neweltop_measures_cal {R : Type} (N : Nat) : Cal R := callM (drive_Step_cal N) 15 0 neweltop_measures_sp (neweltop_measures_go N)
theorem neweltop_measures_cal_ok {R : Type} (N : Nat) : CalOk E.P (neweltop_measures_cal (R := R) N) :=
  callM_eq (m' := fun args T kf => kf (.bool true, [])) (fun args T kf => neweltop_measures_def N (fun q0 => kf (lget [.bool q0] 0, []))) (closed_ok hE (drive_Step_cal_ok N) neweltop_measures_closed)



end
end Go.Proofs.Ytpillmoddoccfaa
