/-
  Models of the functions, and that they are what the code does. Written by a program.
-/
import Derived.Test.YtpillmoddoccfaaCod
set_option maxRecDepth 100000
set_option maxHeartbeats 0
set_option linter.unusedVariables false
namespace Go.Proofs.Ytpillmoddoccfaa
open Go.Sx
noncomputable section

def newellaw01_Far_m {R : Type} (N : Nat) (a0 : api_Escalator) (k : Bool → Option R) : Option R :=
  k (decide ((↑(Arr.n (api_Escalator.Brakes a0)) : Int) > (10 : Int)))
noncomputable def newellaw01_Far {R : Type} : Nat → api_Escalator → (Bool → Option R) → Option R := lock (@newellaw01_Far_m R)
theorem newellaw01_Far_def {R : Type} (N : Nat) (a0 : api_Escalator) (k : Bool → Option R) : newellaw01_Far N a0 k = newellaw01_Far_m N a0 k := by unfold newellaw01_Far; rw [lock_eq]
def newellaw01_Far_sp : Sp := ⟨[rAgg api_EscalatorC], []⟩
theorem newellaw01_Far_sp_ok : newellaw01_Far_sp.Ok := ⟨(allCons (rAgg_ok api_EscalatorC_ok api_EscalatorC_len) allNil), eNil⟩
def newellaw01_Far_rs : Sp := ⟨[rBool], []⟩
theorem newellaw01_Far_rs_ok : newellaw01_Far_rs.Ok := ⟨(allCons rBool_ok allNil), eNil⟩
def newellaw01_Far_run {R : Type} (N : Nat) (args : List SV) (T : Tab) (kf : SV × Tab → Option R) : Option R :=
  newellaw01_Far_m N (Cod.dec api_EscalatorC (lget (toCs (lget args 0)))) (fun q0 => kf (lget [.bool q0] 0, []))
def newellaw01_Far_lp {R : Type} (N : Nat) : Lp R := fun body S k => Option.none
noncomputable def newellaw01_Far_go {R : Type} (N : Nat) (args : List SV) (T : Tab) (kf : SV × Tab → Option R) : Option R :=
  newellaw01_Far N (Cod.dec api_EscalatorC (lget (toCs (lget args 0)))) (fun q0 => kf (lget [.bool q0] 0, []))
noncomputable def newellaw01_Far_cal {R : Type} (N : Nat) : Cal R := callM (noCal E) 10 0 newellaw01_Far_sp (newellaw01_Far_go N)
theorem newellaw01_Far_cal_ok {R : Type} (N : Nat) : CalOk E.P (newellaw01_Far_cal (R := R) N) :=
  callM_ok hE (noCal_ok E) (lp := newellaw01_Far_lp N) (jn := noJn) (keys := []) kNil (by kernel_rfl) (js := []) jNil (by kernel_rfl) newellaw01_Far_sp_ok newellaw01_Far_rs_ok (fun args T kf => Eq.trans (newellaw01_Far_def N (Cod.dec api_EscalatorC (lget (toCs (lget args 0)))) (fun q0 => kf (lget [.bool q0] 0, []))) (by kernel_rfl : newellaw01_Far_run N args T kf = fnM E (noCal E) (newellaw01_Far_lp N) (noJn) 10 (newellaw01_Far_sp.vs args) (newellaw01_Far_sp.tab T) 0 (resK newellaw01_Far_rs kf)))


def newellaw11_Far_m {R : Type} (N : Nat) (a1 : api_Band) (k : Bool → Option R) : Option R :=
  k (decide ((↑(Arr.n (api_Band.Paces a1)) : Int) > (10 : Int)))
noncomputable def newellaw11_Far {R : Type} : Nat → api_Band → (Bool → Option R) → Option R := lock (@newellaw11_Far_m R)
theorem newellaw11_Far_def {R : Type} (N : Nat) (a1 : api_Band) (k : Bool → Option R) : newellaw11_Far N a1 k = newellaw11_Far_m N a1 k := by unfold newellaw11_Far; rw [lock_eq]
def newellaw11_Far_sp : Sp := ⟨[rAgg api_BandC], []⟩
theorem newellaw11_Far_sp_ok : newellaw11_Far_sp.Ok := ⟨(allCons (rAgg_ok api_BandC_ok api_BandC_len) allNil), eNil⟩
def newellaw11_Far_rs : Sp := ⟨[rBool], []⟩
theorem newellaw11_Far_rs_ok : newellaw11_Far_rs.Ok := ⟨(allCons rBool_ok allNil), eNil⟩
def newellaw11_Far_run {R : Type} (N : Nat) (args : List SV) (T : Tab) (kf : SV × Tab → Option R) : Option R :=
  newellaw11_Far_m N (Cod.dec api_BandC (lget (toCs (lget args 0)))) (fun q0 => kf (lget [.bool q0] 0, []))
def newellaw11_Far_lp {R : Type} (N : Nat) : Lp R := fun body S k => Option.none
noncomputable def newellaw11_Far_go {R : Type} (N : Nat) (args : List SV) (T : Tab) (kf : SV × Tab → Option R) : Option R :=
  newellaw11_Far N (Cod.dec api_BandC (lget (toCs (lget args 0)))) (fun q0 => kf (lget [.bool q0] 0, []))
noncomputable def newellaw11_Far_cal {R : Type} (N : Nat) : Cal R := callM (newellaw01_Far_cal N) 11 0 newellaw11_Far_sp (newellaw11_Far_go N)
theorem newellaw11_Far_cal_ok {R : Type} (N : Nat) : CalOk E.P (newellaw11_Far_cal (R := R) N) :=
  callM_ok hE (newellaw01_Far_cal_ok N) (lp := newellaw11_Far_lp N) (jn := noJn) (keys := []) kNil (by kernel_rfl) (js := []) jNil (by kernel_rfl) newellaw11_Far_sp_ok newellaw11_Far_rs_ok (fun args T kf => Eq.trans (newellaw11_Far_def N (Cod.dec api_BandC (lget (toCs (lget args 0)))) (fun q0 => kf (lget [.bool q0] 0, []))) (by kernel_rfl : newellaw11_Far_run N args T kf = fnM E (newellaw01_Far_cal N) (newellaw11_Far_lp N) (noJn) 11 (newellaw11_Far_sp.vs args) (newellaw11_Far_sp.tab T) 0 (resK newellaw11_Far_rs kf)))


def newelref01_within_m {R : Type} (N : Nat) (a3 : Int) (a4 : Int) (a5 : Int) (k : Bool → Option R) : Option R :=
  bif decide (a3 ≥ a4) then
   k (decide (a3 ≤ a5))
  else
   k false
noncomputable def newelref01_within {R : Type} : Nat → Int → Int → Int → (Bool → Option R) → Option R := lock (@newelref01_within_m R)
theorem newelref01_within_def {R : Type} (N : Nat) (a3 : Int) (a4 : Int) (a5 : Int) (k : Bool → Option R) : newelref01_within N a3 a4 a5 k = newelref01_within_m N a3 a4 a5 k := by unfold newelref01_within; rw [lock_eq]
def newelref01_within_sp : Sp := ⟨[rInt .i64, rInt .i64, rInt .i64], []⟩
theorem newelref01_within_sp_ok : newelref01_within_sp.Ok := ⟨(allCons (rInt_ok .i64) (allCons (rInt_ok .i64) (allCons (rInt_ok .i64) allNil))), eNil⟩
def newelref01_within_rs : Sp := ⟨[rBool], []⟩
theorem newelref01_within_rs_ok : newelref01_within_rs.Ok := ⟨(allCons rBool_ok allNil), eNil⟩
def newelref01_within_run {R : Type} (N : Nat) (args : List SV) (T : Tab) (kf : SV × Tab → Option R) : Option R :=
  newelref01_within_m N (toI (lget args 0)) (toI (lget args 1)) (toI (lget args 2)) (fun q0 => kf (lget [.bool q0] 0, []))
def newelref01_within_lp {R : Type} (N : Nat) : Lp R := fun body S k => Option.none
noncomputable def newelref01_within_go {R : Type} (N : Nat) (args : List SV) (T : Tab) (kf : SV × Tab → Option R) : Option R :=
  newelref01_within N (toI (lget args 0)) (toI (lget args 1)) (toI (lget args 2)) (fun q0 => kf (lget [.bool q0] 0, []))
noncomputable def newelref01_within_cal {R : Type} (N : Nat) : Cal R := callM (newellaw11_Far_cal N) 58 0 newelref01_within_sp (newelref01_within_go N)
theorem newelref01_within_cal_ok {R : Type} (N : Nat) : CalOk E.P (newelref01_within_cal (R := R) N) :=
  callM_ok hE (newellaw11_Far_cal_ok N) (lp := newelref01_within_lp N) (jn := noJn) (keys := []) kNil (by kernel_rfl) (js := []) jNil (by kernel_rfl) newelref01_within_sp_ok newelref01_within_rs_ok (fun args T kf => Eq.trans (newelref01_within_def N (toI (lget args 0)) (toI (lget args 1)) (toI (lget args 2)) (fun q0 => kf (lget [.bool q0] 0, []))) (by kernel_rfl : newelref01_within_run N args T kf = fnM E (newellaw11_Far_cal N) (newelref01_within_lp N) (noJn) 58 (newelref01_within_sp.vs args) (newelref01_within_sp.tab T) 0 (resK newelref01_within_rs kf)))

def newelref01_Check_L4 : LoopSp := ⟨⟨[1, 3], ⟨(dr 1 ((rPtr 0 0) :: (dr 1 ((rInt .i64) :: (dr 53 []))))), [(0, eBlkC api_EscalatorC)]⟩, 1⟩, [(Option.none, ⟨[2], ⟨(dr 2 ((rInt .i64) :: (dr 54 []))), []⟩, 0⟩), (some 0, ⟨[], ⟨(dr 57 []), []⟩, 0⟩)]⟩
theorem newelref01_Check_L4_ok : newelref01_Check_L4.Ok := ⟨⟨(drCons 1 (allCons (rPtr_ok 0 0) (drCons 1 (allCons (rInt_ok .i64) (drCons 53 allNil))))), (eCons (eBlkC_ok api_EscalatorC_ok api_EscalatorC_len) eNil)⟩, (xCons ⟨(drCons 2 (allCons (rInt_ok .i64) (drCons 54 allNil))), eNil⟩ (xCons ⟨(drCons 57 allNil), eNil⟩ xNil))⟩
def newelref01_Check_h4 (v10 : Int) (v11 : api_Escalator) : St := ⟨(un 1 ((.ptr 0 0) :: (un 1 ((.int .i64 v10) :: (un 53 []))))), [(0, .blk (Cod.enc api_EscalatorC v11))], 1⟩
def newelref01_Check_x4_r (q0 : Int) : St := ⟨(un 2 ((.int .i64 q0) :: (un 54 []))), [], 0⟩
def newelref01_Check_x4_0  : St := ⟨(un 57 []), [], 0⟩
def newelref01_Check_b4 {R : Type} (N : Nat) (rc : Int → api_Escalator → Option R) (v10 : Int) (v11 : api_Escalator) (kr : Int → Option R) (k0 : Unit → Option R) : Option R :=
  bif decide (v10 < (↑(Arr.n (api_Escalator.Brakes v11)) : Int)) then
   bif decide ((0 : Int) ≤ v10) && decide (v10 < (↑(Arr.n (api_Escalator.Brakes v11)) : Int)) then
    newelref01_within N (api_Brake.Force (Arr.f (api_Escalator.Brakes v11) (Int.toNat v10))) (0 : Int) (10000000 : Int) (fun r12 =>
    bif !r12 then
     kr (10 : Int)
    else
     bif decide ((0 : Int) ≤ v10) && decide (v10 < (↑(Arr.n (api_Escalator.Brakes v11)) : Int)) then
      newelref01_within N (api_Brake.Delay (Arr.f (api_Escalator.Brakes v11) (Int.toNat v10))) (0 : Int) (20 : Int) (fun r13 =>
      bif !r13 then
       kr (10 : Int)
      else
       rc (w64 (v10 + (1 : Int))) v11)
     else
      Option.none)
   else
    Option.none
  else
   k0 ()
def newelref01_Check_l4 {R : Type} (N : Nat) : Nat → Int → api_Escalator → (Int → Option R) → (Unit → Option R) → Option R
  | 0, _, _, _, _ => Option.none
  | n + 1, v10, v11, kr, k0 => newelref01_Check_b4 N (fun v10 v11 => newelref01_Check_l4 N n v10 v11 kr k0) v10 v11 kr k0


def newelref01_Check_m {R : Type} (N : Nat) (a2 : api_Escalator) (k : Int → Option R) : Option R :=
  newelref01_within N (api_Escalator.Empty a2) (1 : Int) (100000 : Int) (fun r6 =>
  bif !r6 then
   k (10 : Int)
  else
   newelref01_within N (api_Escalator.Pull a2) (0 : Int) (100 : Int) (fun r7 =>
   bif !r7 then
    k (10 : Int)
   else
    newelref01_within N (api_Escalator.Drag a2) (0 : Int) (10000000 : Int) (fun r8 =>
    bif !r8 then
     k (10 : Int)
    else
     newelref01_within N (api_Escalator.Motor a2) (0 : Int) (10000000 : Int) (fun r9 =>
     bif !r9 then
      k (10 : Int)
     else
      bif decide ((↑(Arr.n (api_Escalator.Brakes a2)) : Int) > (3 : Int)) then
       k (10 : Int)
      else
       newelref01_Check_l4 N N (0 : Int) a2 (fun r14 =>
        k r14) (fun (_ : Unit) =>
        k (0 : Int))))))
noncomputable def newelref01_Check {R : Type} : Nat → api_Escalator → (Int → Option R) → Option R := lock (@newelref01_Check_m R)
theorem newelref01_Check_def {R : Type} (N : Nat) (a2 : api_Escalator) (k : Int → Option R) : newelref01_Check N a2 k = newelref01_Check_m N a2 k := by unfold newelref01_Check; rw [lock_eq]
def newelref01_Check_sp : Sp := ⟨[rAgg api_EscalatorC], []⟩
theorem newelref01_Check_sp_ok : newelref01_Check_sp.Ok := ⟨(allCons (rAgg_ok api_EscalatorC_ok api_EscalatorC_len) allNil), eNil⟩
def newelref01_Check_rs : Sp := ⟨[rInt .i64], []⟩
theorem newelref01_Check_rs_ok : newelref01_Check_rs.Ok := ⟨(allCons (rInt_ok .i64) allNil), eNil⟩
def newelref01_Check_run {R : Type} (N : Nat) (args : List SV) (T : Tab) (kf : SV × Tab → Option R) : Option R :=
  newelref01_Check_m N (Cod.dec api_EscalatorC (lget (toCs (lget args 0)))) (fun q0 => kf (lget [.int .i64 q0] 0, []))
def newelref01_Check_d4 {R : Type} (N : Nat) (S0 : St) (k : Exit → St → Option R) : Option R :=
  newelref01_Check_l4 N N (toI (lget S0.tmps 3)) (Cod.dec api_EscalatorC (lget (entCs (entAt S0.tab 0)))) (fun q0 => k .ret (newelref01_Check_x4_r q0)) (fun (_ : Unit) => k (.exit 0) (newelref01_Check_x4_0 ))
def newelref01_Check_lp {R : Type} (N : Nat) : Lp R := fun body S k => bif (Go.Sx.keyOf body).getD 0 == 4 then newelref01_Check_L4.head.raw 0 S (fun S0 => newelref01_Check_d4 N S0 k) else Option.none
theorem newelref01_Check_l4_eq {R : Type} (N : Nat) (k : Exit → St → Option R) (n : Nat) : ∀ (v0 : Int) (v1 : api_Escalator), loopM E.Θ (newelref01_within_cal N) (newelref01_Check_lp N) (noJn) 0 newelref01_Check_L4 (bodyAt E 12 4) n (newelref01_Check_h4 v0 v1) k = newelref01_Check_l4 N n v0 v1 (fun q0 => k .ret (newelref01_Check_x4_r q0)) (fun (_ : Unit) => k (.exit 0) (newelref01_Check_x4_0 )) := by
  induction n with
  | zero => intro v0 v1; rfl
  | succ n ih =>
    intro v0 v1
    refine Eq.trans (b := newelref01_Check_b4 N (fun v0 v1 => loopM E.Θ (newelref01_within_cal N) (newelref01_Check_lp N) (noJn) 0 newelref01_Check_L4 (bodyAt E 12 4) n (newelref01_Check_h4 v0 v1) k) v0 v1 (fun q0 => k .ret (newelref01_Check_x4_r q0)) (fun (_ : Unit) => k (.exit 0) (newelref01_Check_x4_0 ))) (by kernel_rfl) ?_
    have h : (fun (v0 : Int) (v1 : api_Escalator) => loopM E.Θ (newelref01_within_cal N) (newelref01_Check_lp N) (noJn) 0 newelref01_Check_L4 (bodyAt E 12 4) n (newelref01_Check_h4 v0 v1) k) = (fun (v0 : Int) (v1 : api_Escalator) => newelref01_Check_l4 N n v0 v1 (fun q0 => k .ret (newelref01_Check_x4_r q0)) (fun (_ : Unit) => k (.exit 0) (newelref01_Check_x4_0 ))) := funext fun v0 => funext fun v1 => ih v0 v1
    rw [h]
    rfl
theorem newelref01_Check_k4 {R : Type} (N : Nat) : LpKey (R := R) E 12 0 (newelref01_Check_lp N) 4 :=
  lpKey_of hE (newelref01_within_cal_ok N) (jn := noJn) newelref01_Check_L4_ok [] kNil (by kernel_rfl) [] jNil (by kernel_rfl) N fun S k =>
    Eq.trans (b := newelref01_Check_L4.head.raw 0 S (fun S0 => newelref01_Check_d4 N S0 k)) (by kernel_rfl) (congrArg (newelref01_Check_L4.head.raw 0 S) (funext fun S0 => Eq.trans (newelref01_Check_l4_eq N k N (toI (lget S0.tmps 3)) (Cod.dec api_EscalatorC (lget (entCs (entAt S0.tab 0))))).symm (by kernel_rfl)))
noncomputable def newelref01_Check_go {R : Type} (N : Nat) (args : List SV) (T : Tab) (kf : SV × Tab → Option R) : Option R :=
  newelref01_Check N (Cod.dec api_EscalatorC (lget (toCs (lget args 0)))) (fun q0 => kf (lget [.int .i64 q0] 0, []))
noncomputable def newelref01_Check_cal {R : Type} (N : Nat) : Cal R := callM (newelref01_within_cal N) 12 0 newelref01_Check_sp (newelref01_Check_go N)
theorem newelref01_Check_cal_ok {R : Type} (N : Nat) : CalOk E.P (newelref01_Check_cal (R := R) N) :=
  callM_ok hE (newelref01_within_cal_ok N) (lp := newelref01_Check_lp N) (jn := noJn) (keys := [4]) (kCons (newelref01_Check_k4 N) kNil) (by kernel_rfl) (js := []) jNil (by kernel_rfl) newelref01_Check_sp_ok newelref01_Check_rs_ok (fun args T kf => Eq.trans (newelref01_Check_def N (Cod.dec api_EscalatorC (lget (toCs (lget args 0)))) (fun q0 => kf (lget [.int .i64 q0] 0, []))) (by kernel_rfl : newelref01_Check_run N args T kf = fnM E (newelref01_within_cal N) (newelref01_Check_lp N) (noJn) 12 (newelref01_Check_sp.vs args) (newelref01_Check_sp.tab T) 0 (resK newelref01_Check_rs kf)))


def newelref11_within_m {R : Type} (N : Nat) (a16 : Int) (a17 : Int) (a18 : Int) (k : Bool → Option R) : Option R :=
  bif decide (a16 ≥ a17) then
   k (decide (a16 ≤ a18))
  else
   k false
noncomputable def newelref11_within {R : Type} : Nat → Int → Int → Int → (Bool → Option R) → Option R := lock (@newelref11_within_m R)
theorem newelref11_within_def {R : Type} (N : Nat) (a16 : Int) (a17 : Int) (a18 : Int) (k : Bool → Option R) : newelref11_within N a16 a17 a18 k = newelref11_within_m N a16 a17 a18 k := by unfold newelref11_within; rw [lock_eq]
def newelref11_within_sp : Sp := ⟨[rInt .i64, rInt .i64, rInt .i64], []⟩
theorem newelref11_within_sp_ok : newelref11_within_sp.Ok := ⟨(allCons (rInt_ok .i64) (allCons (rInt_ok .i64) (allCons (rInt_ok .i64) allNil))), eNil⟩
def newelref11_within_rs : Sp := ⟨[rBool], []⟩
theorem newelref11_within_rs_ok : newelref11_within_rs.Ok := ⟨(allCons rBool_ok allNil), eNil⟩
def newelref11_within_run {R : Type} (N : Nat) (args : List SV) (T : Tab) (kf : SV × Tab → Option R) : Option R :=
  newelref11_within_m N (toI (lget args 0)) (toI (lget args 1)) (toI (lget args 2)) (fun q0 => kf (lget [.bool q0] 0, []))
def newelref11_within_lp {R : Type} (N : Nat) : Lp R := fun body S k => Option.none
noncomputable def newelref11_within_go {R : Type} (N : Nat) (args : List SV) (T : Tab) (kf : SV × Tab → Option R) : Option R :=
  newelref11_within N (toI (lget args 0)) (toI (lget args 1)) (toI (lget args 2)) (fun q0 => kf (lget [.bool q0] 0, []))
noncomputable def newelref11_within_cal {R : Type} (N : Nat) : Cal R := callM (newelref01_Check_cal N) 59 0 newelref11_within_sp (newelref11_within_go N)
theorem newelref11_within_cal_ok {R : Type} (N : Nat) : CalOk E.P (newelref11_within_cal (R := R) N) :=
  callM_ok hE (newelref01_Check_cal_ok N) (lp := newelref11_within_lp N) (jn := noJn) (keys := []) kNil (by kernel_rfl) (js := []) jNil (by kernel_rfl) newelref11_within_sp_ok newelref11_within_rs_ok (fun args T kf => Eq.trans (newelref11_within_def N (toI (lget args 0)) (toI (lget args 1)) (toI (lget args 2)) (fun q0 => kf (lget [.bool q0] 0, []))) (by kernel_rfl : newelref11_within_run N args T kf = fnM E (newelref01_Check_cal N) (newelref11_within_lp N) (noJn) 59 (newelref11_within_sp.vs args) (newelref11_within_sp.tab T) 0 (resK newelref11_within_rs kf)))

def newelref11_Check_L7 : LoopSp := ⟨⟨[1, 3, 4], ⟨(dr 1 ((rPtr 0 0) :: (dr 1 ((rInt .i64) :: (rInt .i64) :: (dr 68 []))))), [(0, eBlkC api_BandC)]⟩, 1⟩, [(Option.none, ⟨[2], ⟨(dr 2 ((rInt .i64) :: (dr 70 []))), []⟩, 0⟩), (some 0, ⟨[], ⟨(dr 73 []), []⟩, 0⟩)]⟩
theorem newelref11_Check_L7_ok : newelref11_Check_L7.Ok := ⟨⟨(drCons 1 (allCons (rPtr_ok 0 0) (drCons 1 (allCons (rInt_ok .i64) (allCons (rInt_ok .i64) (drCons 68 allNil)))))), (eCons (eBlkC_ok api_BandC_ok api_BandC_len) eNil)⟩, (xCons ⟨(drCons 2 (allCons (rInt_ok .i64) (drCons 70 allNil))), eNil⟩ (xCons ⟨(drCons 73 allNil), eNil⟩ xNil))⟩
def newelref11_Check_h7 (v27 : Int) (v28 : Int) (v29 : api_Band) : St := ⟨(un 1 ((.ptr 0 0) :: (un 1 ((.int .i64 v27) :: (.int .i64 v28) :: (un 68 []))))), [(0, .blk (Cod.enc api_BandC v29))], 1⟩
def newelref11_Check_x7_r (q0 : Int) : St := ⟨(un 2 ((.int .i64 q0) :: (un 70 []))), [], 0⟩
def newelref11_Check_x7_0  : St := ⟨(un 73 []), [], 0⟩
def newelref11_Check_b7 {R : Type} (N : Nat) (rc : Int → Int → api_Band → Option R) (v27 : Int) (v28 : Int) (v29 : api_Band) (kr : Int → Option R) (k0 : Unit → Option R) : Option R :=
  bif decide (v28 < (↑(Arr.n (api_Band.Paces v29)) : Int)) then
   bif decide ((0 : Int) ≤ v28) && decide (v28 < (↑(Arr.n (api_Band.Paces v29)) : Int)) then
    newelref11_within N (Arr.f (api_Band.Paces v29) (Int.toNat v28)) (w64 (v27 + (1 : Int))) (100 : Int) (fun r30 =>
    bif !r30 then
     kr (110 : Int)
    else
     bif decide ((0 : Int) ≤ v28) && decide (v28 < (↑(Arr.n (api_Band.Paces v29)) : Int)) then
      rc (Arr.f (api_Band.Paces v29) (Int.toNat v28)) (w64 (v28 + (1 : Int))) v29
     else
      Option.none)
   else
    Option.none
  else
   k0 ()
def newelref11_Check_l7 {R : Type} (N : Nat) : Nat → Int → Int → api_Band → (Int → Option R) → (Unit → Option R) → Option R
  | 0, _, _, _, _, _ => Option.none
  | n + 1, v27, v28, v29, kr, k0 => newelref11_Check_b7 N (fun v27 v28 v29 => newelref11_Check_l7 N n v27 v28 v29 kr k0) v27 v28 v29 kr k0


def newelref11_Check_m {R : Type} (N : Nat) (a15 : api_Band) (k : Int → Option R) : Option R :=
  newelref11_within N (api_Band.Pull a15) (0 : Int) (100 : Int) (fun r19 =>
  bif !r19 then
   k (110 : Int)
  else
   newelref11_within N (api_Band.Drag a15) (0 : Int) (1000000 : Int) (fun r20 =>
   bif !r20 then
    k (110 : Int)
   else
    newelref11_within N (api_Band.Body a15) (0 : Int) (100 : Int) (fun r21 =>
    bif !r21 then
     k (110 : Int)
    else
     newelref11_within N (api_Band.Ride a15) (1 : Int) (1000 : Int) (fun r22 =>
     bif !r22 then
      k (110 : Int)
     else
      newelref11_within N (api_Band.Most a15) (0 : Int) (100000000 : Int) (fun r23 =>
      bif !r23 then
       k (110 : Int)
      else
       newelref11_within N ((↑(Arr.n (api_Band.Paces a15)) : Int)) (1 : Int) (3 : Int) (fun r24 =>
       bif !r24 then
        k (110 : Int)
       else
        newelref11_within N (api_Band.Den a15) (1 : Int) (100 : Int) (fun r25 =>
        bif !r25 then
         k (110 : Int)
        else
         newelref11_within N (api_Band.Num a15) (0 : Int) (api_Band.Den a15) (fun r26 =>
         bif !r26 then
          k (110 : Int)
         else
          newelref11_Check_l7 N N (0 : Int) (0 : Int) a15 (fun r31 =>
           k r31) (fun (_ : Unit) =>
           k (0 : Int))))))))))
noncomputable def newelref11_Check {R : Type} : Nat → api_Band → (Int → Option R) → Option R := lock (@newelref11_Check_m R)
theorem newelref11_Check_def {R : Type} (N : Nat) (a15 : api_Band) (k : Int → Option R) : newelref11_Check N a15 k = newelref11_Check_m N a15 k := by unfold newelref11_Check; rw [lock_eq]
def newelref11_Check_sp : Sp := ⟨[rAgg api_BandC], []⟩
theorem newelref11_Check_sp_ok : newelref11_Check_sp.Ok := ⟨(allCons (rAgg_ok api_BandC_ok api_BandC_len) allNil), eNil⟩
def newelref11_Check_rs : Sp := ⟨[rInt .i64], []⟩
theorem newelref11_Check_rs_ok : newelref11_Check_rs.Ok := ⟨(allCons (rInt_ok .i64) allNil), eNil⟩
def newelref11_Check_run {R : Type} (N : Nat) (args : List SV) (T : Tab) (kf : SV × Tab → Option R) : Option R :=
  newelref11_Check_m N (Cod.dec api_BandC (lget (toCs (lget args 0)))) (fun q0 => kf (lget [.int .i64 q0] 0, []))
def newelref11_Check_d7 {R : Type} (N : Nat) (S0 : St) (k : Exit → St → Option R) : Option R :=
  newelref11_Check_l7 N N (toI (lget S0.tmps 3)) (toI (lget S0.tmps 4)) (Cod.dec api_BandC (lget (entCs (entAt S0.tab 0)))) (fun q0 => k .ret (newelref11_Check_x7_r q0)) (fun (_ : Unit) => k (.exit 0) (newelref11_Check_x7_0 ))
def newelref11_Check_lp {R : Type} (N : Nat) : Lp R := fun body S k => bif (Go.Sx.keyOf body).getD 0 == 7 then newelref11_Check_L7.head.raw 0 S (fun S0 => newelref11_Check_d7 N S0 k) else Option.none
theorem newelref11_Check_l7_eq {R : Type} (N : Nat) (k : Exit → St → Option R) (n : Nat) : ∀ (v0 : Int) (v1 : Int) (v2 : api_Band), loopM E.Θ (newelref11_within_cal N) (newelref11_Check_lp N) (noJn) 0 newelref11_Check_L7 (bodyAt E 13 7) n (newelref11_Check_h7 v0 v1 v2) k = newelref11_Check_l7 N n v0 v1 v2 (fun q0 => k .ret (newelref11_Check_x7_r q0)) (fun (_ : Unit) => k (.exit 0) (newelref11_Check_x7_0 )) := by
  induction n with
  | zero => intro v0 v1 v2; rfl
  | succ n ih =>
    intro v0 v1 v2
    refine Eq.trans (b := newelref11_Check_b7 N (fun v0 v1 v2 => loopM E.Θ (newelref11_within_cal N) (newelref11_Check_lp N) (noJn) 0 newelref11_Check_L7 (bodyAt E 13 7) n (newelref11_Check_h7 v0 v1 v2) k) v0 v1 v2 (fun q0 => k .ret (newelref11_Check_x7_r q0)) (fun (_ : Unit) => k (.exit 0) (newelref11_Check_x7_0 ))) (by kernel_rfl) ?_
    have h : (fun (v0 : Int) (v1 : Int) (v2 : api_Band) => loopM E.Θ (newelref11_within_cal N) (newelref11_Check_lp N) (noJn) 0 newelref11_Check_L7 (bodyAt E 13 7) n (newelref11_Check_h7 v0 v1 v2) k) = (fun (v0 : Int) (v1 : Int) (v2 : api_Band) => newelref11_Check_l7 N n v0 v1 v2 (fun q0 => k .ret (newelref11_Check_x7_r q0)) (fun (_ : Unit) => k (.exit 0) (newelref11_Check_x7_0 ))) := funext fun v0 => funext fun v1 => funext fun v2 => ih v0 v1 v2
    rw [h]
    rfl
theorem newelref11_Check_k7 {R : Type} (N : Nat) : LpKey (R := R) E 13 0 (newelref11_Check_lp N) 7 :=
  lpKey_of hE (newelref11_within_cal_ok N) (jn := noJn) newelref11_Check_L7_ok [] kNil (by kernel_rfl) [] jNil (by kernel_rfl) N fun S k =>
    Eq.trans (b := newelref11_Check_L7.head.raw 0 S (fun S0 => newelref11_Check_d7 N S0 k)) (by kernel_rfl) (congrArg (newelref11_Check_L7.head.raw 0 S) (funext fun S0 => Eq.trans (newelref11_Check_l7_eq N k N (toI (lget S0.tmps 3)) (toI (lget S0.tmps 4)) (Cod.dec api_BandC (lget (entCs (entAt S0.tab 0))))).symm (by kernel_rfl)))
noncomputable def newelref11_Check_go {R : Type} (N : Nat) (args : List SV) (T : Tab) (kf : SV × Tab → Option R) : Option R :=
  newelref11_Check N (Cod.dec api_BandC (lget (toCs (lget args 0)))) (fun q0 => kf (lget [.int .i64 q0] 0, []))
noncomputable def newelref11_Check_cal {R : Type} (N : Nat) : Cal R := callM (newelref11_within_cal N) 13 0 newelref11_Check_sp (newelref11_Check_go N)
theorem newelref11_Check_cal_ok {R : Type} (N : Nat) : CalOk E.P (newelref11_Check_cal (R := R) N) :=
  callM_ok hE (newelref11_within_cal_ok N) (lp := newelref11_Check_lp N) (jn := noJn) (keys := [7]) (kCons (newelref11_Check_k7 N) kNil) (by kernel_rfl) (js := []) jNil (by kernel_rfl) newelref11_Check_sp_ok newelref11_Check_rs_ok (fun args T kf => Eq.trans (newelref11_Check_def N (Cod.dec api_BandC (lget (toCs (lget args 0)))) (fun q0 => kf (lget [.int .i64 q0] 0, []))) (by kernel_rfl : newelref11_Check_run N args T kf = fnM E (newelref11_within_cal N) (newelref11_Check_lp N) (noJn) 13 (newelref11_Check_sp.vs args) (newelref11_Check_sp.tab T) 0 (resK newelref11_Check_rs kf)))

def newelref11_Pace_L2 : LoopSp := ⟨⟨[1, 2, 5], ⟨(dr 1 ((rInt .i64) :: (rPtr 0 0) :: (dr 2 ((rInt .i64) :: (dr 14 []))))), [(0, eBlkC api_BandC)]⟩, 1⟩, [(Option.none, ⟨[4], ⟨(dr 4 ((rBool) :: (dr 15 []))), []⟩, 0⟩), (some 0, ⟨[], ⟨(dr 20 []), []⟩, 0⟩)]⟩
theorem newelref11_Pace_L2_ok : newelref11_Pace_L2.Ok := ⟨⟨(drCons 1 (allCons (rInt_ok .i64) (allCons (rPtr_ok 0 0) (drCons 2 (allCons (rInt_ok .i64) (drCons 14 allNil)))))), (eCons (eBlkC_ok api_BandC_ok api_BandC_len) eNil)⟩, (xCons ⟨(drCons 4 (allCons rBool_ok (drCons 15 allNil))), eNil⟩ (xCons ⟨(drCons 20 allNil), eNil⟩ xNil))⟩
def newelref11_Pace_h2 (v34 : Int) (v35 : Int) (v36 : api_Band) : St := ⟨(un 1 ((.int .i64 v34) :: (.ptr 0 0) :: (un 2 ((.int .i64 v35) :: (un 14 []))))), [(0, .blk (Cod.enc api_BandC v36))], 1⟩
def newelref11_Pace_x2_r (q0 : Bool) : St := ⟨(un 4 ((.bool q0) :: (un 15 []))), [], 0⟩
def newelref11_Pace_x2_0  : St := ⟨(un 20 []), [], 0⟩
def newelref11_Pace_b2 {R : Type} (N : Nat) (rc : Int → Int → api_Band → Option R) (v34 : Int) (v35 : Int) (v36 : api_Band) (kr : Bool → Option R) (k0 : Unit → Option R) : Option R :=
  bif decide (v35 < (↑(Arr.n (api_Band.Paces v36)) : Int)) then
   bif decide ((0 : Int) ≤ v35) && decide (v35 < (↑(Arr.n (api_Band.Paces v36)) : Int)) then
    bif Arr.f (api_Band.Paces v36) (Int.toNat v35) == v34 then
     kr true
    else
     rc v34 (w64 (v35 + (1 : Int))) v36
   else
    Option.none
  else
   k0 ()
def newelref11_Pace_l2 {R : Type} (N : Nat) : Nat → Int → Int → api_Band → (Bool → Option R) → (Unit → Option R) → Option R
  | 0, _, _, _, _, _ => Option.none
  | n + 1, v34, v35, v36, kr, k0 => newelref11_Pace_b2 N (fun v34 v35 v36 => newelref11_Pace_l2 N n v34 v35 v36 kr k0) v34 v35 v36 kr k0


def newelref11_Pace_m {R : Type} (N : Nat) (a32 : api_Band) (a33 : Int) (k : Bool → Option R) : Option R :=
  newelref11_Pace_l2 N N a33 (0 : Int) a32 (fun r37 =>
   k r37) (fun (_ : Unit) =>
   k false)
noncomputable def newelref11_Pace {R : Type} : Nat → api_Band → Int → (Bool → Option R) → Option R := lock (@newelref11_Pace_m R)
theorem newelref11_Pace_def {R : Type} (N : Nat) (a32 : api_Band) (a33 : Int) (k : Bool → Option R) : newelref11_Pace N a32 a33 k = newelref11_Pace_m N a32 a33 k := by unfold newelref11_Pace; rw [lock_eq]
def newelref11_Pace_sp : Sp := ⟨[rAgg api_BandC, rInt .i64], []⟩
theorem newelref11_Pace_sp_ok : newelref11_Pace_sp.Ok := ⟨(allCons (rAgg_ok api_BandC_ok api_BandC_len) (allCons (rInt_ok .i64) allNil)), eNil⟩
def newelref11_Pace_rs : Sp := ⟨[rBool], []⟩
theorem newelref11_Pace_rs_ok : newelref11_Pace_rs.Ok := ⟨(allCons rBool_ok allNil), eNil⟩
def newelref11_Pace_run {R : Type} (N : Nat) (args : List SV) (T : Tab) (kf : SV × Tab → Option R) : Option R :=
  newelref11_Pace_m N (Cod.dec api_BandC (lget (toCs (lget args 0)))) (toI (lget args 1)) (fun q0 => kf (lget [.bool q0] 0, []))
def newelref11_Pace_d2 {R : Type} (N : Nat) (S0 : St) (k : Exit → St → Option R) : Option R :=
  newelref11_Pace_l2 N N (toI (lget S0.tmps 1)) (toI (lget S0.tmps 5)) (Cod.dec api_BandC (lget (entCs (entAt S0.tab 0)))) (fun q0 => k .ret (newelref11_Pace_x2_r q0)) (fun (_ : Unit) => k (.exit 0) (newelref11_Pace_x2_0 ))
def newelref11_Pace_lp {R : Type} (N : Nat) : Lp R := fun body S k => bif (Go.Sx.keyOf body).getD 0 == 2 then newelref11_Pace_L2.head.raw 0 S (fun S0 => newelref11_Pace_d2 N S0 k) else Option.none
theorem newelref11_Pace_l2_eq {R : Type} (N : Nat) (k : Exit → St → Option R) (n : Nat) : ∀ (v0 : Int) (v1 : Int) (v2 : api_Band), loopM E.Θ (newelref11_Check_cal N) (newelref11_Pace_lp N) (noJn) 0 newelref11_Pace_L2 (bodyAt E 14 2) n (newelref11_Pace_h2 v0 v1 v2) k = newelref11_Pace_l2 N n v0 v1 v2 (fun q0 => k .ret (newelref11_Pace_x2_r q0)) (fun (_ : Unit) => k (.exit 0) (newelref11_Pace_x2_0 )) := by
  induction n with
  | zero => intro v0 v1 v2; rfl
  | succ n ih =>
    intro v0 v1 v2
    refine Eq.trans (b := newelref11_Pace_b2 N (fun v0 v1 v2 => loopM E.Θ (newelref11_Check_cal N) (newelref11_Pace_lp N) (noJn) 0 newelref11_Pace_L2 (bodyAt E 14 2) n (newelref11_Pace_h2 v0 v1 v2) k) v0 v1 v2 (fun q0 => k .ret (newelref11_Pace_x2_r q0)) (fun (_ : Unit) => k (.exit 0) (newelref11_Pace_x2_0 ))) (by kernel_rfl) ?_
    have h : (fun (v0 : Int) (v1 : Int) (v2 : api_Band) => loopM E.Θ (newelref11_Check_cal N) (newelref11_Pace_lp N) (noJn) 0 newelref11_Pace_L2 (bodyAt E 14 2) n (newelref11_Pace_h2 v0 v1 v2) k) = (fun (v0 : Int) (v1 : Int) (v2 : api_Band) => newelref11_Pace_l2 N n v0 v1 v2 (fun q0 => k .ret (newelref11_Pace_x2_r q0)) (fun (_ : Unit) => k (.exit 0) (newelref11_Pace_x2_0 ))) := funext fun v0 => funext fun v1 => funext fun v2 => ih v0 v1 v2
    rw [h]
    rfl
theorem newelref11_Pace_k2 {R : Type} (N : Nat) : LpKey (R := R) E 14 0 (newelref11_Pace_lp N) 2 :=
  lpKey_of hE (newelref11_Check_cal_ok N) (jn := noJn) newelref11_Pace_L2_ok [] kNil (by kernel_rfl) [] jNil (by kernel_rfl) N fun S k =>
    Eq.trans (b := newelref11_Pace_L2.head.raw 0 S (fun S0 => newelref11_Pace_d2 N S0 k)) (by kernel_rfl) (congrArg (newelref11_Pace_L2.head.raw 0 S) (funext fun S0 => Eq.trans (newelref11_Pace_l2_eq N k N (toI (lget S0.tmps 1)) (toI (lget S0.tmps 5)) (Cod.dec api_BandC (lget (entCs (entAt S0.tab 0))))).symm (by kernel_rfl)))
noncomputable def newelref11_Pace_go {R : Type} (N : Nat) (args : List SV) (T : Tab) (kf : SV × Tab → Option R) : Option R :=
  newelref11_Pace N (Cod.dec api_BandC (lget (toCs (lget args 0)))) (toI (lget args 1)) (fun q0 => kf (lget [.bool q0] 0, []))
noncomputable def newelref11_Pace_cal {R : Type} (N : Nat) : Cal R := callM (newelref11_Check_cal N) 14 0 newelref11_Pace_sp (newelref11_Pace_go N)
theorem newelref11_Pace_cal_ok {R : Type} (N : Nat) : CalOk E.P (newelref11_Pace_cal (R := R) N) :=
  callM_ok hE (newelref11_Check_cal_ok N) (lp := newelref11_Pace_lp N) (jn := noJn) (keys := [2]) (kCons (newelref11_Pace_k2 N) kNil) (by kernel_rfl) (js := []) jNil (by kernel_rfl) newelref11_Pace_sp_ok newelref11_Pace_rs_ok (fun args T kf => Eq.trans (newelref11_Pace_def N (Cod.dec api_BandC (lget (toCs (lget args 0)))) (toI (lget args 1)) (fun q0 => kf (lget [.bool q0] 0, []))) (by kernel_rfl : newelref11_Pace_run N args T kf = fnM E (newelref11_Check_cal N) (newelref11_Pace_lp N) (noJn) 14 (newelref11_Pace_sp.vs args) (newelref11_Pace_sp.tab T) 0 (resK newelref11_Pace_rs kf)))


def newellaw11_FarTimes_m {R : Type} (N : Nat) (a38 : api_Times) (k : Bool → Option R) : Option R :=
  k (decide ((↑(Arr.n (api_Times.Periods a38)) : Int) > (20 : Int)))
noncomputable def newellaw11_FarTimes {R : Type} : Nat → api_Times → (Bool → Option R) → Option R := lock (@newellaw11_FarTimes_m R)
theorem newellaw11_FarTimes_def {R : Type} (N : Nat) (a38 : api_Times) (k : Bool → Option R) : newellaw11_FarTimes N a38 k = newellaw11_FarTimes_m N a38 k := by unfold newellaw11_FarTimes; rw [lock_eq]
def newellaw11_FarTimes_sp : Sp := ⟨[rAgg api_TimesC], []⟩
theorem newellaw11_FarTimes_sp_ok : newellaw11_FarTimes_sp.Ok := ⟨(allCons (rAgg_ok api_TimesC_ok api_TimesC_len) allNil), eNil⟩
def newellaw11_FarTimes_rs : Sp := ⟨[rBool], []⟩
theorem newellaw11_FarTimes_rs_ok : newellaw11_FarTimes_rs.Ok := ⟨(allCons rBool_ok allNil), eNil⟩
def newellaw11_FarTimes_run {R : Type} (N : Nat) (args : List SV) (T : Tab) (kf : SV × Tab → Option R) : Option R :=
  newellaw11_FarTimes_m N (Cod.dec api_TimesC (lget (toCs (lget args 0)))) (fun q0 => kf (lget [.bool q0] 0, []))
def newellaw11_FarTimes_lp {R : Type} (N : Nat) : Lp R := fun body S k => Option.none
noncomputable def newellaw11_FarTimes_go {R : Type} (N : Nat) (args : List SV) (T : Tab) (kf : SV × Tab → Option R) : Option R :=
  newellaw11_FarTimes N (Cod.dec api_TimesC (lget (toCs (lget args 0)))) (fun q0 => kf (lget [.bool q0] 0, []))
noncomputable def newellaw11_FarTimes_cal {R : Type} (N : Nat) : Cal R := callM (newelref11_Pace_cal N) 52 0 newellaw11_FarTimes_sp (newellaw11_FarTimes_go N)
theorem newellaw11_FarTimes_cal_ok {R : Type} (N : Nat) : CalOk E.P (newellaw11_FarTimes_cal (R := R) N) :=
  callM_ok hE (newelref11_Pace_cal_ok N) (lp := newellaw11_FarTimes_lp N) (jn := noJn) (keys := []) kNil (by kernel_rfl) (js := []) jNil (by kernel_rfl) newellaw11_FarTimes_sp_ok newellaw11_FarTimes_rs_ok (fun args T kf => Eq.trans (newellaw11_FarTimes_def N (Cod.dec api_TimesC (lget (toCs (lget args 0)))) (fun q0 => kf (lget [.bool q0] 0, []))) (by kernel_rfl : newellaw11_FarTimes_run N args T kf = fnM E (newelref11_Pace_cal N) (newellaw11_FarTimes_lp N) (noJn) 52 (newellaw11_FarTimes_sp.vs args) (newellaw11_FarTimes_sp.tab T) 0 (resK newellaw11_FarTimes_rs kf)))

def newelref11_CheckTimes_L6 : LoopSp := ⟨⟨[3, 5], ⟨(dr 3 ((rPtr 0 0) :: (dr 1 ((rInt .i64) :: (dr 58 []))))), [(0, eBlkC api_TimesC)]⟩, 1⟩, [(Option.none, ⟨[4], ⟨(dr 4 ((rInt .i64) :: (dr 59 []))), []⟩, 0⟩), (some 0, ⟨[], ⟨(dr 64 []), []⟩, 0⟩)]⟩
theorem newelref11_CheckTimes_L6_ok : newelref11_CheckTimes_L6.Ok := ⟨⟨(drCons 3 (allCons (rPtr_ok 0 0) (drCons 1 (allCons (rInt_ok .i64) (drCons 58 allNil))))), (eCons (eBlkC_ok api_TimesC_ok api_TimesC_len) eNil)⟩, (xCons ⟨(drCons 4 (allCons (rInt_ok .i64) (drCons 59 allNil))), eNil⟩ (xCons ⟨(drCons 64 allNil), eNil⟩ xNil))⟩
def newelref11_CheckTimes_h6 (v44 : Int) (v45 : api_Times) : St := ⟨(un 3 ((.ptr 0 0) :: (un 1 ((.int .i64 v44) :: (un 58 []))))), [(0, .blk (Cod.enc api_TimesC v45))], 1⟩
def newelref11_CheckTimes_x6_r (q0 : Int) : St := ⟨(un 4 ((.int .i64 q0) :: (un 59 []))), [], 0⟩
def newelref11_CheckTimes_x6_0  : St := ⟨(un 64 []), [], 0⟩
def newelref11_CheckTimes_b6 {R : Type} (N : Nat) (rc : Int → api_Times → Option R) (v44 : Int) (v45 : api_Times) (kr : Int → Option R) (k0 : Unit → Option R) : Option R :=
  bif decide (v44 < (↑(Arr.n (api_Times.Periods v45)) : Int)) then
   bif decide ((0 : Int) ≤ v44) && decide (v44 < (↑(Arr.n (api_Times.Periods v45)) : Int)) then
    newelref11_within N (api_Period.Lasts (Arr.f (api_Times.Periods v45) (Int.toNat v44))) (1 : Int) (1000 : Int) (fun r46 =>
    bif !r46 then
     kr (111 : Int)
    else
     newelref11_within N (api_Period.Price (Arr.f (api_Times.Periods v45) (Int.toNat v44))) (0 : Int) (100 : Int) (fun r47 =>
     bif !r47 then
      kr (111 : Int)
     else
      bif decide (api_Span.Low (api_Period.Flow (Arr.f (api_Times.Periods v45) (Int.toNat v44))) < (0 : Int)) then
       kr (111 : Int)
      else
       bif decide (api_Span.High (api_Period.Flow (Arr.f (api_Times.Periods v45) (Int.toNat v44))) < api_Span.Low (api_Period.Flow (Arr.f (api_Times.Periods v45) (Int.toNat v44)))) then
        kr (111 : Int)
       else
        bif decide (api_Span.High (api_Period.Flow (Arr.f (api_Times.Periods v45) (Int.toNat v44))) > (100 : Int)) then
         kr (111 : Int)
        else
         rc (w64 (v44 + (1 : Int))) v45))
   else
    Option.none
  else
   k0 ()
def newelref11_CheckTimes_l6 {R : Type} (N : Nat) : Nat → Int → api_Times → (Int → Option R) → (Unit → Option R) → Option R
  | 0, _, _, _, _ => Option.none
  | n + 1, v44, v45, kr, k0 => newelref11_CheckTimes_b6 N (fun v44 v45 => newelref11_CheckTimes_l6 N n v44 v45 kr k0) v44 v45 kr k0


def newelref11_CheckTimes_m {R : Type} (N : Nat) (a39 : api_Band) (a40 : api_Times) (k : Int → Option R) : Option R :=
  newelref11_Check N a39 (fun r41 =>
  bif r41 != (0 : Int) then
   k (110 : Int)
  else
   newelref11_within N ((↑(Arr.n (api_Times.Periods a40)) : Int)) (1 : Int) (8 : Int) (fun r42 =>
   bif !r42 then
    k (111 : Int)
   else
    newelref11_within N (api_Times.Peak a40) (0 : Int) (1000 : Int) (fun r43 =>
    bif !r43 then
     k (111 : Int)
    else
     newelref11_CheckTimes_l6 N N (0 : Int) a40 (fun r48 =>
      k r48) (fun (_ : Unit) =>
      k (0 : Int)))))
noncomputable def newelref11_CheckTimes {R : Type} : Nat → api_Band → api_Times → (Int → Option R) → Option R := lock (@newelref11_CheckTimes_m R)
theorem newelref11_CheckTimes_def {R : Type} (N : Nat) (a39 : api_Band) (a40 : api_Times) (k : Int → Option R) : newelref11_CheckTimes N a39 a40 k = newelref11_CheckTimes_m N a39 a40 k := by unfold newelref11_CheckTimes; rw [lock_eq]
def newelref11_CheckTimes_sp : Sp := ⟨[rAgg api_BandC, rAgg api_TimesC], []⟩
theorem newelref11_CheckTimes_sp_ok : newelref11_CheckTimes_sp.Ok := ⟨(allCons (rAgg_ok api_BandC_ok api_BandC_len) (allCons (rAgg_ok api_TimesC_ok api_TimesC_len) allNil)), eNil⟩
def newelref11_CheckTimes_rs : Sp := ⟨[rInt .i64], []⟩
theorem newelref11_CheckTimes_rs_ok : newelref11_CheckTimes_rs.Ok := ⟨(allCons (rInt_ok .i64) allNil), eNil⟩
def newelref11_CheckTimes_run {R : Type} (N : Nat) (args : List SV) (T : Tab) (kf : SV × Tab → Option R) : Option R :=
  newelref11_CheckTimes_m N (Cod.dec api_BandC (lget (toCs (lget args 0)))) (Cod.dec api_TimesC (lget (toCs (lget args 1)))) (fun q0 => kf (lget [.int .i64 q0] 0, []))
def newelref11_CheckTimes_d6 {R : Type} (N : Nat) (S0 : St) (k : Exit → St → Option R) : Option R :=
  newelref11_CheckTimes_l6 N N (toI (lget S0.tmps 5)) (Cod.dec api_TimesC (lget (entCs (entAt S0.tab 0)))) (fun q0 => k .ret (newelref11_CheckTimes_x6_r q0)) (fun (_ : Unit) => k (.exit 0) (newelref11_CheckTimes_x6_0 ))
def newelref11_CheckTimes_lp {R : Type} (N : Nat) : Lp R := fun body S k => bif (Go.Sx.keyOf body).getD 0 == 6 then newelref11_CheckTimes_L6.head.raw 0 S (fun S0 => newelref11_CheckTimes_d6 N S0 k) else Option.none
theorem newelref11_CheckTimes_l6_eq {R : Type} (N : Nat) (k : Exit → St → Option R) (n : Nat) : ∀ (v0 : Int) (v1 : api_Times), loopM E.Θ (newellaw11_FarTimes_cal N) (newelref11_CheckTimes_lp N) (noJn) 0 newelref11_CheckTimes_L6 (bodyAt E 53 6) n (newelref11_CheckTimes_h6 v0 v1) k = newelref11_CheckTimes_l6 N n v0 v1 (fun q0 => k .ret (newelref11_CheckTimes_x6_r q0)) (fun (_ : Unit) => k (.exit 0) (newelref11_CheckTimes_x6_0 )) := by
  induction n with
  | zero => intro v0 v1; rfl
  | succ n ih =>
    intro v0 v1
    refine Eq.trans (b := newelref11_CheckTimes_b6 N (fun v0 v1 => loopM E.Θ (newellaw11_FarTimes_cal N) (newelref11_CheckTimes_lp N) (noJn) 0 newelref11_CheckTimes_L6 (bodyAt E 53 6) n (newelref11_CheckTimes_h6 v0 v1) k) v0 v1 (fun q0 => k .ret (newelref11_CheckTimes_x6_r q0)) (fun (_ : Unit) => k (.exit 0) (newelref11_CheckTimes_x6_0 ))) (by kernel_rfl) ?_
    have h : (fun (v0 : Int) (v1 : api_Times) => loopM E.Θ (newellaw11_FarTimes_cal N) (newelref11_CheckTimes_lp N) (noJn) 0 newelref11_CheckTimes_L6 (bodyAt E 53 6) n (newelref11_CheckTimes_h6 v0 v1) k) = (fun (v0 : Int) (v1 : api_Times) => newelref11_CheckTimes_l6 N n v0 v1 (fun q0 => k .ret (newelref11_CheckTimes_x6_r q0)) (fun (_ : Unit) => k (.exit 0) (newelref11_CheckTimes_x6_0 ))) := funext fun v0 => funext fun v1 => ih v0 v1
    rw [h]
    rfl
theorem newelref11_CheckTimes_k6 {R : Type} (N : Nat) : LpKey (R := R) E 53 0 (newelref11_CheckTimes_lp N) 6 :=
  lpKey_of hE (newellaw11_FarTimes_cal_ok N) (jn := noJn) newelref11_CheckTimes_L6_ok [] kNil (by kernel_rfl) [] jNil (by kernel_rfl) N fun S k =>
    Eq.trans (b := newelref11_CheckTimes_L6.head.raw 0 S (fun S0 => newelref11_CheckTimes_d6 N S0 k)) (by kernel_rfl) (congrArg (newelref11_CheckTimes_L6.head.raw 0 S) (funext fun S0 => Eq.trans (newelref11_CheckTimes_l6_eq N k N (toI (lget S0.tmps 5)) (Cod.dec api_TimesC (lget (entCs (entAt S0.tab 0))))).symm (by kernel_rfl)))
noncomputable def newelref11_CheckTimes_go {R : Type} (N : Nat) (args : List SV) (T : Tab) (kf : SV × Tab → Option R) : Option R :=
  newelref11_CheckTimes N (Cod.dec api_BandC (lget (toCs (lget args 0)))) (Cod.dec api_TimesC (lget (toCs (lget args 1)))) (fun q0 => kf (lget [.int .i64 q0] 0, []))
noncomputable def newelref11_CheckTimes_cal {R : Type} (N : Nat) : Cal R := callM (newellaw11_FarTimes_cal N) 53 0 newelref11_CheckTimes_sp (newelref11_CheckTimes_go N)
theorem newelref11_CheckTimes_cal_ok {R : Type} (N : Nat) : CalOk E.P (newelref11_CheckTimes_cal (R := R) N) :=
  callM_ok hE (newellaw11_FarTimes_cal_ok N) (lp := newelref11_CheckTimes_lp N) (jn := noJn) (keys := [6]) (kCons (newelref11_CheckTimes_k6 N) kNil) (by kernel_rfl) (js := []) jNil (by kernel_rfl) newelref11_CheckTimes_sp_ok newelref11_CheckTimes_rs_ok (fun args T kf => Eq.trans (newelref11_CheckTimes_def N (Cod.dec api_BandC (lget (toCs (lget args 0)))) (Cod.dec api_TimesC (lget (toCs (lget args 1)))) (fun q0 => kf (lget [.int .i64 q0] 0, []))) (by kernel_rfl : newelref11_CheckTimes_run N args T kf = fnM E (newellaw11_FarTimes_cal N) (newelref11_CheckTimes_lp N) (noJn) 53 (newelref11_CheckTimes_sp.vs args) (newelref11_CheckTimes_sp.tab T) 0 (resK newelref11_CheckTimes_rs kf)))


def drive_to_m {R : Type} (N : Nat) (a51 : Int) (k : api_Span → Option R) : Option R :=
  k (api_Span.mk (0 : Int) a51)
noncomputable def drive_to {R : Type} : Nat → Int → (api_Span → Option R) → Option R := lock (@drive_to_m R)
theorem drive_to_def {R : Type} (N : Nat) (a51 : Int) (k : api_Span → Option R) : drive_to N a51 k = drive_to_m N a51 k := by unfold drive_to; rw [lock_eq]
def drive_to_sp : Sp := ⟨[rInt .i64], []⟩
theorem drive_to_sp_ok : drive_to_sp.Ok := ⟨(allCons (rInt_ok .i64) allNil), eNil⟩
def drive_to_rs : Sp := ⟨[rAgg api_SpanC], []⟩
theorem drive_to_rs_ok : drive_to_rs.Ok := ⟨(allCons (rAgg_ok api_SpanC_ok api_SpanC_len) allNil), eNil⟩
def drive_to_run {R : Type} (N : Nat) (args : List SV) (T : Tab) (kf : SV × Tab → Option R) : Option R :=
  drive_to_m N (toI (lget args 0)) (fun q0 => kf (lget [.agg (Cod.enc api_SpanC q0)] 0, []))
def drive_to_lp {R : Type} (N : Nat) : Lp R := fun body S k => Option.none
noncomputable def drive_to_go {R : Type} (N : Nat) (args : List SV) (T : Tab) (kf : SV × Tab → Option R) : Option R :=
  drive_to N (toI (lget args 0)) (fun q0 => kf (lget [.agg (Cod.enc api_SpanC q0)] 0, []))
noncomputable def drive_to_cal {R : Type} (N : Nat) : Cal R := callM (newelref11_CheckTimes_cal N) 68 0 drive_to_sp (drive_to_go N)
theorem drive_to_cal_ok {R : Type} (N : Nat) : CalOk E.P (drive_to_cal (R := R) N) :=
  callM_ok hE (newelref11_CheckTimes_cal_ok N) (lp := drive_to_lp N) (jn := noJn) (keys := []) kNil (by kernel_rfl) (js := []) jNil (by kernel_rfl) drive_to_sp_ok drive_to_rs_ok (fun args T kf => Eq.trans (drive_to_def N (toI (lget args 0)) (fun q0 => kf (lget [.agg (Cod.enc api_SpanC q0)] 0, []))) (by kernel_rfl : drive_to_run N args T kf = fnM E (newelref11_CheckTimes_cal N) (drive_to_lp N) (noJn) 68 (drive_to_sp.vs args) (drive_to_sp.tab T) 0 (resK drive_to_rs kf)))


def drive_in_m {R : Type} (N : Nat) (a53 : Int) (a54 : api_Span) (k : Bool → Option R) : Option R :=
  bif decide (api_Span.Low a54 ≤ a53) then
   k (decide (a53 ≤ api_Span.High a54))
  else
   k false
noncomputable def drive_in {R : Type} : Nat → Int → api_Span → (Bool → Option R) → Option R := lock (@drive_in_m R)
theorem drive_in_def {R : Type} (N : Nat) (a53 : Int) (a54 : api_Span) (k : Bool → Option R) : drive_in N a53 a54 k = drive_in_m N a53 a54 k := by unfold drive_in; rw [lock_eq]
def drive_in_sp : Sp := ⟨[rInt .i64, rAgg api_SpanC], []⟩
theorem drive_in_sp_ok : drive_in_sp.Ok := ⟨(allCons (rInt_ok .i64) (allCons (rAgg_ok api_SpanC_ok api_SpanC_len) allNil)), eNil⟩
def drive_in_rs : Sp := ⟨[rBool], []⟩
theorem drive_in_rs_ok : drive_in_rs.Ok := ⟨(allCons rBool_ok allNil), eNil⟩
def drive_in_run {R : Type} (N : Nat) (args : List SV) (T : Tab) (kf : SV × Tab → Option R) : Option R :=
  drive_in_m N (toI (lget args 0)) (Cod.dec api_SpanC (lget (toCs (lget args 1)))) (fun q0 => kf (lget [.bool q0] 0, []))
def drive_in_lp {R : Type} (N : Nat) : Lp R := fun body S k => Option.none
noncomputable def drive_in_go {R : Type} (N : Nat) (args : List SV) (T : Tab) (kf : SV × Tab → Option R) : Option R :=
  drive_in N (toI (lget args 0)) (Cod.dec api_SpanC (lget (toCs (lget args 1)))) (fun q0 => kf (lget [.bool q0] 0, []))
noncomputable def drive_in_cal {R : Type} (N : Nat) : Cal R := callM (drive_to_cal N) 67 0 drive_in_sp (drive_in_go N)
theorem drive_in_cal_ok {R : Type} (N : Nat) : CalOk E.P (drive_in_cal (R := R) N) :=
  callM_ok hE (drive_to_cal_ok N) (lp := drive_in_lp N) (jn := noJn) (keys := []) kNil (by kernel_rfl) (js := []) jNil (by kernel_rfl) drive_in_sp_ok drive_in_rs_ok (fun args T kf => Eq.trans (drive_in_def N (toI (lget args 0)) (Cod.dec api_SpanC (lget (toCs (lget args 1)))) (fun q0 => kf (lget [.bool q0] 0, []))) (by kernel_rfl : drive_in_run N args T kf = fnM E (drive_to_cal N) (drive_in_lp N) (noJn) 67 (drive_in_sp.vs args) (drive_in_sp.tab T) 0 (resK drive_in_rs kf)))


def drive_Check_1_m {R : Type} (N : Nat) (a63 : api_Brake) (k : Bool → Option R) : Option R :=
  drive_to N (10000000 : Int) (fun r64 =>
  drive_in N (api_Brake.Force a63) r64 (fun r65 =>
  bif r65 then
   drive_to N (20 : Int) (fun r66 =>
   drive_in N (api_Brake.Delay a63) r66 (fun r67 =>
   k r67))
  else
   k false))
noncomputable def drive_Check_1 {R : Type} : Nat → api_Brake → (Bool → Option R) → Option R := lock (@drive_Check_1_m R)
theorem drive_Check_1_def {R : Type} (N : Nat) (a63 : api_Brake) (k : Bool → Option R) : drive_Check_1 N a63 k = drive_Check_1_m N a63 k := by unfold drive_Check_1; rw [lock_eq]
def drive_Check_1_sp : Sp := ⟨[rAgg api_BrakeC], []⟩
theorem drive_Check_1_sp_ok : drive_Check_1_sp.Ok := ⟨(allCons (rAgg_ok api_BrakeC_ok api_BrakeC_len) allNil), eNil⟩
def drive_Check_1_rs : Sp := ⟨[rBool], []⟩
theorem drive_Check_1_rs_ok : drive_Check_1_rs.Ok := ⟨(allCons rBool_ok allNil), eNil⟩
def drive_Check_1_run {R : Type} (N : Nat) (args : List SV) (T : Tab) (kf : SV × Tab → Option R) : Option R :=
  drive_Check_1_m N (Cod.dec api_BrakeC (lget (toCs (lget args 0)))) (fun q0 => kf (lget [.bool q0] 0, []))
def drive_Check_1_lp {R : Type} (N : Nat) : Lp R := fun body S k => Option.none
noncomputable def drive_Check_1_go {R : Type} (N : Nat) (args : List SV) (T : Tab) (kf : SV × Tab → Option R) : Option R :=
  drive_Check_1 N (Cod.dec api_BrakeC (lget (toCs (lget args 0)))) (fun q0 => kf (lget [.bool q0] 0, []))
noncomputable def drive_Check_1_cal {R : Type} (N : Nat) : Cal R := callM (drive_in_cal N) 113 0 drive_Check_1_sp (drive_Check_1_go N)
theorem drive_Check_1_cal_ok {R : Type} (N : Nat) : CalOk E.P (drive_Check_1_cal (R := R) N) :=
  callM_ok hE (drive_in_cal_ok N) (lp := drive_Check_1_lp N) (jn := noJn) (keys := []) kNil (by kernel_rfl) (js := []) jNil (by kernel_rfl) drive_Check_1_sp_ok drive_Check_1_rs_ok (fun args T kf => Eq.trans (drive_Check_1_def N (Cod.dec api_BrakeC (lget (toCs (lget args 0)))) (fun q0 => kf (lget [.bool q0] 0, []))) (by kernel_rfl : drive_Check_1_run N args T kf = fnM E (drive_in_cal N) (drive_Check_1_lp N) (noJn) 113 (drive_Check_1_sp.vs args) (drive_Check_1_sp.tab T) 0 (resK drive_Check_1_rs kf)))

def drive_Check_L5 : LoopSp := ⟨⟨[3, 42, 43, 44], ⟨(dr 3 ((rFunc 113 0 []) :: (dr 38 ((rSl api_BrakeC) :: (rInt .i64) :: (rInt .i64) :: (dr 8 []))))), []⟩, 0⟩, [(Option.none, ⟨[2], ⟨(dr 2 ((rInt .i64) :: (dr 50 []))), []⟩, 0⟩), (some 0, ⟨[], ⟨(dr 53 []), []⟩, 0⟩)]⟩
theorem drive_Check_L5_ok : drive_Check_L5.Ok := ⟨⟨(drCons 3 (allCons (rFunc_ok 113 0 allNil) (drCons 38 (allCons (rSl_ok api_BrakeC_ok) (allCons (rInt_ok .i64) (allCons (rInt_ok .i64) (drCons 8 allNil))))))), eNil⟩, (xCons ⟨(drCons 2 (allCons (rInt_ok .i64) (drCons 50 allNil))), eNil⟩ (xCons ⟨(drCons 53 allNil), eNil⟩ xNil))⟩
def drive_Check_h5 (v60 : Arr api_Brake) (v61 : Int) (v62 : Int) : St := ⟨(un 3 ((.func 113 0 []) :: (un 38 ((slC api_BrakeC v60) :: (.int .i64 v61) :: (.int .i64 v62) :: (un 8 []))))), [], 0⟩
def drive_Check_x5_r (q0 : Int) : St := ⟨(un 2 ((.int .i64 q0) :: (un 50 []))), [], 0⟩
def drive_Check_x5_0  : St := ⟨(un 53 []), [], 0⟩
def drive_Check_b5 {R : Type} (N : Nat) (rc : Arr api_Brake → Int → Int → Option R) (v60 : Arr api_Brake) (v61 : Int) (v62 : Int) (kr : Int → Option R) (k0 : Unit → Option R) : Option R :=
  bif decide (v62 < v61) then
   bif decide ((0 : Int) ≤ v62) && decide (v62 < (↑(Arr.n v60) : Int)) then
    drive_Check_1 N (Arr.f v60 (Int.toNat v62)) (fun r68 =>
    bif !r68 then
     kr (10 : Int)
    else
     rc v60 v61 (w64 (v62 + (1 : Int))))
   else
    Option.none
  else
   k0 ()
def drive_Check_l5 {R : Type} (N : Nat) : Nat → Arr api_Brake → Int → Int → (Int → Option R) → (Unit → Option R) → Option R
  | 0, _, _, _, _, _ => Option.none
  | n + 1, v60, v61, v62, kr, k0 => drive_Check_b5 N (fun v60 v61 v62 => drive_Check_l5 N n v60 v61 v62 kr k0) v60 v61 v62 kr k0


def drive_Check_m {R : Type} (N : Nat) (a50 : api_Escalator) (k : Int → Option R) : Option R :=
  bif decide (api_Escalator.Empty a50 < (1 : Int)) then
   k (10 : Int)
  else
   bif decide (api_Escalator.Empty a50 > (100000 : Int)) then
    k (10 : Int)
   else
    drive_to N (100 : Int) (fun r52 =>
    drive_in N (api_Escalator.Pull a50) r52 (fun r55 =>
    bif !r55 then
     k (10 : Int)
    else
     drive_to N (10000000 : Int) (fun r56 =>
     drive_in N (api_Escalator.Drag a50) r56 (fun r57 =>
     bif !r57 then
      k (10 : Int)
     else
      drive_to N (10000000 : Int) (fun r58 =>
      drive_in N (api_Escalator.Motor a50) r58 (fun r59 =>
      bif !r59 then
       k (10 : Int)
      else
       bif decide ((↑(Arr.n (api_Escalator.Brakes a50)) : Int) > (3 : Int)) then
        k (10 : Int)
       else
        drive_Check_l5 N N (api_Escalator.Brakes a50) ((↑(Arr.n (api_Escalator.Brakes a50)) : Int)) (0 : Int) (fun r69 =>
         k r69) (fun (_ : Unit) =>
         k (0 : Int))))))))
noncomputable def drive_Check {R : Type} : Nat → api_Escalator → (Int → Option R) → Option R := lock (@drive_Check_m R)
theorem drive_Check_def {R : Type} (N : Nat) (a50 : api_Escalator) (k : Int → Option R) : drive_Check N a50 k = drive_Check_m N a50 k := by unfold drive_Check; rw [lock_eq]
def drive_Check_sp : Sp := ⟨[rAgg api_EscalatorC], []⟩
theorem drive_Check_sp_ok : drive_Check_sp.Ok := ⟨(allCons (rAgg_ok api_EscalatorC_ok api_EscalatorC_len) allNil), eNil⟩
def drive_Check_rs : Sp := ⟨[rInt .i64], []⟩
theorem drive_Check_rs_ok : drive_Check_rs.Ok := ⟨(allCons (rInt_ok .i64) allNil), eNil⟩
def drive_Check_run {R : Type} (N : Nat) (args : List SV) (T : Tab) (kf : SV × Tab → Option R) : Option R :=
  drive_Check_m N (Cod.dec api_EscalatorC (lget (toCs (lget args 0)))) (fun q0 => kf (lget [.int .i64 q0] 0, []))
def drive_Check_d5 {R : Type} (N : Nat) (S0 : St) (k : Exit → St → Option R) : Option R :=
  drive_Check_l5 N N (lstC api_BrakeC (lget S0.tmps 42)) (toI (lget S0.tmps 43)) (toI (lget S0.tmps 44)) (fun q0 => k .ret (drive_Check_x5_r q0)) (fun (_ : Unit) => k (.exit 0) (drive_Check_x5_0 ))
def drive_Check_lp {R : Type} (N : Nat) : Lp R := fun body S k => bif (Go.Sx.keyOf body).getD 0 == 5 then drive_Check_L5.head.raw 0 S (fun S0 => drive_Check_d5 N S0 k) else Option.none
theorem drive_Check_l5_eq {R : Type} (N : Nat) (k : Exit → St → Option R) (n : Nat) : ∀ (v0 : Arr api_Brake) (v1 : Int) (v2 : Int), loopM E.Θ (drive_Check_1_cal N) (drive_Check_lp N) (noJn) 0 drive_Check_L5 (bodyAt E 66 5) n (drive_Check_h5 v0 v1 v2) k = drive_Check_l5 N n v0 v1 v2 (fun q0 => k .ret (drive_Check_x5_r q0)) (fun (_ : Unit) => k (.exit 0) (drive_Check_x5_0 )) := by
  induction n with
  | zero => intro v0 v1 v2; rfl
  | succ n ih =>
    intro v0 v1 v2
    refine Eq.trans (b := drive_Check_b5 N (fun v0 v1 v2 => loopM E.Θ (drive_Check_1_cal N) (drive_Check_lp N) (noJn) 0 drive_Check_L5 (bodyAt E 66 5) n (drive_Check_h5 v0 v1 v2) k) v0 v1 v2 (fun q0 => k .ret (drive_Check_x5_r q0)) (fun (_ : Unit) => k (.exit 0) (drive_Check_x5_0 ))) (by kernel_rfl) ?_
    have h : (fun (v0 : Arr api_Brake) (v1 : Int) (v2 : Int) => loopM E.Θ (drive_Check_1_cal N) (drive_Check_lp N) (noJn) 0 drive_Check_L5 (bodyAt E 66 5) n (drive_Check_h5 v0 v1 v2) k) = (fun (v0 : Arr api_Brake) (v1 : Int) (v2 : Int) => drive_Check_l5 N n v0 v1 v2 (fun q0 => k .ret (drive_Check_x5_r q0)) (fun (_ : Unit) => k (.exit 0) (drive_Check_x5_0 ))) := funext fun v0 => funext fun v1 => funext fun v2 => ih v0 v1 v2
    rw [h]
    rfl
theorem drive_Check_k5 {R : Type} (N : Nat) : LpKey (R := R) E 66 0 (drive_Check_lp N) 5 :=
  lpKey_of hE (drive_Check_1_cal_ok N) (jn := noJn) drive_Check_L5_ok [] kNil (by kernel_rfl) [] jNil (by kernel_rfl) N fun S k =>
    Eq.trans (b := drive_Check_L5.head.raw 0 S (fun S0 => drive_Check_d5 N S0 k)) (by kernel_rfl) (congrArg (drive_Check_L5.head.raw 0 S) (funext fun S0 => Eq.trans (drive_Check_l5_eq N k N (lstC api_BrakeC (lget S0.tmps 42)) (toI (lget S0.tmps 43)) (toI (lget S0.tmps 44))).symm (by kernel_rfl)))
noncomputable def drive_Check_go {R : Type} (N : Nat) (args : List SV) (T : Tab) (kf : SV × Tab → Option R) : Option R :=
  drive_Check N (Cod.dec api_EscalatorC (lget (toCs (lget args 0)))) (fun q0 => kf (lget [.int .i64 q0] 0, []))
noncomputable def drive_Check_cal {R : Type} (N : Nat) : Cal R := callM (drive_Check_1_cal N) 66 0 drive_Check_sp (drive_Check_go N)
theorem drive_Check_cal_ok {R : Type} (N : Nat) : CalOk E.P (drive_Check_cal (R := R) N) :=
  callM_ok hE (drive_Check_1_cal_ok N) (lp := drive_Check_lp N) (jn := noJn) (keys := [5]) (kCons (drive_Check_k5 N) kNil) (by kernel_rfl) (js := []) jNil (by kernel_rfl) drive_Check_sp_ok drive_Check_rs_ok (fun args T kf => Eq.trans (drive_Check_def N (Cod.dec api_EscalatorC (lget (toCs (lget args 0)))) (fun q0 => kf (lget [.int .i64 q0] 0, []))) (by kernel_rfl : drive_Check_run N args T kf = fnM E (drive_Check_1_cal N) (drive_Check_lp N) (noJn) 66 (drive_Check_sp.vs args) (drive_Check_sp.tab T) 0 (resK drive_Check_rs kf)))


def drive_Capacity_1_m {R : Type} (N : Nat) (a71 : Int) (a72 : Bool) (a73 : Int) (a74 : Int) (a75 : Int) (a76 : Int) (a77 : Arr api_Brake) (k : Bool → Option R) : Option R :=
  bif a72 then
   k (decide (w64 (w64 (a74 * a71) + a75) ≤ a76))
  else
   k (decide (w64 (w64 (a74 * a71) - a75) ≤ a76))
noncomputable def drive_Capacity_1 {R : Type} : Nat → Int → Bool → Int → Int → Int → Int → Arr api_Brake → (Bool → Option R) → Option R := lock (@drive_Capacity_1_m R)
theorem drive_Capacity_1_def {R : Type} (N : Nat) (a71 : Int) (a72 : Bool) (a73 : Int) (a74 : Int) (a75 : Int) (a76 : Int) (a77 : Arr api_Brake) (k : Bool → Option R) : drive_Capacity_1 N a71 a72 a73 a74 a75 a76 a77 k = drive_Capacity_1_m N a71 a72 a73 a74 a75 a76 a77 k := by unfold drive_Capacity_1; rw [lock_eq]
def drive_Capacity_1_sp : Sp := ⟨[rInt .i64, rPtr 0 0], [(0, eBlk [rBool, rInt .i64, rInt .i64, rInt .i64, rInt .i64, rSl api_BrakeC])]⟩
theorem drive_Capacity_1_sp_ok : drive_Capacity_1_sp.Ok := ⟨(allCons (rInt_ok .i64) (allCons (rPtr_ok 0 0) allNil)), (eCons (eBlk_ok (allCons rBool_ok (allCons (rInt_ok .i64) (allCons (rInt_ok .i64) (allCons (rInt_ok .i64) (allCons (rInt_ok .i64) (allCons (rSl_ok api_BrakeC_ok) allNil))))))) eNil)⟩
def drive_Capacity_1_rs : Sp := ⟨[rBool], [(0, eBlk [rBool, rInt .i64, rInt .i64, rInt .i64, rInt .i64, rSl api_BrakeC])]⟩
theorem drive_Capacity_1_rs_ok : drive_Capacity_1_rs.Ok := ⟨(allCons rBool_ok allNil), (eCons (eBlk_ok (allCons rBool_ok (allCons (rInt_ok .i64) (allCons (rInt_ok .i64) (allCons (rInt_ok .i64) (allCons (rInt_ok .i64) (allCons (rSl_ok api_BrakeC_ok) allNil))))))) eNil)⟩
def drive_Capacity_1_run {R : Type} (N : Nat) (args : List SV) (T : Tab) (kf : SV × Tab → Option R) : Option R :=
  drive_Capacity_1_m N (toI (lget args 0)) (toB (lget (entCs (entAt T 0)) 0)) (toI (lget (entCs (entAt T 0)) 1)) (toI (lget (entCs (entAt T 0)) 2)) (toI (lget (entCs (entAt T 0)) 3)) (toI (lget (entCs (entAt T 0)) 4)) (lstC api_BrakeC (lget (entCs (entAt T 0)) 5)) (fun q0 => kf (lget [.bool q0] 0, [(0, .blk [.bool (toB (lget (entCs (entAt T 0)) 0)), .int .i64 (toI (lget (entCs (entAt T 0)) 1)), .int .i64 (toI (lget (entCs (entAt T 0)) 2)), .int .i64 (toI (lget (entCs (entAt T 0)) 3)), .int .i64 (toI (lget (entCs (entAt T 0)) 4)), slC api_BrakeC (lstC api_BrakeC (lget (entCs (entAt T 0)) 5))])]))
def drive_Capacity_1_lp {R : Type} (N : Nat) : Lp R := fun body S k => Option.none
noncomputable def drive_Capacity_1_go {R : Type} (N : Nat) (args : List SV) (T : Tab) (kf : SV × Tab → Option R) : Option R :=
  drive_Capacity_1 N (toI (lget args 0)) (toB (lget (entCs (entAt T 0)) 0)) (toI (lget (entCs (entAt T 0)) 1)) (toI (lget (entCs (entAt T 0)) 2)) (toI (lget (entCs (entAt T 0)) 3)) (toI (lget (entCs (entAt T 0)) 4)) (lstC api_BrakeC (lget (entCs (entAt T 0)) 5)) (fun q0 => kf (lget [.bool q0] 0, [(0, .blk [.bool (toB (lget (entCs (entAt T 0)) 0)), .int .i64 (toI (lget (entCs (entAt T 0)) 1)), .int .i64 (toI (lget (entCs (entAt T 0)) 2)), .int .i64 (toI (lget (entCs (entAt T 0)) 3)), .int .i64 (toI (lget (entCs (entAt T 0)) 4)), slC api_BrakeC (lstC api_BrakeC (lget (entCs (entAt T 0)) 5))])]))
noncomputable def drive_Capacity_1_cal {R : Type} (N : Nat) : Cal R := callM (drive_Check_cal N) 108 1 drive_Capacity_1_sp (drive_Capacity_1_go N)
theorem drive_Capacity_1_cal_ok {R : Type} (N : Nat) : CalOk E.P (drive_Capacity_1_cal (R := R) N) :=
  callM_ok hE (drive_Check_cal_ok N) (lp := drive_Capacity_1_lp N) (jn := noJn) (keys := []) kNil (by kernel_rfl) (js := []) jNil (by kernel_rfl) drive_Capacity_1_sp_ok drive_Capacity_1_rs_ok (fun args T kf => Eq.trans (drive_Capacity_1_def N (toI (lget args 0)) (toB (lget (entCs (entAt T 0)) 0)) (toI (lget (entCs (entAt T 0)) 1)) (toI (lget (entCs (entAt T 0)) 2)) (toI (lget (entCs (entAt T 0)) 3)) (toI (lget (entCs (entAt T 0)) 4)) (lstC api_BrakeC (lget (entCs (entAt T 0)) 5)) (fun q0 => kf (lget [.bool q0] 0, [(0, .blk [.bool (toB (lget (entCs (entAt T 0)) 0)), .int .i64 (toI (lget (entCs (entAt T 0)) 1)), .int .i64 (toI (lget (entCs (entAt T 0)) 2)), .int .i64 (toI (lget (entCs (entAt T 0)) 3)), .int .i64 (toI (lget (entCs (entAt T 0)) 4)), slC api_BrakeC (lstC api_BrakeC (lget (entCs (entAt T 0)) 5))])]))) (by kernel_rfl : drive_Capacity_1_run N args T kf = fnM E (drive_Check_cal N) (drive_Capacity_1_lp N) (noJn) 108 (drive_Capacity_1_sp.vs args) (drive_Capacity_1_sp.tab T) 1 (resK drive_Capacity_1_rs kf)))

def drive_Capacity_L8 : LoopSp := ⟨⟨[5, 6, 7], ⟨(dr 5 ((rFunc 108 0 [rPtr 0 0]) :: (rInt .i64) :: (rInt .i64) :: (dr 25 []))), [(0, eBlk [rBool, rInt .i64, rInt .i64, rInt .i64, rInt .i64, rSl api_BrakeC])]⟩, 1⟩, [(some 0, ⟨[6], ⟨(dr 6 ((rInt .i64) :: (dr 26 []))), []⟩, 0⟩)]⟩
theorem drive_Capacity_L8_ok : drive_Capacity_L8.Ok := ⟨⟨(drCons 5 (allCons (rFunc_ok 108 0 (allCons (rPtr_ok 0 0) allNil)) (allCons (rInt_ok .i64) (allCons (rInt_ok .i64) (drCons 25 allNil))))), (eCons (eBlk_ok (allCons rBool_ok (allCons (rInt_ok .i64) (allCons (rInt_ok .i64) (allCons (rInt_ok .i64) (allCons (rInt_ok .i64) (allCons (rSl_ok api_BrakeC_ok) allNil))))))) eNil)⟩, (xCons ⟨(drCons 6 (allCons (rInt_ok .i64) (drCons 26 allNil))), eNil⟩ xNil)⟩
def drive_Capacity_h8 (v79 : Int) (v80 : Int) (v81 : Bool) (v82 : Int) (v83 : Int) (v84 : Int) (v85 : Int) (v86 : Arr api_Brake) : St := ⟨(un 5 ((.func 108 0 [.ptr 0 0]) :: (.int .i64 v79) :: (.int .i64 v80) :: (un 25 []))), [(0, .blk [.bool v81, .int .i64 v82, .int .i64 v83, .int .i64 v84, .int .i64 v85, slC api_BrakeC v86])], 1⟩
def drive_Capacity_x8_0 (q0 : Int) : St := ⟨(un 6 ((.int .i64 q0) :: (un 26 []))), [], 0⟩
def drive_Capacity_b8 {R : Type} (N : Nat) (rc : Int → Int → Bool → Int → Int → Int → Int → Arr api_Brake → Option R) (v79 : Int) (v80 : Int) (v81 : Bool) (v82 : Int) (v83 : Int) (v84 : Int) (v85 : Int) (v86 : Arr api_Brake) (k0 : Int → Option R) : Option R :=
  bif decide (v79 < v80) then
   drive_Capacity_1 N (w64 (Int.tdiv (w64 (w64 (v79 + v80) + (1 : Int))) (2 : Int))) v81 v82 v83 v84 v85 v86 (fun r87 =>
   bif r87 then
    rc (w64 (Int.tdiv (w64 (w64 (v79 + v80) + (1 : Int))) (2 : Int))) v80 v81 v82 v83 v84 v85 v86
   else
    rc v79 (w64 (w64 (Int.tdiv (w64 (w64 (v79 + v80) + (1 : Int))) (2 : Int)) - (1 : Int))) v81 v82 v83 v84 v85 v86)
  else
   k0 v79
def drive_Capacity_l8 {R : Type} (N : Nat) : Nat → Int → Int → Bool → Int → Int → Int → Int → Arr api_Brake → (Int → Option R) → Option R
  | 0, _, _, _, _, _, _, _, _, _ => Option.none
  | n + 1, v79, v80, v81, v82, v83, v84, v85, v86, k0 => drive_Capacity_b8 N (fun v79 v80 v81 v82 v83 v84 v85 v86 => drive_Capacity_l8 N n v79 v80 v81 v82 v83 v84 v85 v86 k0) v79 v80 v81 v82 v83 v84 v85 v86 k0


def drive_Capacity_m {R : Type} (N : Nat) (a49 : api_Escalator) (k : Int → Int → Option R) : Option R :=
  drive_Check N a49 (fun r70 =>
  bif r70 != (0 : Int) then
   k (0 : Int) r70
  else
   drive_Capacity_1 N (0 : Int) (api_Escalator.Up a49) (api_Escalator.Empty a49) (api_Escalator.Pull a49) (api_Escalator.Drag a49) (api_Escalator.Motor a49) (api_Escalator.Brakes a49) (fun r78 =>
   bif !r78 then
    k (0 : Int) (1 : Int)
   else
    drive_Capacity_l8 N N (0 : Int) (100000 : Int) (api_Escalator.Up a49) (api_Escalator.Empty a49) (api_Escalator.Pull a49) (api_Escalator.Drag a49) (api_Escalator.Motor a49) (api_Escalator.Brakes a49) (fun r88 =>
     k r88 (0 : Int))))
noncomputable def drive_Capacity {R : Type} : Nat → api_Escalator → (Int → Int → Option R) → Option R := lock (@drive_Capacity_m R)
theorem drive_Capacity_def {R : Type} (N : Nat) (a49 : api_Escalator) (k : Int → Int → Option R) : drive_Capacity N a49 k = drive_Capacity_m N a49 k := by unfold drive_Capacity; rw [lock_eq]
def drive_Capacity_sp : Sp := ⟨[rAgg api_EscalatorC], []⟩
theorem drive_Capacity_sp_ok : drive_Capacity_sp.Ok := ⟨(allCons (rAgg_ok api_EscalatorC_ok api_EscalatorC_len) allNil), eNil⟩
def drive_Capacity_rs : Sp := ⟨[rTup [rInt .i64, rInt .i64]], []⟩
theorem drive_Capacity_rs_ok : drive_Capacity_rs.Ok := ⟨(allCons (rTup_ok (allCons (rInt_ok .i64) (allCons (rInt_ok .i64) allNil))) allNil), eNil⟩
def drive_Capacity_run {R : Type} (N : Nat) (args : List SV) (T : Tab) (kf : SV × Tab → Option R) : Option R :=
  drive_Capacity_m N (Cod.dec api_EscalatorC (lget (toCs (lget args 0)))) (fun q0 q1 => kf (lget [.tup [.int .i64 q0, .int .i64 q1]] 0, []))
def drive_Capacity_d8 {R : Type} (N : Nat) (S0 : St) (k : Exit → St → Option R) : Option R :=
  drive_Capacity_l8 N N (toI (lget S0.tmps 6)) (toI (lget S0.tmps 7)) (toB (lget (entCs (entAt S0.tab 0)) 0)) (toI (lget (entCs (entAt S0.tab 0)) 1)) (toI (lget (entCs (entAt S0.tab 0)) 2)) (toI (lget (entCs (entAt S0.tab 0)) 3)) (toI (lget (entCs (entAt S0.tab 0)) 4)) (lstC api_BrakeC (lget (entCs (entAt S0.tab 0)) 5)) (fun q0 => k (.exit 0) (drive_Capacity_x8_0 q0))
def drive_Capacity_lp {R : Type} (N : Nat) : Lp R := fun body S k => bif (Go.Sx.keyOf body).getD 0 == 8 then drive_Capacity_L8.head.raw 0 S (fun S0 => drive_Capacity_d8 N S0 k) else Option.none
theorem drive_Capacity_l8_eq {R : Type} (N : Nat) (k : Exit → St → Option R) (n : Nat) : ∀ (v0 : Int) (v1 : Int) (v2 : Bool) (v3 : Int) (v4 : Int) (v5 : Int) (v6 : Int) (v7 : Arr api_Brake), loopM E.Θ (drive_Capacity_1_cal N) (drive_Capacity_lp N) (noJn) 0 drive_Capacity_L8 (bodyAt E 54 8) n (drive_Capacity_h8 v0 v1 v2 v3 v4 v5 v6 v7) k = drive_Capacity_l8 N n v0 v1 v2 v3 v4 v5 v6 v7 (fun q0 => k (.exit 0) (drive_Capacity_x8_0 q0)) := by
  induction n with
  | zero => intro v0 v1 v2 v3 v4 v5 v6 v7; rfl
  | succ n ih =>
    intro v0 v1 v2 v3 v4 v5 v6 v7
    refine Eq.trans (b := drive_Capacity_b8 N (fun v0 v1 v2 v3 v4 v5 v6 v7 => loopM E.Θ (drive_Capacity_1_cal N) (drive_Capacity_lp N) (noJn) 0 drive_Capacity_L8 (bodyAt E 54 8) n (drive_Capacity_h8 v0 v1 v2 v3 v4 v5 v6 v7) k) v0 v1 v2 v3 v4 v5 v6 v7 (fun q0 => k (.exit 0) (drive_Capacity_x8_0 q0))) (by kernel_rfl) ?_
    have h : (fun (v0 : Int) (v1 : Int) (v2 : Bool) (v3 : Int) (v4 : Int) (v5 : Int) (v6 : Int) (v7 : Arr api_Brake) => loopM E.Θ (drive_Capacity_1_cal N) (drive_Capacity_lp N) (noJn) 0 drive_Capacity_L8 (bodyAt E 54 8) n (drive_Capacity_h8 v0 v1 v2 v3 v4 v5 v6 v7) k) = (fun (v0 : Int) (v1 : Int) (v2 : Bool) (v3 : Int) (v4 : Int) (v5 : Int) (v6 : Int) (v7 : Arr api_Brake) => drive_Capacity_l8 N n v0 v1 v2 v3 v4 v5 v6 v7 (fun q0 => k (.exit 0) (drive_Capacity_x8_0 q0))) := funext fun v0 => funext fun v1 => funext fun v2 => funext fun v3 => funext fun v4 => funext fun v5 => funext fun v6 => funext fun v7 => ih v0 v1 v2 v3 v4 v5 v6 v7
    rw [h]
    rfl
theorem drive_Capacity_k8 {R : Type} (N : Nat) : LpKey (R := R) E 54 0 (drive_Capacity_lp N) 8 :=
  lpKey_of hE (drive_Capacity_1_cal_ok N) (jn := noJn) drive_Capacity_L8_ok [] kNil (by kernel_rfl) [] jNil (by kernel_rfl) N fun S k =>
    Eq.trans (b := drive_Capacity_L8.head.raw 0 S (fun S0 => drive_Capacity_d8 N S0 k)) (by kernel_rfl) (congrArg (drive_Capacity_L8.head.raw 0 S) (funext fun S0 => Eq.trans (drive_Capacity_l8_eq N k N (toI (lget S0.tmps 6)) (toI (lget S0.tmps 7)) (toB (lget (entCs (entAt S0.tab 0)) 0)) (toI (lget (entCs (entAt S0.tab 0)) 1)) (toI (lget (entCs (entAt S0.tab 0)) 2)) (toI (lget (entCs (entAt S0.tab 0)) 3)) (toI (lget (entCs (entAt S0.tab 0)) 4)) (lstC api_BrakeC (lget (entCs (entAt S0.tab 0)) 5))).symm (by kernel_rfl)))
noncomputable def drive_Capacity_go {R : Type} (N : Nat) (args : List SV) (T : Tab) (kf : SV × Tab → Option R) : Option R :=
  drive_Capacity N (Cod.dec api_EscalatorC (lget (toCs (lget args 0)))) (fun q0 q1 => kf (lget [.tup [.int .i64 q0, .int .i64 q1]] 0, []))
noncomputable def drive_Capacity_cal {R : Type} (N : Nat) : Cal R := callM (drive_Capacity_1_cal N) 54 0 drive_Capacity_sp (drive_Capacity_go N)
theorem drive_Capacity_cal_ok {R : Type} (N : Nat) : CalOk E.P (drive_Capacity_cal (R := R) N) :=
  callM_ok hE (drive_Capacity_1_cal_ok N) (lp := drive_Capacity_lp N) (jn := noJn) (keys := [8]) (kCons (drive_Capacity_k8 N) kNil) (by kernel_rfl) (js := []) jNil (by kernel_rfl) drive_Capacity_sp_ok drive_Capacity_rs_ok (fun args T kf => Eq.trans (drive_Capacity_def N (Cod.dec api_EscalatorC (lget (toCs (lget args 0)))) (fun q0 q1 => kf (lget [.tup [.int .i64 q0, .int .i64 q1]] 0, []))) (by kernel_rfl : drive_Capacity_run N args T kf = fnM E (drive_Capacity_1_cal N) (drive_Capacity_lp N) (noJn) 54 (drive_Capacity_sp.vs args) (drive_Capacity_sp.tab T) 0 (resK drive_Capacity_rs kf)))


def energy_from0_m {R : Type} (N : Nat) (a94 : Int) (a95 : Int) (k : Bool → Option R) : Option R :=
  bif decide (a94 ≥ (0 : Int)) then
   k (decide (a94 ≤ a95))
  else
   k false
noncomputable def energy_from0 {R : Type} : Nat → Int → Int → (Bool → Option R) → Option R := lock (@energy_from0_m R)
theorem energy_from0_def {R : Type} (N : Nat) (a94 : Int) (a95 : Int) (k : Bool → Option R) : energy_from0 N a94 a95 k = energy_from0_m N a94 a95 k := by unfold energy_from0; rw [lock_eq]
def energy_from0_sp : Sp := ⟨[rInt .i64, rInt .i64], []⟩
theorem energy_from0_sp_ok : energy_from0_sp.Ok := ⟨(allCons (rInt_ok .i64) (allCons (rInt_ok .i64) allNil)), eNil⟩
def energy_from0_rs : Sp := ⟨[rBool], []⟩
theorem energy_from0_rs_ok : energy_from0_rs.Ok := ⟨(allCons rBool_ok allNil), eNil⟩
def energy_from0_run {R : Type} (N : Nat) (args : List SV) (T : Tab) (kf : SV × Tab → Option R) : Option R :=
  energy_from0_m N (toI (lget args 0)) (toI (lget args 1)) (fun q0 => kf (lget [.bool q0] 0, []))
def energy_from0_lp {R : Type} (N : Nat) : Lp R := fun body S k => Option.none
noncomputable def energy_from0_go {R : Type} (N : Nat) (args : List SV) (T : Tab) (kf : SV × Tab → Option R) : Option R :=
  energy_from0 N (toI (lget args 0)) (toI (lget args 1)) (fun q0 => kf (lget [.bool q0] 0, []))
noncomputable def energy_from0_cal {R : Type} (N : Nat) : Cal R := callM (drive_Capacity_cal N) 112 0 energy_from0_sp (energy_from0_go N)
theorem energy_from0_cal_ok {R : Type} (N : Nat) : CalOk E.P (energy_from0_cal (R := R) N) :=
  callM_ok hE (drive_Capacity_cal_ok N) (lp := energy_from0_lp N) (jn := noJn) (keys := []) kNil (by kernel_rfl) (js := []) jNil (by kernel_rfl) energy_from0_sp_ok energy_from0_rs_ok (fun args T kf => Eq.trans (energy_from0_def N (toI (lget args 0)) (toI (lget args 1)) (fun q0 => kf (lget [.bool q0] 0, []))) (by kernel_rfl : energy_from0_run N args T kf = fnM E (drive_Capacity_cal N) (energy_from0_lp N) (noJn) 112 (energy_from0_sp.vs args) (energy_from0_sp.tab T) 0 (resK energy_from0_rs kf)))

def energy_Check_L7 : LoopSp := ⟨⟨[3, 67, 68, 69], ⟨(dr 3 ((rInt .i64) :: (dr 63 ((rSl intC) :: (rInt .i64) :: (rInt .i64) :: (dr 12 []))))), []⟩, 0⟩, [(Option.none, ⟨[2], ⟨(dr 2 ((rInt .i64) :: (dr 79 []))), []⟩, 0⟩), (some 0, ⟨[], ⟨(dr 82 []), []⟩, 0⟩)]⟩
theorem energy_Check_L7_ok : energy_Check_L7.Ok := ⟨⟨(drCons 3 (allCons (rInt_ok .i64) (drCons 63 (allCons (rSl_ok intC_ok) (allCons (rInt_ok .i64) (allCons (rInt_ok .i64) (drCons 12 allNil))))))), eNil⟩, (xCons ⟨(drCons 2 (allCons (rInt_ok .i64) (drCons 79 allNil))), eNil⟩ (xCons ⟨(drCons 82 allNil), eNil⟩ xNil))⟩
def energy_Check_h7 (v101 : Int) (v102 : Arr Int) (v103 : Int) (v104 : Int) : St := ⟨(un 3 ((.int .i64 v101) :: (un 63 ((slC intC v102) :: (.int .i64 v103) :: (.int .i64 v104) :: (un 12 []))))), [], 0⟩
def energy_Check_x7_r (q0 : Int) : St := ⟨(un 2 ((.int .i64 q0) :: (un 79 []))), [], 0⟩
def energy_Check_x7_0  : St := ⟨(un 82 []), [], 0⟩
def energy_Check_b7 {R : Type} (N : Nat) (rc : Int → Arr Int → Int → Int → Option R) (v101 : Int) (v102 : Arr Int) (v103 : Int) (v104 : Int) (kr : Int → Option R) (k0 : Unit → Option R) : Option R :=
  bif decide (v104 < v103) then
   bif decide ((0 : Int) ≤ v104) && decide (v104 < (↑(Arr.n v102) : Int)) then
    bif decide (Arr.f v102 (Int.toNat v104) ≤ v101) then
     kr (110 : Int)
    else
     bif decide (Arr.f v102 (Int.toNat v104) > (100 : Int)) then
      kr (110 : Int)
     else
      rc (Arr.f v102 (Int.toNat v104)) v102 v103 (w64 (v104 + (1 : Int)))
   else
    Option.none
  else
   k0 ()
def energy_Check_l7 {R : Type} (N : Nat) : Nat → Int → Arr Int → Int → Int → (Int → Option R) → (Unit → Option R) → Option R
  | 0, _, _, _, _, _, _ => Option.none
  | n + 1, v101, v102, v103, v104, kr, k0 => energy_Check_b7 N (fun v101 v102 v103 v104 => energy_Check_l7 N n v101 v102 v103 v104 kr k0) v101 v102 v103 v104 kr k0


def energy_Check_m {R : Type} (N : Nat) (a93 : api_Band) (k : Int → Option R) : Option R :=
  energy_from0 N (api_Band.Pull a93) (100 : Int) (fun r96 =>
  bif !r96 then
   k (110 : Int)
  else
   energy_from0 N (api_Band.Drag a93) (1000000 : Int) (fun r97 =>
   bif !r97 then
    k (110 : Int)
   else
    energy_from0 N (api_Band.Body a93) (100 : Int) (fun r98 =>
    bif !r98 then
     k (110 : Int)
    else
     bif decide (api_Band.Ride a93 < (1 : Int)) then
      k (110 : Int)
     else
      bif decide (api_Band.Ride a93 > (1000 : Int)) then
       k (110 : Int)
      else
       energy_from0 N (api_Band.Most a93) (100000000 : Int) (fun r99 =>
       bif !r99 then
        k (110 : Int)
       else
        bif decide (api_Band.Den a93 < (1 : Int)) then
         k (110 : Int)
        else
         bif decide (api_Band.Den a93 > (100 : Int)) then
          k (110 : Int)
         else
          energy_from0 N (api_Band.Num a93) (api_Band.Den a93) (fun r100 =>
          bif !r100 then
           k (110 : Int)
          else
           bif decide ((↑(Arr.n (api_Band.Paces a93)) : Int) < (1 : Int)) then
            k (110 : Int)
           else
            bif decide ((↑(Arr.n (api_Band.Paces a93)) : Int) > (3 : Int)) then
             k (110 : Int)
            else
             energy_Check_l7 N N (0 : Int) (api_Band.Paces a93) ((↑(Arr.n (api_Band.Paces a93)) : Int)) (0 : Int) (fun r105 =>
              k r105) (fun (_ : Unit) =>
              k (0 : Int)))))))
noncomputable def energy_Check {R : Type} : Nat → api_Band → (Int → Option R) → Option R := lock (@energy_Check_m R)
theorem energy_Check_def {R : Type} (N : Nat) (a93 : api_Band) (k : Int → Option R) : energy_Check N a93 k = energy_Check_m N a93 k := by unfold energy_Check; rw [lock_eq]
def energy_Check_sp : Sp := ⟨[rAgg api_BandC], []⟩
theorem energy_Check_sp_ok : energy_Check_sp.Ok := ⟨(allCons (rAgg_ok api_BandC_ok api_BandC_len) allNil), eNil⟩
def energy_Check_rs : Sp := ⟨[rInt .i64], []⟩
theorem energy_Check_rs_ok : energy_Check_rs.Ok := ⟨(allCons (rInt_ok .i64) allNil), eNil⟩
def energy_Check_run {R : Type} (N : Nat) (args : List SV) (T : Tab) (kf : SV × Tab → Option R) : Option R :=
  energy_Check_m N (Cod.dec api_BandC (lget (toCs (lget args 0)))) (fun q0 => kf (lget [.int .i64 q0] 0, []))
def energy_Check_d7 {R : Type} (N : Nat) (S0 : St) (k : Exit → St → Option R) : Option R :=
  energy_Check_l7 N N (toI (lget S0.tmps 3)) (lstC intC (lget S0.tmps 67)) (toI (lget S0.tmps 68)) (toI (lget S0.tmps 69)) (fun q0 => k .ret (energy_Check_x7_r q0)) (fun (_ : Unit) => k (.exit 0) (energy_Check_x7_0 ))
def energy_Check_lp {R : Type} (N : Nat) : Lp R := fun body S k => bif (Go.Sx.keyOf body).getD 0 == 7 then energy_Check_L7.head.raw 0 S (fun S0 => energy_Check_d7 N S0 k) else Option.none
theorem energy_Check_l7_eq {R : Type} (N : Nat) (k : Exit → St → Option R) (n : Nat) : ∀ (v0 : Int) (v1 : Arr Int) (v2 : Int) (v3 : Int), loopM E.Θ (energy_from0_cal N) (energy_Check_lp N) (noJn) 0 energy_Check_L7 (bodyAt E 111 7) n (energy_Check_h7 v0 v1 v2 v3) k = energy_Check_l7 N n v0 v1 v2 v3 (fun q0 => k .ret (energy_Check_x7_r q0)) (fun (_ : Unit) => k (.exit 0) (energy_Check_x7_0 )) := by
  induction n with
  | zero => intro v0 v1 v2 v3; rfl
  | succ n ih =>
    intro v0 v1 v2 v3
    refine Eq.trans (b := energy_Check_b7 N (fun v0 v1 v2 v3 => loopM E.Θ (energy_from0_cal N) (energy_Check_lp N) (noJn) 0 energy_Check_L7 (bodyAt E 111 7) n (energy_Check_h7 v0 v1 v2 v3) k) v0 v1 v2 v3 (fun q0 => k .ret (energy_Check_x7_r q0)) (fun (_ : Unit) => k (.exit 0) (energy_Check_x7_0 ))) (by kernel_rfl) ?_
    have h : (fun (v0 : Int) (v1 : Arr Int) (v2 : Int) (v3 : Int) => loopM E.Θ (energy_from0_cal N) (energy_Check_lp N) (noJn) 0 energy_Check_L7 (bodyAt E 111 7) n (energy_Check_h7 v0 v1 v2 v3) k) = (fun (v0 : Int) (v1 : Arr Int) (v2 : Int) (v3 : Int) => energy_Check_l7 N n v0 v1 v2 v3 (fun q0 => k .ret (energy_Check_x7_r q0)) (fun (_ : Unit) => k (.exit 0) (energy_Check_x7_0 ))) := funext fun v0 => funext fun v1 => funext fun v2 => funext fun v3 => ih v0 v1 v2 v3
    rw [h]
    rfl
theorem energy_Check_k7 {R : Type} (N : Nat) : LpKey (R := R) E 111 0 (energy_Check_lp N) 7 :=
  lpKey_of hE (energy_from0_cal_ok N) (jn := noJn) energy_Check_L7_ok [] kNil (by kernel_rfl) [] jNil (by kernel_rfl) N fun S k =>
    Eq.trans (b := energy_Check_L7.head.raw 0 S (fun S0 => energy_Check_d7 N S0 k)) (by kernel_rfl) (congrArg (energy_Check_L7.head.raw 0 S) (funext fun S0 => Eq.trans (energy_Check_l7_eq N k N (toI (lget S0.tmps 3)) (lstC intC (lget S0.tmps 67)) (toI (lget S0.tmps 68)) (toI (lget S0.tmps 69))).symm (by kernel_rfl)))
noncomputable def energy_Check_go {R : Type} (N : Nat) (args : List SV) (T : Tab) (kf : SV × Tab → Option R) : Option R :=
  energy_Check N (Cod.dec api_BandC (lget (toCs (lget args 0)))) (fun q0 => kf (lget [.int .i64 q0] 0, []))
noncomputable def energy_Check_cal {R : Type} (N : Nat) : Cal R := callM (energy_from0_cal N) 111 0 energy_Check_sp (energy_Check_go N)
theorem energy_Check_cal_ok {R : Type} (N : Nat) : CalOk E.P (energy_Check_cal (R := R) N) :=
  callM_ok hE (energy_from0_cal_ok N) (lp := energy_Check_lp N) (jn := noJn) (keys := [7]) (kCons (energy_Check_k7 N) kNil) (by kernel_rfl) (js := []) jNil (by kernel_rfl) energy_Check_sp_ok energy_Check_rs_ok (fun args T kf => Eq.trans (energy_Check_def N (Cod.dec api_BandC (lget (toCs (lget args 0)))) (fun q0 => kf (lget [.int .i64 q0] 0, []))) (by kernel_rfl : energy_Check_run N args T kf = fnM E (energy_from0_cal N) (energy_Check_lp N) (noJn) 111 (energy_Check_sp.vs args) (energy_Check_sp.tab T) 0 (resK energy_Check_rs kf)))

def energy_checkTimes_L7 : LoopSp := ⟨⟨[30, 31, 32], ⟨(dr 30 ((rSl api_PeriodC) :: (rInt .i64) :: (rInt .i64) :: (dr 34 []))), []⟩, 0⟩, [(Option.none, ⟨[4], ⟨(dr 4 ((rInt .i64) :: (dr 62 []))), []⟩, 0⟩), (some 0, ⟨[], ⟨(dr 67 []), []⟩, 0⟩)]⟩
theorem energy_checkTimes_L7_ok : energy_checkTimes_L7.Ok := ⟨⟨(drCons 30 (allCons (rSl_ok api_PeriodC_ok) (allCons (rInt_ok .i64) (allCons (rInt_ok .i64) (drCons 34 allNil))))), eNil⟩, (xCons ⟨(drCons 4 (allCons (rInt_ok .i64) (drCons 62 allNil))), eNil⟩ (xCons ⟨(drCons 67 allNil), eNil⟩ xNil))⟩
def energy_checkTimes_h7 (v108 : Arr api_Period) (v109 : Int) (v110 : Int) : St := ⟨(un 30 ((slC api_PeriodC v108) :: (.int .i64 v109) :: (.int .i64 v110) :: (un 34 []))), [], 0⟩
def energy_checkTimes_x7_r (q0 : Int) : St := ⟨(un 4 ((.int .i64 q0) :: (un 62 []))), [], 0⟩
def energy_checkTimes_x7_0  : St := ⟨(un 67 []), [], 0⟩
def energy_checkTimes_b7 {R : Type} (N : Nat) (rc : Arr api_Period → Int → Int → Option R) (v108 : Arr api_Period) (v109 : Int) (v110 : Int) (kr : Int → Option R) (k0 : Unit → Option R) : Option R :=
  bif decide (v110 < v109) then
   bif decide ((0 : Int) ≤ v110) && decide (v110 < (↑(Arr.n v108) : Int)) then
    bif decide (api_Period.Lasts (Arr.f v108 (Int.toNat v110)) < (1 : Int)) then
     kr (111 : Int)
    else
     bif decide (api_Period.Lasts (Arr.f v108 (Int.toNat v110)) > (1000 : Int)) then
      kr (111 : Int)
     else
      energy_from0 N (api_Period.Price (Arr.f v108 (Int.toNat v110))) (100 : Int) (fun r111 =>
      bif !r111 then
       kr (111 : Int)
      else
       energy_from0 N (api_Span.Low (api_Period.Flow (Arr.f v108 (Int.toNat v110)))) (api_Span.High (api_Period.Flow (Arr.f v108 (Int.toNat v110)))) (fun r112 =>
       bif !r112 then
        kr (111 : Int)
       else
        bif decide (api_Span.High (api_Period.Flow (Arr.f v108 (Int.toNat v110))) > (100 : Int)) then
         kr (111 : Int)
        else
         rc v108 v109 (w64 (v110 + (1 : Int)))))
   else
    Option.none
  else
   k0 ()
def energy_checkTimes_l7 {R : Type} (N : Nat) : Nat → Arr api_Period → Int → Int → (Int → Option R) → (Unit → Option R) → Option R
  | 0, _, _, _, _, _ => Option.none
  | n + 1, v108, v109, v110, kr, k0 => energy_checkTimes_b7 N (fun v108 v109 v110 => energy_checkTimes_l7 N n v108 v109 v110 kr k0) v108 v109 v110 kr k0


def energy_checkTimes_m {R : Type} (N : Nat) (a91 : api_Band) (a92 : api_Times) (k : Int → Option R) : Option R :=
  energy_Check N a91 (fun r106 =>
  bif r106 != (0 : Int) then
   k r106
  else
   bif decide ((↑(Arr.n (api_Times.Periods a92)) : Int) < (1 : Int)) then
    k (111 : Int)
   else
    bif decide ((↑(Arr.n (api_Times.Periods a92)) : Int) > (8 : Int)) then
     k (111 : Int)
    else
     energy_from0 N (api_Times.Peak a92) (1000 : Int) (fun r107 =>
     bif !r107 then
      k (111 : Int)
     else
      energy_checkTimes_l7 N N (api_Times.Periods a92) ((↑(Arr.n (api_Times.Periods a92)) : Int)) (0 : Int) (fun r113 =>
       k r113) (fun (_ : Unit) =>
       k (0 : Int))))
noncomputable def energy_checkTimes {R : Type} : Nat → api_Band → api_Times → (Int → Option R) → Option R := lock (@energy_checkTimes_m R)
theorem energy_checkTimes_def {R : Type} (N : Nat) (a91 : api_Band) (a92 : api_Times) (k : Int → Option R) : energy_checkTimes N a91 a92 k = energy_checkTimes_m N a91 a92 k := by unfold energy_checkTimes; rw [lock_eq]
def energy_checkTimes_sp : Sp := ⟨[rAgg api_BandC, rAgg api_TimesC], []⟩
theorem energy_checkTimes_sp_ok : energy_checkTimes_sp.Ok := ⟨(allCons (rAgg_ok api_BandC_ok api_BandC_len) (allCons (rAgg_ok api_TimesC_ok api_TimesC_len) allNil)), eNil⟩
def energy_checkTimes_rs : Sp := ⟨[rInt .i64], []⟩
theorem energy_checkTimes_rs_ok : energy_checkTimes_rs.Ok := ⟨(allCons (rInt_ok .i64) allNil), eNil⟩
def energy_checkTimes_run {R : Type} (N : Nat) (args : List SV) (T : Tab) (kf : SV × Tab → Option R) : Option R :=
  energy_checkTimes_m N (Cod.dec api_BandC (lget (toCs (lget args 0)))) (Cod.dec api_TimesC (lget (toCs (lget args 1)))) (fun q0 => kf (lget [.int .i64 q0] 0, []))
def energy_checkTimes_d7 {R : Type} (N : Nat) (S0 : St) (k : Exit → St → Option R) : Option R :=
  energy_checkTimes_l7 N N (lstC api_PeriodC (lget S0.tmps 30)) (toI (lget S0.tmps 31)) (toI (lget S0.tmps 32)) (fun q0 => k .ret (energy_checkTimes_x7_r q0)) (fun (_ : Unit) => k (.exit 0) (energy_checkTimes_x7_0 ))
def energy_checkTimes_lp {R : Type} (N : Nat) : Lp R := fun body S k => bif (Go.Sx.keyOf body).getD 0 == 7 then energy_checkTimes_L7.head.raw 0 S (fun S0 => energy_checkTimes_d7 N S0 k) else Option.none
theorem energy_checkTimes_l7_eq {R : Type} (N : Nat) (k : Exit → St → Option R) (n : Nat) : ∀ (v0 : Arr api_Period) (v1 : Int) (v2 : Int), loopM E.Θ (energy_Check_cal N) (energy_checkTimes_lp N) (noJn) 0 energy_checkTimes_L7 (bodyAt E 109 7) n (energy_checkTimes_h7 v0 v1 v2) k = energy_checkTimes_l7 N n v0 v1 v2 (fun q0 => k .ret (energy_checkTimes_x7_r q0)) (fun (_ : Unit) => k (.exit 0) (energy_checkTimes_x7_0 )) := by
  induction n with
  | zero => intro v0 v1 v2; rfl
  | succ n ih =>
    intro v0 v1 v2
    refine Eq.trans (b := energy_checkTimes_b7 N (fun v0 v1 v2 => loopM E.Θ (energy_Check_cal N) (energy_checkTimes_lp N) (noJn) 0 energy_checkTimes_L7 (bodyAt E 109 7) n (energy_checkTimes_h7 v0 v1 v2) k) v0 v1 v2 (fun q0 => k .ret (energy_checkTimes_x7_r q0)) (fun (_ : Unit) => k (.exit 0) (energy_checkTimes_x7_0 ))) (by kernel_rfl) ?_
    have h : (fun (v0 : Arr api_Period) (v1 : Int) (v2 : Int) => loopM E.Θ (energy_Check_cal N) (energy_checkTimes_lp N) (noJn) 0 energy_checkTimes_L7 (bodyAt E 109 7) n (energy_checkTimes_h7 v0 v1 v2) k) = (fun (v0 : Arr api_Period) (v1 : Int) (v2 : Int) => energy_checkTimes_l7 N n v0 v1 v2 (fun q0 => k .ret (energy_checkTimes_x7_r q0)) (fun (_ : Unit) => k (.exit 0) (energy_checkTimes_x7_0 ))) := funext fun v0 => funext fun v1 => funext fun v2 => ih v0 v1 v2
    rw [h]
    rfl
theorem energy_checkTimes_k7 {R : Type} (N : Nat) : LpKey (R := R) E 109 0 (energy_checkTimes_lp N) 7 :=
  lpKey_of hE (energy_Check_cal_ok N) (jn := noJn) energy_checkTimes_L7_ok [] kNil (by kernel_rfl) [] jNil (by kernel_rfl) N fun S k =>
    Eq.trans (b := energy_checkTimes_L7.head.raw 0 S (fun S0 => energy_checkTimes_d7 N S0 k)) (by kernel_rfl) (congrArg (energy_checkTimes_L7.head.raw 0 S) (funext fun S0 => Eq.trans (energy_checkTimes_l7_eq N k N (lstC api_PeriodC (lget S0.tmps 30)) (toI (lget S0.tmps 31)) (toI (lget S0.tmps 32))).symm (by kernel_rfl)))
noncomputable def energy_checkTimes_go {R : Type} (N : Nat) (args : List SV) (T : Tab) (kf : SV × Tab → Option R) : Option R :=
  energy_checkTimes N (Cod.dec api_BandC (lget (toCs (lget args 0)))) (Cod.dec api_TimesC (lget (toCs (lget args 1)))) (fun q0 => kf (lget [.int .i64 q0] 0, []))
noncomputable def energy_checkTimes_cal {R : Type} (N : Nat) : Cal R := callM (energy_Check_cal N) 109 0 energy_checkTimes_sp (energy_checkTimes_go N)
theorem energy_checkTimes_cal_ok {R : Type} (N : Nat) : CalOk E.P (energy_checkTimes_cal (R := R) N) :=
  callM_ok hE (energy_Check_cal_ok N) (lp := energy_checkTimes_lp N) (jn := noJn) (keys := [7]) (kCons (energy_checkTimes_k7 N) kNil) (by kernel_rfl) (js := []) jNil (by kernel_rfl) energy_checkTimes_sp_ok energy_checkTimes_rs_ok (fun args T kf => Eq.trans (energy_checkTimes_def N (Cod.dec api_BandC (lget (toCs (lget args 0)))) (Cod.dec api_TimesC (lget (toCs (lget args 1)))) (fun q0 => kf (lget [.int .i64 q0] 0, []))) (by kernel_rfl : energy_checkTimes_run N args T kf = fnM E (energy_Check_cal N) (energy_checkTimes_lp N) (noJn) 109 (energy_checkTimes_sp.vs args) (energy_checkTimes_sp.tab T) 0 (resK energy_checkTimes_rs kf)))

def energy_bill_L3 : LoopSp := ⟨⟨[1, 2, 5, 6, 10, 11, 12], ⟨(dr 1 ((rSl intC) :: (rPtr 0 0) :: (dr 2 ((rInt .i64) :: (rInt .i64) :: (dr 3 ((rSl api_PeriodC) :: (rInt .i64) :: (rInt .i64) :: (dr 29 []))))))), [(0, eBlkC api_TimesC)]⟩, 1⟩, [(some 0, ⟨[2, 5, 6], ⟨(dr 2 ((rPtr 0 0) :: (dr 2 ((rInt .i64) :: (rInt .i64) :: (dr 35 []))))), [(0, eBlkC api_TimesC)]⟩, 1⟩)]⟩
theorem energy_bill_L3_ok : energy_bill_L3.Ok := ⟨⟨(drCons 1 (allCons (rSl_ok intC_ok) (allCons (rPtr_ok 0 0) (drCons 2 (allCons (rInt_ok .i64) (allCons (rInt_ok .i64) (drCons 3 (allCons (rSl_ok api_PeriodC_ok) (allCons (rInt_ok .i64) (allCons (rInt_ok .i64) (drCons 29 allNil))))))))))), (eCons (eBlkC_ok api_TimesC_ok api_TimesC_len) eNil)⟩, (xCons ⟨(drCons 2 (allCons (rPtr_ok 0 0) (drCons 2 (allCons (rInt_ok .i64) (allCons (rInt_ok .i64) (drCons 35 allNil)))))), (eCons (eBlkC_ok api_TimesC_ok api_TimesC_len) eNil)⟩ xNil)⟩
def energy_bill_h3 (v136 : Arr Int) (v137 : Int) (v138 : Int) (v139 : Arr api_Period) (v140 : Int) (v141 : Int) (v142 : api_Times) : St := ⟨(un 1 ((slC intC v136) :: (.ptr 0 0) :: (un 2 ((.int .i64 v137) :: (.int .i64 v138) :: (un 3 ((slC api_PeriodC v139) :: (.int .i64 v140) :: (.int .i64 v141) :: (un 29 []))))))), [(0, .blk (Cod.enc api_TimesC v142))], 1⟩
def energy_bill_x3_0 (v142 : api_Times) (q0 : Int) (q1 : Int) : St := ⟨(un 2 ((.ptr 0 0) :: (un 2 ((.int .i64 q0) :: (.int .i64 q1) :: (un 35 []))))), [(0, .blk (Cod.enc api_TimesC v142))], 1⟩
def energy_bill_b3 {R : Type} (N : Nat) (rc : Arr Int → Int → Int → Arr api_Period → Int → Int → api_Times → Option R) (v136 : Arr Int) (v137 : Int) (v138 : Int) (v139 : Arr api_Period) (v140 : Int) (v141 : Int) (v142 : api_Times) (k0 : Int → Int → Option R) : Option R :=
  bif decide (v141 < v140) then
   bif decide ((0 : Int) ≤ v141) && decide (v141 < (↑(Arr.n v139) : Int)) then
    bif decide ((0 : Int) ≤ v141) && decide (v141 < (↑(Arr.n v136) : Int)) then
     bif decide ((0 : Int) ≤ v141) && decide (v141 < (↑(Arr.n v136) : Int)) then
      rc v136 (w64 (v137 + w64 (w64 (Arr.f v136 (Int.toNat v141) * api_Period.Lasts (Arr.f v139 (Int.toNat v141))) * api_Period.Price (Arr.f v139 (Int.toNat v141))))) (if Arr.f v136 (Int.toNat v141) > v138 then Arr.f v136 (Int.toNat v141) else v138) v139 v140 (w64 (v141 + (1 : Int))) v142
     else
      Option.none
    else
     Option.none
   else
    Option.none
  else
   k0 v137 v138
def energy_bill_l3 {R : Type} (N : Nat) : Nat → Arr Int → Int → Int → Arr api_Period → Int → Int → api_Times → (Int → Int → Option R) → Option R
  | 0, _, _, _, _, _, _, _, _ => Option.none
  | n + 1, v136, v137, v138, v139, v140, v141, v142, k0 => energy_bill_b3 N (fun v136 v137 v138 v139 v140 v141 v142 => energy_bill_l3 N n v136 v137 v138 v139 v140 v141 v142 k0) v136 v137 v138 v139 v140 v141 v142 k0


def energy_bill_m {R : Type} (N : Nat) (a134 : api_Times) (a135 : Arr Int) (k : Int → Option R) : Option R :=
  energy_bill_l3 N N a135 (0 : Int) (0 : Int) (api_Times.Periods a134) ((↑(Arr.n (api_Times.Periods a134)) : Int)) (0 : Int) a134 (fun r143 r144 =>
   k (w64 (r143 + w64 (api_Times.Peak a134 * r144))))
noncomputable def energy_bill {R : Type} : Nat → api_Times → Arr Int → (Int → Option R) → Option R := lock (@energy_bill_m R)
theorem energy_bill_def {R : Type} (N : Nat) (a134 : api_Times) (a135 : Arr Int) (k : Int → Option R) : energy_bill N a134 a135 k = energy_bill_m N a134 a135 k := by unfold energy_bill; rw [lock_eq]
def energy_bill_sp : Sp := ⟨[rAgg api_TimesC, rSl intC], []⟩
theorem energy_bill_sp_ok : energy_bill_sp.Ok := ⟨(allCons (rAgg_ok api_TimesC_ok api_TimesC_len) (allCons (rSl_ok intC_ok) allNil)), eNil⟩
def energy_bill_rs : Sp := ⟨[rInt .i64], []⟩
theorem energy_bill_rs_ok : energy_bill_rs.Ok := ⟨(allCons (rInt_ok .i64) allNil), eNil⟩
def energy_bill_run {R : Type} (N : Nat) (args : List SV) (T : Tab) (kf : SV × Tab → Option R) : Option R :=
  energy_bill_m N (Cod.dec api_TimesC (lget (toCs (lget args 0)))) (lstC intC (lget args 1)) (fun q0 => kf (lget [.int .i64 q0] 0, []))
def energy_bill_d3 {R : Type} (N : Nat) (S0 : St) (k : Exit → St → Option R) : Option R :=
  energy_bill_l3 N N (lstC intC (lget S0.tmps 1)) (toI (lget S0.tmps 5)) (toI (lget S0.tmps 6)) (lstC api_PeriodC (lget S0.tmps 10)) (toI (lget S0.tmps 11)) (toI (lget S0.tmps 12)) (Cod.dec api_TimesC (lget (entCs (entAt S0.tab 0)))) (fun q0 q1 => k (.exit 0) (energy_bill_x3_0 (Cod.dec api_TimesC (lget (entCs (entAt S0.tab 0)))) q0 q1))
def energy_bill_lp {R : Type} (N : Nat) : Lp R := fun body S k => bif (Go.Sx.keyOf body).getD 0 == 3 then energy_bill_L3.head.raw 0 S (fun S0 => energy_bill_d3 N S0 k) else Option.none
theorem energy_bill_l3_eq {R : Type} (N : Nat) (k : Exit → St → Option R) (n : Nat) : ∀ (v0 : Arr Int) (v1 : Int) (v2 : Int) (v3 : Arr api_Period) (v4 : Int) (v5 : Int) (v6 : api_Times), loopM E.Θ (energy_checkTimes_cal N) (energy_bill_lp N) (noJn) 0 energy_bill_L3 (bodyAt E 141 3) n (energy_bill_h3 v0 v1 v2 v3 v4 v5 v6) k = energy_bill_l3 N n v0 v1 v2 v3 v4 v5 v6 (fun q0 q1 => k (.exit 0) (energy_bill_x3_0 v6 q0 q1)) := by
  induction n with
  | zero => intro v0 v1 v2 v3 v4 v5 v6; rfl
  | succ n ih =>
    intro v0 v1 v2 v3 v4 v5 v6
    refine Eq.trans (b := energy_bill_b3 N (fun v0 v1 v2 v3 v4 v5 v6 => loopM E.Θ (energy_checkTimes_cal N) (energy_bill_lp N) (noJn) 0 energy_bill_L3 (bodyAt E 141 3) n (energy_bill_h3 v0 v1 v2 v3 v4 v5 v6) k) v0 v1 v2 v3 v4 v5 v6 (fun q0 q1 => k (.exit 0) (energy_bill_x3_0 v6 q0 q1))) (by kernel_rfl) ?_
    have h : (fun (v0 : Arr Int) (v1 : Int) (v2 : Int) (v3 : Arr api_Period) (v4 : Int) (v5 : Int) (v6 : api_Times) => loopM E.Θ (energy_checkTimes_cal N) (energy_bill_lp N) (noJn) 0 energy_bill_L3 (bodyAt E 141 3) n (energy_bill_h3 v0 v1 v2 v3 v4 v5 v6) k) = (fun (v0 : Arr Int) (v1 : Int) (v2 : Int) (v3 : Arr api_Period) (v4 : Int) (v5 : Int) (v6 : api_Times) => energy_bill_l3 N n v0 v1 v2 v3 v4 v5 v6 (fun q0 q1 => k (.exit 0) (energy_bill_x3_0 v6 q0 q1))) := funext fun v0 => funext fun v1 => funext fun v2 => funext fun v3 => funext fun v4 => funext fun v5 => funext fun v6 => ih v0 v1 v2 v3 v4 v5 v6
    rw [h]
    rfl
theorem energy_bill_k3 {R : Type} (N : Nat) : LpKey (R := R) E 141 0 (energy_bill_lp N) 3 :=
  lpKey_of hE (energy_checkTimes_cal_ok N) (jn := noJn) energy_bill_L3_ok [] kNil (by kernel_rfl) [] jNil (by kernel_rfl) N fun S k =>
    Eq.trans (b := energy_bill_L3.head.raw 0 S (fun S0 => energy_bill_d3 N S0 k)) (by kernel_rfl) (congrArg (energy_bill_L3.head.raw 0 S) (funext fun S0 => Eq.trans (energy_bill_l3_eq N k N (lstC intC (lget S0.tmps 1)) (toI (lget S0.tmps 5)) (toI (lget S0.tmps 6)) (lstC api_PeriodC (lget S0.tmps 10)) (toI (lget S0.tmps 11)) (toI (lget S0.tmps 12)) (Cod.dec api_TimesC (lget (entCs (entAt S0.tab 0))))).symm (by kernel_rfl)))
noncomputable def energy_bill_go {R : Type} (N : Nat) (args : List SV) (T : Tab) (kf : SV × Tab → Option R) : Option R :=
  energy_bill N (Cod.dec api_TimesC (lget (toCs (lget args 0)))) (lstC intC (lget args 1)) (fun q0 => kf (lget [.int .i64 q0] 0, []))
noncomputable def energy_bill_cal {R : Type} (N : Nat) : Cal R := callM (energy_checkTimes_cal N) 141 0 energy_bill_sp (energy_bill_go N)
theorem energy_bill_cal_ok {R : Type} (N : Nat) : CalOk E.P (energy_bill_cal (R := R) N) :=
  callM_ok hE (energy_checkTimes_cal_ok N) (lp := energy_bill_lp N) (jn := noJn) (keys := [3]) (kCons (energy_bill_k3 N) kNil) (by kernel_rfl) (js := []) jNil (by kernel_rfl) energy_bill_sp_ok energy_bill_rs_ok (fun args T kf => Eq.trans (energy_bill_def N (Cod.dec api_TimesC (lget (toCs (lget args 0)))) (lstC intC (lget args 1)) (fun q0 => kf (lget [.int .i64 q0] 0, []))) (by kernel_rfl : energy_bill_run N args T kf = fnM E (energy_checkTimes_cal N) (energy_bill_lp N) (noJn) 141 (energy_bill_sp.vs args) (energy_bill_sp.tab T) 0 (resK energy_bill_rs kf)))


def slices_Clone___int_int__m {R : Type} (N : Nat) (a146 : Bool) (a147 : Arr Int) (k : Bool → Arr Int → Option R) : Option R :=
  bif a146 then
   k true (lst intC (0 : Nat) (zeroC [SV.int IntKind.i64 (0 : Int)]))
  else
   bif room ((0 : Nat) + Arr.n a147) then
    k (bif Arr.n a147 == (0 : Nat) then false else false) (lst intC ((0 : Nat) + Arr.n a147) (catC (0 : Nat) (litC [SV.int IntKind.i64 (0 : Int)] []) (Cod.cell intC (Arr.f a147))))
   else
    Option.none
noncomputable def slices_Clone___int_int_ {R : Type} : Nat → Bool → Arr Int → (Bool → Arr Int → Option R) → Option R := lock (@slices_Clone___int_int__m R)
theorem slices_Clone___int_int__def {R : Type} (N : Nat) (a146 : Bool) (a147 : Arr Int) (k : Bool → Arr Int → Option R) : slices_Clone___int_int_ N a146 a147 k = slices_Clone___int_int__m N a146 a147 k := by unfold slices_Clone___int_int_; rw [lock_eq]
def slices_Clone___int_int__sp : Sp := ⟨[rRow 0], [(0, eRow intC)]⟩
theorem slices_Clone___int_int__sp_ok : slices_Clone___int_int__sp.Ok := ⟨(allCons (rRow_ok 0) allNil), (eCons (eRow_ok intC_ok) eNil)⟩
def slices_Clone___int_int__rs : Sp := ⟨[rRow 1], [(0, eRow intC), (1, eRow intC)]⟩
theorem slices_Clone___int_int__rs_ok : slices_Clone___int_int__rs.Ok := ⟨(allCons (rRow_ok 1) allNil), (eCons (eRow_ok intC_ok) (eCons (eRow_ok intC_ok) eNil))⟩
def slices_Clone___int_int__run {R : Type} (N : Nat) (args : List SV) (T : Tab) (kf : SV × Tab → Option R) : Option R :=
  slices_Clone___int_int__m N (entNl (entAt T 0)) (lst intC (entN (entAt T 0)) (entC (entAt T 0))) (fun q2 q3 => kf (lget [.row 1] 0, [(0, rowE intC (entNl (entAt T 0)) (lst intC (entN (entAt T 0)) (entC (entAt T 0)))), (1, rowE intC q2 q3)]))
def slices_Clone___int_int__lp {R : Type} (N : Nat) : Lp R := fun body S k => Option.none
noncomputable def slices_Clone___int_int__go {R : Type} (N : Nat) (args : List SV) (T : Tab) (kf : SV × Tab → Option R) : Option R :=
  slices_Clone___int_int_ N (entNl (entAt T 0)) (lst intC (entN (entAt T 0)) (entC (entAt T 0))) (fun q2 q3 => kf (lget [.row 1] 0, [(0, rowE intC (entNl (entAt T 0)) (lst intC (entN (entAt T 0)) (entC (entAt T 0)))), (1, rowE intC q2 q3)]))
noncomputable def slices_Clone___int_int__cal {R : Type} (N : Nat) : Cal R := callM (energy_bill_cal N) 142 1 slices_Clone___int_int__sp (slices_Clone___int_int__go N)
theorem slices_Clone___int_int__cal_ok {R : Type} (N : Nat) : CalOk E.P (slices_Clone___int_int__cal (R := R) N) :=
  callM_ok hE (energy_bill_cal_ok N) (lp := slices_Clone___int_int__lp N) (jn := noJn) (keys := []) kNil (by kernel_rfl) (js := []) jNil (by kernel_rfl) slices_Clone___int_int__sp_ok slices_Clone___int_int__rs_ok (fun args T kf => Eq.trans (slices_Clone___int_int__def N (entNl (entAt T 0)) (lst intC (entN (entAt T 0)) (entC (entAt T 0))) (fun q2 q3 => kf (lget [.row 1] 0, [(0, rowE intC (entNl (entAt T 0)) (lst intC (entN (entAt T 0)) (entC (entAt T 0)))), (1, rowE intC q2 q3)]))) (by kernel_rfl : slices_Clone___int_int__run N args T kf = fnM E (energy_bill_cal N) (slices_Clone___int_int__lp N) (noJn) 142 (slices_Clone___int_int__sp.vs args) (slices_Clone___int_int__sp.tab T) 1 (resK slices_Clone___int_int__rs kf)))


def energy_load_m {R : Type} (N : Nat) (a178 : api_Band) (a179 : Int) (a180 : Int) (k : Int → Option R) : Option R :=
  bif a180 == (0 : Int) then
   Option.none
  else
   k (w64 (w64 (Int.tdiv (w64 (w64 (w64 (a179 * api_Band.Ride a178) + a180) - (1 : Int))) a180) * api_Band.Body a178))
noncomputable def energy_load {R : Type} : Nat → api_Band → Int → Int → (Int → Option R) → Option R := lock (@energy_load_m R)
theorem energy_load_def {R : Type} (N : Nat) (a178 : api_Band) (a179 : Int) (a180 : Int) (k : Int → Option R) : energy_load N a178 a179 a180 k = energy_load_m N a178 a179 a180 k := by unfold energy_load; rw [lock_eq]
def energy_load_sp : Sp := ⟨[rAgg api_BandC, rInt .i64, rInt .i64], []⟩
theorem energy_load_sp_ok : energy_load_sp.Ok := ⟨(allCons (rAgg_ok api_BandC_ok api_BandC_len) (allCons (rInt_ok .i64) (allCons (rInt_ok .i64) allNil))), eNil⟩
def energy_load_rs : Sp := ⟨[rInt .i64], []⟩
theorem energy_load_rs_ok : energy_load_rs.Ok := ⟨(allCons (rInt_ok .i64) allNil), eNil⟩
def energy_load_run {R : Type} (N : Nat) (args : List SV) (T : Tab) (kf : SV × Tab → Option R) : Option R :=
  energy_load_m N (Cod.dec api_BandC (lget (toCs (lget args 0)))) (toI (lget args 1)) (toI (lget args 2)) (fun q0 => kf (lget [.int .i64 q0] 0, []))
def energy_load_lp {R : Type} (N : Nat) : Lp R := fun body S k => Option.none
noncomputable def energy_load_go {R : Type} (N : Nat) (args : List SV) (T : Tab) (kf : SV × Tab → Option R) : Option R :=
  energy_load N (Cod.dec api_BandC (lget (toCs (lget args 0)))) (toI (lget args 1)) (toI (lget args 2)) (fun q0 => kf (lget [.int .i64 q0] 0, []))
noncomputable def energy_load_cal {R : Type} (N : Nat) : Cal R := callM (slices_Clone___int_int__cal N) 64 0 energy_load_sp (energy_load_go N)
theorem energy_load_cal_ok {R : Type} (N : Nat) : CalOk E.P (energy_load_cal (R := R) N) :=
  callM_ok hE (slices_Clone___int_int__cal_ok N) (lp := energy_load_lp N) (jn := noJn) (keys := []) kNil (by kernel_rfl) (js := []) jNil (by kernel_rfl) energy_load_sp_ok energy_load_rs_ok (fun args T kf => Eq.trans (energy_load_def N (Cod.dec api_BandC (lget (toCs (lget args 0)))) (toI (lget args 1)) (toI (lget args 2)) (fun q0 => kf (lget [.int .i64 q0] 0, []))) (by kernel_rfl : energy_load_run N args T kf = fnM E (slices_Clone___int_int__cal N) (energy_load_lp N) (noJn) 64 (energy_load_sp.vs args) (energy_load_sp.tab T) 0 (resK energy_load_rs kf)))


def energy_serves_m {R : Type} (N : Nat) (a175 : api_Band) (a176 : Int) (a177 : Int) (k : Bool → Option R) : Option R :=
  energy_load N a175 a176 a177 (fun r181 =>
  k (decide (r181 ≤ api_Band.Most a175)))
noncomputable def energy_serves {R : Type} : Nat → api_Band → Int → Int → (Bool → Option R) → Option R := lock (@energy_serves_m R)
theorem energy_serves_def {R : Type} (N : Nat) (a175 : api_Band) (a176 : Int) (a177 : Int) (k : Bool → Option R) : energy_serves N a175 a176 a177 k = energy_serves_m N a175 a176 a177 k := by unfold energy_serves; rw [lock_eq]
def energy_serves_sp : Sp := ⟨[rAgg api_BandC, rInt .i64, rInt .i64], []⟩
theorem energy_serves_sp_ok : energy_serves_sp.Ok := ⟨(allCons (rAgg_ok api_BandC_ok api_BandC_len) (allCons (rInt_ok .i64) (allCons (rInt_ok .i64) allNil))), eNil⟩
def energy_serves_rs : Sp := ⟨[rBool], []⟩
theorem energy_serves_rs_ok : energy_serves_rs.Ok := ⟨(allCons rBool_ok allNil), eNil⟩
def energy_serves_run {R : Type} (N : Nat) (args : List SV) (T : Tab) (kf : SV × Tab → Option R) : Option R :=
  energy_serves_m N (Cod.dec api_BandC (lget (toCs (lget args 0)))) (toI (lget args 1)) (toI (lget args 2)) (fun q0 => kf (lget [.bool q0] 0, []))
def energy_serves_lp {R : Type} (N : Nat) : Lp R := fun body S k => Option.none
noncomputable def energy_serves_go {R : Type} (N : Nat) (args : List SV) (T : Tab) (kf : SV × Tab → Option R) : Option R :=
  energy_serves N (Cod.dec api_BandC (lget (toCs (lget args 0)))) (toI (lget args 1)) (toI (lget args 2)) (fun q0 => kf (lget [.bool q0] 0, []))
noncomputable def energy_serves_cal {R : Type} (N : Nat) : Cal R := callM (energy_load_cal N) 143 0 energy_serves_sp (energy_serves_go N)
theorem energy_serves_cal_ok {R : Type} (N : Nat) : CalOk E.P (energy_serves_cal (R := R) N) :=
  callM_ok hE (energy_load_cal_ok N) (lp := energy_serves_lp N) (jn := noJn) (keys := []) kNil (by kernel_rfl) (js := []) jNil (by kernel_rfl) energy_serves_sp_ok energy_serves_rs_ok (fun args T kf => Eq.trans (energy_serves_def N (Cod.dec api_BandC (lget (toCs (lget args 0)))) (toI (lget args 1)) (toI (lget args 2)) (fun q0 => kf (lget [.bool q0] 0, []))) (by kernel_rfl : energy_serves_run N args T kf = fnM E (energy_load_cal N) (energy_serves_lp N) (noJn) 143 (energy_serves_sp.vs args) (energy_serves_sp.tab T) 0 (resK energy_serves_rs kf)))


def energy_power_m {R : Type} (N : Nat) (a186 : api_Band) (a187 : Int) (a188 : Int) (k : Int → Option R) : Option R :=
  energy_load N a186 a187 a188 (fun r189 =>
  bif api_Band.Up a186 then
   k (w64 (w64 (w64 (api_Band.Pull a186 * r189) + api_Band.Drag a186) * a188))
  else
   bif decide (w64 (api_Band.Drag a186 - w64 (api_Band.Pull a186 * r189)) ≥ (0 : Int)) then
    k (w64 (w64 (api_Band.Drag a186 - w64 (api_Band.Pull a186 * r189)) * a188))
   else
    bif api_Band.Den a186 == (0 : Int) then
     Option.none
    else
     k (w64 ((0 : Int) - w64 (Int.tdiv (w64 (w64 (w64 (w64 (api_Band.Pull a186 * r189) - api_Band.Drag a186) * a188) * api_Band.Num a186)) (api_Band.Den a186)))))
noncomputable def energy_power {R : Type} : Nat → api_Band → Int → Int → (Int → Option R) → Option R := lock (@energy_power_m R)
theorem energy_power_def {R : Type} (N : Nat) (a186 : api_Band) (a187 : Int) (a188 : Int) (k : Int → Option R) : energy_power N a186 a187 a188 k = energy_power_m N a186 a187 a188 k := by unfold energy_power; rw [lock_eq]
def energy_power_sp : Sp := ⟨[rAgg api_BandC, rInt .i64, rInt .i64], []⟩
theorem energy_power_sp_ok : energy_power_sp.Ok := ⟨(allCons (rAgg_ok api_BandC_ok api_BandC_len) (allCons (rInt_ok .i64) (allCons (rInt_ok .i64) allNil))), eNil⟩
def energy_power_rs : Sp := ⟨[rInt .i64], []⟩
theorem energy_power_rs_ok : energy_power_rs.Ok := ⟨(allCons (rInt_ok .i64) allNil), eNil⟩
def energy_power_run {R : Type} (N : Nat) (args : List SV) (T : Tab) (kf : SV × Tab → Option R) : Option R :=
  energy_power_m N (Cod.dec api_BandC (lget (toCs (lget args 0)))) (toI (lget args 1)) (toI (lget args 2)) (fun q0 => kf (lget [.int .i64 q0] 0, []))
def energy_power_lp {R : Type} (N : Nat) : Lp R := fun body S k => Option.none
noncomputable def energy_power_go {R : Type} (N : Nat) (args : List SV) (T : Tab) (kf : SV × Tab → Option R) : Option R :=
  energy_power N (Cod.dec api_BandC (lget (toCs (lget args 0)))) (toI (lget args 1)) (toI (lget args 2)) (fun q0 => kf (lget [.int .i64 q0] 0, []))
noncomputable def energy_power_cal {R : Type} (N : Nat) : Cal R := callM (energy_serves_cal N) 65 0 energy_power_sp (energy_power_go N)
theorem energy_power_cal_ok {R : Type} (N : Nat) : CalOk E.P (energy_power_cal (R := R) N) :=
  callM_ok hE (energy_serves_cal_ok N) (lp := energy_power_lp N) (jn := noJn) (keys := []) kNil (by kernel_rfl) (js := []) jNil (by kernel_rfl) energy_power_sp_ok energy_power_rs_ok (fun args T kf => Eq.trans (energy_power_def N (Cod.dec api_BandC (lget (toCs (lget args 0)))) (toI (lget args 1)) (toI (lget args 2)) (fun q0 => kf (lget [.int .i64 q0] 0, []))) (by kernel_rfl : energy_power_run N args T kf = fnM E (energy_serves_cal N) (energy_power_lp N) (noJn) 65 (energy_power_sp.vs args) (energy_power_sp.tab T) 0 (resK energy_power_rs kf)))


def energy_ends_m {R : Type} (N : Nat) (a183 : api_Band) (a184 : api_Period) (a185 : Int) (k : Int → Int → Option R) : Option R :=
  energy_power N a183 (api_Span.Low (api_Period.Flow a184)) a185 (fun r190 =>
  energy_power N a183 (api_Span.High (api_Period.Flow a184)) a185 (fun r191 =>
  k (if r191 < r190 then r191 else r190) (if r191 > r190 then r191 else r190)))
noncomputable def energy_ends {R : Type} : Nat → api_Band → api_Period → Int → (Int → Int → Option R) → Option R := lock (@energy_ends_m R)
theorem energy_ends_def {R : Type} (N : Nat) (a183 : api_Band) (a184 : api_Period) (a185 : Int) (k : Int → Int → Option R) : energy_ends N a183 a184 a185 k = energy_ends_m N a183 a184 a185 k := by unfold energy_ends; rw [lock_eq]
def energy_ends_sp : Sp := ⟨[rAgg api_BandC, rAgg api_PeriodC, rInt .i64], []⟩
theorem energy_ends_sp_ok : energy_ends_sp.Ok := ⟨(allCons (rAgg_ok api_BandC_ok api_BandC_len) (allCons (rAgg_ok api_PeriodC_ok api_PeriodC_len) (allCons (rInt_ok .i64) allNil))), eNil⟩
def energy_ends_rs : Sp := ⟨[rTup [rInt .i64, rInt .i64]], []⟩
theorem energy_ends_rs_ok : energy_ends_rs.Ok := ⟨(allCons (rTup_ok (allCons (rInt_ok .i64) (allCons (rInt_ok .i64) allNil))) allNil), eNil⟩
def energy_ends_run {R : Type} (N : Nat) (args : List SV) (T : Tab) (kf : SV × Tab → Option R) : Option R :=
  energy_ends_m N (Cod.dec api_BandC (lget (toCs (lget args 0)))) (Cod.dec api_PeriodC (lget (toCs (lget args 1)))) (toI (lget args 2)) (fun q0 q1 => kf (lget [.tup [.int .i64 q0, .int .i64 q1]] 0, []))
def energy_ends_lp {R : Type} (N : Nat) : Lp R := fun body S k => Option.none
noncomputable def energy_ends_go {R : Type} (N : Nat) (args : List SV) (T : Tab) (kf : SV × Tab → Option R) : Option R :=
  energy_ends N (Cod.dec api_BandC (lget (toCs (lget args 0)))) (Cod.dec api_PeriodC (lget (toCs (lget args 1)))) (toI (lget args 2)) (fun q0 q1 => kf (lget [.tup [.int .i64 q0, .int .i64 q1]] 0, []))
noncomputable def energy_ends_cal {R : Type} (N : Nat) : Cal R := callM (energy_power_cal N) 144 0 energy_ends_sp (energy_ends_go N)
theorem energy_ends_cal_ok {R : Type} (N : Nat) : CalOk E.P (energy_ends_cal (R := R) N) :=
  callM_ok hE (energy_power_cal_ok N) (lp := energy_ends_lp N) (jn := noJn) (keys := []) kNil (by kernel_rfl) (js := []) jNil (by kernel_rfl) energy_ends_sp_ok energy_ends_rs_ok (fun args T kf => Eq.trans (energy_ends_def N (Cod.dec api_BandC (lget (toCs (lget args 0)))) (Cod.dec api_PeriodC (lget (toCs (lget args 1)))) (toI (lget args 2)) (fun q0 q1 => kf (lget [.tup [.int .i64 q0, .int .i64 q1]] 0, []))) (by kernel_rfl : energy_ends_run N args T kf = fnM E (energy_power_cal N) (energy_ends_lp N) (noJn) 144 (energy_ends_sp.vs args) (energy_ends_sp.tab T) 0 (resK energy_ends_rs kf)))

def energy_search_from_L6 : LoopSp := ⟨⟨[0, 1, 5, 62, 63, 64, 1000003], ⟨((rPtr 0 0) :: (rInt .i64) :: (dr 3 ((rPtr 4 0) :: (dr 56 ((rSl intC) :: (rInt .i64) :: (rInt .i64) :: (dr 40 [])))))), [(0, eBlk [rBool, rInt .i64, rInt .i64, rInt .i64, rInt .i64, rInt .i64, rSl intC, rInt .i64, rInt .i64, rSl api_PeriodC, rInt .i64, rRow 1, rRow 2, rRow 5, rInt .i64]), (1, eRow intC), (2, eRow intC), (4, eBlkC api_PeriodC), (5, eRow intC)]⟩, 6⟩, [(some 0, ⟨[1000003], ⟨(dr 105 []), [(0, eBlk [rBool, rInt .i64, rInt .i64, rInt .i64, rInt .i64, rInt .i64, rSl intC, rInt .i64, rInt .i64, rSl api_PeriodC, rInt .i64, rRow 1, rRow 2, rRow 4, rInt .i64]), (1, eRow intC), (2, eRow intC), (4, eRow intC)]⟩, 5⟩)]⟩
theorem energy_search_from_L6_ok : energy_search_from_L6.Ok := ⟨⟨(allCons (rPtr_ok 0 0) (allCons (rInt_ok .i64) (drCons 3 (allCons (rPtr_ok 4 0) (drCons 56 (allCons (rSl_ok intC_ok) (allCons (rInt_ok .i64) (allCons (rInt_ok .i64) (drCons 40 allNil))))))))), (eCons (eBlk_ok (allCons rBool_ok (allCons (rInt_ok .i64) (allCons (rInt_ok .i64) (allCons (rInt_ok .i64) (allCons (rInt_ok .i64) (allCons (rInt_ok .i64) (allCons (rSl_ok intC_ok) (allCons (rInt_ok .i64) (allCons (rInt_ok .i64) (allCons (rSl_ok api_PeriodC_ok) (allCons (rInt_ok .i64) (allCons (rRow_ok 1) (allCons (rRow_ok 2) (allCons (rRow_ok 5) (allCons (rInt_ok .i64) allNil)))))))))))))))) (eCons (eRow_ok intC_ok) (eCons (eRow_ok intC_ok) (eCons (eBlkC_ok api_PeriodC_ok api_PeriodC_len) (eCons (eRow_ok intC_ok) eNil)))))⟩, (xCons ⟨(drCons 105 allNil), (eCons (eBlk_ok (allCons rBool_ok (allCons (rInt_ok .i64) (allCons (rInt_ok .i64) (allCons (rInt_ok .i64) (allCons (rInt_ok .i64) (allCons (rInt_ok .i64) (allCons (rSl_ok intC_ok) (allCons (rInt_ok .i64) (allCons (rInt_ok .i64) (allCons (rSl_ok api_PeriodC_ok) (allCons (rInt_ok .i64) (allCons (rRow_ok 1) (allCons (rRow_ok 2) (allCons (rRow_ok 4) (allCons (rInt_ok .i64) allNil)))))))))))))))) (eCons (eRow_ok intC_ok) (eCons (eRow_ok intC_ok) (eCons (eRow_ok intC_ok) eNil))))⟩ xNil)⟩
def energy_search_from_h6 (v276 : Int) (v277 : Arr Int) (v278 : Int) (v279 : Int) (v280 : Bool) (v281 : Int) (v282 : Int) (v283 : Int) (v284 : Int) (v285 : Int) (v286 : Arr Int) (v287 : Int) (v288 : Int) (v289 : Arr api_Period) (v290 : Int) (v291 : Int) (v292 : Bool) (v293 : Arr Int) (v294 : Bool) (v295 : Arr Int) (v296 : api_Period) (v297 : Bool) (v298 : Arr Int) : St := ⟨((.ptr 0 0) :: (.int .i64 v276) :: (un 3 ((.ptr 4 0) :: (un 56 ((slC intC v277) :: (.int .i64 v278) :: (.int .i64 v279) :: (un 40 [])))))), [(0, .blk [.bool v280, .int .i64 v281, .int .i64 v282, .int .i64 v283, .int .i64 v284, .int .i64 v285, slC intC v286, .int .i64 v287, .int .i64 v288, slC api_PeriodC v289, .int .i64 v290, .row 1, .row 2, .row 5, .int .i64 v291]), (1, rowE intC v292 v293), (2, rowE intC v294 v295), (4, .blk (Cod.enc api_PeriodC v296)), (5, rowE intC v297 v298)], 6⟩
def energy_search_from_x6_0 (v280 : Bool) (v281 : Int) (v282 : Int) (v283 : Int) (v284 : Int) (v285 : Int) (v286 : Arr Int) (v287 : Int) (v288 : Int) (v289 : Arr api_Period) (v290 : Int) (v292 : Bool) (v294 : Bool) (q11 : Int) (q13 : Arr Int) (q15 : Arr Int) (q16 : Bool) (q17 : Arr Int) : St := ⟨(un 105 []), [(0, .blk [.bool v280, .int .i64 v281, .int .i64 v282, .int .i64 v283, .int .i64 v284, .int .i64 v285, slC intC v286, .int .i64 v287, .int .i64 v288, slC api_PeriodC v289, .int .i64 v290, .row 1, .row 2, .row 4, .int .i64 q11]), (1, rowE intC v292 q13), (2, rowE intC v294 q15), (4, rowE intC q16 q17)], 5⟩
def energy_search_from_b6 {R : Type} (N : Nat) (rf : Int → Bool → Int → Int → Int → Int → Int → Arr Int → Int → Int → Arr api_Period → Int → Int → Bool → Arr Int → Bool → Arr Int → Bool → Arr Int → (Int → Arr Int → Arr Int → Bool → Arr Int → Option R) → Option R) (rc : Int → Arr Int → Int → Int → Bool → Int → Int → Int → Int → Int → Arr Int → Int → Int → Arr api_Period → Int → Int → Bool → Arr Int → Bool → Arr Int → api_Period → Bool → Arr Int → Option R) (v276 : Int) (v277 : Arr Int) (v278 : Int) (v279 : Int) (v280 : Bool) (v281 : Int) (v282 : Int) (v283 : Int) (v284 : Int) (v285 : Int) (v286 : Arr Int) (v287 : Int) (v288 : Int) (v289 : Arr api_Period) (v290 : Int) (v291 : Int) (v292 : Bool) (v293 : Arr Int) (v294 : Bool) (v295 : Arr Int) (v296 : api_Period) (v297 : Bool) (v298 : Arr Int) (k0 : Int → Arr Int → Arr Int → Bool → Arr Int → Option R) : Option R :=
  bif decide (v279 < v278) then
   bif decide ((0 : Int) ≤ v279) && decide (v279 < (↑(Arr.n v277) : Int)) then
    energy_serves N (api_Band.mk v280 v281 v282 v283 v284 v285 v286 v287 v288) (api_Span.High (api_Period.Flow v296)) (Arr.f v277 (Int.toNat v279)) (fun r299 =>
    bif r299 then
     bif decide ((0 : Int) ≤ v276) && decide (v276 < (↑(Arr.n v293) : Int)) then
      energy_ends N (api_Band.mk v280 v281 v282 v283 v284 v285 v286 v287 v288) v296 (Arr.f v277 (Int.toNat v279)) (fun r300 r301 =>
      bif decide ((0 : Int) ≤ v276) && decide (v276 < (↑(Arr.n v295) : Int)) then
       rf (w64 (v276 + (1 : Int))) v280 v281 v282 v283 v284 v285 v286 v287 v288 v289 v290 v291 v292 (lst intC (Arr.n v293) (setCs (Int.toNat v276) (0 : Nat) (Cod.cell intC (Arr.f v293)) [SV.int IntKind.i64 (Arr.f v277 (Int.toNat v279))])) v294 (lst intC (Arr.n v295) (setCs (Int.toNat v276) (0 : Nat) (Cod.cell intC (Arr.f v295)) [SV.int IntKind.i64 r301])) v297 v298 (fun r302 r303 r304 r305 r306 =>
       rc v276 v277 v278 (w64 (v279 + (1 : Int))) v280 v281 v282 v283 v284 v285 v286 v287 v288 v289 v290 r302 v292 r303 v294 r304 v296 r305 r306)
      else
       Option.none)
     else
      Option.none
    else
     rc v276 v277 v278 (w64 (v279 + (1 : Int))) v280 v281 v282 v283 v284 v285 v286 v287 v288 v289 v290 v291 v292 v293 v294 v295 v296 v297 v298)
   else
    Option.none
  else
   k0 v291 v293 v295 v297 v298
def energy_search_from_l6 {R : Type} (N : Nat) (rf : Int → Bool → Int → Int → Int → Int → Int → Arr Int → Int → Int → Arr api_Period → Int → Int → Bool → Arr Int → Bool → Arr Int → Bool → Arr Int → (Int → Arr Int → Arr Int → Bool → Arr Int → Option R) → Option R) : Nat → Int → Arr Int → Int → Int → Bool → Int → Int → Int → Int → Int → Arr Int → Int → Int → Arr api_Period → Int → Int → Bool → Arr Int → Bool → Arr Int → api_Period → Bool → Arr Int → (Int → Arr Int → Arr Int → Bool → Arr Int → Option R) → Option R
  | 0, _, _, _, _, _, _, _, _, _, _, _, _, _, _, _, _, _, _, _, _, _, _, _, _ => Option.none
  | n + 1, v276, v277, v278, v279, v280, v281, v282, v283, v284, v285, v286, v287, v288, v289, v290, v291, v292, v293, v294, v295, v296, v297, v298, k0 => energy_search_from_b6 N rf (fun v276 v277 v278 v279 v280 v281 v282 v283 v284 v285 v286 v287 v288 v289 v290 v291 v292 v293 v294 v295 v296 v297 v298 => energy_search_from_l6 N rf n v276 v277 v278 v279 v280 v281 v282 v283 v284 v285 v286 v287 v288 v289 v290 v291 v292 v293 v294 v295 v296 v297 v298 k0) v276 v277 v278 v279 v280 v281 v282 v283 v284 v285 v286 v287 v288 v289 v290 v291 v292 v293 v294 v295 v296 v297 v298 k0


def energy_search_from_t {R : Type} (N : Nat) (rf : Int → Bool → Int → Int → Int → Int → Int → Arr Int → Int → Int → Arr api_Period → Int → Int → Bool → Arr Int → Bool → Arr Int → Bool → Arr Int → (Int → Arr Int → Arr Int → Bool → Arr Int → Option R) → Option R) (a252 : Int) (a253 : Bool) (a254 : Int) (a255 : Int) (a256 : Int) (a257 : Int) (a258 : Int) (a259 : Arr Int) (a260 : Int) (a261 : Int) (a262 : Arr api_Period) (a263 : Int) (a264 : Int) (a265 : Bool) (a266 : Arr Int) (a267 : Bool) (a268 : Arr Int) (a269 : Bool) (a270 : Arr Int) (k : Int → Arr Int → Arr Int → Bool → Arr Int → Option R) : Option R :=
  bif a252 == (↑(Arr.n a262) : Int) then
   energy_bill N (api_Times.mk a262 a263) a268 (fun r271 =>
   bif a269 then
    slices_Clone___int_int_ N a265 a266 (fun r272 r273 =>
    k r271 a266 a268 r272 r273)
   else
    bif decide (r271 < a264) then
     slices_Clone___int_int_ N a265 a266 (fun r274 r275 =>
     k r271 a266 a268 r274 r275)
    else
     k a264 a266 a268 a269 a270)
  else
   bif decide ((0 : Int) ≤ a252) && decide (a252 < (↑(Arr.n a262) : Int)) then
    energy_search_from_l6 N rf N a252 a259 ((↑(Arr.n a259) : Int)) (0 : Int) a253 a254 a255 a256 a257 a258 a259 a260 a261 a262 a263 a264 a265 a266 a267 a268 (Arr.f a262 (Int.toNat a252)) a269 a270 (fun r307 r308 r309 r310 r311 =>
     k r307 r308 r309 r310 r311)
   else
    Option.none
def energy_search_from_r {R : Type} (N : Nat) : Nat → Int → Bool → Int → Int → Int → Int → Int → Arr Int → Int → Int → Arr api_Period → Int → Int → Bool → Arr Int → Bool → Arr Int → Bool → Arr Int → (Int → Arr Int → Arr Int → Bool → Arr Int → Option R) → Option R
  | 0, _, _, _, _, _, _, _, _, _, _, _, _, _, _, _, _, _, _, _, _ => Option.none
  | d + 1, a252, a253, a254, a255, a256, a257, a258, a259, a260, a261, a262, a263, a264, a265, a266, a267, a268, a269, a270, k => energy_search_from_t N (energy_search_from_r N d) a252 a253 a254 a255 a256 a257 a258 a259 a260 a261 a262 a263 a264 a265 a266 a267 a268 a269 a270 k
def energy_search_from_m {R : Type} (N : Nat) (a252 : Int) (a253 : Bool) (a254 : Int) (a255 : Int) (a256 : Int) (a257 : Int) (a258 : Int) (a259 : Arr Int) (a260 : Int) (a261 : Int) (a262 : Arr api_Period) (a263 : Int) (a264 : Int) (a265 : Bool) (a266 : Arr Int) (a267 : Bool) (a268 : Arr Int) (a269 : Bool) (a270 : Arr Int) (k : Int → Arr Int → Arr Int → Bool → Arr Int → Option R) : Option R := energy_search_from_r N N a252 a253 a254 a255 a256 a257 a258 a259 a260 a261 a262 a263 a264 a265 a266 a267 a268 a269 a270 k
noncomputable def energy_search_from {R : Type} : Nat → Int → Bool → Int → Int → Int → Int → Int → Arr Int → Int → Int → Arr api_Period → Int → Int → Bool → Arr Int → Bool → Arr Int → Bool → Arr Int → (Int → Arr Int → Arr Int → Bool → Arr Int → Option R) → Option R := lock (@energy_search_from_m R)
theorem energy_search_from_def {R : Type} (N : Nat) (a252 : Int) (a253 : Bool) (a254 : Int) (a255 : Int) (a256 : Int) (a257 : Int) (a258 : Int) (a259 : Arr Int) (a260 : Int) (a261 : Int) (a262 : Arr api_Period) (a263 : Int) (a264 : Int) (a265 : Bool) (a266 : Arr Int) (a267 : Bool) (a268 : Arr Int) (a269 : Bool) (a270 : Arr Int) (k : Int → Arr Int → Arr Int → Bool → Arr Int → Option R) : energy_search_from N a252 a253 a254 a255 a256 a257 a258 a259 a260 a261 a262 a263 a264 a265 a266 a267 a268 a269 a270 k = energy_search_from_m N a252 a253 a254 a255 a256 a257 a258 a259 a260 a261 a262 a263 a264 a265 a266 a267 a268 a269 a270 k := by unfold energy_search_from; rw [lock_eq]
def energy_search_from_sp : Sp := ⟨[rPtr 0 0, rInt .i64], [(0, eBlk [rBool, rInt .i64, rInt .i64, rInt .i64, rInt .i64, rInt .i64, rSl intC, rInt .i64, rInt .i64, rSl api_PeriodC, rInt .i64, rRow 1, rRow 2, rRow 3, rInt .i64]), (1, eRow intC), (2, eRow intC), (3, eRow intC)]⟩
theorem energy_search_from_sp_ok : energy_search_from_sp.Ok := ⟨(allCons (rPtr_ok 0 0) (allCons (rInt_ok .i64) allNil)), (eCons (eBlk_ok (allCons rBool_ok (allCons (rInt_ok .i64) (allCons (rInt_ok .i64) (allCons (rInt_ok .i64) (allCons (rInt_ok .i64) (allCons (rInt_ok .i64) (allCons (rSl_ok intC_ok) (allCons (rInt_ok .i64) (allCons (rInt_ok .i64) (allCons (rSl_ok api_PeriodC_ok) (allCons (rInt_ok .i64) (allCons (rRow_ok 1) (allCons (rRow_ok 2) (allCons (rRow_ok 3) (allCons (rInt_ok .i64) allNil)))))))))))))))) (eCons (eRow_ok intC_ok) (eCons (eRow_ok intC_ok) (eCons (eRow_ok intC_ok) eNil))))⟩
def energy_search_from_rs : Sp := ⟨[rTup []], [(0, eBlk [rBool, rInt .i64, rInt .i64, rInt .i64, rInt .i64, rInt .i64, rSl intC, rInt .i64, rInt .i64, rSl api_PeriodC, rInt .i64, rRow 1, rRow 2, rRow 4, rInt .i64]), (1, eRow intC), (2, eRow intC), (4, eRow intC)]⟩
theorem energy_search_from_rs_ok : energy_search_from_rs.Ok := ⟨(allCons (rTup_ok allNil) allNil), (eCons (eBlk_ok (allCons rBool_ok (allCons (rInt_ok .i64) (allCons (rInt_ok .i64) (allCons (rInt_ok .i64) (allCons (rInt_ok .i64) (allCons (rInt_ok .i64) (allCons (rSl_ok intC_ok) (allCons (rInt_ok .i64) (allCons (rInt_ok .i64) (allCons (rSl_ok api_PeriodC_ok) (allCons (rInt_ok .i64) (allCons (rRow_ok 1) (allCons (rRow_ok 2) (allCons (rRow_ok 4) (allCons (rInt_ok .i64) allNil)))))))))))))))) (eCons (eRow_ok intC_ok) (eCons (eRow_ok intC_ok) (eCons (eRow_ok intC_ok) eNil))))⟩
def energy_search_from_run {R : Type} (N : Nat) (d : Nat) (args : List SV) (T : Tab) (kf : SV × Tab → Option R) : Option R :=
  energy_search_from_r N d (toI (lget args 1)) (toB (lget (entCs (entAt T 0)) 0)) (toI (lget (entCs (entAt T 0)) 1)) (toI (lget (entCs (entAt T 0)) 2)) (toI (lget (entCs (entAt T 0)) 3)) (toI (lget (entCs (entAt T 0)) 4)) (toI (lget (entCs (entAt T 0)) 5)) (lstC intC (lget (entCs (entAt T 0)) 6)) (toI (lget (entCs (entAt T 0)) 7)) (toI (lget (entCs (entAt T 0)) 8)) (lstC api_PeriodC (lget (entCs (entAt T 0)) 9)) (toI (lget (entCs (entAt T 0)) 10)) (toI (lget (entCs (entAt T 0)) 14)) (entNl (entAt T 1)) (lst intC (entN (entAt T 1)) (entC (entAt T 1))) (entNl (entAt T 2)) (lst intC (entN (entAt T 2)) (entC (entAt T 2))) (entNl (entAt T 3)) (lst intC (entN (entAt T 3)) (entC (entAt T 3))) (fun q11 q13 q15 q16 q17 => kf (lget [.tup []] 0, [(0, .blk [.bool (toB (lget (entCs (entAt T 0)) 0)), .int .i64 (toI (lget (entCs (entAt T 0)) 1)), .int .i64 (toI (lget (entCs (entAt T 0)) 2)), .int .i64 (toI (lget (entCs (entAt T 0)) 3)), .int .i64 (toI (lget (entCs (entAt T 0)) 4)), .int .i64 (toI (lget (entCs (entAt T 0)) 5)), slC intC (lstC intC (lget (entCs (entAt T 0)) 6)), .int .i64 (toI (lget (entCs (entAt T 0)) 7)), .int .i64 (toI (lget (entCs (entAt T 0)) 8)), slC api_PeriodC (lstC api_PeriodC (lget (entCs (entAt T 0)) 9)), .int .i64 (toI (lget (entCs (entAt T 0)) 10)), .row 1, .row 2, .row 4, .int .i64 q11]), (1, rowE intC (entNl (entAt T 1)) q13), (2, rowE intC (entNl (entAt T 2)) q15), (4, rowE intC q16 q17)]))
noncomputable def energy_search_from_cald {R : Type} (N : Nat) (d : Nat) : Cal R := callM (energy_ends_cal N) 110 4 energy_search_from_sp (energy_search_from_run N d)
def energy_search_from_d6 {R : Type} (N : Nat) (rf : Int → Bool → Int → Int → Int → Int → Int → Arr Int → Int → Int → Arr api_Period → Int → Int → Bool → Arr Int → Bool → Arr Int → Bool → Arr Int → (Int → Arr Int → Arr Int → Bool → Arr Int → Option R) → Option R) (S0 : St) (k : Exit → St → Option R) : Option R :=
  energy_search_from_l6 N rf N (toI (lget S0.tmps 1)) (lstC intC (lget S0.tmps 62)) (toI (lget S0.tmps 63)) (toI (lget S0.tmps 64)) (toB (lget (entCs (entAt S0.tab 0)) 0)) (toI (lget (entCs (entAt S0.tab 0)) 1)) (toI (lget (entCs (entAt S0.tab 0)) 2)) (toI (lget (entCs (entAt S0.tab 0)) 3)) (toI (lget (entCs (entAt S0.tab 0)) 4)) (toI (lget (entCs (entAt S0.tab 0)) 5)) (lstC intC (lget (entCs (entAt S0.tab 0)) 6)) (toI (lget (entCs (entAt S0.tab 0)) 7)) (toI (lget (entCs (entAt S0.tab 0)) 8)) (lstC api_PeriodC (lget (entCs (entAt S0.tab 0)) 9)) (toI (lget (entCs (entAt S0.tab 0)) 10)) (toI (lget (entCs (entAt S0.tab 0)) 14)) (entNl (entAt S0.tab 1)) (lst intC (entN (entAt S0.tab 1)) (entC (entAt S0.tab 1))) (entNl (entAt S0.tab 2)) (lst intC (entN (entAt S0.tab 2)) (entC (entAt S0.tab 2))) (Cod.dec api_PeriodC (lget (entCs (entAt S0.tab 3)))) (entNl (entAt S0.tab 4)) (lst intC (entN (entAt S0.tab 4)) (entC (entAt S0.tab 4))) (fun q11 q13 q15 q16 q17 => k (.exit 0) (energy_search_from_x6_0 (toB (lget (entCs (entAt S0.tab 0)) 0)) (toI (lget (entCs (entAt S0.tab 0)) 1)) (toI (lget (entCs (entAt S0.tab 0)) 2)) (toI (lget (entCs (entAt S0.tab 0)) 3)) (toI (lget (entCs (entAt S0.tab 0)) 4)) (toI (lget (entCs (entAt S0.tab 0)) 5)) (lstC intC (lget (entCs (entAt S0.tab 0)) 6)) (toI (lget (entCs (entAt S0.tab 0)) 7)) (toI (lget (entCs (entAt S0.tab 0)) 8)) (lstC api_PeriodC (lget (entCs (entAt S0.tab 0)) 9)) (toI (lget (entCs (entAt S0.tab 0)) 10)) (entNl (entAt S0.tab 1)) (entNl (entAt S0.tab 2)) q11 q13 q15 q16 q17))
def energy_search_from_lp {R : Type} (N : Nat) (rf : Int → Bool → Int → Int → Int → Int → Int → Arr Int → Int → Int → Arr api_Period → Int → Int → Bool → Arr Int → Bool → Arr Int → Bool → Arr Int → (Int → Arr Int → Arr Int → Bool → Arr Int → Option R) → Option R) : Lp R := fun body S k => bif (Go.Sx.keyOf body).getD 0 == 6 then energy_search_from_L6.head.raw 4 S (fun S0 => energy_search_from_d6 N rf S0 k) else Option.none
theorem energy_search_from_l6_eq {R : Type} (N : Nat) (d : Nat) (k : Exit → St → Option R) (n : Nat) : ∀ (v0 : Int) (v1 : Arr Int) (v2 : Int) (v3 : Int) (v4 : Bool) (v5 : Int) (v6 : Int) (v7 : Int) (v8 : Int) (v9 : Int) (v10 : Arr Int) (v11 : Int) (v12 : Int) (v13 : Arr api_Period) (v14 : Int) (v15 : Int) (v16 : Bool) (v17 : Arr Int) (v18 : Bool) (v19 : Arr Int) (v20 : api_Period) (v21 : Bool) (v22 : Arr Int), loopM E.Θ (energy_search_from_cald N d) (energy_search_from_lp N (energy_search_from_r N d)) (noJn) 4 energy_search_from_L6 (bodyAt E 110 6) n (energy_search_from_h6 v0 v1 v2 v3 v4 v5 v6 v7 v8 v9 v10 v11 v12 v13 v14 v15 v16 v17 v18 v19 v20 v21 v22) k = energy_search_from_l6 N (energy_search_from_r N d) n v0 v1 v2 v3 v4 v5 v6 v7 v8 v9 v10 v11 v12 v13 v14 v15 v16 v17 v18 v19 v20 v21 v22 (fun q11 q13 q15 q16 q17 => k (.exit 0) (energy_search_from_x6_0 v4 v5 v6 v7 v8 v9 v10 v11 v12 v13 v14 v16 v18 q11 q13 q15 q16 q17)) := by
  induction n with
  | zero => intro v0 v1 v2 v3 v4 v5 v6 v7 v8 v9 v10 v11 v12 v13 v14 v15 v16 v17 v18 v19 v20 v21 v22; rfl
  | succ n ih =>
    intro v0 v1 v2 v3 v4 v5 v6 v7 v8 v9 v10 v11 v12 v13 v14 v15 v16 v17 v18 v19 v20 v21 v22
    refine Eq.trans (b := energy_search_from_b6 N (energy_search_from_r N d) (fun v0 v1 v2 v3 v4 v5 v6 v7 v8 v9 v10 v11 v12 v13 v14 v15 v16 v17 v18 v19 v20 v21 v22 => loopM E.Θ (energy_search_from_cald N d) (energy_search_from_lp N (energy_search_from_r N d)) (noJn) 4 energy_search_from_L6 (bodyAt E 110 6) n (energy_search_from_h6 v0 v1 v2 v3 v4 v5 v6 v7 v8 v9 v10 v11 v12 v13 v14 v15 v16 v17 v18 v19 v20 v21 v22) k) v0 v1 v2 v3 v4 v5 v6 v7 v8 v9 v10 v11 v12 v13 v14 v15 v16 v17 v18 v19 v20 v21 v22 (fun q11 q13 q15 q16 q17 => k (.exit 0) (energy_search_from_x6_0 v4 v5 v6 v7 v8 v9 v10 v11 v12 v13 v14 v16 v18 q11 q13 q15 q16 q17))) (by kernel_rfl) ?_
    have h : (fun (v0 : Int) (v1 : Arr Int) (v2 : Int) (v3 : Int) (v4 : Bool) (v5 : Int) (v6 : Int) (v7 : Int) (v8 : Int) (v9 : Int) (v10 : Arr Int) (v11 : Int) (v12 : Int) (v13 : Arr api_Period) (v14 : Int) (v15 : Int) (v16 : Bool) (v17 : Arr Int) (v18 : Bool) (v19 : Arr Int) (v20 : api_Period) (v21 : Bool) (v22 : Arr Int) => loopM E.Θ (energy_search_from_cald N d) (energy_search_from_lp N (energy_search_from_r N d)) (noJn) 4 energy_search_from_L6 (bodyAt E 110 6) n (energy_search_from_h6 v0 v1 v2 v3 v4 v5 v6 v7 v8 v9 v10 v11 v12 v13 v14 v15 v16 v17 v18 v19 v20 v21 v22) k) = (fun (v0 : Int) (v1 : Arr Int) (v2 : Int) (v3 : Int) (v4 : Bool) (v5 : Int) (v6 : Int) (v7 : Int) (v8 : Int) (v9 : Int) (v10 : Arr Int) (v11 : Int) (v12 : Int) (v13 : Arr api_Period) (v14 : Int) (v15 : Int) (v16 : Bool) (v17 : Arr Int) (v18 : Bool) (v19 : Arr Int) (v20 : api_Period) (v21 : Bool) (v22 : Arr Int) => energy_search_from_l6 N (energy_search_from_r N d) n v0 v1 v2 v3 v4 v5 v6 v7 v8 v9 v10 v11 v12 v13 v14 v15 v16 v17 v18 v19 v20 v21 v22 (fun q11 q13 q15 q16 q17 => k (.exit 0) (energy_search_from_x6_0 v4 v5 v6 v7 v8 v9 v10 v11 v12 v13 v14 v16 v18 q11 q13 q15 q16 q17))) := funext fun v0 => funext fun v1 => funext fun v2 => funext fun v3 => funext fun v4 => funext fun v5 => funext fun v6 => funext fun v7 => funext fun v8 => funext fun v9 => funext fun v10 => funext fun v11 => funext fun v12 => funext fun v13 => funext fun v14 => funext fun v15 => funext fun v16 => funext fun v17 => funext fun v18 => funext fun v19 => funext fun v20 => funext fun v21 => funext fun v22 => ih v0 v1 v2 v3 v4 v5 v6 v7 v8 v9 v10 v11 v12 v13 v14 v15 v16 v17 v18 v19 v20 v21 v22
    rw [h]
    rfl
theorem energy_search_from_k6 {R : Type} (N : Nat) (d : Nat) (hc : CalOk E.P (energy_search_from_cald (R := R) N d)) : LpKey (R := R) E 110 4 (energy_search_from_lp N (energy_search_from_r N d)) 6 :=
  lpKey_of hE hc (jn := noJn) energy_search_from_L6_ok [] kNil (by kernel_rfl) [] jNil (by kernel_rfl) N fun S k =>
    Eq.trans (b := energy_search_from_L6.head.raw 4 S (fun S0 => energy_search_from_d6 N (energy_search_from_r N d) S0 k)) (by kernel_rfl) (congrArg (energy_search_from_L6.head.raw 4 S) (funext fun S0 => Eq.trans (energy_search_from_l6_eq N d k N (toI (lget S0.tmps 1)) (lstC intC (lget S0.tmps 62)) (toI (lget S0.tmps 63)) (toI (lget S0.tmps 64)) (toB (lget (entCs (entAt S0.tab 0)) 0)) (toI (lget (entCs (entAt S0.tab 0)) 1)) (toI (lget (entCs (entAt S0.tab 0)) 2)) (toI (lget (entCs (entAt S0.tab 0)) 3)) (toI (lget (entCs (entAt S0.tab 0)) 4)) (toI (lget (entCs (entAt S0.tab 0)) 5)) (lstC intC (lget (entCs (entAt S0.tab 0)) 6)) (toI (lget (entCs (entAt S0.tab 0)) 7)) (toI (lget (entCs (entAt S0.tab 0)) 8)) (lstC api_PeriodC (lget (entCs (entAt S0.tab 0)) 9)) (toI (lget (entCs (entAt S0.tab 0)) 10)) (toI (lget (entCs (entAt S0.tab 0)) 14)) (entNl (entAt S0.tab 1)) (lst intC (entN (entAt S0.tab 1)) (entC (entAt S0.tab 1))) (entNl (entAt S0.tab 2)) (lst intC (entN (entAt S0.tab 2)) (entC (entAt S0.tab 2))) (Cod.dec api_PeriodC (lget (entCs (entAt S0.tab 3)))) (entNl (entAt S0.tab 4)) (lst intC (entN (entAt S0.tab 4)) (entC (entAt S0.tab 4)))).symm (by kernel_rfl)))
theorem energy_search_from_cald_ok {R : Type} (N : Nat) (d : Nat) : CalOk E.P (energy_search_from_cald (R := R) N d) := by
  induction d with
  | zero => exact callM_none (energy_ends_cal_ok N) (fun args T kf => rfl)
  | succ d ih => exact callM_rec hE (energy_ends_cal_ok N) ih (lp := energy_search_from_lp N (energy_search_from_r N d)) (jn := noJn) (keys := [6]) (kCons (energy_search_from_k6 N d ih) kNil) (by kernel_rfl) (js := []) jNil (by kernel_rfl) energy_search_from_sp_ok energy_search_from_rs_ok (fun args T kf => by kernel_rfl)
noncomputable def energy_search_from_go {R : Type} (N : Nat) (args : List SV) (T : Tab) (kf : SV × Tab → Option R) : Option R :=
  energy_search_from N (toI (lget args 1)) (toB (lget (entCs (entAt T 0)) 0)) (toI (lget (entCs (entAt T 0)) 1)) (toI (lget (entCs (entAt T 0)) 2)) (toI (lget (entCs (entAt T 0)) 3)) (toI (lget (entCs (entAt T 0)) 4)) (toI (lget (entCs (entAt T 0)) 5)) (lstC intC (lget (entCs (entAt T 0)) 6)) (toI (lget (entCs (entAt T 0)) 7)) (toI (lget (entCs (entAt T 0)) 8)) (lstC api_PeriodC (lget (entCs (entAt T 0)) 9)) (toI (lget (entCs (entAt T 0)) 10)) (toI (lget (entCs (entAt T 0)) 14)) (entNl (entAt T 1)) (lst intC (entN (entAt T 1)) (entC (entAt T 1))) (entNl (entAt T 2)) (lst intC (entN (entAt T 2)) (entC (entAt T 2))) (entNl (entAt T 3)) (lst intC (entN (entAt T 3)) (entC (entAt T 3))) (fun q11 q13 q15 q16 q17 => kf (lget [.tup []] 0, [(0, .blk [.bool (toB (lget (entCs (entAt T 0)) 0)), .int .i64 (toI (lget (entCs (entAt T 0)) 1)), .int .i64 (toI (lget (entCs (entAt T 0)) 2)), .int .i64 (toI (lget (entCs (entAt T 0)) 3)), .int .i64 (toI (lget (entCs (entAt T 0)) 4)), .int .i64 (toI (lget (entCs (entAt T 0)) 5)), slC intC (lstC intC (lget (entCs (entAt T 0)) 6)), .int .i64 (toI (lget (entCs (entAt T 0)) 7)), .int .i64 (toI (lget (entCs (entAt T 0)) 8)), slC api_PeriodC (lstC api_PeriodC (lget (entCs (entAt T 0)) 9)), .int .i64 (toI (lget (entCs (entAt T 0)) 10)), .row 1, .row 2, .row 4, .int .i64 q11]), (1, rowE intC (entNl (entAt T 1)) q13), (2, rowE intC (entNl (entAt T 2)) q15), (4, rowE intC q16 q17)]))
noncomputable def energy_search_from_cal {R : Type} (N : Nat) : Cal R := callM (energy_ends_cal N) 110 4 energy_search_from_sp (energy_search_from_go N)
theorem energy_search_from_cal_ok {R : Type} (N : Nat) : CalOk E.P (energy_search_from_cal (R := R) N) :=
  callM_eq (fun args T kf => energy_search_from_def N (toI (lget args 1)) (toB (lget (entCs (entAt T 0)) 0)) (toI (lget (entCs (entAt T 0)) 1)) (toI (lget (entCs (entAt T 0)) 2)) (toI (lget (entCs (entAt T 0)) 3)) (toI (lget (entCs (entAt T 0)) 4)) (toI (lget (entCs (entAt T 0)) 5)) (lstC intC (lget (entCs (entAt T 0)) 6)) (toI (lget (entCs (entAt T 0)) 7)) (toI (lget (entCs (entAt T 0)) 8)) (lstC api_PeriodC (lget (entCs (entAt T 0)) 9)) (toI (lget (entCs (entAt T 0)) 10)) (toI (lget (entCs (entAt T 0)) 14)) (entNl (entAt T 1)) (lst intC (entN (entAt T 1)) (entC (entAt T 1))) (entNl (entAt T 2)) (lst intC (entN (entAt T 2)) (entC (entAt T 2))) (entNl (entAt T 3)) (lst intC (entN (entAt T 3)) (entC (entAt T 3))) (fun q11 q13 q15 q16 q17 => kf (lget [.tup []] 0, [(0, .blk [.bool (toB (lget (entCs (entAt T 0)) 0)), .int .i64 (toI (lget (entCs (entAt T 0)) 1)), .int .i64 (toI (lget (entCs (entAt T 0)) 2)), .int .i64 (toI (lget (entCs (entAt T 0)) 3)), .int .i64 (toI (lget (entCs (entAt T 0)) 4)), .int .i64 (toI (lget (entCs (entAt T 0)) 5)), slC intC (lstC intC (lget (entCs (entAt T 0)) 6)), .int .i64 (toI (lget (entCs (entAt T 0)) 7)), .int .i64 (toI (lget (entCs (entAt T 0)) 8)), slC api_PeriodC (lstC api_PeriodC (lget (entCs (entAt T 0)) 9)), .int .i64 (toI (lget (entCs (entAt T 0)) 10)), .row 1, .row 2, .row 4, .int .i64 q11]), (1, rowE intC (entNl (entAt T 1)) q13), (2, rowE intC (entNl (entAt T 2)) q15), (4, rowE intC q16 q17)]))) (energy_search_from_cald_ok N N)


def energy_Cheapest_m {R : Type} (N : Nat) (a89 : api_Band) (a90 : api_Times) (k : Int → Int → Bool → Arr Int → Option R) : Option R :=
  energy_checkTimes N a89 a90 (fun r114 =>
  bif r114 != (0 : Int) then
   k (0 : Int) r114 true (lst intC (0 : Nat) (zeroC [SV.int IntKind.i64 (0 : Int)]))
  else
   bif decide ((↑(Arr.n (api_Times.Periods a90)) : Int) ≤ (↑(Arr.n (api_Times.Periods a90)) : Int)) && decide ((↑(Arr.n (api_Times.Periods a90)) : Int) ≤ (1073741824 : Int)) then
    bif decide ((↑(Arr.n (api_Times.Periods a90)) : Int) ≤ (↑(Arr.n (api_Times.Periods a90)) : Int)) && decide ((↑(Arr.n (api_Times.Periods a90)) : Int) ≤ (1073741824 : Int)) then
     energy_search_from N (0 : Int) (api_Band.Up a89) (api_Band.Pull a89) (api_Band.Drag a89) (api_Band.Body a89) (api_Band.Ride a89) (api_Band.Most a89) (api_Band.Paces a89) (api_Band.Num a89) (api_Band.Den a89) (api_Times.Periods a90) (api_Times.Peak a90) (0 : Int) false (lst intC (Int.toNat (↑(Arr.n (api_Times.Periods a90)) : Int)) (zeroC [SV.int IntKind.i64 (0 : Int)])) false (lst intC (Int.toNat (↑(Arr.n (api_Times.Periods a90)) : Int)) (zeroC [SV.int IntKind.i64 (0 : Int)])) true (lst intC (0 : Nat) (zeroC [SV.int IntKind.i64 (0 : Int)])) (fun r312 r313 r314 r315 r316 =>
     bif r315 then
      k (0 : Int) (3 : Int) true (lst intC (0 : Nat) (zeroC [SV.int IntKind.i64 (0 : Int)]))
     else
      k r312 (0 : Int) r315 r316)
    else
     Option.none
   else
    Option.none)
noncomputable def energy_Cheapest {R : Type} : Nat → api_Band → api_Times → (Int → Int → Bool → Arr Int → Option R) → Option R := lock (@energy_Cheapest_m R)
theorem energy_Cheapest_def {R : Type} (N : Nat) (a89 : api_Band) (a90 : api_Times) (k : Int → Int → Bool → Arr Int → Option R) : energy_Cheapest N a89 a90 k = energy_Cheapest_m N a89 a90 k := by unfold energy_Cheapest; rw [lock_eq]
def energy_Cheapest_sp : Sp := ⟨[rAgg api_BandC, rAgg api_TimesC], []⟩
theorem energy_Cheapest_sp_ok : energy_Cheapest_sp.Ok := ⟨(allCons (rAgg_ok api_BandC_ok api_BandC_len) (allCons (rAgg_ok api_TimesC_ok api_TimesC_len) allNil)), eNil⟩
def energy_Cheapest_rs : Sp := ⟨[rTup [rRow 0, rInt .i64, rInt .i64]], [(0, eRow intC)]⟩
theorem energy_Cheapest_rs_ok : energy_Cheapest_rs.Ok := ⟨(allCons (rTup_ok (allCons (rRow_ok 0) (allCons (rInt_ok .i64) (allCons (rInt_ok .i64) allNil)))) allNil), (eCons (eRow_ok intC_ok) eNil)⟩
def energy_Cheapest_run {R : Type} (N : Nat) (args : List SV) (T : Tab) (kf : SV × Tab → Option R) : Option R :=
  energy_Cheapest_m N (Cod.dec api_BandC (lget (toCs (lget args 0)))) (Cod.dec api_TimesC (lget (toCs (lget args 1)))) (fun q0 q1 q2 q3 => kf (lget [.tup [.row 0, .int .i64 q0, .int .i64 q1]] 0, [(0, rowE intC q2 q3)]))
def energy_Cheapest_lp {R : Type} (N : Nat) : Lp R := fun body S k => Option.none
noncomputable def energy_Cheapest_go {R : Type} (N : Nat) (args : List SV) (T : Tab) (kf : SV × Tab → Option R) : Option R :=
  energy_Cheapest N (Cod.dec api_BandC (lget (toCs (lget args 0)))) (Cod.dec api_TimesC (lget (toCs (lget args 1)))) (fun q0 q1 q2 q3 => kf (lget [.tup [.row 0, .int .i64 q0, .int .i64 q1]] 0, [(0, rowE intC q2 q3)]))
noncomputable def energy_Cheapest_cal {R : Type} (N : Nat) : Cal R := callM (energy_search_from_cal N) 55 0 energy_Cheapest_sp (energy_Cheapest_go N)
theorem energy_Cheapest_cal_ok {R : Type} (N : Nat) : CalOk E.P (energy_Cheapest_cal (R := R) N) :=
  callM_ok hE (energy_search_from_cal_ok N) (lp := energy_Cheapest_lp N) (jn := noJn) (keys := []) kNil (by kernel_rfl) (js := []) jNil (by kernel_rfl) energy_Cheapest_sp_ok energy_Cheapest_rs_ok (fun args T kf => Eq.trans (energy_Cheapest_def N (Cod.dec api_BandC (lget (toCs (lget args 0)))) (Cod.dec api_TimesC (lget (toCs (lget args 1)))) (fun q0 q1 q2 q3 => kf (lget [.tup [.row 0, .int .i64 q0, .int .i64 q1]] 0, [(0, rowE intC q2 q3)]))) (by kernel_rfl : energy_Cheapest_run N args T kf = fnM E (energy_search_from_cal N) (energy_Cheapest_lp N) (noJn) 55 (energy_Cheapest_sp.vs args) (energy_Cheapest_sp.tab T) 0 (resK energy_Cheapest_rs kf)))

def newelref11_CheckPlan_L7 : LoopSp := ⟨⟨[2, 3, 8], ⟨(dr 2 ((rSl intC) :: (rPtr 0 0) :: (dr 4 ((rInt .i64) :: (dr 25 []))))), [(0, eBlkC api_BandC)]⟩, 1⟩, [(Option.none, ⟨[6], ⟨(dr 6 ((rInt .i64) :: (dr 27 []))), []⟩, 0⟩), (some 0, ⟨[], ⟨(dr 34 []), []⟩, 0⟩)]⟩
theorem newelref11_CheckPlan_L7_ok : newelref11_CheckPlan_L7.Ok := ⟨⟨(drCons 2 (allCons (rSl_ok intC_ok) (allCons (rPtr_ok 0 0) (drCons 4 (allCons (rInt_ok .i64) (drCons 25 allNil)))))), (eCons (eBlkC_ok api_BandC_ok api_BandC_len) eNil)⟩, (xCons ⟨(drCons 6 (allCons (rInt_ok .i64) (drCons 27 allNil))), eNil⟩ (xCons ⟨(drCons 34 allNil), eNil⟩ xNil))⟩
def newelref11_CheckPlan_h7 (v321 : Arr Int) (v322 : Int) (v323 : api_Band) : St := ⟨(un 2 ((slC intC v321) :: (.ptr 0 0) :: (un 4 ((.int .i64 v322) :: (un 25 []))))), [(0, .blk (Cod.enc api_BandC v323))], 1⟩
def newelref11_CheckPlan_x7_r (q0 : Int) : St := ⟨(un 6 ((.int .i64 q0) :: (un 27 []))), [], 0⟩
def newelref11_CheckPlan_x7_0  : St := ⟨(un 34 []), [], 0⟩
def newelref11_CheckPlan_b7 {R : Type} (N : Nat) (rc : Arr Int → Int → api_Band → Option R) (v321 : Arr Int) (v322 : Int) (v323 : api_Band) (kr : Int → Option R) (k0 : Unit → Option R) : Option R :=
  bif decide (v322 < (↑(Arr.n v321) : Int)) then
   bif decide ((0 : Int) ≤ v322) && decide (v322 < (↑(Arr.n v321) : Int)) then
    newelref11_Pace N v323 (Arr.f v321 (Int.toNat v322)) (fun r324 =>
    bif !r324 then
     kr (112 : Int)
    else
     rc v321 (w64 (v322 + (1 : Int))) v323)
   else
    Option.none
  else
   k0 ()
def newelref11_CheckPlan_l7 {R : Type} (N : Nat) : Nat → Arr Int → Int → api_Band → (Int → Option R) → (Unit → Option R) → Option R
  | 0, _, _, _, _, _ => Option.none
  | n + 1, v321, v322, v323, kr, k0 => newelref11_CheckPlan_b7 N (fun v321 v322 v323 => newelref11_CheckPlan_l7 N n v321 v322 v323 kr k0) v321 v322 v323 kr k0


def newelref11_CheckPlan_m {R : Type} (N : Nat) (a317 : api_Band) (a318 : api_Times) (a319 : Arr Int) (k : Int → Option R) : Option R :=
  newelref11_CheckTimes N a317 a318 (fun r320 =>
  bif r320 != (0 : Int) then
   k r320
  else
   bif (↑(Arr.n a319) : Int) != (↑(Arr.n (api_Times.Periods a318)) : Int) then
    k (112 : Int)
   else
    newelref11_CheckPlan_l7 N N a319 (0 : Int) a317 (fun r325 =>
     k r325) (fun (_ : Unit) =>
     k (0 : Int)))
noncomputable def newelref11_CheckPlan {R : Type} : Nat → api_Band → api_Times → Arr Int → (Int → Option R) → Option R := lock (@newelref11_CheckPlan_m R)
theorem newelref11_CheckPlan_def {R : Type} (N : Nat) (a317 : api_Band) (a318 : api_Times) (a319 : Arr Int) (k : Int → Option R) : newelref11_CheckPlan N a317 a318 a319 k = newelref11_CheckPlan_m N a317 a318 a319 k := by unfold newelref11_CheckPlan; rw [lock_eq]
def newelref11_CheckPlan_sp : Sp := ⟨[rAgg api_BandC, rAgg api_TimesC, rSl intC], []⟩
theorem newelref11_CheckPlan_sp_ok : newelref11_CheckPlan_sp.Ok := ⟨(allCons (rAgg_ok api_BandC_ok api_BandC_len) (allCons (rAgg_ok api_TimesC_ok api_TimesC_len) (allCons (rSl_ok intC_ok) allNil))), eNil⟩
def newelref11_CheckPlan_rs : Sp := ⟨[rInt .i64], []⟩
theorem newelref11_CheckPlan_rs_ok : newelref11_CheckPlan_rs.Ok := ⟨(allCons (rInt_ok .i64) allNil), eNil⟩
def newelref11_CheckPlan_run {R : Type} (N : Nat) (args : List SV) (T : Tab) (kf : SV × Tab → Option R) : Option R :=
  newelref11_CheckPlan_m N (Cod.dec api_BandC (lget (toCs (lget args 0)))) (Cod.dec api_TimesC (lget (toCs (lget args 1)))) (lstC intC (lget args 2)) (fun q0 => kf (lget [.int .i64 q0] 0, []))
def newelref11_CheckPlan_d7 {R : Type} (N : Nat) (S0 : St) (k : Exit → St → Option R) : Option R :=
  newelref11_CheckPlan_l7 N N (lstC intC (lget S0.tmps 2)) (toI (lget S0.tmps 8)) (Cod.dec api_BandC (lget (entCs (entAt S0.tab 0)))) (fun q0 => k .ret (newelref11_CheckPlan_x7_r q0)) (fun (_ : Unit) => k (.exit 0) (newelref11_CheckPlan_x7_0 ))
def newelref11_CheckPlan_lp {R : Type} (N : Nat) : Lp R := fun body S k => bif (Go.Sx.keyOf body).getD 0 == 7 then newelref11_CheckPlan_L7.head.raw 0 S (fun S0 => newelref11_CheckPlan_d7 N S0 k) else Option.none
theorem newelref11_CheckPlan_l7_eq {R : Type} (N : Nat) (k : Exit → St → Option R) (n : Nat) : ∀ (v0 : Arr Int) (v1 : Int) (v2 : api_Band), loopM E.Θ (energy_Cheapest_cal N) (newelref11_CheckPlan_lp N) (noJn) 0 newelref11_CheckPlan_L7 (bodyAt E 56 7) n (newelref11_CheckPlan_h7 v0 v1 v2) k = newelref11_CheckPlan_l7 N n v0 v1 v2 (fun q0 => k .ret (newelref11_CheckPlan_x7_r q0)) (fun (_ : Unit) => k (.exit 0) (newelref11_CheckPlan_x7_0 )) := by
  induction n with
  | zero => intro v0 v1 v2; rfl
  | succ n ih =>
    intro v0 v1 v2
    refine Eq.trans (b := newelref11_CheckPlan_b7 N (fun v0 v1 v2 => loopM E.Θ (energy_Cheapest_cal N) (newelref11_CheckPlan_lp N) (noJn) 0 newelref11_CheckPlan_L7 (bodyAt E 56 7) n (newelref11_CheckPlan_h7 v0 v1 v2) k) v0 v1 v2 (fun q0 => k .ret (newelref11_CheckPlan_x7_r q0)) (fun (_ : Unit) => k (.exit 0) (newelref11_CheckPlan_x7_0 ))) (by kernel_rfl) ?_
    have h : (fun (v0 : Arr Int) (v1 : Int) (v2 : api_Band) => loopM E.Θ (energy_Cheapest_cal N) (newelref11_CheckPlan_lp N) (noJn) 0 newelref11_CheckPlan_L7 (bodyAt E 56 7) n (newelref11_CheckPlan_h7 v0 v1 v2) k) = (fun (v0 : Arr Int) (v1 : Int) (v2 : api_Band) => newelref11_CheckPlan_l7 N n v0 v1 v2 (fun q0 => k .ret (newelref11_CheckPlan_x7_r q0)) (fun (_ : Unit) => k (.exit 0) (newelref11_CheckPlan_x7_0 ))) := funext fun v0 => funext fun v1 => funext fun v2 => ih v0 v1 v2
    rw [h]
    rfl
theorem newelref11_CheckPlan_k7 {R : Type} (N : Nat) : LpKey (R := R) E 56 0 (newelref11_CheckPlan_lp N) 7 :=
  lpKey_of hE (energy_Cheapest_cal_ok N) (jn := noJn) newelref11_CheckPlan_L7_ok [] kNil (by kernel_rfl) [] jNil (by kernel_rfl) N fun S k =>
    Eq.trans (b := newelref11_CheckPlan_L7.head.raw 0 S (fun S0 => newelref11_CheckPlan_d7 N S0 k)) (by kernel_rfl) (congrArg (newelref11_CheckPlan_L7.head.raw 0 S) (funext fun S0 => Eq.trans (newelref11_CheckPlan_l7_eq N k N (lstC intC (lget S0.tmps 2)) (toI (lget S0.tmps 8)) (Cod.dec api_BandC (lget (entCs (entAt S0.tab 0))))).symm (by kernel_rfl)))
noncomputable def newelref11_CheckPlan_go {R : Type} (N : Nat) (args : List SV) (T : Tab) (kf : SV × Tab → Option R) : Option R :=
  newelref11_CheckPlan N (Cod.dec api_BandC (lget (toCs (lget args 0)))) (Cod.dec api_TimesC (lget (toCs (lget args 1)))) (lstC intC (lget args 2)) (fun q0 => kf (lget [.int .i64 q0] 0, []))
noncomputable def newelref11_CheckPlan_cal {R : Type} (N : Nat) : Cal R := callM (energy_Cheapest_cal N) 56 0 newelref11_CheckPlan_sp (newelref11_CheckPlan_go N)
theorem newelref11_CheckPlan_cal_ok {R : Type} (N : Nat) : CalOk E.P (newelref11_CheckPlan_cal (R := R) N) :=
  callM_ok hE (energy_Cheapest_cal_ok N) (lp := newelref11_CheckPlan_lp N) (jn := noJn) (keys := [7]) (kCons (newelref11_CheckPlan_k7 N) kNil) (by kernel_rfl) (js := []) jNil (by kernel_rfl) newelref11_CheckPlan_sp_ok newelref11_CheckPlan_rs_ok (fun args T kf => Eq.trans (newelref11_CheckPlan_def N (Cod.dec api_BandC (lget (toCs (lget args 0)))) (Cod.dec api_TimesC (lget (toCs (lget args 1)))) (lstC intC (lget args 2)) (fun q0 => kf (lget [.int .i64 q0] 0, []))) (by kernel_rfl : newelref11_CheckPlan_run N args T kf = fnM E (energy_Cheapest_cal N) (newelref11_CheckPlan_lp N) (noJn) 56 (newelref11_CheckPlan_sp.vs args) (newelref11_CheckPlan_sp.tab T) 0 (resK newelref11_CheckPlan_rs kf)))

def slices_Index___int_int__L2 : LoopSp := ⟨⟨[0, 1, 7, 8], ⟨((rSl intC) :: (rInt .i64) :: (dr 5 ((rInt .i64) :: (rInt .i64) :: (dr 10 [])))), []⟩, 0⟩, [(Option.none, ⟨[4], ⟨(dr 4 ((rInt .i64) :: (dr 14 []))), []⟩, 0⟩), (some 0, ⟨[], ⟨(dr 19 []), []⟩, 0⟩)]⟩
theorem slices_Index___int_int__L2_ok : slices_Index___int_int__L2.Ok := ⟨⟨(allCons (rSl_ok intC_ok) (allCons (rInt_ok .i64) (drCons 5 (allCons (rInt_ok .i64) (allCons (rInt_ok .i64) (drCons 10 allNil)))))), eNil⟩, (xCons ⟨(drCons 4 (allCons (rInt_ok .i64) (drCons 14 allNil))), eNil⟩ (xCons ⟨(drCons 19 allNil), eNil⟩ xNil))⟩
def slices_Index___int_int__h2 (v337 : Arr Int) (v338 : Int) (v339 : Int) (v340 : Int) : St := ⟨((slC intC v337) :: (.int .i64 v338) :: (un 5 ((.int .i64 v339) :: (.int .i64 v340) :: (un 10 [])))), [], 0⟩
def slices_Index___int_int__x2_r (q0 : Int) : St := ⟨(un 4 ((.int .i64 q0) :: (un 14 []))), [], 0⟩
def slices_Index___int_int__x2_0  : St := ⟨(un 19 []), [], 0⟩
def slices_Index___int_int__b2 {R : Type} (N : Nat) (rc : Arr Int → Int → Int → Int → Option R) (v337 : Arr Int) (v338 : Int) (v339 : Int) (v340 : Int) (kr : Int → Option R) (k0 : Unit → Option R) : Option R :=
  bif decide (v340 < v339) then
   bif decide ((0 : Int) ≤ v340) && decide (v340 < (↑(Arr.n v337) : Int)) then
    bif v338 == Arr.f v337 (Int.toNat v340) then
     kr v340
    else
     rc v337 v338 v339 (w64 (v340 + (1 : Int)))
   else
    Option.none
  else
   k0 ()
def slices_Index___int_int__l2 {R : Type} (N : Nat) : Nat → Arr Int → Int → Int → Int → (Int → Option R) → (Unit → Option R) → Option R
  | 0, _, _, _, _, _, _ => Option.none
  | n + 1, v337, v338, v339, v340, kr, k0 => slices_Index___int_int__b2 N (fun v337 v338 v339 v340 => slices_Index___int_int__l2 N n v337 v338 v339 v340 kr k0) v337 v338 v339 v340 kr k0


def slices_Index___int_int__m {R : Type} (N : Nat) (a335 : Arr Int) (a336 : Int) (k : Int → Option R) : Option R :=
  slices_Index___int_int__l2 N N a335 a336 ((↑(Arr.n a335) : Int)) (0 : Int) (fun r341 =>
   k r341) (fun (_ : Unit) =>
   k (-1 : Int))
noncomputable def slices_Index___int_int_ {R : Type} : Nat → Arr Int → Int → (Int → Option R) → Option R := lock (@slices_Index___int_int__m R)
theorem slices_Index___int_int__def {R : Type} (N : Nat) (a335 : Arr Int) (a336 : Int) (k : Int → Option R) : slices_Index___int_int_ N a335 a336 k = slices_Index___int_int__m N a335 a336 k := by unfold slices_Index___int_int_; rw [lock_eq]
def slices_Index___int_int__sp : Sp := ⟨[rSl intC, rInt .i64], []⟩
theorem slices_Index___int_int__sp_ok : slices_Index___int_int__sp.Ok := ⟨(allCons (rSl_ok intC_ok) (allCons (rInt_ok .i64) allNil)), eNil⟩
def slices_Index___int_int__rs : Sp := ⟨[rInt .i64], []⟩
theorem slices_Index___int_int__rs_ok : slices_Index___int_int__rs.Ok := ⟨(allCons (rInt_ok .i64) allNil), eNil⟩
def slices_Index___int_int__run {R : Type} (N : Nat) (args : List SV) (T : Tab) (kf : SV × Tab → Option R) : Option R :=
  slices_Index___int_int__m N (lstC intC (lget args 0)) (toI (lget args 1)) (fun q0 => kf (lget [.int .i64 q0] 0, []))
def slices_Index___int_int__d2 {R : Type} (N : Nat) (S0 : St) (k : Exit → St → Option R) : Option R :=
  slices_Index___int_int__l2 N N (lstC intC (lget S0.tmps 0)) (toI (lget S0.tmps 1)) (toI (lget S0.tmps 7)) (toI (lget S0.tmps 8)) (fun q0 => k .ret (slices_Index___int_int__x2_r q0)) (fun (_ : Unit) => k (.exit 0) (slices_Index___int_int__x2_0 ))
def slices_Index___int_int__lp {R : Type} (N : Nat) : Lp R := fun body S k => bif (Go.Sx.keyOf body).getD 0 == 2 then slices_Index___int_int__L2.head.raw 0 S (fun S0 => slices_Index___int_int__d2 N S0 k) else Option.none
theorem slices_Index___int_int__l2_eq {R : Type} (N : Nat) (k : Exit → St → Option R) (n : Nat) : ∀ (v0 : Arr Int) (v1 : Int) (v2 : Int) (v3 : Int), loopM E.Θ (newelref11_CheckPlan_cal N) (slices_Index___int_int__lp N) (noJn) 0 slices_Index___int_int__L2 (bodyAt E 116 2) n (slices_Index___int_int__h2 v0 v1 v2 v3) k = slices_Index___int_int__l2 N n v0 v1 v2 v3 (fun q0 => k .ret (slices_Index___int_int__x2_r q0)) (fun (_ : Unit) => k (.exit 0) (slices_Index___int_int__x2_0 )) := by
  induction n with
  | zero => intro v0 v1 v2 v3; rfl
  | succ n ih =>
    intro v0 v1 v2 v3
    refine Eq.trans (b := slices_Index___int_int__b2 N (fun v0 v1 v2 v3 => loopM E.Θ (newelref11_CheckPlan_cal N) (slices_Index___int_int__lp N) (noJn) 0 slices_Index___int_int__L2 (bodyAt E 116 2) n (slices_Index___int_int__h2 v0 v1 v2 v3) k) v0 v1 v2 v3 (fun q0 => k .ret (slices_Index___int_int__x2_r q0)) (fun (_ : Unit) => k (.exit 0) (slices_Index___int_int__x2_0 ))) (by kernel_rfl) ?_
    have h : (fun (v0 : Arr Int) (v1 : Int) (v2 : Int) (v3 : Int) => loopM E.Θ (newelref11_CheckPlan_cal N) (slices_Index___int_int__lp N) (noJn) 0 slices_Index___int_int__L2 (bodyAt E 116 2) n (slices_Index___int_int__h2 v0 v1 v2 v3) k) = (fun (v0 : Arr Int) (v1 : Int) (v2 : Int) (v3 : Int) => slices_Index___int_int__l2 N n v0 v1 v2 v3 (fun q0 => k .ret (slices_Index___int_int__x2_r q0)) (fun (_ : Unit) => k (.exit 0) (slices_Index___int_int__x2_0 ))) := funext fun v0 => funext fun v1 => funext fun v2 => funext fun v3 => ih v0 v1 v2 v3
    rw [h]
    rfl
theorem slices_Index___int_int__k2 {R : Type} (N : Nat) : LpKey (R := R) E 116 0 (slices_Index___int_int__lp N) 2 :=
  lpKey_of hE (newelref11_CheckPlan_cal_ok N) (jn := noJn) slices_Index___int_int__L2_ok [] kNil (by kernel_rfl) [] jNil (by kernel_rfl) N fun S k =>
    Eq.trans (b := slices_Index___int_int__L2.head.raw 0 S (fun S0 => slices_Index___int_int__d2 N S0 k)) (by kernel_rfl) (congrArg (slices_Index___int_int__L2.head.raw 0 S) (funext fun S0 => Eq.trans (slices_Index___int_int__l2_eq N k N (lstC intC (lget S0.tmps 0)) (toI (lget S0.tmps 1)) (toI (lget S0.tmps 7)) (toI (lget S0.tmps 8))).symm (by kernel_rfl)))
noncomputable def slices_Index___int_int__go {R : Type} (N : Nat) (args : List SV) (T : Tab) (kf : SV × Tab → Option R) : Option R :=
  slices_Index___int_int_ N (lstC intC (lget args 0)) (toI (lget args 1)) (fun q0 => kf (lget [.int .i64 q0] 0, []))
noncomputable def slices_Index___int_int__cal {R : Type} (N : Nat) : Cal R := callM (newelref11_CheckPlan_cal N) 116 0 slices_Index___int_int__sp (slices_Index___int_int__go N)
theorem slices_Index___int_int__cal_ok {R : Type} (N : Nat) : CalOk E.P (slices_Index___int_int__cal (R := R) N) :=
  callM_ok hE (newelref11_CheckPlan_cal_ok N) (lp := slices_Index___int_int__lp N) (jn := noJn) (keys := [2]) (kCons (slices_Index___int_int__k2 N) kNil) (by kernel_rfl) (js := []) jNil (by kernel_rfl) slices_Index___int_int__sp_ok slices_Index___int_int__rs_ok (fun args T kf => Eq.trans (slices_Index___int_int__def N (lstC intC (lget args 0)) (toI (lget args 1)) (fun q0 => kf (lget [.int .i64 q0] 0, []))) (by kernel_rfl : slices_Index___int_int__run N args T kf = fnM E (newelref11_CheckPlan_cal N) (slices_Index___int_int__lp N) (noJn) 116 (slices_Index___int_int__sp.vs args) (slices_Index___int_int__sp.tab T) 0 (resK slices_Index___int_int__rs kf)))


def slices_Contains___int_int__m {R : Type} (N : Nat) (a333 : Arr Int) (a334 : Int) (k : Bool → Option R) : Option R :=
  slices_Index___int_int_ N a333 a334 (fun r342 =>
  k (decide (r342 ≥ (0 : Int))))
noncomputable def slices_Contains___int_int_ {R : Type} : Nat → Arr Int → Int → (Bool → Option R) → Option R := lock (@slices_Contains___int_int__m R)
theorem slices_Contains___int_int__def {R : Type} (N : Nat) (a333 : Arr Int) (a334 : Int) (k : Bool → Option R) : slices_Contains___int_int_ N a333 a334 k = slices_Contains___int_int__m N a333 a334 k := by unfold slices_Contains___int_int_; rw [lock_eq]
def slices_Contains___int_int__sp : Sp := ⟨[rSl intC, rInt .i64], []⟩
theorem slices_Contains___int_int__sp_ok : slices_Contains___int_int__sp.Ok := ⟨(allCons (rSl_ok intC_ok) (allCons (rInt_ok .i64) allNil)), eNil⟩
def slices_Contains___int_int__rs : Sp := ⟨[rBool], []⟩
theorem slices_Contains___int_int__rs_ok : slices_Contains___int_int__rs.Ok := ⟨(allCons rBool_ok allNil), eNil⟩
def slices_Contains___int_int__run {R : Type} (N : Nat) (args : List SV) (T : Tab) (kf : SV × Tab → Option R) : Option R :=
  slices_Contains___int_int__m N (lstC intC (lget args 0)) (toI (lget args 1)) (fun q0 => kf (lget [.bool q0] 0, []))
def slices_Contains___int_int__lp {R : Type} (N : Nat) : Lp R := fun body S k => Option.none
noncomputable def slices_Contains___int_int__go {R : Type} (N : Nat) (args : List SV) (T : Tab) (kf : SV × Tab → Option R) : Option R :=
  slices_Contains___int_int_ N (lstC intC (lget args 0)) (toI (lget args 1)) (fun q0 => kf (lget [.bool q0] 0, []))
noncomputable def slices_Contains___int_int__cal {R : Type} (N : Nat) : Cal R := callM (slices_Index___int_int__cal N) 75 0 slices_Contains___int_int__sp (slices_Contains___int_int__go N)
theorem slices_Contains___int_int__cal_ok {R : Type} (N : Nat) : CalOk E.P (slices_Contains___int_int__cal (R := R) N) :=
  callM_ok hE (slices_Index___int_int__cal_ok N) (lp := slices_Contains___int_int__lp N) (jn := noJn) (keys := []) kNil (by kernel_rfl) (js := []) jNil (by kernel_rfl) slices_Contains___int_int__sp_ok slices_Contains___int_int__rs_ok (fun args T kf => Eq.trans (slices_Contains___int_int__def N (lstC intC (lget args 0)) (toI (lget args 1)) (fun q0 => kf (lget [.bool q0] 0, []))) (by kernel_rfl : slices_Contains___int_int__run N args T kf = fnM E (slices_Index___int_int__cal N) (slices_Contains___int_int__lp N) (noJn) 75 (slices_Contains___int_int__sp.vs args) (slices_Contains___int_int__sp.tab T) 0 (resK slices_Contains___int_int__rs kf)))


def energy_check_m {R : Type} (N : Nat) (a329 : api_Band) (a330 : Int) (a331 : Int) (k : Int → Option R) : Option R :=
  energy_Check N a329 (fun r332 =>
  bif r332 != (0 : Int) then
   k r332
  else
   slices_Contains___int_int_ N (api_Band.Paces a329) a331 (fun r343 =>
   bif !r343 then
    k (112 : Int)
   else
    energy_from0 N a330 (100 : Int) (fun r344 =>
    bif !r344 then
     k (1 : Int)
    else
     k (0 : Int))))
noncomputable def energy_check {R : Type} : Nat → api_Band → Int → Int → (Int → Option R) → Option R := lock (@energy_check_m R)
theorem energy_check_def {R : Type} (N : Nat) (a329 : api_Band) (a330 : Int) (a331 : Int) (k : Int → Option R) : energy_check N a329 a330 a331 k = energy_check_m N a329 a330 a331 k := by unfold energy_check; rw [lock_eq]
def energy_check_sp : Sp := ⟨[rAgg api_BandC, rInt .i64, rInt .i64], []⟩
theorem energy_check_sp_ok : energy_check_sp.Ok := ⟨(allCons (rAgg_ok api_BandC_ok api_BandC_len) (allCons (rInt_ok .i64) (allCons (rInt_ok .i64) allNil))), eNil⟩
def energy_check_rs : Sp := ⟨[rInt .i64], []⟩
theorem energy_check_rs_ok : energy_check_rs.Ok := ⟨(allCons (rInt_ok .i64) allNil), eNil⟩
def energy_check_run {R : Type} (N : Nat) (args : List SV) (T : Tab) (kf : SV × Tab → Option R) : Option R :=
  energy_check_m N (Cod.dec api_BandC (lget (toCs (lget args 0)))) (toI (lget args 1)) (toI (lget args 2)) (fun q0 => kf (lget [.int .i64 q0] 0, []))
def energy_check_lp {R : Type} (N : Nat) : Lp R := fun body S k => Option.none
noncomputable def energy_check_go {R : Type} (N : Nat) (args : List SV) (T : Tab) (kf : SV × Tab → Option R) : Option R :=
  energy_check N (Cod.dec api_BandC (lget (toCs (lget args 0)))) (toI (lget args 1)) (toI (lget args 2)) (fun q0 => kf (lget [.int .i64 q0] 0, []))
noncomputable def energy_check_cal {R : Type} (N : Nat) : Cal R := callM (slices_Contains___int_int__cal N) 63 0 energy_check_sp (energy_check_go N)
theorem energy_check_cal_ok {R : Type} (N : Nat) : CalOk E.P (energy_check_cal (R := R) N) :=
  callM_ok hE (slices_Contains___int_int__cal_ok N) (lp := energy_check_lp N) (jn := noJn) (keys := []) kNil (by kernel_rfl) (js := []) jNil (by kernel_rfl) energy_check_sp_ok energy_check_rs_ok (fun args T kf => Eq.trans (energy_check_def N (Cod.dec api_BandC (lget (toCs (lget args 0)))) (toI (lget args 1)) (toI (lget args 2)) (fun q0 => kf (lget [.int .i64 q0] 0, []))) (by kernel_rfl : energy_check_run N args T kf = fnM E (slices_Contains___int_int__cal N) (energy_check_lp N) (noJn) 63 (energy_check_sp.vs args) (energy_check_sp.tab T) 0 (resK energy_check_rs kf)))


def energy_Load_m {R : Type} (N : Nat) (a326 : api_Band) (a327 : Int) (a328 : Int) (k : Int → Int → Option R) : Option R :=
  energy_check N a326 a327 a328 (fun r345 =>
  bif r345 != (0 : Int) then
   k (0 : Int) r345
  else
   energy_load N a326 a327 a328 (fun r346 =>
   k r346 (0 : Int)))
noncomputable def energy_Load {R : Type} : Nat → api_Band → Int → Int → (Int → Int → Option R) → Option R := lock (@energy_Load_m R)
theorem energy_Load_def {R : Type} (N : Nat) (a326 : api_Band) (a327 : Int) (a328 : Int) (k : Int → Int → Option R) : energy_Load N a326 a327 a328 k = energy_Load_m N a326 a327 a328 k := by unfold energy_Load; rw [lock_eq]
def energy_Load_sp : Sp := ⟨[rAgg api_BandC, rInt .i64, rInt .i64], []⟩
theorem energy_Load_sp_ok : energy_Load_sp.Ok := ⟨(allCons (rAgg_ok api_BandC_ok api_BandC_len) (allCons (rInt_ok .i64) (allCons (rInt_ok .i64) allNil))), eNil⟩
def energy_Load_rs : Sp := ⟨[rTup [rInt .i64, rInt .i64]], []⟩
theorem energy_Load_rs_ok : energy_Load_rs.Ok := ⟨(allCons (rTup_ok (allCons (rInt_ok .i64) (allCons (rInt_ok .i64) allNil))) allNil), eNil⟩
def energy_Load_run {R : Type} (N : Nat) (args : List SV) (T : Tab) (kf : SV × Tab → Option R) : Option R :=
  energy_Load_m N (Cod.dec api_BandC (lget (toCs (lget args 0)))) (toI (lget args 1)) (toI (lget args 2)) (fun q0 q1 => kf (lget [.tup [.int .i64 q0, .int .i64 q1]] 0, []))
def energy_Load_lp {R : Type} (N : Nat) : Lp R := fun body S k => Option.none
noncomputable def energy_Load_go {R : Type} (N : Nat) (args : List SV) (T : Tab) (kf : SV × Tab → Option R) : Option R :=
  energy_Load N (Cod.dec api_BandC (lget (toCs (lget args 0)))) (toI (lget args 1)) (toI (lget args 2)) (fun q0 q1 => kf (lget [.tup [.int .i64 q0, .int .i64 q1]] 0, []))
noncomputable def energy_Load_cal {R : Type} (N : Nat) : Cal R := callM (energy_check_cal N) 16 0 energy_Load_sp (energy_Load_go N)
theorem energy_Load_cal_ok {R : Type} (N : Nat) : CalOk E.P (energy_Load_cal (R := R) N) :=
  callM_ok hE (energy_check_cal_ok N) (lp := energy_Load_lp N) (jn := noJn) (keys := []) kNil (by kernel_rfl) (js := []) jNil (by kernel_rfl) energy_Load_sp_ok energy_Load_rs_ok (fun args T kf => Eq.trans (energy_Load_def N (Cod.dec api_BandC (lget (toCs (lget args 0)))) (toI (lget args 1)) (toI (lget args 2)) (fun q0 q1 => kf (lget [.tup [.int .i64 q0, .int .i64 q1]] 0, []))) (by kernel_rfl : energy_Load_run N args T kf = fnM E (energy_check_cal N) (energy_Load_lp N) (noJn) 16 (energy_Load_sp.vs args) (energy_Load_sp.tab T) 0 (resK energy_Load_rs kf)))


def drive_checkStop_m {R : Type} (N : Nat) (a350 : api_Escalator) (a351 : api_Stop) (k : Int → Option R) : Option R :=
  drive_Check N a350 (fun r352 =>
  bif r352 != (0 : Int) then
   k r352
  else
   drive_to N (1000 : Int) (fun r353 =>
   drive_in N (api_Stop.Speed a351) r353 (fun r354 =>
   bif !r354 then
    k (11 : Int)
   else
    bif decide (api_Span.Low (api_Stop.Loads a351) < (0 : Int)) then
     k (11 : Int)
    else
     bif decide (api_Span.Low (api_Stop.Loads a351) > api_Span.High (api_Stop.Loads a351)) then
      k (11 : Int)
     else
      bif decide (api_Span.High (api_Stop.Loads a351) > (100000 : Int)) then
       k (11 : Int)
      else
       bif decide (api_Stop.Fail a351 < (0 : Int)) then
        k (11 : Int)
       else
        bif decide (api_Stop.Fail a351 ≥ w64 ((1 : Int) * (2 : Int) ^ min (Int.toNat (↑(Arr.n (api_Escalator.Brakes a350)) : Int)) (IntKind.bits IntKind.i64))) then
         k (11 : Int)
        else
         k (0 : Int))))
noncomputable def drive_checkStop {R : Type} : Nat → api_Escalator → api_Stop → (Int → Option R) → Option R := lock (@drive_checkStop_m R)
theorem drive_checkStop_def {R : Type} (N : Nat) (a350 : api_Escalator) (a351 : api_Stop) (k : Int → Option R) : drive_checkStop N a350 a351 k = drive_checkStop_m N a350 a351 k := by unfold drive_checkStop; rw [lock_eq]
def drive_checkStop_sp : Sp := ⟨[rAgg api_EscalatorC, rAgg api_StopC], []⟩
theorem drive_checkStop_sp_ok : drive_checkStop_sp.Ok := ⟨(allCons (rAgg_ok api_EscalatorC_ok api_EscalatorC_len) (allCons (rAgg_ok api_StopC_ok api_StopC_len) allNil)), eNil⟩
def drive_checkStop_rs : Sp := ⟨[rInt .i64], []⟩
theorem drive_checkStop_rs_ok : drive_checkStop_rs.Ok := ⟨(allCons (rInt_ok .i64) allNil), eNil⟩
def drive_checkStop_run {R : Type} (N : Nat) (args : List SV) (T : Tab) (kf : SV × Tab → Option R) : Option R :=
  drive_checkStop_m N (Cod.dec api_EscalatorC (lget (toCs (lget args 0)))) (Cod.dec api_StopC (lget (toCs (lget args 1)))) (fun q0 => kf (lget [.int .i64 q0] 0, []))
def drive_checkStop_lp {R : Type} (N : Nat) : Lp R := fun body S k => Option.none
noncomputable def drive_checkStop_go {R : Type} (N : Nat) (args : List SV) (T : Tab) (kf : SV × Tab → Option R) : Option R :=
  drive_checkStop N (Cod.dec api_EscalatorC (lget (toCs (lget args 0)))) (Cod.dec api_StopC (lget (toCs (lget args 1)))) (fun q0 => kf (lget [.int .i64 q0] 0, []))
noncomputable def drive_checkStop_cal {R : Type} (N : Nat) : Cal R := callM (energy_Load_cal N) 83 0 drive_checkStop_sp (drive_checkStop_go N)
theorem drive_checkStop_cal_ok {R : Type} (N : Nat) : CalOk E.P (drive_checkStop_cal (R := R) N) :=
  callM_ok hE (energy_Load_cal_ok N) (lp := drive_checkStop_lp N) (jn := noJn) (keys := []) kNil (by kernel_rfl) (js := []) jNil (by kernel_rfl) drive_checkStop_sp_ok drive_checkStop_rs_ok (fun args T kf => Eq.trans (drive_checkStop_def N (Cod.dec api_EscalatorC (lget (toCs (lget args 0)))) (Cod.dec api_StopC (lget (toCs (lget args 1)))) (fun q0 => kf (lget [.int .i64 q0] 0, []))) (by kernel_rfl : drive_checkStop_run N args T kf = fnM E (energy_Load_cal N) (drive_checkStop_lp N) (noJn) 83 (drive_checkStop_sp.vs args) (drive_checkStop_sp.tab T) 0 (resK drive_checkStop_rs kf)))

def drive_motion_grip_L2 : LoopSp := ⟨⟨[0, 2, 9, 10, 11], ⟨((rEptr drive_motionC) :: (dr 1 ((rInt .i64) :: (dr 6 ((rSl api_BrakeC) :: (rInt .i64) :: (rInt .i64) :: (dr 28 [])))))), []⟩, 0⟩, [(some 0, ⟨[2], ⟨(dr 2 ((rInt .i64) :: (dr 37 []))), []⟩, 0⟩)]⟩
theorem drive_motion_grip_L2_ok : drive_motion_grip_L2.Ok := ⟨⟨(allCons (rEptr_ok drive_motionC_ok) (drCons 1 (allCons (rInt_ok .i64) (drCons 6 (allCons (rSl_ok api_BrakeC_ok) (allCons (rInt_ok .i64) (allCons (rInt_ok .i64) (drCons 28 allNil)))))))), eNil⟩, (xCons ⟨(drCons 2 (allCons (rInt_ok .i64) (drCons 37 allNil))), eNil⟩ xNil)⟩
def drive_motion_grip_h2 (v381 : drive_motion) (v382 : Int) (v383 : Arr api_Brake) (v384 : Int) (v385 : Int) : St := ⟨((.eptr (Cod.size drive_motionC) (lget (Cod.enc drive_motionC v381))) :: (un 1 ((.int .i64 v382) :: (un 6 ((slC api_BrakeC v383) :: (.int .i64 v384) :: (.int .i64 v385) :: (un 28 [])))))), [], 0⟩
def drive_motion_grip_x2_0 (q0 : Int) : St := ⟨(un 2 ((.int .i64 q0) :: (un 37 []))), [], 0⟩
def drive_motion_grip_b2 {R : Type} (N : Nat) (rc : drive_motion → Int → Arr api_Brake → Int → Int → Option R) (v381 : drive_motion) (v382 : Int) (v383 : Arr api_Brake) (v384 : Int) (v385 : Int) (k0 : Int → Option R) : Option R :=
  bif decide (v385 < v384) then
   bif decide ((0 : Int) ≤ v385) && decide (v385 < (↑(Arr.n v383) : Int)) then
    bif decide (v385 < (0 : Int)) then
     Option.none
    else
     bif w64 (↑(BitVec.toNat (BitVec.ofInt (IntKind.bits IntKind.i64) (Int.fdiv (api_Stop.Fail (drive_motion.f_s v381)) ((2 : Int) ^ min (Int.toNat v385) (IntKind.bits IntKind.i64))) &&& BitVec.ofInt (IntKind.bits IntKind.i64) (1 : Int))) : Int) == (0 : Int) then
      bif decide (api_Brake.Delay (Arr.f v383 (Int.toNat v385)) ≤ drive_motion.f_time v381) then
       rc v381 (w64 (v382 + api_Brake.Force (Arr.f v383 (Int.toNat v385)))) v383 v384 (w64 (v385 + (1 : Int)))
      else
       rc v381 v382 v383 v384 (w64 (v385 + (1 : Int)))
     else
      rc v381 v382 v383 v384 (w64 (v385 + (1 : Int)))
   else
    Option.none
  else
   k0 v382
def drive_motion_grip_l2 {R : Type} (N : Nat) : Nat → drive_motion → Int → Arr api_Brake → Int → Int → (Int → Option R) → Option R
  | 0, _, _, _, _, _, _ => Option.none
  | n + 1, v381, v382, v383, v384, v385, k0 => drive_motion_grip_b2 N (fun v381 v382 v383 v384 v385 => drive_motion_grip_l2 N n v381 v382 v383 v384 v385 k0) v381 v382 v383 v384 v385 k0


def drive_motion_grip_m {R : Type} (N : Nat) (a380 : drive_motion) (k : Int → Option R) : Option R :=
  drive_motion_grip_l2 N N a380 (0 : Int) (api_Escalator.Brakes (drive_motion.f_e a380)) ((↑(Arr.n (api_Escalator.Brakes (drive_motion.f_e a380))) : Int)) (0 : Int) (fun r386 =>
   k r386)
noncomputable def drive_motion_grip {R : Type} : Nat → drive_motion → (Int → Option R) → Option R := lock (@drive_motion_grip_m R)
theorem drive_motion_grip_def {R : Type} (N : Nat) (a380 : drive_motion) (k : Int → Option R) : drive_motion_grip N a380 k = drive_motion_grip_m N a380 k := by unfold drive_motion_grip; rw [lock_eq]
def drive_motion_grip_sp : Sp := ⟨[rEptr drive_motionC], []⟩
theorem drive_motion_grip_sp_ok : drive_motion_grip_sp.Ok := ⟨(allCons (rEptr_ok drive_motionC_ok) allNil), eNil⟩
def drive_motion_grip_rs : Sp := ⟨[rInt .i64], []⟩
theorem drive_motion_grip_rs_ok : drive_motion_grip_rs.Ok := ⟨(allCons (rInt_ok .i64) allNil), eNil⟩
def drive_motion_grip_run {R : Type} (N : Nat) (args : List SV) (T : Tab) (kf : SV × Tab → Option R) : Option R :=
  drive_motion_grip_m N (Cod.dec drive_motionC (toE (lget args 0))) (fun q0 => kf (lget [.int .i64 q0] 0, []))
def drive_motion_grip_d2 {R : Type} (N : Nat) (S0 : St) (k : Exit → St → Option R) : Option R :=
  drive_motion_grip_l2 N N (Cod.dec drive_motionC (toE (lget S0.tmps 0))) (toI (lget S0.tmps 2)) (lstC api_BrakeC (lget S0.tmps 9)) (toI (lget S0.tmps 10)) (toI (lget S0.tmps 11)) (fun q0 => k (.exit 0) (drive_motion_grip_x2_0 q0))
def drive_motion_grip_lp {R : Type} (N : Nat) : Lp R := fun body S k => bif (Go.Sx.keyOf body).getD 0 == 2 then drive_motion_grip_L2.head.raw 0 S (fun S0 => drive_motion_grip_d2 N S0 k) else Option.none
theorem drive_motion_grip_l2_eq {R : Type} (N : Nat) (k : Exit → St → Option R) (n : Nat) : ∀ (v0 : drive_motion) (v1 : Int) (v2 : Arr api_Brake) (v3 : Int) (v4 : Int), loopM E.Θ (drive_checkStop_cal N) (drive_motion_grip_lp N) (noJn) 0 drive_motion_grip_L2 (bodyAt E 86 2) n (drive_motion_grip_h2 v0 v1 v2 v3 v4) k = drive_motion_grip_l2 N n v0 v1 v2 v3 v4 (fun q0 => k (.exit 0) (drive_motion_grip_x2_0 q0)) := by
  induction n with
  | zero => intro v0 v1 v2 v3 v4; rfl
  | succ n ih =>
    intro v0 v1 v2 v3 v4
    refine Eq.trans (b := drive_motion_grip_b2 N (fun v0 v1 v2 v3 v4 => loopM E.Θ (drive_checkStop_cal N) (drive_motion_grip_lp N) (noJn) 0 drive_motion_grip_L2 (bodyAt E 86 2) n (drive_motion_grip_h2 v0 v1 v2 v3 v4) k) v0 v1 v2 v3 v4 (fun q0 => k (.exit 0) (drive_motion_grip_x2_0 q0))) (by kernel_rfl) ?_
    have h : (fun (v0 : drive_motion) (v1 : Int) (v2 : Arr api_Brake) (v3 : Int) (v4 : Int) => loopM E.Θ (drive_checkStop_cal N) (drive_motion_grip_lp N) (noJn) 0 drive_motion_grip_L2 (bodyAt E 86 2) n (drive_motion_grip_h2 v0 v1 v2 v3 v4) k) = (fun (v0 : drive_motion) (v1 : Int) (v2 : Arr api_Brake) (v3 : Int) (v4 : Int) => drive_motion_grip_l2 N n v0 v1 v2 v3 v4 (fun q0 => k (.exit 0) (drive_motion_grip_x2_0 q0))) := funext fun v0 => funext fun v1 => funext fun v2 => funext fun v3 => funext fun v4 => ih v0 v1 v2 v3 v4
    rw [h]
    rfl
theorem drive_motion_grip_k2 {R : Type} (N : Nat) : LpKey (R := R) E 86 0 (drive_motion_grip_lp N) 2 :=
  lpKey_of hE (drive_checkStop_cal_ok N) (jn := noJn) drive_motion_grip_L2_ok [] kNil (by kernel_rfl) [] jNil (by kernel_rfl) N fun S k =>
    Eq.trans (b := drive_motion_grip_L2.head.raw 0 S (fun S0 => drive_motion_grip_d2 N S0 k)) (by kernel_rfl) (congrArg (drive_motion_grip_L2.head.raw 0 S) (funext fun S0 => Eq.trans (drive_motion_grip_l2_eq N k N (Cod.dec drive_motionC (toE (lget S0.tmps 0))) (toI (lget S0.tmps 2)) (lstC api_BrakeC (lget S0.tmps 9)) (toI (lget S0.tmps 10)) (toI (lget S0.tmps 11))).symm (by kernel_rfl)))
noncomputable def drive_motion_grip_go {R : Type} (N : Nat) (args : List SV) (T : Tab) (kf : SV × Tab → Option R) : Option R :=
  drive_motion_grip N (Cod.dec drive_motionC (toE (lget args 0))) (fun q0 => kf (lget [.int .i64 q0] 0, []))
noncomputable def drive_motion_grip_cal {R : Type} (N : Nat) : Cal R := callM (drive_checkStop_cal N) 86 0 drive_motion_grip_sp (drive_motion_grip_go N)
theorem drive_motion_grip_cal_ok {R : Type} (N : Nat) : CalOk E.P (drive_motion_grip_cal (R := R) N) :=
  callM_ok hE (drive_checkStop_cal_ok N) (lp := drive_motion_grip_lp N) (jn := noJn) (keys := [2]) (kCons (drive_motion_grip_k2 N) kNil) (by kernel_rfl) (js := []) jNil (by kernel_rfl) drive_motion_grip_sp_ok drive_motion_grip_rs_ok (fun args T kf => Eq.trans (drive_motion_grip_def N (Cod.dec drive_motionC (toE (lget args 0))) (fun q0 => kf (lget [.int .i64 q0] 0, []))) (by kernel_rfl : drive_motion_grip_run N args T kf = fnM E (drive_checkStop_cal N) (drive_motion_grip_lp N) (noJn) 86 (drive_motion_grip_sp.vs args) (drive_motion_grip_sp.tab T) 0 (resK drive_motion_grip_rs kf)))


def drive_floor_m {R : Type} (N : Nat) (a396 : Int) (a397 : Int) (k : Int → Option R) : Option R :=
  bif a397 == (0 : Int) then
   Option.none
  else
   bif a397 == (0 : Int) then
    Option.none
   else
    bif decide (Int.tmod a396 a397 < (0 : Int)) then
     k (w64 (w64 (Int.tdiv a396 a397) - (1 : Int)))
    else
     k (w64 (Int.tdiv a396 a397))
noncomputable def drive_floor {R : Type} : Nat → Int → Int → (Int → Option R) → Option R := lock (@drive_floor_m R)
theorem drive_floor_def {R : Type} (N : Nat) (a396 : Int) (a397 : Int) (k : Int → Option R) : drive_floor N a396 a397 k = drive_floor_m N a396 a397 k := by unfold drive_floor; rw [lock_eq]
def drive_floor_sp : Sp := ⟨[rInt .i64, rInt .i64], []⟩
theorem drive_floor_sp_ok : drive_floor_sp.Ok := ⟨(allCons (rInt_ok .i64) (allCons (rInt_ok .i64) allNil)), eNil⟩
def drive_floor_rs : Sp := ⟨[rInt .i64], []⟩
theorem drive_floor_rs_ok : drive_floor_rs.Ok := ⟨(allCons (rInt_ok .i64) allNil), eNil⟩
def drive_floor_run {R : Type} (N : Nat) (args : List SV) (T : Tab) (kf : SV × Tab → Option R) : Option R :=
  drive_floor_m N (toI (lget args 0)) (toI (lget args 1)) (fun q0 => kf (lget [.int .i64 q0] 0, []))
def drive_floor_lp {R : Type} (N : Nat) : Lp R := fun body S k => Option.none
noncomputable def drive_floor_go {R : Type} (N : Nat) (args : List SV) (T : Tab) (kf : SV × Tab → Option R) : Option R :=
  drive_floor N (toI (lget args 0)) (toI (lget args 1)) (fun q0 => kf (lget [.int .i64 q0] 0, []))
noncomputable def drive_floor_cal {R : Type} (N : Nat) : Cal R := callM (drive_motion_grip_cal N) 145 0 drive_floor_sp (drive_floor_go N)
theorem drive_floor_cal_ok {R : Type} (N : Nat) : CalOk E.P (drive_floor_cal (R := R) N) :=
  callM_ok hE (drive_motion_grip_cal_ok N) (lp := drive_floor_lp N) (jn := noJn) (keys := []) kNil (by kernel_rfl) (js := []) jNil (by kernel_rfl) drive_floor_sp_ok drive_floor_rs_ok (fun args T kf => Eq.trans (drive_floor_def N (toI (lget args 0)) (toI (lget args 1)) (fun q0 => kf (lget [.int .i64 q0] 0, []))) (by kernel_rfl : drive_floor_run N args T kf = fnM E (drive_motion_grip_cal N) (drive_floor_lp N) (noJn) 145 (drive_floor_sp.vs args) (drive_floor_sp.tab T) 0 (resK drive_floor_rs kf)))


def drive_ahead_m {R : Type} (N : Nat) (a392 : Int) (a393 : Int) (a394 : Int) (a395 : Int) (k : Int → Option R) : Option R :=
  drive_floor N (w64 (a393 - a394)) a395 (fun r398 =>
  k (if w64 (a392 + r398) > (0 : Int) then w64 (a392 + r398) else (0 : Int)))
noncomputable def drive_ahead {R : Type} : Nat → Int → Int → Int → Int → (Int → Option R) → Option R := lock (@drive_ahead_m R)
theorem drive_ahead_def {R : Type} (N : Nat) (a392 : Int) (a393 : Int) (a394 : Int) (a395 : Int) (k : Int → Option R) : drive_ahead N a392 a393 a394 a395 k = drive_ahead_m N a392 a393 a394 a395 k := by unfold drive_ahead; rw [lock_eq]
def drive_ahead_sp : Sp := ⟨[rInt .i64, rInt .i64, rInt .i64, rInt .i64], []⟩
theorem drive_ahead_sp_ok : drive_ahead_sp.Ok := ⟨(allCons (rInt_ok .i64) (allCons (rInt_ok .i64) (allCons (rInt_ok .i64) (allCons (rInt_ok .i64) allNil)))), eNil⟩
def drive_ahead_rs : Sp := ⟨[rInt .i64], []⟩
theorem drive_ahead_rs_ok : drive_ahead_rs.Ok := ⟨(allCons (rInt_ok .i64) allNil), eNil⟩
def drive_ahead_run {R : Type} (N : Nat) (args : List SV) (T : Tab) (kf : SV × Tab → Option R) : Option R :=
  drive_ahead_m N (toI (lget args 0)) (toI (lget args 1)) (toI (lget args 2)) (toI (lget args 3)) (fun q0 => kf (lget [.int .i64 q0] 0, []))
def drive_ahead_lp {R : Type} (N : Nat) : Lp R := fun body S k => Option.none
noncomputable def drive_ahead_go {R : Type} (N : Nat) (args : List SV) (T : Tab) (kf : SV × Tab → Option R) : Option R :=
  drive_ahead N (toI (lget args 0)) (toI (lget args 1)) (toI (lget args 2)) (toI (lget args 3)) (fun q0 => kf (lget [.int .i64 q0] 0, []))
noncomputable def drive_ahead_cal {R : Type} (N : Nat) : Cal R := callM (drive_floor_cal N) 114 0 drive_ahead_sp (drive_ahead_go N)
theorem drive_ahead_cal_ok {R : Type} (N : Nat) : CalOk E.P (drive_ahead_cal (R := R) N) :=
  callM_ok hE (drive_floor_cal_ok N) (lp := drive_ahead_lp N) (jn := noJn) (keys := []) kNil (by kernel_rfl) (js := []) jNil (by kernel_rfl) drive_ahead_sp_ok drive_ahead_rs_ok (fun args T kf => Eq.trans (drive_ahead_def N (toI (lget args 0)) (toI (lget args 1)) (toI (lget args 2)) (toI (lget args 3)) (fun q0 => kf (lget [.int .i64 q0] 0, []))) (by kernel_rfl : drive_ahead_run N args T kf = fnM E (drive_floor_cal N) (drive_ahead_lp N) (noJn) 114 (drive_ahead_sp.vs args) (drive_ahead_sp.tab T) 0 (resK drive_ahead_rs kf)))


def drive_tick_m {R : Type} (N : Nat) (a388 : api_Escalator) (a389 : Int) (a390 : Int) (a391 : Int) (k : Int → Option R) : Option R :=
  bif api_Escalator.Up a388 then
   bif decide (a389 < (0 : Int)) then
    drive_ahead N (w64 ((0 : Int) - a389)) (w64 ((0 : Int) - w64 ((0 : Int) - w64 (api_Escalator.Pull a388 * a390)))) (w64 (api_Escalator.Drag a388 + a391)) (w64 (api_Escalator.Empty a388 + a390)) (fun r399 =>
    k (w64 ((0 : Int) - r399)))
   else
    bif a389 == (0 : Int) then
     bif decide (w64 ((0 : Int) - w64 (api_Escalator.Pull a388 * a390)) < (0 : Int)) then
      drive_ahead N (w64 ((0 : Int) - a389)) (w64 ((0 : Int) - w64 ((0 : Int) - w64 (api_Escalator.Pull a388 * a390)))) (w64 (api_Escalator.Drag a388 + a391)) (w64 (api_Escalator.Empty a388 + a390)) (fun r400 =>
      k (w64 ((0 : Int) - r400)))
     else
      drive_ahead N a389 (w64 ((0 : Int) - w64 (api_Escalator.Pull a388 * a390))) (w64 (api_Escalator.Drag a388 + a391)) (w64 (api_Escalator.Empty a388 + a390)) (fun r401 =>
      k r401)
    else
     drive_ahead N a389 (w64 ((0 : Int) - w64 (api_Escalator.Pull a388 * a390))) (w64 (api_Escalator.Drag a388 + a391)) (w64 (api_Escalator.Empty a388 + a390)) (fun r402 =>
     k r402)
  else
   bif decide (a389 < (0 : Int)) then
    drive_ahead N (w64 ((0 : Int) - a389)) (w64 ((0 : Int) - w64 (api_Escalator.Pull a388 * a390))) (w64 (api_Escalator.Drag a388 + a391)) (w64 (api_Escalator.Empty a388 + a390)) (fun r403 =>
    k (w64 ((0 : Int) - r403)))
   else
    bif a389 == (0 : Int) then
     bif decide (w64 (api_Escalator.Pull a388 * a390) < (0 : Int)) then
      drive_ahead N (w64 ((0 : Int) - a389)) (w64 ((0 : Int) - w64 (api_Escalator.Pull a388 * a390))) (w64 (api_Escalator.Drag a388 + a391)) (w64 (api_Escalator.Empty a388 + a390)) (fun r404 =>
      k (w64 ((0 : Int) - r404)))
     else
      drive_ahead N a389 (w64 (api_Escalator.Pull a388 * a390)) (w64 (api_Escalator.Drag a388 + a391)) (w64 (api_Escalator.Empty a388 + a390)) (fun r405 =>
      k r405)
    else
     drive_ahead N a389 (w64 (api_Escalator.Pull a388 * a390)) (w64 (api_Escalator.Drag a388 + a391)) (w64 (api_Escalator.Empty a388 + a390)) (fun r406 =>
     k r406)
noncomputable def drive_tick {R : Type} : Nat → api_Escalator → Int → Int → Int → (Int → Option R) → Option R := lock (@drive_tick_m R)
theorem drive_tick_def {R : Type} (N : Nat) (a388 : api_Escalator) (a389 : Int) (a390 : Int) (a391 : Int) (k : Int → Option R) : drive_tick N a388 a389 a390 a391 k = drive_tick_m N a388 a389 a390 a391 k := by unfold drive_tick; rw [lock_eq]
def drive_tick_sp : Sp := ⟨[rAgg api_EscalatorC, rInt .i64, rInt .i64, rInt .i64], []⟩
theorem drive_tick_sp_ok : drive_tick_sp.Ok := ⟨(allCons (rAgg_ok api_EscalatorC_ok api_EscalatorC_len) (allCons (rInt_ok .i64) (allCons (rInt_ok .i64) (allCons (rInt_ok .i64) allNil)))), eNil⟩
def drive_tick_rs : Sp := ⟨[rInt .i64], []⟩
theorem drive_tick_rs_ok : drive_tick_rs.Ok := ⟨(allCons (rInt_ok .i64) allNil), eNil⟩
def drive_tick_run {R : Type} (N : Nat) (args : List SV) (T : Tab) (kf : SV × Tab → Option R) : Option R :=
  drive_tick_m N (Cod.dec api_EscalatorC (lget (toCs (lget args 0)))) (toI (lget args 1)) (toI (lget args 2)) (toI (lget args 3)) (fun q0 => kf (lget [.int .i64 q0] 0, []))
def drive_tick_lp {R : Type} (N : Nat) : Lp R := fun body S k => Option.none
noncomputable def drive_tick_go {R : Type} (N : Nat) (args : List SV) (T : Tab) (kf : SV × Tab → Option R) : Option R :=
  drive_tick N (Cod.dec api_EscalatorC (lget (toCs (lget args 0)))) (toI (lget args 1)) (toI (lget args 2)) (toI (lget args 3)) (fun q0 => kf (lget [.int .i64 q0] 0, []))
noncomputable def drive_tick_cal {R : Type} (N : Nat) : Cal R := callM (drive_ahead_cal N) 69 0 drive_tick_sp (drive_tick_go N)
theorem drive_tick_cal_ok {R : Type} (N : Nat) : CalOk E.P (drive_tick_cal (R := R) N) :=
  callM_ok hE (drive_ahead_cal_ok N) (lp := drive_tick_lp N) (jn := noJn) (keys := []) kNil (by kernel_rfl) (js := []) jNil (by kernel_rfl) drive_tick_sp_ok drive_tick_rs_ok (fun args T kf => Eq.trans (drive_tick_def N (Cod.dec api_EscalatorC (lget (toCs (lget args 0)))) (toI (lget args 1)) (toI (lget args 2)) (toI (lget args 3)) (fun q0 => kf (lget [.int .i64 q0] 0, []))) (by kernel_rfl : drive_tick_run N args T kf = fnM E (drive_ahead_cal N) (drive_tick_lp N) (noJn) 69 (drive_tick_sp.vs args) (drive_tick_sp.tab T) 0 (resK drive_tick_rs kf)))


def drive_motion_with_m {R : Type} (N : Nat) (a378 : Int) (a379 : drive_motion) (k : Int → drive_motion → Option R) : Option R :=
  drive_motion_grip N a379 (fun r387 =>
  drive_tick N (drive_motion.f_e a379) (drive_motion.f_speed a379) a378 r387 (fun r407 =>
  k r407 (drive_motion.mk (drive_motion.f_e a379) (drive_motion.f_s a379) r407 (w64 (drive_motion.f_time a379 + (1 : Int))))))
noncomputable def drive_motion_with {R : Type} : Nat → Int → drive_motion → (Int → drive_motion → Option R) → Option R := lock (@drive_motion_with_m R)
theorem drive_motion_with_def {R : Type} (N : Nat) (a378 : Int) (a379 : drive_motion) (k : Int → drive_motion → Option R) : drive_motion_with N a378 a379 k = drive_motion_with_m N a378 a379 k := by unfold drive_motion_with; rw [lock_eq]
def drive_motion_with_sp : Sp := ⟨[rPtr 0 0, rInt .i64], [(0, eBlkC drive_motionC)]⟩
theorem drive_motion_with_sp_ok : drive_motion_with_sp.Ok := ⟨(allCons (rPtr_ok 0 0) (allCons (rInt_ok .i64) allNil)), (eCons (eBlkC_ok drive_motionC_ok drive_motionC_len) eNil)⟩
def drive_motion_with_rs : Sp := ⟨[rInt .i64], [(0, eBlkC drive_motionC)]⟩
theorem drive_motion_with_rs_ok : drive_motion_with_rs.Ok := ⟨(allCons (rInt_ok .i64) allNil), (eCons (eBlkC_ok drive_motionC_ok drive_motionC_len) eNil)⟩
def drive_motion_with_run {R : Type} (N : Nat) (args : List SV) (T : Tab) (kf : SV × Tab → Option R) : Option R :=
  drive_motion_with_m N (toI (lget args 1)) (Cod.dec drive_motionC (lget (entCs (entAt T 0)))) (fun q0 q1 => kf (lget [.int .i64 q0] 0, [(0, .blk (Cod.enc drive_motionC q1))]))
def drive_motion_with_lp {R : Type} (N : Nat) : Lp R := fun body S k => Option.none
noncomputable def drive_motion_with_go {R : Type} (N : Nat) (args : List SV) (T : Tab) (kf : SV × Tab → Option R) : Option R :=
  drive_motion_with N (toI (lget args 1)) (Cod.dec drive_motionC (lget (entCs (entAt T 0)))) (fun q0 q1 => kf (lget [.int .i64 q0] 0, [(0, .blk (Cod.enc drive_motionC q1))]))
noncomputable def drive_motion_with_cal {R : Type} (N : Nat) : Cal R := callM (drive_tick_cal N) 91 1 drive_motion_with_sp (drive_motion_with_go N)
theorem drive_motion_with_cal_ok {R : Type} (N : Nat) : CalOk E.P (drive_motion_with_cal (R := R) N) :=
  callM_ok hE (drive_tick_cal_ok N) (lp := drive_motion_with_lp N) (jn := noJn) (keys := []) kNil (by kernel_rfl) (js := []) jNil (by kernel_rfl) drive_motion_with_sp_ok drive_motion_with_rs_ok (fun args T kf => Eq.trans (drive_motion_with_def N (toI (lget args 1)) (Cod.dec drive_motionC (lget (entCs (entAt T 0)))) (fun q0 q1 => kf (lget [.int .i64 q0] 0, [(0, .blk (Cod.enc drive_motionC q1))]))) (by kernel_rfl : drive_motion_with_run N args T kf = fnM E (drive_tick_cal N) (drive_motion_with_lp N) (noJn) 91 (drive_motion_with_sp.vs args) (drive_motion_with_sp.tab T) 1 (resK drive_motion_with_rs kf)))


def drive_motion_extreme_m {R : Type} (N : Nat) (a376 : Bool) (a377 : drive_motion) (k : Int → drive_motion → Option R) : Option R :=
  drive_motion_with N (api_Span.Low (api_Stop.Loads (drive_motion.f_s a377))) a377 (fun r408 r409 =>
  drive_motion_with N (api_Span.High (api_Stop.Loads (drive_motion.f_s a377))) a377 (fun r410 r411 =>
  bif a376 then
   bif decide (r410 > r408) then
    k (api_Span.High (api_Stop.Loads (drive_motion.f_s r411))) r411
   else
    bif !a376 then
     bif decide (r410 < r408) then
      k (api_Span.High (api_Stop.Loads (drive_motion.f_s r411))) r411
     else
      k (api_Span.Low (api_Stop.Loads (drive_motion.f_s r409))) r409
    else
     k (api_Span.Low (api_Stop.Loads (drive_motion.f_s r409))) r409
  else
   bif !a376 then
    bif decide (r410 < r408) then
     k (api_Span.High (api_Stop.Loads (drive_motion.f_s r411))) r411
    else
     k (api_Span.Low (api_Stop.Loads (drive_motion.f_s r409))) r409
   else
    k (api_Span.Low (api_Stop.Loads (drive_motion.f_s r409))) r409))
noncomputable def drive_motion_extreme {R : Type} : Nat → Bool → drive_motion → (Int → drive_motion → Option R) → Option R := lock (@drive_motion_extreme_m R)
theorem drive_motion_extreme_def {R : Type} (N : Nat) (a376 : Bool) (a377 : drive_motion) (k : Int → drive_motion → Option R) : drive_motion_extreme N a376 a377 k = drive_motion_extreme_m N a376 a377 k := by unfold drive_motion_extreme; rw [lock_eq]
def drive_motion_extreme_sp : Sp := ⟨[rPtr 0 0, rBool], [(0, eBlkC drive_motionC)]⟩
theorem drive_motion_extreme_sp_ok : drive_motion_extreme_sp.Ok := ⟨(allCons (rPtr_ok 0 0) (allCons rBool_ok allNil)), (eCons (eBlkC_ok drive_motionC_ok drive_motionC_len) eNil)⟩
def drive_motion_extreme_rs : Sp := ⟨[rInt .i64], [(0, eBlkC drive_motionC)]⟩
theorem drive_motion_extreme_rs_ok : drive_motion_extreme_rs.Ok := ⟨(allCons (rInt_ok .i64) allNil), (eCons (eBlkC_ok drive_motionC_ok drive_motionC_len) eNil)⟩
def drive_motion_extreme_run {R : Type} (N : Nat) (args : List SV) (T : Tab) (kf : SV × Tab → Option R) : Option R :=
  drive_motion_extreme_m N (toB (lget args 1)) (Cod.dec drive_motionC (lget (entCs (entAt T 0)))) (fun q0 q1 => kf (lget [.int .i64 q0] 0, [(0, .blk (Cod.enc drive_motionC q1))]))
def drive_motion_extreme_lp {R : Type} (N : Nat) : Lp R := fun body S k => Option.none
noncomputable def drive_motion_extreme_go {R : Type} (N : Nat) (args : List SV) (T : Tab) (kf : SV × Tab → Option R) : Option R :=
  drive_motion_extreme N (toB (lget args 1)) (Cod.dec drive_motionC (lget (entCs (entAt T 0)))) (fun q0 q1 => kf (lget [.int .i64 q0] 0, [(0, .blk (Cod.enc drive_motionC q1))]))
noncomputable def drive_motion_extreme_cal {R : Type} (N : Nat) : Cal R := callM (drive_motion_with_cal N) 85 1 drive_motion_extreme_sp (drive_motion_extreme_go N)
theorem drive_motion_extreme_cal_ok {R : Type} (N : Nat) : CalOk E.P (drive_motion_extreme_cal (R := R) N) :=
  callM_ok hE (drive_motion_with_cal_ok N) (lp := drive_motion_extreme_lp N) (jn := noJn) (keys := []) kNil (by kernel_rfl) (js := []) jNil (by kernel_rfl) drive_motion_extreme_sp_ok drive_motion_extreme_rs_ok (fun args T kf => Eq.trans (drive_motion_extreme_def N (toB (lget args 1)) (Cod.dec drive_motionC (lget (entCs (entAt T 0)))) (fun q0 q1 => kf (lget [.int .i64 q0] 0, [(0, .blk (Cod.enc drive_motionC q1))]))) (by kernel_rfl : drive_motion_extreme_run N args T kf = fnM E (drive_motion_with_cal N) (drive_motion_extreme_lp N) (noJn) 85 (drive_motion_extreme_sp.vs args) (drive_motion_extreme_sp.tab T) 1 (resK drive_motion_extreme_rs kf)))

def drive_run_L3 : LoopSp := ⟨⟨[2, 6, 7, 8], ⟨(dr 2 ((rBool) :: (dr 3 ((rPtr 0 0) :: (rPtr 1 0) :: (rPtr 2 0) :: (dr 35 []))))), [(0, eBlk [rInt .i64, rRow 3, rBool]), (1, eBlkC drive_motionC), (2, eBlk [rInt .i64, rRow 4, rBool]), (3, eRow intC), (4, eRow intC)]⟩, 5⟩, [(some 0, ⟨[6, 8], ⟨(dr 6 ((rPtr 0 0) :: (dr 1 ((rPtr 1 0) :: (dr 35 []))))), [(0, eBlk [rInt .i64, rRow 2, rBool]), (1, eBlk [rInt .i64, rRow 3, rBool]), (2, eRow intC), (3, eRow intC)]⟩, 4⟩)]⟩
theorem drive_run_L3_ok : drive_run_L3.Ok := ⟨⟨(drCons 2 (allCons rBool_ok (drCons 3 (allCons (rPtr_ok 0 0) (allCons (rPtr_ok 1 0) (allCons (rPtr_ok 2 0) (drCons 35 allNil))))))), (eCons (eBlk_ok (allCons (rInt_ok .i64) (allCons (rRow_ok 3) (allCons rBool_ok allNil)))) (eCons (eBlkC_ok drive_motionC_ok drive_motionC_len) (eCons (eBlk_ok (allCons (rInt_ok .i64) (allCons (rRow_ok 4) (allCons rBool_ok allNil)))) (eCons (eRow_ok intC_ok) (eCons (eRow_ok intC_ok) eNil)))))⟩, (xCons ⟨(drCons 6 (allCons (rPtr_ok 0 0) (drCons 1 (allCons (rPtr_ok 1 0) (drCons 35 allNil))))), (eCons (eBlk_ok (allCons (rInt_ok .i64) (allCons (rRow_ok 2) (allCons rBool_ok allNil)))) (eCons (eBlk_ok (allCons (rInt_ok .i64) (allCons (rRow_ok 3) (allCons rBool_ok allNil)))) (eCons (eRow_ok intC_ok) (eCons (eRow_ok intC_ok) eNil))))⟩ xNil)⟩
def drive_run_h3 (v366 : Bool) (v367 : Int) (v368 : Bool) (v369 : drive_motion) (v370 : Int) (v371 : Bool) (v372 : Bool) (v373 : Arr Int) (v374 : Bool) (v375 : Arr Int) : St := ⟨(un 2 ((.bool v366) :: (un 3 ((.ptr 0 0) :: (.ptr 1 0) :: (.ptr 2 0) :: (un 35 []))))), [(0, .blk [.int .i64 v367, .row 3, .bool v368]), (1, .blk (Cod.enc drive_motionC v369)), (2, .blk [.int .i64 v370, .row 4, .bool v371]), (3, rowE intC v372 v373), (4, rowE intC v374 v375)], 5⟩
def drive_run_x3_0 (v367 : Int) (v368 : Bool) (v372 : Bool) (v373 : Arr Int) (q2 : Int) (q3 : Bool) (q6 : Bool) (q7 : Arr Int) : St := ⟨(un 6 ((.ptr 0 0) :: (un 1 ((.ptr 1 0) :: (un 35 []))))), [(0, .blk [.int .i64 v367, .row 2, .bool v368]), (1, .blk [.int .i64 q2, .row 3, .bool q3]), (2, rowE intC v372 v373), (3, rowE intC q6 q7)], 4⟩
def drive_run_b3 {R : Type} (N : Nat) (rc : Bool → Int → Bool → drive_motion → Int → Bool → Bool → Arr Int → Bool → Arr Int → Option R) (v366 : Bool) (v367 : Int) (v368 : Bool) (v369 : drive_motion) (v370 : Int) (v371 : Bool) (v372 : Bool) (v373 : Arr Int) (v374 : Bool) (v375 : Arr Int) (k0 : Int → Bool → Bool → Arr Int → Option R) : Option R :=
  bif !v371 then
   bif decide (drive_motion.f_time v369 < (100 : Int)) then
    drive_motion_extreme N v366 v369 (fun r412 r413 =>
    bif room (Arr.n v375 + (1 : Nat)) then
     rc v366 v367 v368 r413 (w64 (v370 + drive_motion.f_speed r413)) (drive_motion.f_speed r413 == (0 : Int)) v372 v373 false (lst intC (Arr.n v375 + (1 : Nat)) (catC (Arr.n v375) (Cod.cell intC (Arr.f v375)) (litC [SV.int IntKind.i64 (0 : Int)] [[SV.int IntKind.i64 r412]])))
    else
     Option.none)
   else
    k0 v370 v371 v374 v375
  else
   k0 v370 v371 v374 v375
def drive_run_l3 {R : Type} (N : Nat) : Nat → Bool → Int → Bool → drive_motion → Int → Bool → Bool → Arr Int → Bool → Arr Int → (Int → Bool → Bool → Arr Int → Option R) → Option R
  | 0, _, _, _, _, _, _, _, _, _, _, _ => Option.none
  | n + 1, v366, v367, v368, v369, v370, v371, v372, v373, v374, v375, k0 => drive_run_b3 N (fun v366 v367 v368 v369 v370 v371 v372 v373 v374 v375 => drive_run_l3 N n v366 v367 v368 v369 v370 v371 v372 v373 v374 v375 k0) v366 v367 v368 v369 v370 v371 v372 v373 v374 v375 k0


def drive_run_m {R : Type} (N : Nat) (a363 : api_Escalator) (a364 : api_Stop) (a365 : Bool) (k : Int → Bool → Bool → Arr Int → Option R) : Option R :=
  drive_run_l3 N N a365 (0 : Int) false (drive_motion.mk a363 a364 (api_Stop.Speed a364) (0 : Int)) (0 : Int) (api_Stop.Speed a364 == (0 : Int)) true (lst intC (0 : Nat) (zeroC [SV.int IntKind.i64 (0 : Int)])) true (lst intC (0 : Nat) (zeroC [SV.int IntKind.i64 (0 : Int)])) (fun r414 r415 r416 r417 =>
   k r414 r415 r416 r417)
noncomputable def drive_run {R : Type} : Nat → api_Escalator → api_Stop → Bool → (Int → Bool → Bool → Arr Int → Option R) → Option R := lock (@drive_run_m R)
theorem drive_run_def {R : Type} (N : Nat) (a363 : api_Escalator) (a364 : api_Stop) (a365 : Bool) (k : Int → Bool → Bool → Arr Int → Option R) : drive_run N a363 a364 a365 k = drive_run_m N a363 a364 a365 k := by unfold drive_run; rw [lock_eq]
def drive_run_sp : Sp := ⟨[rAgg api_EscalatorC, rAgg api_StopC, rBool], []⟩
theorem drive_run_sp_ok : drive_run_sp.Ok := ⟨(allCons (rAgg_ok api_EscalatorC_ok api_EscalatorC_len) (allCons (rAgg_ok api_StopC_ok api_StopC_len) (allCons rBool_ok allNil))), eNil⟩
def drive_run_rs : Sp := ⟨[rAggs [rInt .i64, rRow 0, rBool]], [(0, eRow intC)]⟩
theorem drive_run_rs_ok : drive_run_rs.Ok := ⟨(allCons (rAggs_ok (allCons (rInt_ok .i64) (allCons (rRow_ok 0) (allCons rBool_ok allNil)))) allNil), (eCons (eRow_ok intC_ok) eNil)⟩
def drive_run_run {R : Type} (N : Nat) (args : List SV) (T : Tab) (kf : SV × Tab → Option R) : Option R :=
  drive_run_m N (Cod.dec api_EscalatorC (lget (toCs (lget args 0)))) (Cod.dec api_StopC (lget (toCs (lget args 1)))) (toB (lget args 2)) (fun q0 q1 q2 q3 => kf (lget [.agg [.int .i64 q0, .row 0, .bool q1]] 0, [(0, rowE intC q2 q3)]))
def drive_run_d3 {R : Type} (N : Nat) (S0 : St) (k : Exit → St → Option R) : Option R :=
  drive_run_l3 N N (toB (lget S0.tmps 2)) (toI (lget (entCs (entAt S0.tab 0)) 0)) (toB (lget (entCs (entAt S0.tab 0)) 2)) (Cod.dec drive_motionC (lget (entCs (entAt S0.tab 1)))) (toI (lget (entCs (entAt S0.tab 2)) 0)) (toB (lget (entCs (entAt S0.tab 2)) 2)) (entNl (entAt S0.tab 3)) (lst intC (entN (entAt S0.tab 3)) (entC (entAt S0.tab 3))) (entNl (entAt S0.tab 4)) (lst intC (entN (entAt S0.tab 4)) (entC (entAt S0.tab 4))) (fun q2 q3 q6 q7 => k (.exit 0) (drive_run_x3_0 (toI (lget (entCs (entAt S0.tab 0)) 0)) (toB (lget (entCs (entAt S0.tab 0)) 2)) (entNl (entAt S0.tab 3)) (lst intC (entN (entAt S0.tab 3)) (entC (entAt S0.tab 3))) q2 q3 q6 q7))
def drive_run_lp {R : Type} (N : Nat) : Lp R := fun body S k => bif (Go.Sx.keyOf body).getD 0 == 3 then drive_run_L3.head.raw 0 S (fun S0 => drive_run_d3 N S0 k) else Option.none
theorem drive_run_l3_eq {R : Type} (N : Nat) (k : Exit → St → Option R) (n : Nat) : ∀ (v0 : Bool) (v1 : Int) (v2 : Bool) (v3 : drive_motion) (v4 : Int) (v5 : Bool) (v6 : Bool) (v7 : Arr Int) (v8 : Bool) (v9 : Arr Int), loopM E.Θ (drive_motion_extreme_cal N) (drive_run_lp N) (noJn) 0 drive_run_L3 (bodyAt E 84 3) n (drive_run_h3 v0 v1 v2 v3 v4 v5 v6 v7 v8 v9) k = drive_run_l3 N n v0 v1 v2 v3 v4 v5 v6 v7 v8 v9 (fun q2 q3 q6 q7 => k (.exit 0) (drive_run_x3_0 v1 v2 v6 v7 q2 q3 q6 q7)) := by
  induction n with
  | zero => intro v0 v1 v2 v3 v4 v5 v6 v7 v8 v9; rfl
  | succ n ih =>
    intro v0 v1 v2 v3 v4 v5 v6 v7 v8 v9
    refine Eq.trans (b := drive_run_b3 N (fun v0 v1 v2 v3 v4 v5 v6 v7 v8 v9 => loopM E.Θ (drive_motion_extreme_cal N) (drive_run_lp N) (noJn) 0 drive_run_L3 (bodyAt E 84 3) n (drive_run_h3 v0 v1 v2 v3 v4 v5 v6 v7 v8 v9) k) v0 v1 v2 v3 v4 v5 v6 v7 v8 v9 (fun q2 q3 q6 q7 => k (.exit 0) (drive_run_x3_0 v1 v2 v6 v7 q2 q3 q6 q7))) (by kernel_rfl) ?_
    have h : (fun (v0 : Bool) (v1 : Int) (v2 : Bool) (v3 : drive_motion) (v4 : Int) (v5 : Bool) (v6 : Bool) (v7 : Arr Int) (v8 : Bool) (v9 : Arr Int) => loopM E.Θ (drive_motion_extreme_cal N) (drive_run_lp N) (noJn) 0 drive_run_L3 (bodyAt E 84 3) n (drive_run_h3 v0 v1 v2 v3 v4 v5 v6 v7 v8 v9) k) = (fun (v0 : Bool) (v1 : Int) (v2 : Bool) (v3 : drive_motion) (v4 : Int) (v5 : Bool) (v6 : Bool) (v7 : Arr Int) (v8 : Bool) (v9 : Arr Int) => drive_run_l3 N n v0 v1 v2 v3 v4 v5 v6 v7 v8 v9 (fun q2 q3 q6 q7 => k (.exit 0) (drive_run_x3_0 v1 v2 v6 v7 q2 q3 q6 q7))) := funext fun v0 => funext fun v1 => funext fun v2 => funext fun v3 => funext fun v4 => funext fun v5 => funext fun v6 => funext fun v7 => funext fun v8 => funext fun v9 => ih v0 v1 v2 v3 v4 v5 v6 v7 v8 v9
    rw [h]
    rfl
theorem drive_run_k3 {R : Type} (N : Nat) : LpKey (R := R) E 84 0 (drive_run_lp N) 3 :=
  lpKey_of hE (drive_motion_extreme_cal_ok N) (jn := noJn) drive_run_L3_ok [] kNil (by kernel_rfl) [] jNil (by kernel_rfl) N fun S k =>
    Eq.trans (b := drive_run_L3.head.raw 0 S (fun S0 => drive_run_d3 N S0 k)) (by kernel_rfl) (congrArg (drive_run_L3.head.raw 0 S) (funext fun S0 => Eq.trans (drive_run_l3_eq N k N (toB (lget S0.tmps 2)) (toI (lget (entCs (entAt S0.tab 0)) 0)) (toB (lget (entCs (entAt S0.tab 0)) 2)) (Cod.dec drive_motionC (lget (entCs (entAt S0.tab 1)))) (toI (lget (entCs (entAt S0.tab 2)) 0)) (toB (lget (entCs (entAt S0.tab 2)) 2)) (entNl (entAt S0.tab 3)) (lst intC (entN (entAt S0.tab 3)) (entC (entAt S0.tab 3))) (entNl (entAt S0.tab 4)) (lst intC (entN (entAt S0.tab 4)) (entC (entAt S0.tab 4)))).symm (by kernel_rfl)))
noncomputable def drive_run_go {R : Type} (N : Nat) (args : List SV) (T : Tab) (kf : SV × Tab → Option R) : Option R :=
  drive_run N (Cod.dec api_EscalatorC (lget (toCs (lget args 0)))) (Cod.dec api_StopC (lget (toCs (lget args 1)))) (toB (lget args 2)) (fun q0 q1 q2 q3 => kf (lget [.agg [.int .i64 q0, .row 0, .bool q1]] 0, [(0, rowE intC q2 q3)]))
noncomputable def drive_run_cal {R : Type} (N : Nat) : Cal R := callM (drive_motion_extreme_cal N) 84 0 drive_run_sp (drive_run_go N)
theorem drive_run_cal_ok {R : Type} (N : Nat) : CalOk E.P (drive_run_cal (R := R) N) :=
  callM_ok hE (drive_motion_extreme_cal_ok N) (lp := drive_run_lp N) (jn := noJn) (keys := [3]) (kCons (drive_run_k3 N) kNil) (by kernel_rfl) (js := []) jNil (by kernel_rfl) drive_run_sp_ok drive_run_rs_ok (fun args T kf => Eq.trans (drive_run_def N (Cod.dec api_EscalatorC (lget (toCs (lget args 0)))) (Cod.dec api_StopC (lget (toCs (lget args 1)))) (toB (lget args 2)) (fun q0 q1 q2 q3 => kf (lget [.agg [.int .i64 q0, .row 0, .bool q1]] 0, [(0, rowE intC q2 q3)]))) (by kernel_rfl : drive_run_run N args T kf = fnM E (drive_motion_extreme_cal N) (drive_run_lp N) (noJn) 84 (drive_run_sp.vs args) (drive_run_sp.tab T) 0 (resK drive_run_rs kf)))

def drive_Fastest_L7 : LoopSp := ⟨⟨[2, 3, 4, 9, 10], ⟨(dr 2 ((rInt .i64) :: (rPtr 0 0) :: (rPtr 1 0) :: (dr 4 ((rInt .i64) :: (rInt .i64) :: (dr 37 []))))), [(0, eBlkC api_EscalatorC), (1, eBlkC api_StopC)]⟩, 2⟩, [(some 0, ⟨[9], ⟨(dr 9 ((rInt .i64) :: (dr 38 []))), []⟩, 0⟩)]⟩
theorem drive_Fastest_L7_ok : drive_Fastest_L7.Ok := ⟨⟨(drCons 2 (allCons (rInt_ok .i64) (allCons (rPtr_ok 0 0) (allCons (rPtr_ok 1 0) (drCons 4 (allCons (rInt_ok .i64) (allCons (rInt_ok .i64) (drCons 37 allNil)))))))), (eCons (eBlkC_ok api_EscalatorC_ok api_EscalatorC_len) (eCons (eBlkC_ok api_StopC_ok api_StopC_len) eNil))⟩, (xCons ⟨(drCons 9 (allCons (rInt_ok .i64) (drCons 38 allNil))), eNil⟩ xNil)⟩
def drive_Fastest_h7 (v358 : Int) (v359 : Int) (v360 : Int) (v361 : api_Escalator) (v362 : api_Stop) : St := ⟨(un 2 ((.int .i64 v358) :: (.ptr 0 0) :: (.ptr 1 0) :: (un 4 ((.int .i64 v359) :: (.int .i64 v360) :: (un 37 []))))), [(0, .blk (Cod.enc api_EscalatorC v361)), (1, .blk (Cod.enc api_StopC v362))], 2⟩
def drive_Fastest_x7_0 (q0 : Int) : St := ⟨(un 9 ((.int .i64 q0) :: (un 38 []))), [], 0⟩
def drive_Fastest_b7 {R : Type} (N : Nat) (rc : Int → Int → Int → api_Escalator → api_Stop → Option R) (v358 : Int) (v359 : Int) (v360 : Int) (v361 : api_Escalator) (v362 : api_Stop) (k0 : Int → Option R) : Option R :=
  bif decide (v359 < v360) then
   drive_run N v361 (api_Stop.mk (w64 (Int.tdiv (w64 (w64 (v359 + v360) + (1 : Int))) (2 : Int))) (api_Stop.Loads v362) (api_Stop.Fail v362)) true (fun r418 r419 r420 r421 =>
   bif r419 then
    bif decide (r418 ≤ v358) then
     rc v358 (w64 (Int.tdiv (w64 (w64 (v359 + v360) + (1 : Int))) (2 : Int))) v360 v361 (api_Stop.mk (w64 (Int.tdiv (w64 (w64 (v359 + v360) + (1 : Int))) (2 : Int))) (api_Stop.Loads v362) (api_Stop.Fail v362))
    else
     rc v358 v359 (w64 (w64 (Int.tdiv (w64 (w64 (v359 + v360) + (1 : Int))) (2 : Int)) - (1 : Int))) v361 (api_Stop.mk (w64 (Int.tdiv (w64 (w64 (v359 + v360) + (1 : Int))) (2 : Int))) (api_Stop.Loads v362) (api_Stop.Fail v362))
   else
    rc v358 v359 (w64 (w64 (Int.tdiv (w64 (w64 (v359 + v360) + (1 : Int))) (2 : Int)) - (1 : Int))) v361 (api_Stop.mk (w64 (Int.tdiv (w64 (w64 (v359 + v360) + (1 : Int))) (2 : Int))) (api_Stop.Loads v362) (api_Stop.Fail v362)))
  else
   k0 v359
def drive_Fastest_l7 {R : Type} (N : Nat) : Nat → Int → Int → Int → api_Escalator → api_Stop → (Int → Option R) → Option R
  | 0, _, _, _, _, _, _ => Option.none
  | n + 1, v358, v359, v360, v361, v362, k0 => drive_Fastest_b7 N (fun v358 v359 v360 v361 v362 => drive_Fastest_l7 N n v358 v359 v360 v361 v362 k0) v358 v359 v360 v361 v362 k0


def drive_Fastest_m {R : Type} (N : Nat) (a347 : api_Escalator) (a348 : api_Stop) (a349 : Int) (k : Int → Int → Option R) : Option R :=
  drive_checkStop N a347 a348 (fun r355 =>
  bif r355 != (0 : Int) then
   k (0 : Int) r355
  else
   drive_to N (10000000 : Int) (fun r356 =>
   drive_in N a349 r356 (fun r357 =>
   bif !r357 then
    k (0 : Int) (1 : Int)
   else
    drive_Fastest_l7 N N a349 (0 : Int) (1000 : Int) a347 a348 (fun r422 =>
     k r422 (0 : Int)))))
noncomputable def drive_Fastest {R : Type} : Nat → api_Escalator → api_Stop → Int → (Int → Int → Option R) → Option R := lock (@drive_Fastest_m R)
theorem drive_Fastest_def {R : Type} (N : Nat) (a347 : api_Escalator) (a348 : api_Stop) (a349 : Int) (k : Int → Int → Option R) : drive_Fastest N a347 a348 a349 k = drive_Fastest_m N a347 a348 a349 k := by unfold drive_Fastest; rw [lock_eq]
def drive_Fastest_sp : Sp := ⟨[rAgg api_EscalatorC, rAgg api_StopC, rInt .i64], []⟩
theorem drive_Fastest_sp_ok : drive_Fastest_sp.Ok := ⟨(allCons (rAgg_ok api_EscalatorC_ok api_EscalatorC_len) (allCons (rAgg_ok api_StopC_ok api_StopC_len) (allCons (rInt_ok .i64) allNil))), eNil⟩
def drive_Fastest_rs : Sp := ⟨[rTup [rInt .i64, rInt .i64]], []⟩
theorem drive_Fastest_rs_ok : drive_Fastest_rs.Ok := ⟨(allCons (rTup_ok (allCons (rInt_ok .i64) (allCons (rInt_ok .i64) allNil))) allNil), eNil⟩
def drive_Fastest_run {R : Type} (N : Nat) (args : List SV) (T : Tab) (kf : SV × Tab → Option R) : Option R :=
  drive_Fastest_m N (Cod.dec api_EscalatorC (lget (toCs (lget args 0)))) (Cod.dec api_StopC (lget (toCs (lget args 1)))) (toI (lget args 2)) (fun q0 q1 => kf (lget [.tup [.int .i64 q0, .int .i64 q1]] 0, []))
def drive_Fastest_d7 {R : Type} (N : Nat) (S0 : St) (k : Exit → St → Option R) : Option R :=
  drive_Fastest_l7 N N (toI (lget S0.tmps 2)) (toI (lget S0.tmps 9)) (toI (lget S0.tmps 10)) (Cod.dec api_EscalatorC (lget (entCs (entAt S0.tab 0)))) (Cod.dec api_StopC (lget (entCs (entAt S0.tab 1)))) (fun q0 => k (.exit 0) (drive_Fastest_x7_0 q0))
def drive_Fastest_lp {R : Type} (N : Nat) : Lp R := fun body S k => bif (Go.Sx.keyOf body).getD 0 == 7 then drive_Fastest_L7.head.raw 0 S (fun S0 => drive_Fastest_d7 N S0 k) else Option.none
theorem drive_Fastest_l7_eq {R : Type} (N : Nat) (k : Exit → St → Option R) (n : Nat) : ∀ (v0 : Int) (v1 : Int) (v2 : Int) (v3 : api_Escalator) (v4 : api_Stop), loopM E.Θ (drive_run_cal N) (drive_Fastest_lp N) (noJn) 0 drive_Fastest_L7 (bodyAt E 57 7) n (drive_Fastest_h7 v0 v1 v2 v3 v4) k = drive_Fastest_l7 N n v0 v1 v2 v3 v4 (fun q0 => k (.exit 0) (drive_Fastest_x7_0 q0)) := by
  induction n with
  | zero => intro v0 v1 v2 v3 v4; rfl
  | succ n ih =>
    intro v0 v1 v2 v3 v4
    refine Eq.trans (b := drive_Fastest_b7 N (fun v0 v1 v2 v3 v4 => loopM E.Θ (drive_run_cal N) (drive_Fastest_lp N) (noJn) 0 drive_Fastest_L7 (bodyAt E 57 7) n (drive_Fastest_h7 v0 v1 v2 v3 v4) k) v0 v1 v2 v3 v4 (fun q0 => k (.exit 0) (drive_Fastest_x7_0 q0))) (by kernel_rfl) ?_
    have h : (fun (v0 : Int) (v1 : Int) (v2 : Int) (v3 : api_Escalator) (v4 : api_Stop) => loopM E.Θ (drive_run_cal N) (drive_Fastest_lp N) (noJn) 0 drive_Fastest_L7 (bodyAt E 57 7) n (drive_Fastest_h7 v0 v1 v2 v3 v4) k) = (fun (v0 : Int) (v1 : Int) (v2 : Int) (v3 : api_Escalator) (v4 : api_Stop) => drive_Fastest_l7 N n v0 v1 v2 v3 v4 (fun q0 => k (.exit 0) (drive_Fastest_x7_0 q0))) := funext fun v0 => funext fun v1 => funext fun v2 => funext fun v3 => funext fun v4 => ih v0 v1 v2 v3 v4
    rw [h]
    rfl
theorem drive_Fastest_k7 {R : Type} (N : Nat) : LpKey (R := R) E 57 0 (drive_Fastest_lp N) 7 :=
  lpKey_of hE (drive_run_cal_ok N) (jn := noJn) drive_Fastest_L7_ok [] kNil (by kernel_rfl) [] jNil (by kernel_rfl) N fun S k =>
    Eq.trans (b := drive_Fastest_L7.head.raw 0 S (fun S0 => drive_Fastest_d7 N S0 k)) (by kernel_rfl) (congrArg (drive_Fastest_L7.head.raw 0 S) (funext fun S0 => Eq.trans (drive_Fastest_l7_eq N k N (toI (lget S0.tmps 2)) (toI (lget S0.tmps 9)) (toI (lget S0.tmps 10)) (Cod.dec api_EscalatorC (lget (entCs (entAt S0.tab 0)))) (Cod.dec api_StopC (lget (entCs (entAt S0.tab 1))))).symm (by kernel_rfl)))
noncomputable def drive_Fastest_go {R : Type} (N : Nat) (args : List SV) (T : Tab) (kf : SV × Tab → Option R) : Option R :=
  drive_Fastest N (Cod.dec api_EscalatorC (lget (toCs (lget args 0)))) (Cod.dec api_StopC (lget (toCs (lget args 1)))) (toI (lget args 2)) (fun q0 q1 => kf (lget [.tup [.int .i64 q0, .int .i64 q1]] 0, []))
noncomputable def drive_Fastest_cal {R : Type} (N : Nat) : Cal R := callM (drive_run_cal N) 57 0 drive_Fastest_sp (drive_Fastest_go N)
theorem drive_Fastest_cal_ok {R : Type} (N : Nat) : CalOk E.P (drive_Fastest_cal (R := R) N) :=
  callM_ok hE (drive_run_cal_ok N) (lp := drive_Fastest_lp N) (jn := noJn) (keys := [7]) (kCons (drive_Fastest_k7 N) kNil) (by kernel_rfl) (js := []) jNil (by kernel_rfl) drive_Fastest_sp_ok drive_Fastest_rs_ok (fun args T kf => Eq.trans (drive_Fastest_def N (Cod.dec api_EscalatorC (lget (toCs (lget args 0)))) (Cod.dec api_StopC (lget (toCs (lget args 1)))) (toI (lget args 2)) (fun q0 q1 => kf (lget [.tup [.int .i64 q0, .int .i64 q1]] 0, []))) (by kernel_rfl : drive_Fastest_run N args T kf = fnM E (drive_run_cal N) (drive_Fastest_lp N) (noJn) 57 (drive_Fastest_sp.vs args) (drive_Fastest_sp.tab T) 0 (resK drive_Fastest_rs kf)))


def drive_Play_1_m {R : Type} (N : Nat) (a444 : Int) (a445 : Int) (a446 : Int) (a447 : Int) (a448 : Int) (k : Bool → Option R) : Option R :=
  drive_in N a444 (api_Span.mk a446 a447) (fun r449 =>
  k !r449)
noncomputable def drive_Play_1 {R : Type} : Nat → Int → Int → Int → Int → Int → (Bool → Option R) → Option R := lock (@drive_Play_1_m R)
theorem drive_Play_1_def {R : Type} (N : Nat) (a444 : Int) (a445 : Int) (a446 : Int) (a447 : Int) (a448 : Int) (k : Bool → Option R) : drive_Play_1 N a444 a445 a446 a447 a448 k = drive_Play_1_m N a444 a445 a446 a447 a448 k := by unfold drive_Play_1; rw [lock_eq]
def drive_Play_1_sp : Sp := ⟨[rInt .i64, rPtr 0 0], [(0, eBlk [rInt .i64, rInt .i64, rInt .i64, rInt .i64])]⟩
theorem drive_Play_1_sp_ok : drive_Play_1_sp.Ok := ⟨(allCons (rInt_ok .i64) (allCons (rPtr_ok 0 0) allNil)), (eCons (eBlk_ok (allCons (rInt_ok .i64) (allCons (rInt_ok .i64) (allCons (rInt_ok .i64) (allCons (rInt_ok .i64) allNil))))) eNil)⟩
def drive_Play_1_rs : Sp := ⟨[rBool], [(0, eBlk [rInt .i64, rInt .i64, rInt .i64, rInt .i64])]⟩
theorem drive_Play_1_rs_ok : drive_Play_1_rs.Ok := ⟨(allCons rBool_ok allNil), (eCons (eBlk_ok (allCons (rInt_ok .i64) (allCons (rInt_ok .i64) (allCons (rInt_ok .i64) (allCons (rInt_ok .i64) allNil))))) eNil)⟩
def drive_Play_1_run {R : Type} (N : Nat) (args : List SV) (T : Tab) (kf : SV × Tab → Option R) : Option R :=
  drive_Play_1_m N (toI (lget args 0)) (toI (lget (entCs (entAt T 0)) 0)) (toI (lget (entCs (entAt T 0)) 1)) (toI (lget (entCs (entAt T 0)) 2)) (toI (lget (entCs (entAt T 0)) 3)) (fun q0 => kf (lget [.bool q0] 0, [(0, .blk [.int .i64 (toI (lget (entCs (entAt T 0)) 0)), .int .i64 (toI (lget (entCs (entAt T 0)) 1)), .int .i64 (toI (lget (entCs (entAt T 0)) 2)), .int .i64 (toI (lget (entCs (entAt T 0)) 3))])]))
def drive_Play_1_lp {R : Type} (N : Nat) : Lp R := fun body S k => Option.none
noncomputable def drive_Play_1_go {R : Type} (N : Nat) (args : List SV) (T : Tab) (kf : SV × Tab → Option R) : Option R :=
  drive_Play_1 N (toI (lget args 0)) (toI (lget (entCs (entAt T 0)) 0)) (toI (lget (entCs (entAt T 0)) 1)) (toI (lget (entCs (entAt T 0)) 2)) (toI (lget (entCs (entAt T 0)) 3)) (fun q0 => kf (lget [.bool q0] 0, [(0, .blk [.int .i64 (toI (lget (entCs (entAt T 0)) 0)), .int .i64 (toI (lget (entCs (entAt T 0)) 1)), .int .i64 (toI (lget (entCs (entAt T 0)) 2)), .int .i64 (toI (lget (entCs (entAt T 0)) 3))])]))
noncomputable def drive_Play_1_cal {R : Type} (N : Nat) : Cal R := callM (drive_Fastest_cal N) 90 1 drive_Play_1_sp (drive_Play_1_go N)
theorem drive_Play_1_cal_ok {R : Type} (N : Nat) : CalOk E.P (drive_Play_1_cal (R := R) N) :=
  callM_ok hE (drive_Fastest_cal_ok N) (lp := drive_Play_1_lp N) (jn := noJn) (keys := []) kNil (by kernel_rfl) (js := []) jNil (by kernel_rfl) drive_Play_1_sp_ok drive_Play_1_rs_ok (fun args T kf => Eq.trans (drive_Play_1_def N (toI (lget args 0)) (toI (lget (entCs (entAt T 0)) 0)) (toI (lget (entCs (entAt T 0)) 1)) (toI (lget (entCs (entAt T 0)) 2)) (toI (lget (entCs (entAt T 0)) 3)) (fun q0 => kf (lget [.bool q0] 0, [(0, .blk [.int .i64 (toI (lget (entCs (entAt T 0)) 0)), .int .i64 (toI (lget (entCs (entAt T 0)) 1)), .int .i64 (toI (lget (entCs (entAt T 0)) 2)), .int .i64 (toI (lget (entCs (entAt T 0)) 3))])]))) (by kernel_rfl : drive_Play_1_run N args T kf = fnM E (drive_Fastest_cal N) (drive_Play_1_lp N) (noJn) 90 (drive_Play_1_sp.vs args) (drive_Play_1_sp.tab T) 1 (resK drive_Play_1_rs kf)))

def slices_IndexFunc___int_int__L2 : LoopSp := ⟨⟨[0, 1, 7, 8], ⟨((rSl intC) :: (rFunc 90 0 [rPtr 0 0]) :: (dr 5 ((rInt .i64) :: (rInt .i64) :: (dr 10 [])))), [(0, eBlk [rInt .i64, rInt .i64, rInt .i64, rInt .i64])]⟩, 1⟩, [(Option.none, ⟨[4], ⟨(dr 4 ((rInt .i64) :: (dr 14 []))), [(0, eBlk [rInt .i64, rInt .i64, rInt .i64, rInt .i64])]⟩, 1⟩), (some 0, ⟨[], ⟨(dr 19 []), [(0, eBlk [rInt .i64, rInt .i64, rInt .i64, rInt .i64])]⟩, 1⟩)]⟩
theorem slices_IndexFunc___int_int__L2_ok : slices_IndexFunc___int_int__L2.Ok := ⟨⟨(allCons (rSl_ok intC_ok) (allCons (rFunc_ok 90 0 (allCons (rPtr_ok 0 0) allNil)) (drCons 5 (allCons (rInt_ok .i64) (allCons (rInt_ok .i64) (drCons 10 allNil)))))), (eCons (eBlk_ok (allCons (rInt_ok .i64) (allCons (rInt_ok .i64) (allCons (rInt_ok .i64) (allCons (rInt_ok .i64) allNil))))) eNil)⟩, (xCons ⟨(drCons 4 (allCons (rInt_ok .i64) (drCons 14 allNil))), (eCons (eBlk_ok (allCons (rInt_ok .i64) (allCons (rInt_ok .i64) (allCons (rInt_ok .i64) (allCons (rInt_ok .i64) allNil))))) eNil)⟩ (xCons ⟨(drCons 19 allNil), (eCons (eBlk_ok (allCons (rInt_ok .i64) (allCons (rInt_ok .i64) (allCons (rInt_ok .i64) (allCons (rInt_ok .i64) allNil))))) eNil)⟩ xNil))⟩
def slices_IndexFunc___int_int__h2 (v437 : Arr Int) (v438 : Int) (v439 : Int) (v440 : Int) (v441 : Int) (v442 : Int) (v443 : Int) : St := ⟨((slC intC v437) :: (.func 90 0 [.ptr 0 0]) :: (un 5 ((.int .i64 v438) :: (.int .i64 v439) :: (un 10 [])))), [(0, .blk [.int .i64 v440, .int .i64 v441, .int .i64 v442, .int .i64 v443])], 1⟩
def slices_IndexFunc___int_int__x2_r (v440 : Int) (v441 : Int) (v442 : Int) (v443 : Int) (q0 : Int) : St := ⟨(un 4 ((.int .i64 q0) :: (un 14 []))), [(0, .blk [.int .i64 v440, .int .i64 v441, .int .i64 v442, .int .i64 v443])], 1⟩
def slices_IndexFunc___int_int__x2_0 (v440 : Int) (v441 : Int) (v442 : Int) (v443 : Int) : St := ⟨(un 19 []), [(0, .blk [.int .i64 v440, .int .i64 v441, .int .i64 v442, .int .i64 v443])], 1⟩
def slices_IndexFunc___int_int__b2 {R : Type} (N : Nat) (rc : Arr Int → Int → Int → Int → Int → Int → Int → Option R) (v437 : Arr Int) (v438 : Int) (v439 : Int) (v440 : Int) (v441 : Int) (v442 : Int) (v443 : Int) (kr : Int → Option R) (k0 : Unit → Option R) : Option R :=
  bif decide (v439 < v438) then
   bif decide ((0 : Int) ≤ v439) && decide (v439 < (↑(Arr.n v437) : Int)) then
    drive_Play_1 N (Arr.f v437 (Int.toNat v439)) v440 v441 v442 v443 (fun r450 =>
    bif r450 then
     kr v439
    else
     rc v437 v438 (w64 (v439 + (1 : Int))) v440 v441 v442 v443)
   else
    Option.none
  else
   k0 ()
def slices_IndexFunc___int_int__l2 {R : Type} (N : Nat) : Nat → Arr Int → Int → Int → Int → Int → Int → Int → (Int → Option R) → (Unit → Option R) → Option R
  | 0, _, _, _, _, _, _, _, _, _ => Option.none
  | n + 1, v437, v438, v439, v440, v441, v442, v443, kr, k0 => slices_IndexFunc___int_int__b2 N (fun v437 v438 v439 v440 v441 v442 v443 => slices_IndexFunc___int_int__l2 N n v437 v438 v439 v440 v441 v442 v443 kr k0) v437 v438 v439 v440 v441 v442 v443 kr k0


def slices_IndexFunc___int_int__m {R : Type} (N : Nat) (a432 : Arr Int) (a433 : Int) (a434 : Int) (a435 : Int) (a436 : Int) (k : Int → Option R) : Option R :=
  slices_IndexFunc___int_int__l2 N N a432 ((↑(Arr.n a432) : Int)) (0 : Int) a433 a434 a435 a436 (fun r451 =>
   k r451) (fun (_ : Unit) =>
   k (-1 : Int))
noncomputable def slices_IndexFunc___int_int_ {R : Type} : Nat → Arr Int → Int → Int → Int → Int → (Int → Option R) → Option R := lock (@slices_IndexFunc___int_int__m R)
theorem slices_IndexFunc___int_int__def {R : Type} (N : Nat) (a432 : Arr Int) (a433 : Int) (a434 : Int) (a435 : Int) (a436 : Int) (k : Int → Option R) : slices_IndexFunc___int_int_ N a432 a433 a434 a435 a436 k = slices_IndexFunc___int_int__m N a432 a433 a434 a435 a436 k := by unfold slices_IndexFunc___int_int_; rw [lock_eq]
def slices_IndexFunc___int_int__sp : Sp := ⟨[rSl intC, rFunc 90 0 [rPtr 0 0]], [(0, eBlk [rInt .i64, rInt .i64, rInt .i64, rInt .i64])]⟩
theorem slices_IndexFunc___int_int__sp_ok : slices_IndexFunc___int_int__sp.Ok := ⟨(allCons (rSl_ok intC_ok) (allCons (rFunc_ok 90 0 (allCons (rPtr_ok 0 0) allNil)) allNil)), (eCons (eBlk_ok (allCons (rInt_ok .i64) (allCons (rInt_ok .i64) (allCons (rInt_ok .i64) (allCons (rInt_ok .i64) allNil))))) eNil)⟩
def slices_IndexFunc___int_int__rs : Sp := ⟨[rInt .i64], [(0, eBlk [rInt .i64, rInt .i64, rInt .i64, rInt .i64])]⟩
theorem slices_IndexFunc___int_int__rs_ok : slices_IndexFunc___int_int__rs.Ok := ⟨(allCons (rInt_ok .i64) allNil), (eCons (eBlk_ok (allCons (rInt_ok .i64) (allCons (rInt_ok .i64) (allCons (rInt_ok .i64) (allCons (rInt_ok .i64) allNil))))) eNil)⟩
def slices_IndexFunc___int_int__run {R : Type} (N : Nat) (args : List SV) (T : Tab) (kf : SV × Tab → Option R) : Option R :=
  slices_IndexFunc___int_int__m N (lstC intC (lget args 0)) (toI (lget (entCs (entAt T 0)) 0)) (toI (lget (entCs (entAt T 0)) 1)) (toI (lget (entCs (entAt T 0)) 2)) (toI (lget (entCs (entAt T 0)) 3)) (fun q0 => kf (lget [.int .i64 q0] 0, [(0, .blk [.int .i64 (toI (lget (entCs (entAt T 0)) 0)), .int .i64 (toI (lget (entCs (entAt T 0)) 1)), .int .i64 (toI (lget (entCs (entAt T 0)) 2)), .int .i64 (toI (lget (entCs (entAt T 0)) 3))])]))
def slices_IndexFunc___int_int__d2 {R : Type} (N : Nat) (S0 : St) (k : Exit → St → Option R) : Option R :=
  slices_IndexFunc___int_int__l2 N N (lstC intC (lget S0.tmps 0)) (toI (lget S0.tmps 7)) (toI (lget S0.tmps 8)) (toI (lget (entCs (entAt S0.tab 0)) 0)) (toI (lget (entCs (entAt S0.tab 0)) 1)) (toI (lget (entCs (entAt S0.tab 0)) 2)) (toI (lget (entCs (entAt S0.tab 0)) 3)) (fun q0 => k .ret (slices_IndexFunc___int_int__x2_r (toI (lget (entCs (entAt S0.tab 0)) 0)) (toI (lget (entCs (entAt S0.tab 0)) 1)) (toI (lget (entCs (entAt S0.tab 0)) 2)) (toI (lget (entCs (entAt S0.tab 0)) 3)) q0)) (fun (_ : Unit) => k (.exit 0) (slices_IndexFunc___int_int__x2_0 (toI (lget (entCs (entAt S0.tab 0)) 0)) (toI (lget (entCs (entAt S0.tab 0)) 1)) (toI (lget (entCs (entAt S0.tab 0)) 2)) (toI (lget (entCs (entAt S0.tab 0)) 3))))
def slices_IndexFunc___int_int__lp {R : Type} (N : Nat) : Lp R := fun body S k => bif (Go.Sx.keyOf body).getD 0 == 2 then slices_IndexFunc___int_int__L2.head.raw 1 S (fun S0 => slices_IndexFunc___int_int__d2 N S0 k) else Option.none
theorem slices_IndexFunc___int_int__l2_eq {R : Type} (N : Nat) (k : Exit → St → Option R) (n : Nat) : ∀ (v0 : Arr Int) (v1 : Int) (v2 : Int) (v3 : Int) (v4 : Int) (v5 : Int) (v6 : Int), loopM E.Θ (drive_Play_1_cal N) (slices_IndexFunc___int_int__lp N) (noJn) 1 slices_IndexFunc___int_int__L2 (bodyAt E 128 2) n (slices_IndexFunc___int_int__h2 v0 v1 v2 v3 v4 v5 v6) k = slices_IndexFunc___int_int__l2 N n v0 v1 v2 v3 v4 v5 v6 (fun q0 => k .ret (slices_IndexFunc___int_int__x2_r v3 v4 v5 v6 q0)) (fun (_ : Unit) => k (.exit 0) (slices_IndexFunc___int_int__x2_0 v3 v4 v5 v6)) := by
  induction n with
  | zero => intro v0 v1 v2 v3 v4 v5 v6; rfl
  | succ n ih =>
    intro v0 v1 v2 v3 v4 v5 v6
    refine Eq.trans (b := slices_IndexFunc___int_int__b2 N (fun v0 v1 v2 v3 v4 v5 v6 => loopM E.Θ (drive_Play_1_cal N) (slices_IndexFunc___int_int__lp N) (noJn) 1 slices_IndexFunc___int_int__L2 (bodyAt E 128 2) n (slices_IndexFunc___int_int__h2 v0 v1 v2 v3 v4 v5 v6) k) v0 v1 v2 v3 v4 v5 v6 (fun q0 => k .ret (slices_IndexFunc___int_int__x2_r v3 v4 v5 v6 q0)) (fun (_ : Unit) => k (.exit 0) (slices_IndexFunc___int_int__x2_0 v3 v4 v5 v6))) (by kernel_rfl) ?_
    have h : (fun (v0 : Arr Int) (v1 : Int) (v2 : Int) (v3 : Int) (v4 : Int) (v5 : Int) (v6 : Int) => loopM E.Θ (drive_Play_1_cal N) (slices_IndexFunc___int_int__lp N) (noJn) 1 slices_IndexFunc___int_int__L2 (bodyAt E 128 2) n (slices_IndexFunc___int_int__h2 v0 v1 v2 v3 v4 v5 v6) k) = (fun (v0 : Arr Int) (v1 : Int) (v2 : Int) (v3 : Int) (v4 : Int) (v5 : Int) (v6 : Int) => slices_IndexFunc___int_int__l2 N n v0 v1 v2 v3 v4 v5 v6 (fun q0 => k .ret (slices_IndexFunc___int_int__x2_r v3 v4 v5 v6 q0)) (fun (_ : Unit) => k (.exit 0) (slices_IndexFunc___int_int__x2_0 v3 v4 v5 v6))) := funext fun v0 => funext fun v1 => funext fun v2 => funext fun v3 => funext fun v4 => funext fun v5 => funext fun v6 => ih v0 v1 v2 v3 v4 v5 v6
    rw [h]
    rfl
theorem slices_IndexFunc___int_int__k2 {R : Type} (N : Nat) : LpKey (R := R) E 128 1 (slices_IndexFunc___int_int__lp N) 2 :=
  lpKey_of hE (drive_Play_1_cal_ok N) (jn := noJn) slices_IndexFunc___int_int__L2_ok [] kNil (by kernel_rfl) [] jNil (by kernel_rfl) N fun S k =>
    Eq.trans (b := slices_IndexFunc___int_int__L2.head.raw 1 S (fun S0 => slices_IndexFunc___int_int__d2 N S0 k)) (by kernel_rfl) (congrArg (slices_IndexFunc___int_int__L2.head.raw 1 S) (funext fun S0 => Eq.trans (slices_IndexFunc___int_int__l2_eq N k N (lstC intC (lget S0.tmps 0)) (toI (lget S0.tmps 7)) (toI (lget S0.tmps 8)) (toI (lget (entCs (entAt S0.tab 0)) 0)) (toI (lget (entCs (entAt S0.tab 0)) 1)) (toI (lget (entCs (entAt S0.tab 0)) 2)) (toI (lget (entCs (entAt S0.tab 0)) 3))).symm (by kernel_rfl)))
noncomputable def slices_IndexFunc___int_int__go {R : Type} (N : Nat) (args : List SV) (T : Tab) (kf : SV × Tab → Option R) : Option R :=
  slices_IndexFunc___int_int_ N (lstC intC (lget args 0)) (toI (lget (entCs (entAt T 0)) 0)) (toI (lget (entCs (entAt T 0)) 1)) (toI (lget (entCs (entAt T 0)) 2)) (toI (lget (entCs (entAt T 0)) 3)) (fun q0 => kf (lget [.int .i64 q0] 0, [(0, .blk [.int .i64 (toI (lget (entCs (entAt T 0)) 0)), .int .i64 (toI (lget (entCs (entAt T 0)) 1)), .int .i64 (toI (lget (entCs (entAt T 0)) 2)), .int .i64 (toI (lget (entCs (entAt T 0)) 3))])]))
noncomputable def slices_IndexFunc___int_int__cal {R : Type} (N : Nat) : Cal R := callM (drive_Play_1_cal N) 128 1 slices_IndexFunc___int_int__sp (slices_IndexFunc___int_int__go N)
theorem slices_IndexFunc___int_int__cal_ok {R : Type} (N : Nat) : CalOk E.P (slices_IndexFunc___int_int__cal (R := R) N) :=
  callM_ok hE (drive_Play_1_cal_ok N) (lp := slices_IndexFunc___int_int__lp N) (jn := noJn) (keys := [2]) (kCons (slices_IndexFunc___int_int__k2 N) kNil) (by kernel_rfl) (js := []) jNil (by kernel_rfl) slices_IndexFunc___int_int__sp_ok slices_IndexFunc___int_int__rs_ok (fun args T kf => Eq.trans (slices_IndexFunc___int_int__def N (lstC intC (lget args 0)) (toI (lget (entCs (entAt T 0)) 0)) (toI (lget (entCs (entAt T 0)) 1)) (toI (lget (entCs (entAt T 0)) 2)) (toI (lget (entCs (entAt T 0)) 3)) (fun q0 => kf (lget [.int .i64 q0] 0, [(0, .blk [.int .i64 (toI (lget (entCs (entAt T 0)) 0)), .int .i64 (toI (lget (entCs (entAt T 0)) 1)), .int .i64 (toI (lget (entCs (entAt T 0)) 2)), .int .i64 (toI (lget (entCs (entAt T 0)) 3))])]))) (by kernel_rfl : slices_IndexFunc___int_int__run N args T kf = fnM E (drive_Play_1_cal N) (slices_IndexFunc___int_int__lp N) (noJn) 128 (slices_IndexFunc___int_int__sp.vs args) (slices_IndexFunc___int_int__sp.tab T) 1 (resK slices_IndexFunc___int_int__rs kf)))


def slices_ContainsFunc___int_int__m {R : Type} (N : Nat) (a427 : Arr Int) (a428 : Int) (a429 : Int) (a430 : Int) (a431 : Int) (k : Bool → Option R) : Option R :=
  slices_IndexFunc___int_int_ N a427 a428 a429 a430 a431 (fun r452 =>
  k (decide (r452 ≥ (0 : Int))))
noncomputable def slices_ContainsFunc___int_int_ {R : Type} : Nat → Arr Int → Int → Int → Int → Int → (Bool → Option R) → Option R := lock (@slices_ContainsFunc___int_int__m R)
theorem slices_ContainsFunc___int_int__def {R : Type} (N : Nat) (a427 : Arr Int) (a428 : Int) (a429 : Int) (a430 : Int) (a431 : Int) (k : Bool → Option R) : slices_ContainsFunc___int_int_ N a427 a428 a429 a430 a431 k = slices_ContainsFunc___int_int__m N a427 a428 a429 a430 a431 k := by unfold slices_ContainsFunc___int_int_; rw [lock_eq]
def slices_ContainsFunc___int_int__sp : Sp := ⟨[rSl intC, rFunc 90 0 [rPtr 0 0]], [(0, eBlk [rInt .i64, rInt .i64, rInt .i64, rInt .i64])]⟩
theorem slices_ContainsFunc___int_int__sp_ok : slices_ContainsFunc___int_int__sp.Ok := ⟨(allCons (rSl_ok intC_ok) (allCons (rFunc_ok 90 0 (allCons (rPtr_ok 0 0) allNil)) allNil)), (eCons (eBlk_ok (allCons (rInt_ok .i64) (allCons (rInt_ok .i64) (allCons (rInt_ok .i64) (allCons (rInt_ok .i64) allNil))))) eNil)⟩
def slices_ContainsFunc___int_int__rs : Sp := ⟨[rBool], [(0, eBlk [rInt .i64, rInt .i64, rInt .i64, rInt .i64])]⟩
theorem slices_ContainsFunc___int_int__rs_ok : slices_ContainsFunc___int_int__rs.Ok := ⟨(allCons rBool_ok allNil), (eCons (eBlk_ok (allCons (rInt_ok .i64) (allCons (rInt_ok .i64) (allCons (rInt_ok .i64) (allCons (rInt_ok .i64) allNil))))) eNil)⟩
def slices_ContainsFunc___int_int__run {R : Type} (N : Nat) (args : List SV) (T : Tab) (kf : SV × Tab → Option R) : Option R :=
  slices_ContainsFunc___int_int__m N (lstC intC (lget args 0)) (toI (lget (entCs (entAt T 0)) 0)) (toI (lget (entCs (entAt T 0)) 1)) (toI (lget (entCs (entAt T 0)) 2)) (toI (lget (entCs (entAt T 0)) 3)) (fun q0 => kf (lget [.bool q0] 0, [(0, .blk [.int .i64 (toI (lget (entCs (entAt T 0)) 0)), .int .i64 (toI (lget (entCs (entAt T 0)) 1)), .int .i64 (toI (lget (entCs (entAt T 0)) 2)), .int .i64 (toI (lget (entCs (entAt T 0)) 3))])]))
def slices_ContainsFunc___int_int__lp {R : Type} (N : Nat) : Lp R := fun body S k => Option.none
noncomputable def slices_ContainsFunc___int_int__go {R : Type} (N : Nat) (args : List SV) (T : Tab) (kf : SV × Tab → Option R) : Option R :=
  slices_ContainsFunc___int_int_ N (lstC intC (lget args 0)) (toI (lget (entCs (entAt T 0)) 0)) (toI (lget (entCs (entAt T 0)) 1)) (toI (lget (entCs (entAt T 0)) 2)) (toI (lget (entCs (entAt T 0)) 3)) (fun q0 => kf (lget [.bool q0] 0, [(0, .blk [.int .i64 (toI (lget (entCs (entAt T 0)) 0)), .int .i64 (toI (lget (entCs (entAt T 0)) 1)), .int .i64 (toI (lget (entCs (entAt T 0)) 2)), .int .i64 (toI (lget (entCs (entAt T 0)) 3))])]))
noncomputable def slices_ContainsFunc___int_int__cal {R : Type} (N : Nat) : Cal R := callM (slices_IndexFunc___int_int__cal N) 89 1 slices_ContainsFunc___int_int__sp (slices_ContainsFunc___int_int__go N)
theorem slices_ContainsFunc___int_int__cal_ok {R : Type} (N : Nat) : CalOk E.P (slices_ContainsFunc___int_int__cal (R := R) N) :=
  callM_ok hE (slices_IndexFunc___int_int__cal_ok N) (lp := slices_ContainsFunc___int_int__lp N) (jn := noJn) (keys := []) kNil (by kernel_rfl) (js := []) jNil (by kernel_rfl) slices_ContainsFunc___int_int__sp_ok slices_ContainsFunc___int_int__rs_ok (fun args T kf => Eq.trans (slices_ContainsFunc___int_int__def N (lstC intC (lget args 0)) (toI (lget (entCs (entAt T 0)) 0)) (toI (lget (entCs (entAt T 0)) 1)) (toI (lget (entCs (entAt T 0)) 2)) (toI (lget (entCs (entAt T 0)) 3)) (fun q0 => kf (lget [.bool q0] 0, [(0, .blk [.int .i64 (toI (lget (entCs (entAt T 0)) 0)), .int .i64 (toI (lget (entCs (entAt T 0)) 1)), .int .i64 (toI (lget (entCs (entAt T 0)) 2)), .int .i64 (toI (lget (entCs (entAt T 0)) 3))])]))) (by kernel_rfl : slices_ContainsFunc___int_int__run N args T kf = fnM E (slices_IndexFunc___int_int__cal N) (slices_ContainsFunc___int_int__lp N) (noJn) 89 (slices_ContainsFunc___int_int__sp.vs args) (slices_ContainsFunc___int_int__sp.tab T) 1 (resK slices_ContainsFunc___int_int__rs kf)))

def drive_Play_L9 : LoopSp := ⟨⟨[9, 10, 32, 33, 34], ⟨(dr 9 ((rPtr 0 0) :: (rRow 1) :: (dr 21 ((rSl intC) :: (rInt .i64) :: (rInt .i64) :: (dr 10 []))))), [(0, eBlkC drive_motionC), (1, eRow intC)]⟩, 2⟩, [(some 0, ⟨[10], ⟨(dr 10 ((rRow 0) :: (dr 34 []))), [(0, eRow intC)]⟩, 1⟩)]⟩
theorem drive_Play_L9_ok : drive_Play_L9.Ok := ⟨⟨(drCons 9 (allCons (rPtr_ok 0 0) (allCons (rRow_ok 1) (drCons 21 (allCons (rSl_ok intC_ok) (allCons (rInt_ok .i64) (allCons (rInt_ok .i64) (drCons 10 allNil)))))))), (eCons (eBlkC_ok drive_motionC_ok drive_motionC_len) (eCons (eRow_ok intC_ok) eNil))⟩, (xCons ⟨(drCons 10 (allCons (rRow_ok 0) (drCons 34 allNil))), (eCons (eRow_ok intC_ok) eNil)⟩ xNil)⟩
def drive_Play_h9 (v454 : Arr Int) (v455 : Int) (v456 : Int) (v457 : drive_motion) (v458 : Bool) (v459 : Arr Int) : St := ⟨(un 9 ((.ptr 0 0) :: (.row 1) :: (un 21 ((slC intC v454) :: (.int .i64 v455) :: (.int .i64 v456) :: (un 10 []))))), [(0, .blk (Cod.enc drive_motionC v457)), (1, rowE intC v458 v459)], 2⟩
def drive_Play_x9_0 (q0 : Bool) (q1 : Arr Int) : St := ⟨(un 10 ((.row 0) :: (un 34 []))), [(0, rowE intC q0 q1)], 1⟩
def drive_Play_b9 {R : Type} (N : Nat) (rc : Arr Int → Int → Int → drive_motion → Bool → Arr Int → Option R) (v454 : Arr Int) (v455 : Int) (v456 : Int) (v457 : drive_motion) (v458 : Bool) (v459 : Arr Int) (k0 : Bool → Arr Int → Option R) : Option R :=
  bif decide (v456 < v455) then
   bif decide ((0 : Int) ≤ v456) && decide (v456 < (↑(Arr.n v454) : Int)) then
    drive_motion_with N (Arr.f v454 (Int.toNat v456)) v457 (fun r460 r461 =>
    bif room (Arr.n v459 + (1 : Nat)) then
     rc v454 v455 (w64 (v456 + (1 : Int))) r461 false (lst intC (Arr.n v459 + (1 : Nat)) (catC (Arr.n v459) (Cod.cell intC (Arr.f v459)) (litC [SV.int IntKind.i64 (0 : Int)] [[SV.int IntKind.i64 r460]])))
    else
     Option.none)
   else
    Option.none
  else
   k0 v458 v459
def drive_Play_l9 {R : Type} (N : Nat) : Nat → Arr Int → Int → Int → drive_motion → Bool → Arr Int → (Bool → Arr Int → Option R) → Option R
  | 0, _, _, _, _, _, _, _ => Option.none
  | n + 1, v454, v455, v456, v457, v458, v459, k0 => drive_Play_b9 N (fun v454 v455 v456 v457 v458 v459 => drive_Play_l9 N n v454 v455 v456 v457 v458 v459 k0) v454 v455 v456 v457 v458 v459 k0


def drive_Play_m {R : Type} (N : Nat) (a423 : api_Escalator) (a424 : api_Stop) (a425 : Arr Int) (k : Int → Bool → Arr Int → Option R) : Option R :=
  drive_checkStop N a423 a424 (fun r426 =>
  bif r426 != (0 : Int) then
   k r426 true (lst intC (0 : Nat) (zeroC [SV.int IntKind.i64 (0 : Int)]))
  else
   bif decide ((↑(Arr.n a425) : Int) > (100 : Int)) then
    k (1 : Int) true (lst intC (0 : Nat) (zeroC [SV.int IntKind.i64 (0 : Int)]))
   else
    slices_ContainsFunc___int_int_ N a425 (api_Stop.Speed a424) (api_Span.Low (api_Stop.Loads a424)) (api_Span.High (api_Stop.Loads a424)) (api_Stop.Fail a424) (fun r453 =>
    bif r453 then
     k (1 : Int) true (lst intC (0 : Nat) (zeroC [SV.int IntKind.i64 (0 : Int)]))
    else
     drive_Play_l9 N N a425 ((↑(Arr.n a425) : Int)) (0 : Int) (drive_motion.mk a423 a424 (api_Stop.Speed a424) (0 : Int)) true (lst intC (0 : Nat) (zeroC [SV.int IntKind.i64 (0 : Int)])) (fun r462 r463 =>
      k (0 : Int) r462 r463)))
noncomputable def drive_Play {R : Type} : Nat → api_Escalator → api_Stop → Arr Int → (Int → Bool → Arr Int → Option R) → Option R := lock (@drive_Play_m R)
theorem drive_Play_def {R : Type} (N : Nat) (a423 : api_Escalator) (a424 : api_Stop) (a425 : Arr Int) (k : Int → Bool → Arr Int → Option R) : drive_Play N a423 a424 a425 k = drive_Play_m N a423 a424 a425 k := by unfold drive_Play; rw [lock_eq]
def drive_Play_sp : Sp := ⟨[rAgg api_EscalatorC, rAgg api_StopC, rSl intC], []⟩
theorem drive_Play_sp_ok : drive_Play_sp.Ok := ⟨(allCons (rAgg_ok api_EscalatorC_ok api_EscalatorC_len) (allCons (rAgg_ok api_StopC_ok api_StopC_len) (allCons (rSl_ok intC_ok) allNil))), eNil⟩
def drive_Play_rs : Sp := ⟨[rTup [rRow 0, rInt .i64]], [(0, eRow intC)]⟩
theorem drive_Play_rs_ok : drive_Play_rs.Ok := ⟨(allCons (rTup_ok (allCons (rRow_ok 0) (allCons (rInt_ok .i64) allNil))) allNil), (eCons (eRow_ok intC_ok) eNil)⟩
def drive_Play_run {R : Type} (N : Nat) (args : List SV) (T : Tab) (kf : SV × Tab → Option R) : Option R :=
  drive_Play_m N (Cod.dec api_EscalatorC (lget (toCs (lget args 0)))) (Cod.dec api_StopC (lget (toCs (lget args 1)))) (lstC intC (lget args 2)) (fun q0 q1 q2 => kf (lget [.tup [.row 0, .int .i64 q0]] 0, [(0, rowE intC q1 q2)]))
def drive_Play_d9 {R : Type} (N : Nat) (S0 : St) (k : Exit → St → Option R) : Option R :=
  drive_Play_l9 N N (lstC intC (lget S0.tmps 32)) (toI (lget S0.tmps 33)) (toI (lget S0.tmps 34)) (Cod.dec drive_motionC (lget (entCs (entAt S0.tab 0)))) (entNl (entAt S0.tab 1)) (lst intC (entN (entAt S0.tab 1)) (entC (entAt S0.tab 1))) (fun q0 q1 => k (.exit 0) (drive_Play_x9_0 q0 q1))
def drive_Play_lp {R : Type} (N : Nat) : Lp R := fun body S k => bif (Go.Sx.keyOf body).getD 0 == 9 then drive_Play_L9.head.raw 0 S (fun S0 => drive_Play_d9 N S0 k) else Option.none
theorem drive_Play_l9_eq {R : Type} (N : Nat) (k : Exit → St → Option R) (n : Nat) : ∀ (v0 : Arr Int) (v1 : Int) (v2 : Int) (v3 : drive_motion) (v4 : Bool) (v5 : Arr Int), loopM E.Θ (slices_ContainsFunc___int_int__cal N) (drive_Play_lp N) (noJn) 0 drive_Play_L9 (bodyAt E 36 9) n (drive_Play_h9 v0 v1 v2 v3 v4 v5) k = drive_Play_l9 N n v0 v1 v2 v3 v4 v5 (fun q0 q1 => k (.exit 0) (drive_Play_x9_0 q0 q1)) := by
  induction n with
  | zero => intro v0 v1 v2 v3 v4 v5; rfl
  | succ n ih =>
    intro v0 v1 v2 v3 v4 v5
    refine Eq.trans (b := drive_Play_b9 N (fun v0 v1 v2 v3 v4 v5 => loopM E.Θ (slices_ContainsFunc___int_int__cal N) (drive_Play_lp N) (noJn) 0 drive_Play_L9 (bodyAt E 36 9) n (drive_Play_h9 v0 v1 v2 v3 v4 v5) k) v0 v1 v2 v3 v4 v5 (fun q0 q1 => k (.exit 0) (drive_Play_x9_0 q0 q1))) (by kernel_rfl) ?_
    have h : (fun (v0 : Arr Int) (v1 : Int) (v2 : Int) (v3 : drive_motion) (v4 : Bool) (v5 : Arr Int) => loopM E.Θ (slices_ContainsFunc___int_int__cal N) (drive_Play_lp N) (noJn) 0 drive_Play_L9 (bodyAt E 36 9) n (drive_Play_h9 v0 v1 v2 v3 v4 v5) k) = (fun (v0 : Arr Int) (v1 : Int) (v2 : Int) (v3 : drive_motion) (v4 : Bool) (v5 : Arr Int) => drive_Play_l9 N n v0 v1 v2 v3 v4 v5 (fun q0 q1 => k (.exit 0) (drive_Play_x9_0 q0 q1))) := funext fun v0 => funext fun v1 => funext fun v2 => funext fun v3 => funext fun v4 => funext fun v5 => ih v0 v1 v2 v3 v4 v5
    rw [h]
    rfl
theorem drive_Play_k9 {R : Type} (N : Nat) : LpKey (R := R) E 36 0 (drive_Play_lp N) 9 :=
  lpKey_of hE (slices_ContainsFunc___int_int__cal_ok N) (jn := noJn) drive_Play_L9_ok [] kNil (by kernel_rfl) [] jNil (by kernel_rfl) N fun S k =>
    Eq.trans (b := drive_Play_L9.head.raw 0 S (fun S0 => drive_Play_d9 N S0 k)) (by kernel_rfl) (congrArg (drive_Play_L9.head.raw 0 S) (funext fun S0 => Eq.trans (drive_Play_l9_eq N k N (lstC intC (lget S0.tmps 32)) (toI (lget S0.tmps 33)) (toI (lget S0.tmps 34)) (Cod.dec drive_motionC (lget (entCs (entAt S0.tab 0)))) (entNl (entAt S0.tab 1)) (lst intC (entN (entAt S0.tab 1)) (entC (entAt S0.tab 1)))).symm (by kernel_rfl)))
noncomputable def drive_Play_go {R : Type} (N : Nat) (args : List SV) (T : Tab) (kf : SV × Tab → Option R) : Option R :=
  drive_Play N (Cod.dec api_EscalatorC (lget (toCs (lget args 0)))) (Cod.dec api_StopC (lget (toCs (lget args 1)))) (lstC intC (lget args 2)) (fun q0 q1 q2 => kf (lget [.tup [.row 0, .int .i64 q0]] 0, [(0, rowE intC q1 q2)]))
noncomputable def drive_Play_cal {R : Type} (N : Nat) : Cal R := callM (slices_ContainsFunc___int_int__cal N) 36 0 drive_Play_sp (drive_Play_go N)
theorem drive_Play_cal_ok {R : Type} (N : Nat) : CalOk E.P (drive_Play_cal (R := R) N) :=
  callM_ok hE (slices_ContainsFunc___int_int__cal_ok N) (lp := drive_Play_lp N) (jn := noJn) (keys := [9]) (kCons (drive_Play_k9 N) kNil) (by kernel_rfl) (js := []) jNil (by kernel_rfl) drive_Play_sp_ok drive_Play_rs_ok (fun args T kf => Eq.trans (drive_Play_def N (Cod.dec api_EscalatorC (lget (toCs (lget args 0)))) (Cod.dec api_StopC (lget (toCs (lget args 1)))) (lstC intC (lget args 2)) (fun q0 q1 q2 => kf (lget [.tup [.row 0, .int .i64 q0]] 0, [(0, rowE intC q1 q2)]))) (by kernel_rfl : drive_Play_run N args T kf = fnM E (slices_ContainsFunc___int_int__cal N) (drive_Play_lp N) (noJn) 36 (drive_Play_sp.vs args) (drive_Play_sp.tab T) 0 (resK drive_Play_rs kf)))

def newelref01_Rest_L4 : LoopSp := ⟨⟨[1, 4, 7], ⟨(dr 1 ((rSl intC) :: (dr 2 ((rInt .i64) :: (dr 2 ((rInt .i64) :: (dr 25 []))))))), []⟩, 0⟩, [(Option.none, ⟨[4, 5, 6], ⟨(dr 4 ((rInt .i64) :: (rInt .i64) :: (rBool) :: (dr 26 []))), []⟩, 0⟩), (some 0, ⟨[1, 4], ⟨(dr 1 ((rSl intC) :: (dr 2 ((rInt .i64) :: (dr 28 []))))), []⟩, 0⟩)]⟩
theorem newelref01_Rest_L4_ok : newelref01_Rest_L4.Ok := ⟨⟨(drCons 1 (allCons (rSl_ok intC_ok) (drCons 2 (allCons (rInt_ok .i64) (drCons 2 (allCons (rInt_ok .i64) (drCons 25 allNil))))))), eNil⟩, (xCons ⟨(drCons 4 (allCons (rInt_ok .i64) (allCons (rInt_ok .i64) (allCons rBool_ok (drCons 26 allNil))))), eNil⟩ (xCons ⟨(drCons 1 (allCons (rSl_ok intC_ok) (drCons 2 (allCons (rInt_ok .i64) (drCons 28 allNil))))), eNil⟩ xNil))⟩
def newelref01_Rest_h4 (v466 : Arr Int) (v467 : Int) (v468 : Int) : St := ⟨(un 1 ((slC intC v466) :: (un 2 ((.int .i64 v467) :: (un 2 ((.int .i64 v468) :: (un 25 []))))))), [], 0⟩
def newelref01_Rest_x4_r (q0 : Int) (q1 : Int) (q2 : Bool) : St := ⟨(un 4 ((.int .i64 q0) :: (.int .i64 q1) :: (.bool q2) :: (un 26 []))), [], 0⟩
def newelref01_Rest_x4_0 (v466 : Arr Int) (q1 : Int) : St := ⟨(un 1 ((slC intC v466) :: (un 2 ((.int .i64 q1) :: (un 28 []))))), [], 0⟩
def newelref01_Rest_b4 {R : Type} (N : Nat) (rc : Arr Int → Int → Int → Option R) (v466 : Arr Int) (v467 : Int) (v468 : Int) (kr : Int → Int → Bool → Option R) (k0 : Int → Option R) : Option R :=
  bif decide (v468 < (↑(Arr.n v466) : Int)) then
   bif decide ((0 : Int) ≤ v468) && decide (v468 < (↑(Arr.n v466) : Int)) then
    bif decide ((0 : Int) ≤ v468) && decide (v468 < (↑(Arr.n v466) : Int)) then
     bif Arr.f v466 (Int.toNat v468) == (0 : Int) then
      kr (w64 (v467 + Arr.f v466 (Int.toNat v468))) (w64 (v468 + (1 : Int))) true
     else
      rc v466 (w64 (v467 + Arr.f v466 (Int.toNat v468))) (w64 (v468 + (1 : Int)))
    else
     Option.none
   else
    Option.none
  else
   k0 v467
def newelref01_Rest_l4 {R : Type} (N : Nat) : Nat → Arr Int → Int → Int → (Int → Int → Bool → Option R) → (Int → Option R) → Option R
  | 0, _, _, _, _, _ => Option.none
  | n + 1, v466, v467, v468, kr, k0 => newelref01_Rest_b4 N (fun v466 v467 v468 => newelref01_Rest_l4 N n v466 v467 v468 kr k0) v466 v467 v468 kr k0


def newelref01_Rest_m {R : Type} (N : Nat) (a464 : Int) (a465 : Arr Int) (k : Int → Int → Bool → Option R) : Option R :=
  bif a464 == (0 : Int) then
   k (0 : Int) (0 : Int) true
  else
   newelref01_Rest_l4 N N a465 (0 : Int) (0 : Int) (fun r469 r470 r471 =>
    k r469 r470 r471) (fun r472 =>
    k r472 ((↑(Arr.n a465) : Int)) false)
noncomputable def newelref01_Rest {R : Type} : Nat → Int → Arr Int → (Int → Int → Bool → Option R) → Option R := lock (@newelref01_Rest_m R)
theorem newelref01_Rest_def {R : Type} (N : Nat) (a464 : Int) (a465 : Arr Int) (k : Int → Int → Bool → Option R) : newelref01_Rest N a464 a465 k = newelref01_Rest_m N a464 a465 k := by unfold newelref01_Rest; rw [lock_eq]
def newelref01_Rest_sp : Sp := ⟨[rInt .i64, rSl intC], []⟩
theorem newelref01_Rest_sp_ok : newelref01_Rest_sp.Ok := ⟨(allCons (rInt_ok .i64) (allCons (rSl_ok intC_ok) allNil)), eNil⟩
def newelref01_Rest_rs : Sp := ⟨[rTup [rInt .i64, rInt .i64, rBool]], []⟩
theorem newelref01_Rest_rs_ok : newelref01_Rest_rs.Ok := ⟨(allCons (rTup_ok (allCons (rInt_ok .i64) (allCons (rInt_ok .i64) (allCons rBool_ok allNil)))) allNil), eNil⟩
def newelref01_Rest_run {R : Type} (N : Nat) (args : List SV) (T : Tab) (kf : SV × Tab → Option R) : Option R :=
  newelref01_Rest_m N (toI (lget args 0)) (lstC intC (lget args 1)) (fun q0 q1 q2 => kf (lget [.tup [.int .i64 q0, .int .i64 q1, .bool q2]] 0, []))
def newelref01_Rest_d4 {R : Type} (N : Nat) (S0 : St) (k : Exit → St → Option R) : Option R :=
  newelref01_Rest_l4 N N (lstC intC (lget S0.tmps 1)) (toI (lget S0.tmps 4)) (toI (lget S0.tmps 7)) (fun q0 q1 q2 => k .ret (newelref01_Rest_x4_r q0 q1 q2)) (fun q1 => k (.exit 0) (newelref01_Rest_x4_0 (lstC intC (lget S0.tmps 1)) q1))
def newelref01_Rest_lp {R : Type} (N : Nat) : Lp R := fun body S k => bif (Go.Sx.keyOf body).getD 0 == 4 then newelref01_Rest_L4.head.raw 0 S (fun S0 => newelref01_Rest_d4 N S0 k) else Option.none
theorem newelref01_Rest_l4_eq {R : Type} (N : Nat) (k : Exit → St → Option R) (n : Nat) : ∀ (v0 : Arr Int) (v1 : Int) (v2 : Int), loopM E.Θ (drive_Play_cal N) (newelref01_Rest_lp N) (noJn) 0 newelref01_Rest_L4 (bodyAt E 38 4) n (newelref01_Rest_h4 v0 v1 v2) k = newelref01_Rest_l4 N n v0 v1 v2 (fun q0 q1 q2 => k .ret (newelref01_Rest_x4_r q0 q1 q2)) (fun q1 => k (.exit 0) (newelref01_Rest_x4_0 v0 q1)) := by
  induction n with
  | zero => intro v0 v1 v2; rfl
  | succ n ih =>
    intro v0 v1 v2
    refine Eq.trans (b := newelref01_Rest_b4 N (fun v0 v1 v2 => loopM E.Θ (drive_Play_cal N) (newelref01_Rest_lp N) (noJn) 0 newelref01_Rest_L4 (bodyAt E 38 4) n (newelref01_Rest_h4 v0 v1 v2) k) v0 v1 v2 (fun q0 q1 q2 => k .ret (newelref01_Rest_x4_r q0 q1 q2)) (fun q1 => k (.exit 0) (newelref01_Rest_x4_0 v0 q1))) (by kernel_rfl) ?_
    have h : (fun (v0 : Arr Int) (v1 : Int) (v2 : Int) => loopM E.Θ (drive_Play_cal N) (newelref01_Rest_lp N) (noJn) 0 newelref01_Rest_L4 (bodyAt E 38 4) n (newelref01_Rest_h4 v0 v1 v2) k) = (fun (v0 : Arr Int) (v1 : Int) (v2 : Int) => newelref01_Rest_l4 N n v0 v1 v2 (fun q0 q1 q2 => k .ret (newelref01_Rest_x4_r q0 q1 q2)) (fun q1 => k (.exit 0) (newelref01_Rest_x4_0 v0 q1))) := funext fun v0 => funext fun v1 => funext fun v2 => ih v0 v1 v2
    rw [h]
    rfl
theorem newelref01_Rest_k4 {R : Type} (N : Nat) : LpKey (R := R) E 38 0 (newelref01_Rest_lp N) 4 :=
  lpKey_of hE (drive_Play_cal_ok N) (jn := noJn) newelref01_Rest_L4_ok [] kNil (by kernel_rfl) [] jNil (by kernel_rfl) N fun S k =>
    Eq.trans (b := newelref01_Rest_L4.head.raw 0 S (fun S0 => newelref01_Rest_d4 N S0 k)) (by kernel_rfl) (congrArg (newelref01_Rest_L4.head.raw 0 S) (funext fun S0 => Eq.trans (newelref01_Rest_l4_eq N k N (lstC intC (lget S0.tmps 1)) (toI (lget S0.tmps 4)) (toI (lget S0.tmps 7))).symm (by kernel_rfl)))
noncomputable def newelref01_Rest_go {R : Type} (N : Nat) (args : List SV) (T : Tab) (kf : SV × Tab → Option R) : Option R :=
  newelref01_Rest N (toI (lget args 0)) (lstC intC (lget args 1)) (fun q0 q1 q2 => kf (lget [.tup [.int .i64 q0, .int .i64 q1, .bool q2]] 0, []))
noncomputable def newelref01_Rest_cal {R : Type} (N : Nat) : Cal R := callM (drive_Play_cal N) 38 0 newelref01_Rest_sp (newelref01_Rest_go N)
theorem newelref01_Rest_cal_ok {R : Type} (N : Nat) : CalOk E.P (newelref01_Rest_cal (R := R) N) :=
  callM_ok hE (drive_Play_cal_ok N) (lp := newelref01_Rest_lp N) (jn := noJn) (keys := [4]) (kCons (newelref01_Rest_k4 N) kNil) (by kernel_rfl) (js := []) jNil (by kernel_rfl) newelref01_Rest_sp_ok newelref01_Rest_rs_ok (fun args T kf => Eq.trans (newelref01_Rest_def N (toI (lget args 0)) (lstC intC (lget args 1)) (fun q0 q1 q2 => kf (lget [.tup [.int .i64 q0, .int .i64 q1, .bool q2]] 0, []))) (by kernel_rfl : newelref01_Rest_run N args T kf = fnM E (drive_Play_cal N) (newelref01_Rest_lp N) (noJn) 38 (newelref01_Rest_sp.vs args) (newelref01_Rest_sp.tab T) 0 (resK newelref01_Rest_rs kf)))



end
end Go.Proofs.Ytpillmoddoccfaa
