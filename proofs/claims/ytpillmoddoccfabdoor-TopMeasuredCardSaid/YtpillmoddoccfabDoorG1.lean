/-
  Models of the functions, and that they are what the code does. Written by a program.
-/
import Derived.Test.YtpillmoddoccfabDoorCod
set_option maxRecDepth 100000
set_option maxHeartbeats 0
set_option linter.unusedVariables false
namespace Go.Proofs.YtpillmoddoccfabDoor
open Go.Sx
noncomputable section

def newellaw01_Far_m {R : Type} (N : Nat) (a0 : api_Escalator) (k : Bool → Option R) : Option R :=
  k (decide ((↑(Arr.n (api_Escalator.Brakes a0)) : Int) > (10 : Int)))
noncomputable def newellaw01_Far {R : Type} : Nat → api_Escalator → (Bool → Option R) → Option R := lock (@newellaw01_Far_m R)
theorem newellaw01_Far_def {R : Type} (N : Nat) (a0 : api_Escalator) (k : Bool → Option R) : newellaw01_Far N a0 k = newellaw01_Far_m N a0 k := by unfold newellaw01_Far; rw [lock_eq]
def newellaw01_Far_sp : Sp := ⟨[rAgg api_EscalatorC], []⟩
theorem newellaw01_Far_sp_ok : newellaw01_Far_sp.Ok := ⟨(allCons (rAgg_ok api_EscalatorC_ok api_EscalatorC_len) allNil), eNil⟩
def newellaw01_Far_rs : Sp := ⟨[rBool], []⟩
theorem newellaw01_Far_rs_ok : newellaw01_Far_rs.Ok := ⟨(allCons rBool_ok allNil), eNil⟩
def newellaw01_Far_run {R : Type} (N : Nat) (args : List SV) (T : Tab) (kf : SV × Tab → Option R) : Option R :=
  newellaw01_Far_m N (Cod.dec api_EscalatorC (lget (toCs (lget args 0)))) (fun q0 => kf (lget [.bool q0] 0, []))
def newellaw01_Far_lp {R : Type} (N : Nat) : Lp R := fun body S k => Option.none
noncomputable def newellaw01_Far_go {R : Type} (N : Nat) (args : List SV) (T : Tab) (kf : SV × Tab → Option R) : Option R :=
  newellaw01_Far N (Cod.dec api_EscalatorC (lget (toCs (lget args 0)))) (fun q0 => kf (lget [.bool q0] 0, []))
noncomputable def newellaw01_Far_cal {R : Type} (N : Nat) : Cal R := callM (noCal E) 5 0 newellaw01_Far_sp (newellaw01_Far_go N)
theorem newellaw01_Far_cal_ok {R : Type} (N : Nat) : CalOk E.P (newellaw01_Far_cal (R := R) N) :=
  callM_ok hE (noCal_ok E) (lp := newellaw01_Far_lp N) (jn := noJn) (keys := []) kNil (by kernel_rfl) (js := []) jNil (by kernel_rfl) newellaw01_Far_sp_ok newellaw01_Far_rs_ok (fun args T kf => Eq.trans (newellaw01_Far_def N (Cod.dec api_EscalatorC (lget (toCs (lget args 0)))) (fun q0 => kf (lget [.bool q0] 0, []))) (by kernel_rfl : newellaw01_Far_run N args T kf = fnM E (noCal E) (newellaw01_Far_lp N) (noJn) 5 (newellaw01_Far_sp.vs args) (newellaw01_Far_sp.tab T) 0 (resK newellaw01_Far_rs kf)))


def newelref01_within_m {R : Type} (N : Nat) (a4 : Int) (a5 : Int) (a6 : Int) (k : Bool → Option R) : Option R :=
  bif decide (a4 ≥ a5) then
   k (decide (a4 ≤ a6))
  else
   k false
noncomputable def newelref01_within {R : Type} : Nat → Int → Int → Int → (Bool → Option R) → Option R := lock (@newelref01_within_m R)
theorem newelref01_within_def {R : Type} (N : Nat) (a4 : Int) (a5 : Int) (a6 : Int) (k : Bool → Option R) : newelref01_within N a4 a5 a6 k = newelref01_within_m N a4 a5 a6 k := by unfold newelref01_within; rw [lock_eq]
def newelref01_within_sp : Sp := ⟨[rInt .i64, rInt .i64, rInt .i64], []⟩
theorem newelref01_within_sp_ok : newelref01_within_sp.Ok := ⟨(allCons (rInt_ok .i64) (allCons (rInt_ok .i64) (allCons (rInt_ok .i64) allNil))), eNil⟩
def newelref01_within_rs : Sp := ⟨[rBool], []⟩
theorem newelref01_within_rs_ok : newelref01_within_rs.Ok := ⟨(allCons rBool_ok allNil), eNil⟩
def newelref01_within_run {R : Type} (N : Nat) (args : List SV) (T : Tab) (kf : SV × Tab → Option R) : Option R :=
  newelref01_within_m N (toI (lget args 0)) (toI (lget args 1)) (toI (lget args 2)) (fun q0 => kf (lget [.bool q0] 0, []))
def newelref01_within_lp {R : Type} (N : Nat) : Lp R := fun body S k => Option.none
noncomputable def newelref01_within_go {R : Type} (N : Nat) (args : List SV) (T : Tab) (kf : SV × Tab → Option R) : Option R :=
  newelref01_within N (toI (lget args 0)) (toI (lget args 1)) (toI (lget args 2)) (fun q0 => kf (lget [.bool q0] 0, []))
noncomputable def newelref01_within_cal {R : Type} (N : Nat) : Cal R := callM (newellaw01_Far_cal N) 26 0 newelref01_within_sp (newelref01_within_go N)
theorem newelref01_within_cal_ok {R : Type} (N : Nat) : CalOk E.P (newelref01_within_cal (R := R) N) :=
  callM_ok hE (newellaw01_Far_cal_ok N) (lp := newelref01_within_lp N) (jn := noJn) (keys := []) kNil (by kernel_rfl) (js := []) jNil (by kernel_rfl) newelref01_within_sp_ok newelref01_within_rs_ok (fun args T kf => Eq.trans (newelref01_within_def N (toI (lget args 0)) (toI (lget args 1)) (toI (lget args 2)) (fun q0 => kf (lget [.bool q0] 0, []))) (by kernel_rfl : newelref01_within_run N args T kf = fnM E (newellaw01_Far_cal N) (newelref01_within_lp N) (noJn) 26 (newelref01_within_sp.vs args) (newelref01_within_sp.tab T) 0 (resK newelref01_within_rs kf)))

def newelref01_Check_L4 : LoopSp := ⟨⟨[1, 3], ⟨(dr 1 ((rPtr 0 0) :: (dr 1 ((rInt .i64) :: (dr 53 []))))), [(0, eBlkC api_EscalatorC)]⟩, 1⟩, [(Option.none, ⟨[2], ⟨(dr 2 ((rInt .i64) :: (dr 54 []))), []⟩, 0⟩), (some 0, ⟨[], ⟨(dr 57 []), []⟩, 0⟩)]⟩
theorem newelref01_Check_L4_ok : newelref01_Check_L4.Ok := ⟨⟨(drCons 1 (allCons (rPtr_ok 0 0) (drCons 1 (allCons (rInt_ok .i64) (drCons 53 allNil))))), (eCons (eBlkC_ok api_EscalatorC_ok api_EscalatorC_len) eNil)⟩, (xCons ⟨(drCons 2 (allCons (rInt_ok .i64) (drCons 54 allNil))), eNil⟩ (xCons ⟨(drCons 57 allNil), eNil⟩ xNil))⟩
def newelref01_Check_h4 (v11 : Int) (v12 : api_Escalator) : St := ⟨(un 1 ((.ptr 0 0) :: (un 1 ((.int .i64 v11) :: (un 53 []))))), [(0, .blk (Cod.enc api_EscalatorC v12))], 1⟩
def newelref01_Check_x4_r (q0 : Int) : St := ⟨(un 2 ((.int .i64 q0) :: (un 54 []))), [], 0⟩
def newelref01_Check_x4_0  : St := ⟨(un 57 []), [], 0⟩
def newelref01_Check_b4 {R : Type} (N : Nat) (rc : Int → api_Escalator → Option R) (v11 : Int) (v12 : api_Escalator) (kr : Int → Option R) (k0 : Unit → Option R) : Option R :=
  bif decide (v11 < (↑(Arr.n (api_Escalator.Brakes v12)) : Int)) then
   bif decide ((0 : Int) ≤ v11) && decide (v11 < (↑(Arr.n (api_Escalator.Brakes v12)) : Int)) then
    newelref01_within N (api_Brake.Force (Arr.f (api_Escalator.Brakes v12) (Int.toNat v11))) (0 : Int) (10000000 : Int) (fun r13 =>
    bif !r13 then
     kr (10 : Int)
    else
     bif decide ((0 : Int) ≤ v11) && decide (v11 < (↑(Arr.n (api_Escalator.Brakes v12)) : Int)) then
      newelref01_within N (api_Brake.Delay (Arr.f (api_Escalator.Brakes v12) (Int.toNat v11))) (0 : Int) (20 : Int) (fun r14 =>
      bif !r14 then
       kr (10 : Int)
      else
       rc (w64 (v11 + (1 : Int))) v12)
     else
      Option.none)
   else
    Option.none
  else
   k0 ()
def newelref01_Check_l4 {R : Type} (N : Nat) : Nat → Int → api_Escalator → (Int → Option R) → (Unit → Option R) → Option R
  | 0, _, _, _, _ => Option.none
  | n + 1, v11, v12, kr, k0 => newelref01_Check_b4 N (fun v11 v12 => newelref01_Check_l4 N n v11 v12 kr k0) v11 v12 kr k0


def newelref01_Check_m {R : Type} (N : Nat) (a3 : api_Escalator) (k : Int → Option R) : Option R :=
  newelref01_within N (api_Escalator.Empty a3) (1 : Int) (100000 : Int) (fun r7 =>
  bif !r7 then
   k (10 : Int)
  else
   newelref01_within N (api_Escalator.Pull a3) (0 : Int) (100 : Int) (fun r8 =>
   bif !r8 then
    k (10 : Int)
   else
    newelref01_within N (api_Escalator.Drag a3) (0 : Int) (10000000 : Int) (fun r9 =>
    bif !r9 then
     k (10 : Int)
    else
     newelref01_within N (api_Escalator.Motor a3) (0 : Int) (10000000 : Int) (fun r10 =>
     bif !r10 then
      k (10 : Int)
     else
      bif decide ((↑(Arr.n (api_Escalator.Brakes a3)) : Int) > (3 : Int)) then
       k (10 : Int)
      else
       newelref01_Check_l4 N N (0 : Int) a3 (fun r15 =>
        k r15) (fun (_ : Unit) =>
        k (0 : Int))))))
noncomputable def newelref01_Check {R : Type} : Nat → api_Escalator → (Int → Option R) → Option R := lock (@newelref01_Check_m R)
theorem newelref01_Check_def {R : Type} (N : Nat) (a3 : api_Escalator) (k : Int → Option R) : newelref01_Check N a3 k = newelref01_Check_m N a3 k := by unfold newelref01_Check; rw [lock_eq]
def newelref01_Check_sp : Sp := ⟨[rAgg api_EscalatorC], []⟩
theorem newelref01_Check_sp_ok : newelref01_Check_sp.Ok := ⟨(allCons (rAgg_ok api_EscalatorC_ok api_EscalatorC_len) allNil), eNil⟩
def newelref01_Check_rs : Sp := ⟨[rInt .i64], []⟩
theorem newelref01_Check_rs_ok : newelref01_Check_rs.Ok := ⟨(allCons (rInt_ok .i64) allNil), eNil⟩
def newelref01_Check_run {R : Type} (N : Nat) (args : List SV) (T : Tab) (kf : SV × Tab → Option R) : Option R :=
  newelref01_Check_m N (Cod.dec api_EscalatorC (lget (toCs (lget args 0)))) (fun q0 => kf (lget [.int .i64 q0] 0, []))
def newelref01_Check_d4 {R : Type} (N : Nat) (S0 : St) (k : Exit → St → Option R) : Option R :=
  newelref01_Check_l4 N N (toI (lget S0.tmps 3)) (Cod.dec api_EscalatorC (lget (entCs (entAt S0.tab 0)))) (fun q0 => k .ret (newelref01_Check_x4_r q0)) (fun (_ : Unit) => k (.exit 0) (newelref01_Check_x4_0 ))
def newelref01_Check_lp {R : Type} (N : Nat) : Lp R := fun body S k => bif (Go.Sx.keyOf body).getD 0 == 4 then (newelref01_Check_L4.head.raw 0 S (fun S0 => newelref01_Check_d4 N S0 k)) else Option.none
theorem newelref01_Check_l4_eq {R : Type} (N : Nat) (k : Exit → St → Option R) (n : Nat) : ∀ (v0 : Int) (v1 : api_Escalator), loopM E.Θ (newelref01_within_cal N) (newelref01_Check_lp N) (noJn) 0 newelref01_Check_L4 (bodyAt E 25 4) n (newelref01_Check_h4 v0 v1) k = newelref01_Check_l4 N n v0 v1 (fun q0 => k .ret (newelref01_Check_x4_r q0)) (fun (_ : Unit) => k (.exit 0) (newelref01_Check_x4_0 )) := by
  induction n with
  | zero => intro v0 v1; rfl
  | succ n ih =>
    intro v0 v1
    refine Eq.trans (b := newelref01_Check_b4 N (fun v0 v1 => loopM E.Θ (newelref01_within_cal N) (newelref01_Check_lp N) (noJn) 0 newelref01_Check_L4 (bodyAt E 25 4) n (newelref01_Check_h4 v0 v1) k) v0 v1 (fun q0 => k .ret (newelref01_Check_x4_r q0)) (fun (_ : Unit) => k (.exit 0) (newelref01_Check_x4_0 ))) (by kernel_rfl) ?_
    have h : (fun (v0 : Int) (v1 : api_Escalator) => loopM E.Θ (newelref01_within_cal N) (newelref01_Check_lp N) (noJn) 0 newelref01_Check_L4 (bodyAt E 25 4) n (newelref01_Check_h4 v0 v1) k) = (fun (v0 : Int) (v1 : api_Escalator) => newelref01_Check_l4 N n v0 v1 (fun q0 => k .ret (newelref01_Check_x4_r q0)) (fun (_ : Unit) => k (.exit 0) (newelref01_Check_x4_0 ))) := funext fun v0 => funext fun v1 => ih v0 v1
    rw [h]
    rfl
theorem newelref01_Check_k4 {R : Type} (N : Nat) : LpKey (R := R) E 25 0 (newelref01_Check_lp N) 4 :=
  lpKey_of hE (newelref01_within_cal_ok N) (lp := newelref01_Check_lp N) (jn := noJn) newelref01_Check_L4_ok [] kNil (by kernel_rfl) [] jNil (by kernel_rfl) N fun S k =>
    Eq.trans (b := newelref01_Check_L4.head.raw 0 S (fun S0 => newelref01_Check_d4 N S0 k)) (by kernel_rfl) (congrArg (newelref01_Check_L4.head.raw 0 S) (funext fun S0 => Eq.trans (newelref01_Check_l4_eq N k N (toI (lget S0.tmps 3)) (Cod.dec api_EscalatorC (lget (entCs (entAt S0.tab 0))))).symm (by kernel_rfl)))
noncomputable def newelref01_Check_go {R : Type} (N : Nat) (args : List SV) (T : Tab) (kf : SV × Tab → Option R) : Option R :=
  newelref01_Check N (Cod.dec api_EscalatorC (lget (toCs (lget args 0)))) (fun q0 => kf (lget [.int .i64 q0] 0, []))
noncomputable def newelref01_Check_cal {R : Type} (N : Nat) : Cal R := callM (newelref01_within_cal N) 25 0 newelref01_Check_sp (newelref01_Check_go N)
theorem newelref01_Check_cal_ok {R : Type} (N : Nat) : CalOk E.P (newelref01_Check_cal (R := R) N) :=
  callM_ok hE (newelref01_within_cal_ok N) (lp := newelref01_Check_lp N) (jn := noJn) (keys := [4]) (kCons (newelref01_Check_k4 N) kNil) (by kernel_rfl) (js := []) jNil (by kernel_rfl) newelref01_Check_sp_ok newelref01_Check_rs_ok (fun args T kf => Eq.trans (newelref01_Check_def N (Cod.dec api_EscalatorC (lget (toCs (lget args 0)))) (fun q0 => kf (lget [.int .i64 q0] 0, []))) (by kernel_rfl : newelref01_Check_run N args T kf = fnM E (newelref01_within_cal N) (newelref01_Check_lp N) (noJn) 25 (newelref01_Check_sp.vs args) (newelref01_Check_sp.tab T) 0 (resK newelref01_Check_rs kf)))


def newelref01_CheckStop_m {R : Type} (N : Nat) (a1 : api_Escalator) (a2 : api_Stop) (k : Int → Option R) : Option R :=
  newelref01_Check N a1 (fun r16 =>
  bif r16 != (0 : Int) then
   k (10 : Int)
  else
   newelref01_within N (api_Stop.Speed a2) (0 : Int) (1000 : Int) (fun r17 =>
   bif !r17 then
    k (11 : Int)
   else
    bif decide (api_Span.Low (api_Stop.Loads a2) < (0 : Int)) then
     k (11 : Int)
    else
     bif decide (api_Span.High (api_Stop.Loads a2) < api_Span.Low (api_Stop.Loads a2)) then
      k (11 : Int)
     else
      bif decide (api_Span.High (api_Stop.Loads a2) > (100000 : Int)) then
       k (11 : Int)
      else
       newelref01_within N (api_Stop.Fail a2) (0 : Int) (w64 (w64 ((1 : Int) * (2 : Int) ^ min (Int.toNat (IntKind.wrap IntKind.u64 (↑(Arr.n (api_Escalator.Brakes a1)) : Int))) (IntKind.bits IntKind.i64)) - (1 : Int))) (fun r18 =>
       bif !r18 then
        k (11 : Int)
       else
        k (0 : Int))))
noncomputable def newelref01_CheckStop {R : Type} : Nat → api_Escalator → api_Stop → (Int → Option R) → Option R := lock (@newelref01_CheckStop_m R)
theorem newelref01_CheckStop_def {R : Type} (N : Nat) (a1 : api_Escalator) (a2 : api_Stop) (k : Int → Option R) : newelref01_CheckStop N a1 a2 k = newelref01_CheckStop_m N a1 a2 k := by unfold newelref01_CheckStop; rw [lock_eq]
def newelref01_CheckStop_sp : Sp := ⟨[rAgg api_EscalatorC, rAgg api_StopC], []⟩
theorem newelref01_CheckStop_sp_ok : newelref01_CheckStop_sp.Ok := ⟨(allCons (rAgg_ok api_EscalatorC_ok api_EscalatorC_len) (allCons (rAgg_ok api_StopC_ok api_StopC_len) allNil)), eNil⟩
def newelref01_CheckStop_rs : Sp := ⟨[rInt .i64], []⟩
theorem newelref01_CheckStop_rs_ok : newelref01_CheckStop_rs.Ok := ⟨(allCons (rInt_ok .i64) allNil), eNil⟩
def newelref01_CheckStop_run {R : Type} (N : Nat) (args : List SV) (T : Tab) (kf : SV × Tab → Option R) : Option R :=
  newelref01_CheckStop_m N (Cod.dec api_EscalatorC (lget (toCs (lget args 0)))) (Cod.dec api_StopC (lget (toCs (lget args 1)))) (fun q0 => kf (lget [.int .i64 q0] 0, []))
def newelref01_CheckStop_lp {R : Type} (N : Nat) : Lp R := fun body S k => Option.none
noncomputable def newelref01_CheckStop_go {R : Type} (N : Nat) (args : List SV) (T : Tab) (kf : SV × Tab → Option R) : Option R :=
  newelref01_CheckStop N (Cod.dec api_EscalatorC (lget (toCs (lget args 0)))) (Cod.dec api_StopC (lget (toCs (lget args 1)))) (fun q0 => kf (lget [.int .i64 q0] 0, []))
noncomputable def newelref01_CheckStop_cal {R : Type} (N : Nat) : Cal R := callM (newelref01_Check_cal N) 6 0 newelref01_CheckStop_sp (newelref01_CheckStop_go N)
theorem newelref01_CheckStop_cal_ok {R : Type} (N : Nat) : CalOk E.P (newelref01_CheckStop_cal (R := R) N) :=
  callM_ok hE (newelref01_Check_cal_ok N) (lp := newelref01_CheckStop_lp N) (jn := noJn) (keys := []) kNil (by kernel_rfl) (js := []) jNil (by kernel_rfl) newelref01_CheckStop_sp_ok newelref01_CheckStop_rs_ok (fun args T kf => Eq.trans (newelref01_CheckStop_def N (Cod.dec api_EscalatorC (lget (toCs (lget args 0)))) (Cod.dec api_StopC (lget (toCs (lget args 1)))) (fun q0 => kf (lget [.int .i64 q0] 0, []))) (by kernel_rfl : newelref01_CheckStop_run N args T kf = fnM E (newelref01_Check_cal N) (newelref01_CheckStop_lp N) (noJn) 6 (newelref01_CheckStop_sp.vs args) (newelref01_CheckStop_sp.tab T) 0 (resK newelref01_CheckStop_rs kf)))

def newelref01_History_L2 : LoopSp := ⟨⟨[1, 2, 5], ⟨(dr 1 ((rSl intC) :: (rPtr 0 0) :: (dr 2 ((rInt .i64) :: (dr 21 []))))), [(0, eBlkC api_StopC)]⟩, 1⟩, [(Option.none, ⟨[4], ⟨(dr 4 ((rBool) :: (dr 22 []))), []⟩, 0⟩), (some 0, ⟨[1], ⟨(dr 1 ((rSl intC) :: (dr 25 []))), []⟩, 0⟩)]⟩
theorem newelref01_History_L2_ok : newelref01_History_L2.Ok := ⟨⟨(drCons 1 (allCons (rSl_ok intC_ok) (allCons (rPtr_ok 0 0) (drCons 2 (allCons (rInt_ok .i64) (drCons 21 allNil)))))), (eCons (eBlkC_ok api_StopC_ok api_StopC_len) eNil)⟩, (xCons ⟨(drCons 4 (allCons rBool_ok (drCons 22 allNil))), eNil⟩ (xCons ⟨(drCons 1 (allCons (rSl_ok intC_ok) (drCons 25 allNil))), eNil⟩ xNil))⟩
def newelref01_History_h2 (v21 : Arr Int) (v22 : Int) (v23 : api_Stop) : St := ⟨(un 1 ((slC intC v21) :: (.ptr 0 0) :: (un 2 ((.int .i64 v22) :: (un 21 []))))), [(0, .blk (Cod.enc api_StopC v23))], 1⟩
def newelref01_History_x2_r (q0 : Bool) : St := ⟨(un 4 ((.bool q0) :: (un 22 []))), [], 0⟩
def newelref01_History_x2_0 (v21 : Arr Int) : St := ⟨(un 1 ((slC intC v21) :: (un 25 []))), [], 0⟩
def newelref01_History_b2 {R : Type} (N : Nat) (rc : Arr Int → Int → api_Stop → Option R) (v21 : Arr Int) (v22 : Int) (v23 : api_Stop) (kr : Bool → Option R) (k0 : Unit → Option R) : Option R :=
  bif decide (v22 < (↑(Arr.n v21) : Int)) then
   bif decide ((0 : Int) ≤ v22) && decide (v22 < (↑(Arr.n v21) : Int)) then
    newelref01_within N (Arr.f v21 (Int.toNat v22)) (api_Span.Low (api_Stop.Loads v23)) (api_Span.High (api_Stop.Loads v23)) (fun r24 =>
    bif !r24 then
     kr false
    else
     rc v21 (w64 (v22 + (1 : Int))) v23)
   else
    Option.none
  else
   k0 ()
def newelref01_History_l2 {R : Type} (N : Nat) : Nat → Arr Int → Int → api_Stop → (Bool → Option R) → (Unit → Option R) → Option R
  | 0, _, _, _, _, _ => Option.none
  | n + 1, v21, v22, v23, kr, k0 => newelref01_History_b2 N (fun v21 v22 v23 => newelref01_History_l2 N n v21 v22 v23 kr k0) v21 v22 v23 kr k0


def newelref01_History_m {R : Type} (N : Nat) (a19 : api_Stop) (a20 : Arr Int) (k : Bool → Option R) : Option R :=
  newelref01_History_l2 N N a20 (0 : Int) a19 (fun r25 =>
   k r25) (fun (_ : Unit) =>
   k (decide ((↑(Arr.n a20) : Int) ≤ (100 : Int))))
noncomputable def newelref01_History {R : Type} : Nat → api_Stop → Arr Int → (Bool → Option R) → Option R := lock (@newelref01_History_m R)
theorem newelref01_History_def {R : Type} (N : Nat) (a19 : api_Stop) (a20 : Arr Int) (k : Bool → Option R) : newelref01_History N a19 a20 k = newelref01_History_m N a19 a20 k := by unfold newelref01_History; rw [lock_eq]
def newelref01_History_sp : Sp := ⟨[rAgg api_StopC, rSl intC], []⟩
theorem newelref01_History_sp_ok : newelref01_History_sp.Ok := ⟨(allCons (rAgg_ok api_StopC_ok api_StopC_len) (allCons (rSl_ok intC_ok) allNil)), eNil⟩
def newelref01_History_rs : Sp := ⟨[rBool], []⟩
theorem newelref01_History_rs_ok : newelref01_History_rs.Ok := ⟨(allCons rBool_ok allNil), eNil⟩
def newelref01_History_run {R : Type} (N : Nat) (args : List SV) (T : Tab) (kf : SV × Tab → Option R) : Option R :=
  newelref01_History_m N (Cod.dec api_StopC (lget (toCs (lget args 0)))) (lstC intC (lget args 1)) (fun q0 => kf (lget [.bool q0] 0, []))
def newelref01_History_d2 {R : Type} (N : Nat) (S0 : St) (k : Exit → St → Option R) : Option R :=
  newelref01_History_l2 N N (lstC intC (lget S0.tmps 1)) (toI (lget S0.tmps 5)) (Cod.dec api_StopC (lget (entCs (entAt S0.tab 0)))) (fun q0 => k .ret (newelref01_History_x2_r q0)) (fun (_ : Unit) => k (.exit 0) (newelref01_History_x2_0 (lstC intC (lget S0.tmps 1))))
def newelref01_History_lp {R : Type} (N : Nat) : Lp R := fun body S k => bif (Go.Sx.keyOf body).getD 0 == 2 then (newelref01_History_L2.head.raw 0 S (fun S0 => newelref01_History_d2 N S0 k)) else Option.none
theorem newelref01_History_l2_eq {R : Type} (N : Nat) (k : Exit → St → Option R) (n : Nat) : ∀ (v0 : Arr Int) (v1 : Int) (v2 : api_Stop), loopM E.Θ (newelref01_CheckStop_cal N) (newelref01_History_lp N) (noJn) 0 newelref01_History_L2 (bodyAt E 7 2) n (newelref01_History_h2 v0 v1 v2) k = newelref01_History_l2 N n v0 v1 v2 (fun q0 => k .ret (newelref01_History_x2_r q0)) (fun (_ : Unit) => k (.exit 0) (newelref01_History_x2_0 v0)) := by
  induction n with
  | zero => intro v0 v1 v2; rfl
  | succ n ih =>
    intro v0 v1 v2
    refine Eq.trans (b := newelref01_History_b2 N (fun v0 v1 v2 => loopM E.Θ (newelref01_CheckStop_cal N) (newelref01_History_lp N) (noJn) 0 newelref01_History_L2 (bodyAt E 7 2) n (newelref01_History_h2 v0 v1 v2) k) v0 v1 v2 (fun q0 => k .ret (newelref01_History_x2_r q0)) (fun (_ : Unit) => k (.exit 0) (newelref01_History_x2_0 v0))) (by kernel_rfl) ?_
    have h : (fun (v0 : Arr Int) (v1 : Int) (v2 : api_Stop) => loopM E.Θ (newelref01_CheckStop_cal N) (newelref01_History_lp N) (noJn) 0 newelref01_History_L2 (bodyAt E 7 2) n (newelref01_History_h2 v0 v1 v2) k) = (fun (v0 : Arr Int) (v1 : Int) (v2 : api_Stop) => newelref01_History_l2 N n v0 v1 v2 (fun q0 => k .ret (newelref01_History_x2_r q0)) (fun (_ : Unit) => k (.exit 0) (newelref01_History_x2_0 v0))) := funext fun v0 => funext fun v1 => funext fun v2 => ih v0 v1 v2
    rw [h]
    rfl
theorem newelref01_History_k2 {R : Type} (N : Nat) : LpKey (R := R) E 7 0 (newelref01_History_lp N) 2 :=
  lpKey_of hE (newelref01_CheckStop_cal_ok N) (lp := newelref01_History_lp N) (jn := noJn) newelref01_History_L2_ok [] kNil (by kernel_rfl) [] jNil (by kernel_rfl) N fun S k =>
    Eq.trans (b := newelref01_History_L2.head.raw 0 S (fun S0 => newelref01_History_d2 N S0 k)) (by kernel_rfl) (congrArg (newelref01_History_L2.head.raw 0 S) (funext fun S0 => Eq.trans (newelref01_History_l2_eq N k N (lstC intC (lget S0.tmps 1)) (toI (lget S0.tmps 5)) (Cod.dec api_StopC (lget (entCs (entAt S0.tab 0))))).symm (by kernel_rfl)))
noncomputable def newelref01_History_go {R : Type} (N : Nat) (args : List SV) (T : Tab) (kf : SV × Tab → Option R) : Option R :=
  newelref01_History N (Cod.dec api_StopC (lget (toCs (lget args 0)))) (lstC intC (lget args 1)) (fun q0 => kf (lget [.bool q0] 0, []))
noncomputable def newelref01_History_cal {R : Type} (N : Nat) : Cal R := callM (newelref01_CheckStop_cal N) 7 0 newelref01_History_sp (newelref01_History_go N)
theorem newelref01_History_cal_ok {R : Type} (N : Nat) : CalOk E.P (newelref01_History_cal (R := R) N) :=
  callM_ok hE (newelref01_CheckStop_cal_ok N) (lp := newelref01_History_lp N) (jn := noJn) (keys := [2]) (kCons (newelref01_History_k2 N) kNil) (by kernel_rfl) (js := []) jNil (by kernel_rfl) newelref01_History_sp_ok newelref01_History_rs_ok (fun args T kf => Eq.trans (newelref01_History_def N (Cod.dec api_StopC (lget (toCs (lget args 0)))) (lstC intC (lget args 1)) (fun q0 => kf (lget [.bool q0] 0, []))) (by kernel_rfl : newelref01_History_run N args T kf = fnM E (newelref01_CheckStop_cal N) (newelref01_History_lp N) (noJn) 7 (newelref01_History_sp.vs args) (newelref01_History_sp.tab T) 0 (resK newelref01_History_rs kf)))


def drive_to_m {R : Type} (N : Nat) (a31 : Int) (k : api_Span → Option R) : Option R :=
  k (api_Span.mk (0 : Int) a31)
noncomputable def drive_to {R : Type} : Nat → Int → (api_Span → Option R) → Option R := lock (@drive_to_m R)
theorem drive_to_def {R : Type} (N : Nat) (a31 : Int) (k : api_Span → Option R) : drive_to N a31 k = drive_to_m N a31 k := by unfold drive_to; rw [lock_eq]
def drive_to_sp : Sp := ⟨[rInt .i64], []⟩
theorem drive_to_sp_ok : drive_to_sp.Ok := ⟨(allCons (rInt_ok .i64) allNil), eNil⟩
def drive_to_rs : Sp := ⟨[rAgg api_SpanC], []⟩
theorem drive_to_rs_ok : drive_to_rs.Ok := ⟨(allCons (rAgg_ok api_SpanC_ok api_SpanC_len) allNil), eNil⟩
def drive_to_run {R : Type} (N : Nat) (args : List SV) (T : Tab) (kf : SV × Tab → Option R) : Option R :=
  drive_to_m N (toI (lget args 0)) (fun q0 => kf (lget [.agg (Cod.enc api_SpanC q0)] 0, []))
def drive_to_lp {R : Type} (N : Nat) : Lp R := fun body S k => Option.none
noncomputable def drive_to_go {R : Type} (N : Nat) (args : List SV) (T : Tab) (kf : SV × Tab → Option R) : Option R :=
  drive_to N (toI (lget args 0)) (fun q0 => kf (lget [.agg (Cod.enc api_SpanC q0)] 0, []))
noncomputable def drive_to_cal {R : Type} (N : Nat) : Cal R := callM (newelref01_History_cal N) 61 0 drive_to_sp (drive_to_go N)
theorem drive_to_cal_ok {R : Type} (N : Nat) : CalOk E.P (drive_to_cal (R := R) N) :=
  callM_ok hE (newelref01_History_cal_ok N) (lp := drive_to_lp N) (jn := noJn) (keys := []) kNil (by kernel_rfl) (js := []) jNil (by kernel_rfl) drive_to_sp_ok drive_to_rs_ok (fun args T kf => Eq.trans (drive_to_def N (toI (lget args 0)) (fun q0 => kf (lget [.agg (Cod.enc api_SpanC q0)] 0, []))) (by kernel_rfl : drive_to_run N args T kf = fnM E (newelref01_History_cal N) (drive_to_lp N) (noJn) 61 (drive_to_sp.vs args) (drive_to_sp.tab T) 0 (resK drive_to_rs kf)))


def drive_in_m {R : Type} (N : Nat) (a33 : Int) (a34 : api_Span) (k : Bool → Option R) : Option R :=
  bif decide (api_Span.Low a34 ≤ a33) then
   k (decide (a33 ≤ api_Span.High a34))
  else
   k false
noncomputable def drive_in {R : Type} : Nat → Int → api_Span → (Bool → Option R) → Option R := lock (@drive_in_m R)
theorem drive_in_def {R : Type} (N : Nat) (a33 : Int) (a34 : api_Span) (k : Bool → Option R) : drive_in N a33 a34 k = drive_in_m N a33 a34 k := by unfold drive_in; rw [lock_eq]
def drive_in_sp : Sp := ⟨[rInt .i64, rAgg api_SpanC], []⟩
theorem drive_in_sp_ok : drive_in_sp.Ok := ⟨(allCons (rInt_ok .i64) (allCons (rAgg_ok api_SpanC_ok api_SpanC_len) allNil)), eNil⟩
def drive_in_rs : Sp := ⟨[rBool], []⟩
theorem drive_in_rs_ok : drive_in_rs.Ok := ⟨(allCons rBool_ok allNil), eNil⟩
def drive_in_run {R : Type} (N : Nat) (args : List SV) (T : Tab) (kf : SV × Tab → Option R) : Option R :=
  drive_in_m N (toI (lget args 0)) (Cod.dec api_SpanC (lget (toCs (lget args 1)))) (fun q0 => kf (lget [.bool q0] 0, []))
def drive_in_lp {R : Type} (N : Nat) : Lp R := fun body S k => Option.none
noncomputable def drive_in_go {R : Type} (N : Nat) (args : List SV) (T : Tab) (kf : SV × Tab → Option R) : Option R :=
  drive_in N (toI (lget args 0)) (Cod.dec api_SpanC (lget (toCs (lget args 1)))) (fun q0 => kf (lget [.bool q0] 0, []))
noncomputable def drive_in_cal {R : Type} (N : Nat) : Cal R := callM (drive_to_cal N) 34 0 drive_in_sp (drive_in_go N)
theorem drive_in_cal_ok {R : Type} (N : Nat) : CalOk E.P (drive_in_cal (R := R) N) :=
  callM_ok hE (drive_to_cal_ok N) (lp := drive_in_lp N) (jn := noJn) (keys := []) kNil (by kernel_rfl) (js := []) jNil (by kernel_rfl) drive_in_sp_ok drive_in_rs_ok (fun args T kf => Eq.trans (drive_in_def N (toI (lget args 0)) (Cod.dec api_SpanC (lget (toCs (lget args 1)))) (fun q0 => kf (lget [.bool q0] 0, []))) (by kernel_rfl : drive_in_run N args T kf = fnM E (drive_to_cal N) (drive_in_lp N) (noJn) 34 (drive_in_sp.vs args) (drive_in_sp.tab T) 0 (resK drive_in_rs kf)))


def drive_Check_1_m {R : Type} (N : Nat) (a43 : api_Brake) (k : Bool → Option R) : Option R :=
  drive_to N (10000000 : Int) (fun r44 =>
  drive_in N (api_Brake.Force a43) r44 (fun r45 =>
  bif r45 then
   drive_to N (20 : Int) (fun r46 =>
   drive_in N (api_Brake.Delay a43) r46 (fun r47 =>
   k r47))
  else
   k false))
noncomputable def drive_Check_1 {R : Type} : Nat → api_Brake → (Bool → Option R) → Option R := lock (@drive_Check_1_m R)
theorem drive_Check_1_def {R : Type} (N : Nat) (a43 : api_Brake) (k : Bool → Option R) : drive_Check_1 N a43 k = drive_Check_1_m N a43 k := by unfold drive_Check_1; rw [lock_eq]
def drive_Check_1_sp : Sp := ⟨[rAgg api_BrakeC], []⟩
theorem drive_Check_1_sp_ok : drive_Check_1_sp.Ok := ⟨(allCons (rAgg_ok api_BrakeC_ok api_BrakeC_len) allNil), eNil⟩
def drive_Check_1_rs : Sp := ⟨[rBool], []⟩
theorem drive_Check_1_rs_ok : drive_Check_1_rs.Ok := ⟨(allCons rBool_ok allNil), eNil⟩
def drive_Check_1_run {R : Type} (N : Nat) (args : List SV) (T : Tab) (kf : SV × Tab → Option R) : Option R :=
  drive_Check_1_m N (Cod.dec api_BrakeC (lget (toCs (lget args 0)))) (fun q0 => kf (lget [.bool q0] 0, []))
def drive_Check_1_lp {R : Type} (N : Nat) : Lp R := fun body S k => Option.none
noncomputable def drive_Check_1_go {R : Type} (N : Nat) (args : List SV) (T : Tab) (kf : SV × Tab → Option R) : Option R :=
  drive_Check_1 N (Cod.dec api_BrakeC (lget (toCs (lget args 0)))) (fun q0 => kf (lget [.bool q0] 0, []))
noncomputable def drive_Check_1_cal {R : Type} (N : Nat) : Cal R := callM (drive_in_cal N) 85 0 drive_Check_1_sp (drive_Check_1_go N)
theorem drive_Check_1_cal_ok {R : Type} (N : Nat) : CalOk E.P (drive_Check_1_cal (R := R) N) :=
  callM_ok hE (drive_in_cal_ok N) (lp := drive_Check_1_lp N) (jn := noJn) (keys := []) kNil (by kernel_rfl) (js := []) jNil (by kernel_rfl) drive_Check_1_sp_ok drive_Check_1_rs_ok (fun args T kf => Eq.trans (drive_Check_1_def N (Cod.dec api_BrakeC (lget (toCs (lget args 0)))) (fun q0 => kf (lget [.bool q0] 0, []))) (by kernel_rfl : drive_Check_1_run N args T kf = fnM E (drive_in_cal N) (drive_Check_1_lp N) (noJn) 85 (drive_Check_1_sp.vs args) (drive_Check_1_sp.tab T) 0 (resK drive_Check_1_rs kf)))

def drive_Check_L5 : LoopSp := ⟨⟨[3, 42, 43, 44], ⟨(dr 3 ((rFunc 85 0 []) :: (dr 38 ((rSl api_BrakeC) :: (rInt .i64) :: (rInt .i64) :: (dr 8 []))))), []⟩, 0⟩, [(Option.none, ⟨[2], ⟨(dr 2 ((rInt .i64) :: (dr 50 []))), []⟩, 0⟩), (some 0, ⟨[], ⟨(dr 53 []), []⟩, 0⟩)]⟩
theorem drive_Check_L5_ok : drive_Check_L5.Ok := ⟨⟨(drCons 3 (allCons (rFunc_ok 85 0 allNil) (drCons 38 (allCons (rSl_ok api_BrakeC_ok) (allCons (rInt_ok .i64) (allCons (rInt_ok .i64) (drCons 8 allNil))))))), eNil⟩, (xCons ⟨(drCons 2 (allCons (rInt_ok .i64) (drCons 50 allNil))), eNil⟩ (xCons ⟨(drCons 53 allNil), eNil⟩ xNil))⟩
def drive_Check_h5 (v40 : Arr api_Brake) (v41 : Int) (v42 : Int) : St := ⟨(un 3 ((.func 85 0 []) :: (un 38 ((slC api_BrakeC v40) :: (.int .i64 v41) :: (.int .i64 v42) :: (un 8 []))))), [], 0⟩
def drive_Check_x5_r (q0 : Int) : St := ⟨(un 2 ((.int .i64 q0) :: (un 50 []))), [], 0⟩
def drive_Check_x5_0  : St := ⟨(un 53 []), [], 0⟩
def drive_Check_b5 {R : Type} (N : Nat) (rc : Arr api_Brake → Int → Int → Option R) (v40 : Arr api_Brake) (v41 : Int) (v42 : Int) (kr : Int → Option R) (k0 : Unit → Option R) : Option R :=
  bif decide (v42 < v41) then
   bif decide ((0 : Int) ≤ v42) && decide (v42 < (↑(Arr.n v40) : Int)) then
    drive_Check_1 N (Arr.f v40 (Int.toNat v42)) (fun r48 =>
    bif !r48 then
     kr (10 : Int)
    else
     rc v40 v41 (w64 (v42 + (1 : Int))))
   else
    Option.none
  else
   k0 ()
def drive_Check_l5 {R : Type} (N : Nat) : Nat → Arr api_Brake → Int → Int → (Int → Option R) → (Unit → Option R) → Option R
  | 0, _, _, _, _, _ => Option.none
  | n + 1, v40, v41, v42, kr, k0 => drive_Check_b5 N (fun v40 v41 v42 => drive_Check_l5 N n v40 v41 v42 kr k0) v40 v41 v42 kr k0


def drive_Check_m {R : Type} (N : Nat) (a30 : api_Escalator) (k : Int → Option R) : Option R :=
  bif decide (api_Escalator.Empty a30 < (1 : Int)) then
   k (10 : Int)
  else
   bif decide (api_Escalator.Empty a30 > (100000 : Int)) then
    k (10 : Int)
   else
    drive_to N (100 : Int) (fun r32 =>
    drive_in N (api_Escalator.Pull a30) r32 (fun r35 =>
    bif !r35 then
     k (10 : Int)
    else
     drive_to N (10000000 : Int) (fun r36 =>
     drive_in N (api_Escalator.Drag a30) r36 (fun r37 =>
     bif !r37 then
      k (10 : Int)
     else
      drive_to N (10000000 : Int) (fun r38 =>
      drive_in N (api_Escalator.Motor a30) r38 (fun r39 =>
      bif !r39 then
       k (10 : Int)
      else
       bif decide ((↑(Arr.n (api_Escalator.Brakes a30)) : Int) > (3 : Int)) then
        k (10 : Int)
       else
        drive_Check_l5 N N (api_Escalator.Brakes a30) ((↑(Arr.n (api_Escalator.Brakes a30)) : Int)) (0 : Int) (fun r49 =>
         k r49) (fun (_ : Unit) =>
         k (0 : Int))))))))
noncomputable def drive_Check {R : Type} : Nat → api_Escalator → (Int → Option R) → Option R := lock (@drive_Check_m R)
theorem drive_Check_def {R : Type} (N : Nat) (a30 : api_Escalator) (k : Int → Option R) : drive_Check N a30 k = drive_Check_m N a30 k := by unfold drive_Check; rw [lock_eq]
def drive_Check_sp : Sp := ⟨[rAgg api_EscalatorC], []⟩
theorem drive_Check_sp_ok : drive_Check_sp.Ok := ⟨(allCons (rAgg_ok api_EscalatorC_ok api_EscalatorC_len) allNil), eNil⟩
def drive_Check_rs : Sp := ⟨[rInt .i64], []⟩
theorem drive_Check_rs_ok : drive_Check_rs.Ok := ⟨(allCons (rInt_ok .i64) allNil), eNil⟩
def drive_Check_run {R : Type} (N : Nat) (args : List SV) (T : Tab) (kf : SV × Tab → Option R) : Option R :=
  drive_Check_m N (Cod.dec api_EscalatorC (lget (toCs (lget args 0)))) (fun q0 => kf (lget [.int .i64 q0] 0, []))
def drive_Check_d5 {R : Type} (N : Nat) (S0 : St) (k : Exit → St → Option R) : Option R :=
  drive_Check_l5 N N (lstC api_BrakeC (lget S0.tmps 42)) (toI (lget S0.tmps 43)) (toI (lget S0.tmps 44)) (fun q0 => k .ret (drive_Check_x5_r q0)) (fun (_ : Unit) => k (.exit 0) (drive_Check_x5_0 ))
def drive_Check_lp {R : Type} (N : Nat) : Lp R := fun body S k => bif (Go.Sx.keyOf body).getD 0 == 5 then (drive_Check_L5.head.raw 0 S (fun S0 => drive_Check_d5 N S0 k)) else Option.none
theorem drive_Check_l5_eq {R : Type} (N : Nat) (k : Exit → St → Option R) (n : Nat) : ∀ (v0 : Arr api_Brake) (v1 : Int) (v2 : Int), loopM E.Θ (drive_Check_1_cal N) (drive_Check_lp N) (noJn) 0 drive_Check_L5 (bodyAt E 60 5) n (drive_Check_h5 v0 v1 v2) k = drive_Check_l5 N n v0 v1 v2 (fun q0 => k .ret (drive_Check_x5_r q0)) (fun (_ : Unit) => k (.exit 0) (drive_Check_x5_0 )) := by
  induction n with
  | zero => intro v0 v1 v2; rfl
  | succ n ih =>
    intro v0 v1 v2
    refine Eq.trans (b := drive_Check_b5 N (fun v0 v1 v2 => loopM E.Θ (drive_Check_1_cal N) (drive_Check_lp N) (noJn) 0 drive_Check_L5 (bodyAt E 60 5) n (drive_Check_h5 v0 v1 v2) k) v0 v1 v2 (fun q0 => k .ret (drive_Check_x5_r q0)) (fun (_ : Unit) => k (.exit 0) (drive_Check_x5_0 ))) (by kernel_rfl) ?_
    have h : (fun (v0 : Arr api_Brake) (v1 : Int) (v2 : Int) => loopM E.Θ (drive_Check_1_cal N) (drive_Check_lp N) (noJn) 0 drive_Check_L5 (bodyAt E 60 5) n (drive_Check_h5 v0 v1 v2) k) = (fun (v0 : Arr api_Brake) (v1 : Int) (v2 : Int) => drive_Check_l5 N n v0 v1 v2 (fun q0 => k .ret (drive_Check_x5_r q0)) (fun (_ : Unit) => k (.exit 0) (drive_Check_x5_0 ))) := funext fun v0 => funext fun v1 => funext fun v2 => ih v0 v1 v2
    rw [h]
    rfl
theorem drive_Check_k5 {R : Type} (N : Nat) : LpKey (R := R) E 60 0 (drive_Check_lp N) 5 :=
  lpKey_of hE (drive_Check_1_cal_ok N) (lp := drive_Check_lp N) (jn := noJn) drive_Check_L5_ok [] kNil (by kernel_rfl) [] jNil (by kernel_rfl) N fun S k =>
    Eq.trans (b := drive_Check_L5.head.raw 0 S (fun S0 => drive_Check_d5 N S0 k)) (by kernel_rfl) (congrArg (drive_Check_L5.head.raw 0 S) (funext fun S0 => Eq.trans (drive_Check_l5_eq N k N (lstC api_BrakeC (lget S0.tmps 42)) (toI (lget S0.tmps 43)) (toI (lget S0.tmps 44))).symm (by kernel_rfl)))
noncomputable def drive_Check_go {R : Type} (N : Nat) (args : List SV) (T : Tab) (kf : SV × Tab → Option R) : Option R :=
  drive_Check N (Cod.dec api_EscalatorC (lget (toCs (lget args 0)))) (fun q0 => kf (lget [.int .i64 q0] 0, []))
noncomputable def drive_Check_cal {R : Type} (N : Nat) : Cal R := callM (drive_Check_1_cal N) 60 0 drive_Check_sp (drive_Check_go N)
theorem drive_Check_cal_ok {R : Type} (N : Nat) : CalOk E.P (drive_Check_cal (R := R) N) :=
  callM_ok hE (drive_Check_1_cal_ok N) (lp := drive_Check_lp N) (jn := noJn) (keys := [5]) (kCons (drive_Check_k5 N) kNil) (by kernel_rfl) (js := []) jNil (by kernel_rfl) drive_Check_sp_ok drive_Check_rs_ok (fun args T kf => Eq.trans (drive_Check_def N (Cod.dec api_EscalatorC (lget (toCs (lget args 0)))) (fun q0 => kf (lget [.int .i64 q0] 0, []))) (by kernel_rfl : drive_Check_run N args T kf = fnM E (drive_Check_1_cal N) (drive_Check_lp N) (noJn) 60 (drive_Check_sp.vs args) (drive_Check_sp.tab T) 0 (resK drive_Check_rs kf)))


def drive_checkStop_m {R : Type} (N : Nat) (a28 : api_Escalator) (a29 : api_Stop) (k : Int → Option R) : Option R :=
  drive_Check N a28 (fun r50 =>
  bif r50 != (0 : Int) then
   k r50
  else
   drive_to N (1000 : Int) (fun r51 =>
   drive_in N (api_Stop.Speed a29) r51 (fun r52 =>
   bif !r52 then
    k (11 : Int)
   else
    bif decide (api_Span.Low (api_Stop.Loads a29) < (0 : Int)) then
     k (11 : Int)
    else
     bif decide (api_Span.Low (api_Stop.Loads a29) > api_Span.High (api_Stop.Loads a29)) then
      k (11 : Int)
     else
      bif decide (api_Span.High (api_Stop.Loads a29) > (100000 : Int)) then
       k (11 : Int)
      else
       bif decide (api_Stop.Fail a29 < (0 : Int)) then
        k (11 : Int)
       else
        bif decide (api_Stop.Fail a29 ≥ w64 ((1 : Int) * (2 : Int) ^ min (Int.toNat (↑(Arr.n (api_Escalator.Brakes a28)) : Int)) (IntKind.bits IntKind.i64))) then
         k (11 : Int)
        else
         k (0 : Int))))
noncomputable def drive_checkStop {R : Type} : Nat → api_Escalator → api_Stop → (Int → Option R) → Option R := lock (@drive_checkStop_m R)
theorem drive_checkStop_def {R : Type} (N : Nat) (a28 : api_Escalator) (a29 : api_Stop) (k : Int → Option R) : drive_checkStop N a28 a29 k = drive_checkStop_m N a28 a29 k := by unfold drive_checkStop; rw [lock_eq]
def drive_checkStop_sp : Sp := ⟨[rAgg api_EscalatorC, rAgg api_StopC], []⟩
theorem drive_checkStop_sp_ok : drive_checkStop_sp.Ok := ⟨(allCons (rAgg_ok api_EscalatorC_ok api_EscalatorC_len) (allCons (rAgg_ok api_StopC_ok api_StopC_len) allNil)), eNil⟩
def drive_checkStop_rs : Sp := ⟨[rInt .i64], []⟩
theorem drive_checkStop_rs_ok : drive_checkStop_rs.Ok := ⟨(allCons (rInt_ok .i64) allNil), eNil⟩
def drive_checkStop_run {R : Type} (N : Nat) (args : List SV) (T : Tab) (kf : SV × Tab → Option R) : Option R :=
  drive_checkStop_m N (Cod.dec api_EscalatorC (lget (toCs (lget args 0)))) (Cod.dec api_StopC (lget (toCs (lget args 1)))) (fun q0 => kf (lget [.int .i64 q0] 0, []))
def drive_checkStop_lp {R : Type} (N : Nat) : Lp R := fun body S k => Option.none
noncomputable def drive_checkStop_go {R : Type} (N : Nat) (args : List SV) (T : Tab) (kf : SV × Tab → Option R) : Option R :=
  drive_checkStop N (Cod.dec api_EscalatorC (lget (toCs (lget args 0)))) (Cod.dec api_StopC (lget (toCs (lget args 1)))) (fun q0 => kf (lget [.int .i64 q0] 0, []))
noncomputable def drive_checkStop_cal {R : Type} (N : Nat) : Cal R := callM (drive_Check_cal N) 30 0 drive_checkStop_sp (drive_checkStop_go N)
theorem drive_checkStop_cal_ok {R : Type} (N : Nat) : CalOk E.P (drive_checkStop_cal (R := R) N) :=
  callM_ok hE (drive_Check_cal_ok N) (lp := drive_checkStop_lp N) (jn := noJn) (keys := []) kNil (by kernel_rfl) (js := []) jNil (by kernel_rfl) drive_checkStop_sp_ok drive_checkStop_rs_ok (fun args T kf => Eq.trans (drive_checkStop_def N (Cod.dec api_EscalatorC (lget (toCs (lget args 0)))) (Cod.dec api_StopC (lget (toCs (lget args 1)))) (fun q0 => kf (lget [.int .i64 q0] 0, []))) (by kernel_rfl : drive_checkStop_run N args T kf = fnM E (drive_Check_cal N) (drive_checkStop_lp N) (noJn) 30 (drive_checkStop_sp.vs args) (drive_checkStop_sp.tab T) 0 (resK drive_checkStop_rs kf)))

def drive_motion_grip_L2 : LoopSp := ⟨⟨[0, 2, 9, 10, 11], ⟨((rEptr drive_motionC) :: (dr 1 ((rInt .i64) :: (dr 6 ((rSl api_BrakeC) :: (rInt .i64) :: (rInt .i64) :: (dr 28 [])))))), []⟩, 0⟩, [(some 0, ⟨[2], ⟨(dr 2 ((rInt .i64) :: (dr 37 []))), []⟩, 0⟩)]⟩
theorem drive_motion_grip_L2_ok : drive_motion_grip_L2.Ok := ⟨⟨(allCons (rEptr_ok drive_motionC_ok) (drCons 1 (allCons (rInt_ok .i64) (drCons 6 (allCons (rSl_ok api_BrakeC_ok) (allCons (rInt_ok .i64) (allCons (rInt_ok .i64) (drCons 28 allNil)))))))), eNil⟩, (xCons ⟨(drCons 2 (allCons (rInt_ok .i64) (drCons 37 allNil))), eNil⟩ xNil)⟩
def drive_motion_grip_h2 (v72 : drive_motion) (v73 : Int) (v74 : Arr api_Brake) (v75 : Int) (v76 : Int) : St := ⟨((.eptr (Cod.size drive_motionC) (lget (Cod.enc drive_motionC v72))) :: (un 1 ((.int .i64 v73) :: (un 6 ((slC api_BrakeC v74) :: (.int .i64 v75) :: (.int .i64 v76) :: (un 28 [])))))), [], 0⟩
def drive_motion_grip_x2_0 (q0 : Int) : St := ⟨(un 2 ((.int .i64 q0) :: (un 37 []))), [], 0⟩
def drive_motion_grip_b2 {R : Type} (N : Nat) (rc : drive_motion → Int → Arr api_Brake → Int → Int → Option R) (v72 : drive_motion) (v73 : Int) (v74 : Arr api_Brake) (v75 : Int) (v76 : Int) (k0 : Int → Option R) : Option R :=
  bif decide (v76 < v75) then
   bif decide ((0 : Int) ≤ v76) && decide (v76 < (↑(Arr.n v74) : Int)) then
    bif decide (v76 < (0 : Int)) then
     Option.none
    else
     bif w64 (↑(BitVec.toNat (BitVec.ofInt (IntKind.bits IntKind.i64) (Int.fdiv (api_Stop.Fail (drive_motion.f_s v72)) ((2 : Int) ^ min (Int.toNat v76) (IntKind.bits IntKind.i64))) &&& BitVec.ofInt (IntKind.bits IntKind.i64) (1 : Int))) : Int) == (0 : Int) then
      bif decide (api_Brake.Delay (Arr.f v74 (Int.toNat v76)) ≤ drive_motion.f_time v72) then
       rc v72 (w64 (v73 + api_Brake.Force (Arr.f v74 (Int.toNat v76)))) v74 v75 (w64 (v76 + (1 : Int)))
      else
       rc v72 v73 v74 v75 (w64 (v76 + (1 : Int)))
     else
      rc v72 v73 v74 v75 (w64 (v76 + (1 : Int)))
   else
    Option.none
  else
   k0 v73
def drive_motion_grip_l2 {R : Type} (N : Nat) : Nat → drive_motion → Int → Arr api_Brake → Int → Int → (Int → Option R) → Option R
  | 0, _, _, _, _, _, _ => Option.none
  | n + 1, v72, v73, v74, v75, v76, k0 => drive_motion_grip_b2 N (fun v72 v73 v74 v75 v76 => drive_motion_grip_l2 N n v72 v73 v74 v75 v76 k0) v72 v73 v74 v75 v76 k0


def drive_motion_grip_m {R : Type} (N : Nat) (a71 : drive_motion) (k : Int → Option R) : Option R :=
  drive_motion_grip_l2 N N a71 (0 : Int) (api_Escalator.Brakes (drive_motion.f_e a71)) ((↑(Arr.n (api_Escalator.Brakes (drive_motion.f_e a71))) : Int)) (0 : Int) (fun r77 =>
   k r77)
noncomputable def drive_motion_grip {R : Type} : Nat → drive_motion → (Int → Option R) → Option R := lock (@drive_motion_grip_m R)
theorem drive_motion_grip_def {R : Type} (N : Nat) (a71 : drive_motion) (k : Int → Option R) : drive_motion_grip N a71 k = drive_motion_grip_m N a71 k := by unfold drive_motion_grip; rw [lock_eq]
def drive_motion_grip_sp : Sp := ⟨[rEptr drive_motionC], []⟩
theorem drive_motion_grip_sp_ok : drive_motion_grip_sp.Ok := ⟨(allCons (rEptr_ok drive_motionC_ok) allNil), eNil⟩
def drive_motion_grip_rs : Sp := ⟨[rInt .i64], []⟩
theorem drive_motion_grip_rs_ok : drive_motion_grip_rs.Ok := ⟨(allCons (rInt_ok .i64) allNil), eNil⟩
def drive_motion_grip_run {R : Type} (N : Nat) (args : List SV) (T : Tab) (kf : SV × Tab → Option R) : Option R :=
  drive_motion_grip_m N (Cod.dec drive_motionC (toE (lget args 0))) (fun q0 => kf (lget [.int .i64 q0] 0, []))
def drive_motion_grip_d2 {R : Type} (N : Nat) (S0 : St) (k : Exit → St → Option R) : Option R :=
  drive_motion_grip_l2 N N (Cod.dec drive_motionC (toE (lget S0.tmps 0))) (toI (lget S0.tmps 2)) (lstC api_BrakeC (lget S0.tmps 9)) (toI (lget S0.tmps 10)) (toI (lget S0.tmps 11)) (fun q0 => k (.exit 0) (drive_motion_grip_x2_0 q0))
def drive_motion_grip_lp {R : Type} (N : Nat) : Lp R := fun body S k => bif (Go.Sx.keyOf body).getD 0 == 2 then (drive_motion_grip_L2.head.raw 0 S (fun S0 => drive_motion_grip_d2 N S0 k)) else Option.none
theorem drive_motion_grip_l2_eq {R : Type} (N : Nat) (k : Exit → St → Option R) (n : Nat) : ∀ (v0 : drive_motion) (v1 : Int) (v2 : Arr api_Brake) (v3 : Int) (v4 : Int), loopM E.Θ (drive_checkStop_cal N) (drive_motion_grip_lp N) (noJn) 0 drive_motion_grip_L2 (bodyAt E 65 2) n (drive_motion_grip_h2 v0 v1 v2 v3 v4) k = drive_motion_grip_l2 N n v0 v1 v2 v3 v4 (fun q0 => k (.exit 0) (drive_motion_grip_x2_0 q0)) := by
  induction n with
  | zero => intro v0 v1 v2 v3 v4; rfl
  | succ n ih =>
    intro v0 v1 v2 v3 v4
    refine Eq.trans (b := drive_motion_grip_b2 N (fun v0 v1 v2 v3 v4 => loopM E.Θ (drive_checkStop_cal N) (drive_motion_grip_lp N) (noJn) 0 drive_motion_grip_L2 (bodyAt E 65 2) n (drive_motion_grip_h2 v0 v1 v2 v3 v4) k) v0 v1 v2 v3 v4 (fun q0 => k (.exit 0) (drive_motion_grip_x2_0 q0))) (by kernel_rfl) ?_
    have h : (fun (v0 : drive_motion) (v1 : Int) (v2 : Arr api_Brake) (v3 : Int) (v4 : Int) => loopM E.Θ (drive_checkStop_cal N) (drive_motion_grip_lp N) (noJn) 0 drive_motion_grip_L2 (bodyAt E 65 2) n (drive_motion_grip_h2 v0 v1 v2 v3 v4) k) = (fun (v0 : drive_motion) (v1 : Int) (v2 : Arr api_Brake) (v3 : Int) (v4 : Int) => drive_motion_grip_l2 N n v0 v1 v2 v3 v4 (fun q0 => k (.exit 0) (drive_motion_grip_x2_0 q0))) := funext fun v0 => funext fun v1 => funext fun v2 => funext fun v3 => funext fun v4 => ih v0 v1 v2 v3 v4
    rw [h]
    rfl
theorem drive_motion_grip_k2 {R : Type} (N : Nat) : LpKey (R := R) E 65 0 (drive_motion_grip_lp N) 2 :=
  lpKey_of hE (drive_checkStop_cal_ok N) (lp := drive_motion_grip_lp N) (jn := noJn) drive_motion_grip_L2_ok [] kNil (by kernel_rfl) [] jNil (by kernel_rfl) N fun S k =>
    Eq.trans (b := drive_motion_grip_L2.head.raw 0 S (fun S0 => drive_motion_grip_d2 N S0 k)) (by kernel_rfl) (congrArg (drive_motion_grip_L2.head.raw 0 S) (funext fun S0 => Eq.trans (drive_motion_grip_l2_eq N k N (Cod.dec drive_motionC (toE (lget S0.tmps 0))) (toI (lget S0.tmps 2)) (lstC api_BrakeC (lget S0.tmps 9)) (toI (lget S0.tmps 10)) (toI (lget S0.tmps 11))).symm (by kernel_rfl)))
noncomputable def drive_motion_grip_go {R : Type} (N : Nat) (args : List SV) (T : Tab) (kf : SV × Tab → Option R) : Option R :=
  drive_motion_grip N (Cod.dec drive_motionC (toE (lget args 0))) (fun q0 => kf (lget [.int .i64 q0] 0, []))
noncomputable def drive_motion_grip_cal {R : Type} (N : Nat) : Cal R := callM (drive_checkStop_cal N) 65 0 drive_motion_grip_sp (drive_motion_grip_go N)
theorem drive_motion_grip_cal_ok {R : Type} (N : Nat) : CalOk E.P (drive_motion_grip_cal (R := R) N) :=
  callM_ok hE (drive_checkStop_cal_ok N) (lp := drive_motion_grip_lp N) (jn := noJn) (keys := [2]) (kCons (drive_motion_grip_k2 N) kNil) (by kernel_rfl) (js := []) jNil (by kernel_rfl) drive_motion_grip_sp_ok drive_motion_grip_rs_ok (fun args T kf => Eq.trans (drive_motion_grip_def N (Cod.dec drive_motionC (toE (lget args 0))) (fun q0 => kf (lget [.int .i64 q0] 0, []))) (by kernel_rfl : drive_motion_grip_run N args T kf = fnM E (drive_checkStop_cal N) (drive_motion_grip_lp N) (noJn) 65 (drive_motion_grip_sp.vs args) (drive_motion_grip_sp.tab T) 0 (resK drive_motion_grip_rs kf)))


def drive_floor_m {R : Type} (N : Nat) (a87 : Int) (a88 : Int) (k : Int → Option R) : Option R :=
  bif a88 == (0 : Int) then
   Option.none
  else
   bif a88 == (0 : Int) then
    Option.none
   else
    bif decide (Int.tmod a87 a88 < (0 : Int)) then
     k (w64 (w64 (Int.tdiv a87 a88) - (1 : Int)))
    else
     k (w64 (Int.tdiv a87 a88))
noncomputable def drive_floor {R : Type} : Nat → Int → Int → (Int → Option R) → Option R := lock (@drive_floor_m R)
theorem drive_floor_def {R : Type} (N : Nat) (a87 : Int) (a88 : Int) (k : Int → Option R) : drive_floor N a87 a88 k = drive_floor_m N a87 a88 k := by unfold drive_floor; rw [lock_eq]
def drive_floor_sp : Sp := ⟨[rInt .i64, rInt .i64], []⟩
theorem drive_floor_sp_ok : drive_floor_sp.Ok := ⟨(allCons (rInt_ok .i64) (allCons (rInt_ok .i64) allNil)), eNil⟩
def drive_floor_rs : Sp := ⟨[rInt .i64], []⟩
theorem drive_floor_rs_ok : drive_floor_rs.Ok := ⟨(allCons (rInt_ok .i64) allNil), eNil⟩
def drive_floor_run {R : Type} (N : Nat) (args : List SV) (T : Tab) (kf : SV × Tab → Option R) : Option R :=
  drive_floor_m N (toI (lget args 0)) (toI (lget args 1)) (fun q0 => kf (lget [.int .i64 q0] 0, []))
def drive_floor_lp {R : Type} (N : Nat) : Lp R := fun body S k => Option.none
noncomputable def drive_floor_go {R : Type} (N : Nat) (args : List SV) (T : Tab) (kf : SV × Tab → Option R) : Option R :=
  drive_floor N (toI (lget args 0)) (toI (lget args 1)) (fun q0 => kf (lget [.int .i64 q0] 0, []))
noncomputable def drive_floor_cal {R : Type} (N : Nat) : Cal R := callM (drive_motion_grip_cal N) 102 0 drive_floor_sp (drive_floor_go N)
theorem drive_floor_cal_ok {R : Type} (N : Nat) : CalOk E.P (drive_floor_cal (R := R) N) :=
  callM_ok hE (drive_motion_grip_cal_ok N) (lp := drive_floor_lp N) (jn := noJn) (keys := []) kNil (by kernel_rfl) (js := []) jNil (by kernel_rfl) drive_floor_sp_ok drive_floor_rs_ok (fun args T kf => Eq.trans (drive_floor_def N (toI (lget args 0)) (toI (lget args 1)) (fun q0 => kf (lget [.int .i64 q0] 0, []))) (by kernel_rfl : drive_floor_run N args T kf = fnM E (drive_motion_grip_cal N) (drive_floor_lp N) (noJn) 102 (drive_floor_sp.vs args) (drive_floor_sp.tab T) 0 (resK drive_floor_rs kf)))


def drive_ahead_m {R : Type} (N : Nat) (a83 : Int) (a84 : Int) (a85 : Int) (a86 : Int) (k : Int → Option R) : Option R :=
  drive_floor N (w64 (a84 - a85)) a86 (fun r89 =>
  k (mxI (0 : Int) (w64 (a83 + r89))))
noncomputable def drive_ahead {R : Type} : Nat → Int → Int → Int → Int → (Int → Option R) → Option R := lock (@drive_ahead_m R)
theorem drive_ahead_def {R : Type} (N : Nat) (a83 : Int) (a84 : Int) (a85 : Int) (a86 : Int) (k : Int → Option R) : drive_ahead N a83 a84 a85 a86 k = drive_ahead_m N a83 a84 a85 a86 k := by unfold drive_ahead; rw [lock_eq]
def drive_ahead_sp : Sp := ⟨[rInt .i64, rInt .i64, rInt .i64, rInt .i64], []⟩
theorem drive_ahead_sp_ok : drive_ahead_sp.Ok := ⟨(allCons (rInt_ok .i64) (allCons (rInt_ok .i64) (allCons (rInt_ok .i64) (allCons (rInt_ok .i64) allNil)))), eNil⟩
def drive_ahead_rs : Sp := ⟨[rInt .i64], []⟩
theorem drive_ahead_rs_ok : drive_ahead_rs.Ok := ⟨(allCons (rInt_ok .i64) allNil), eNil⟩
def drive_ahead_run {R : Type} (N : Nat) (args : List SV) (T : Tab) (kf : SV × Tab → Option R) : Option R :=
  drive_ahead_m N (toI (lget args 0)) (toI (lget args 1)) (toI (lget args 2)) (toI (lget args 3)) (fun q0 => kf (lget [.int .i64 q0] 0, []))
def drive_ahead_lp {R : Type} (N : Nat) : Lp R := fun body S k => Option.none
noncomputable def drive_ahead_go {R : Type} (N : Nat) (args : List SV) (T : Tab) (kf : SV × Tab → Option R) : Option R :=
  drive_ahead N (toI (lget args 0)) (toI (lget args 1)) (toI (lget args 2)) (toI (lget args 3)) (fun q0 => kf (lget [.int .i64 q0] 0, []))
noncomputable def drive_ahead_cal {R : Type} (N : Nat) : Cal R := callM (drive_floor_cal N) 86 0 drive_ahead_sp (drive_ahead_go N)
theorem drive_ahead_cal_ok {R : Type} (N : Nat) : CalOk E.P (drive_ahead_cal (R := R) N) :=
  callM_ok hE (drive_floor_cal_ok N) (lp := drive_ahead_lp N) (jn := noJn) (keys := []) kNil (by kernel_rfl) (js := []) jNil (by kernel_rfl) drive_ahead_sp_ok drive_ahead_rs_ok (fun args T kf => Eq.trans (drive_ahead_def N (toI (lget args 0)) (toI (lget args 1)) (toI (lget args 2)) (toI (lget args 3)) (fun q0 => kf (lget [.int .i64 q0] 0, []))) (by kernel_rfl : drive_ahead_run N args T kf = fnM E (drive_floor_cal N) (drive_ahead_lp N) (noJn) 86 (drive_ahead_sp.vs args) (drive_ahead_sp.tab T) 0 (resK drive_ahead_rs kf)))


def drive_tick_m {R : Type} (N : Nat) (a79 : api_Escalator) (a80 : Int) (a81 : Int) (a82 : Int) (k : Int → Option R) : Option R :=
  bif api_Escalator.Up a79 then
   bif decide (a80 < (0 : Int)) then
    drive_ahead N (w64 ((0 : Int) - a80)) (w64 ((0 : Int) - w64 ((0 : Int) - w64 (api_Escalator.Pull a79 * a81)))) (w64 (api_Escalator.Drag a79 + a82)) (w64 (api_Escalator.Empty a79 + a81)) (fun r90 =>
    k (w64 ((0 : Int) - r90)))
   else
    bif a80 == (0 : Int) then
     bif decide (w64 ((0 : Int) - w64 (api_Escalator.Pull a79 * a81)) < (0 : Int)) then
      drive_ahead N (w64 ((0 : Int) - a80)) (w64 ((0 : Int) - w64 ((0 : Int) - w64 (api_Escalator.Pull a79 * a81)))) (w64 (api_Escalator.Drag a79 + a82)) (w64 (api_Escalator.Empty a79 + a81)) (fun r91 =>
      k (w64 ((0 : Int) - r91)))
     else
      drive_ahead N a80 (w64 ((0 : Int) - w64 (api_Escalator.Pull a79 * a81))) (w64 (api_Escalator.Drag a79 + a82)) (w64 (api_Escalator.Empty a79 + a81)) (fun r92 =>
      k r92)
    else
     drive_ahead N a80 (w64 ((0 : Int) - w64 (api_Escalator.Pull a79 * a81))) (w64 (api_Escalator.Drag a79 + a82)) (w64 (api_Escalator.Empty a79 + a81)) (fun r93 =>
     k r93)
  else
   bif decide (a80 < (0 : Int)) then
    drive_ahead N (w64 ((0 : Int) - a80)) (w64 ((0 : Int) - w64 (api_Escalator.Pull a79 * a81))) (w64 (api_Escalator.Drag a79 + a82)) (w64 (api_Escalator.Empty a79 + a81)) (fun r94 =>
    k (w64 ((0 : Int) - r94)))
   else
    bif a80 == (0 : Int) then
     bif decide (w64 (api_Escalator.Pull a79 * a81) < (0 : Int)) then
      drive_ahead N (w64 ((0 : Int) - a80)) (w64 ((0 : Int) - w64 (api_Escalator.Pull a79 * a81))) (w64 (api_Escalator.Drag a79 + a82)) (w64 (api_Escalator.Empty a79 + a81)) (fun r95 =>
      k (w64 ((0 : Int) - r95)))
     else
      drive_ahead N a80 (w64 (api_Escalator.Pull a79 * a81)) (w64 (api_Escalator.Drag a79 + a82)) (w64 (api_Escalator.Empty a79 + a81)) (fun r96 =>
      k r96)
    else
     drive_ahead N a80 (w64 (api_Escalator.Pull a79 * a81)) (w64 (api_Escalator.Drag a79 + a82)) (w64 (api_Escalator.Empty a79 + a81)) (fun r97 =>
     k r97)
noncomputable def drive_tick {R : Type} : Nat → api_Escalator → Int → Int → Int → (Int → Option R) → Option R := lock (@drive_tick_m R)
theorem drive_tick_def {R : Type} (N : Nat) (a79 : api_Escalator) (a80 : Int) (a81 : Int) (a82 : Int) (k : Int → Option R) : drive_tick N a79 a80 a81 a82 k = drive_tick_m N a79 a80 a81 a82 k := by unfold drive_tick; rw [lock_eq]
def drive_tick_sp : Sp := ⟨[rAgg api_EscalatorC, rInt .i64, rInt .i64, rInt .i64], []⟩
theorem drive_tick_sp_ok : drive_tick_sp.Ok := ⟨(allCons (rAgg_ok api_EscalatorC_ok api_EscalatorC_len) (allCons (rInt_ok .i64) (allCons (rInt_ok .i64) (allCons (rInt_ok .i64) allNil)))), eNil⟩
def drive_tick_rs : Sp := ⟨[rInt .i64], []⟩
theorem drive_tick_rs_ok : drive_tick_rs.Ok := ⟨(allCons (rInt_ok .i64) allNil), eNil⟩
def drive_tick_run {R : Type} (N : Nat) (args : List SV) (T : Tab) (kf : SV × Tab → Option R) : Option R :=
  drive_tick_m N (Cod.dec api_EscalatorC (lget (toCs (lget args 0)))) (toI (lget args 1)) (toI (lget args 2)) (toI (lget args 3)) (fun q0 => kf (lget [.int .i64 q0] 0, []))
def drive_tick_lp {R : Type} (N : Nat) : Lp R := fun body S k => Option.none
noncomputable def drive_tick_go {R : Type} (N : Nat) (args : List SV) (T : Tab) (kf : SV × Tab → Option R) : Option R :=
  drive_tick N (Cod.dec api_EscalatorC (lget (toCs (lget args 0)))) (toI (lget args 1)) (toI (lget args 2)) (toI (lget args 3)) (fun q0 => kf (lget [.int .i64 q0] 0, []))
noncomputable def drive_tick_cal {R : Type} (N : Nat) : Cal R := callM (drive_ahead_cal N) 64 0 drive_tick_sp (drive_tick_go N)
theorem drive_tick_cal_ok {R : Type} (N : Nat) : CalOk E.P (drive_tick_cal (R := R) N) :=
  callM_ok hE (drive_ahead_cal_ok N) (lp := drive_tick_lp N) (jn := noJn) (keys := []) kNil (by kernel_rfl) (js := []) jNil (by kernel_rfl) drive_tick_sp_ok drive_tick_rs_ok (fun args T kf => Eq.trans (drive_tick_def N (Cod.dec api_EscalatorC (lget (toCs (lget args 0)))) (toI (lget args 1)) (toI (lget args 2)) (toI (lget args 3)) (fun q0 => kf (lget [.int .i64 q0] 0, []))) (by kernel_rfl : drive_tick_run N args T kf = fnM E (drive_ahead_cal N) (drive_tick_lp N) (noJn) 64 (drive_tick_sp.vs args) (drive_tick_sp.tab T) 0 (resK drive_tick_rs kf)))


def drive_motion_with_m {R : Type} (N : Nat) (a69 : Int) (a70 : drive_motion) (k : Int → drive_motion → Option R) : Option R :=
  drive_motion_grip N a70 (fun r78 =>
  drive_tick N (drive_motion.f_e a70) (drive_motion.f_speed a70) a69 r78 (fun r98 =>
  k r98 (drive_motion.mk (drive_motion.f_e a70) (drive_motion.f_s a70) r98 (w64 (drive_motion.f_time a70 + (1 : Int))))))
noncomputable def drive_motion_with {R : Type} : Nat → Int → drive_motion → (Int → drive_motion → Option R) → Option R := lock (@drive_motion_with_m R)
theorem drive_motion_with_def {R : Type} (N : Nat) (a69 : Int) (a70 : drive_motion) (k : Int → drive_motion → Option R) : drive_motion_with N a69 a70 k = drive_motion_with_m N a69 a70 k := by unfold drive_motion_with; rw [lock_eq]
def drive_motion_with_sp : Sp := ⟨[rPtr 0 0, rInt .i64], [(0, eBlkC drive_motionC)]⟩
theorem drive_motion_with_sp_ok : drive_motion_with_sp.Ok := ⟨(allCons (rPtr_ok 0 0) (allCons (rInt_ok .i64) allNil)), (eCons (eBlkC_ok drive_motionC_ok drive_motionC_len) eNil)⟩
def drive_motion_with_rs : Sp := ⟨[rInt .i64], [(0, eBlkC drive_motionC)]⟩
theorem drive_motion_with_rs_ok : drive_motion_with_rs.Ok := ⟨(allCons (rInt_ok .i64) allNil), (eCons (eBlkC_ok drive_motionC_ok drive_motionC_len) eNil)⟩
def drive_motion_with_run {R : Type} (N : Nat) (args : List SV) (T : Tab) (kf : SV × Tab → Option R) : Option R :=
  drive_motion_with_m N (toI (lget args 1)) (Cod.dec drive_motionC (lget (entCs (entAt T 0)))) (fun q0 q1 => kf (lget [.int .i64 q0] 0, [(0, .blk (Cod.enc drive_motionC q1))]))
def drive_motion_with_lp {R : Type} (N : Nat) : Lp R := fun body S k => Option.none
noncomputable def drive_motion_with_go {R : Type} (N : Nat) (args : List SV) (T : Tab) (kf : SV × Tab → Option R) : Option R :=
  drive_motion_with N (toI (lget args 1)) (Cod.dec drive_motionC (lget (entCs (entAt T 0)))) (fun q0 q1 => kf (lget [.int .i64 q0] 0, [(0, .blk (Cod.enc drive_motionC q1))]))
noncomputable def drive_motion_with_cal {R : Type} (N : Nat) : Cal R := callM (drive_tick_cal N) 35 1 drive_motion_with_sp (drive_motion_with_go N)
theorem drive_motion_with_cal_ok {R : Type} (N : Nat) : CalOk E.P (drive_motion_with_cal (R := R) N) :=
  callM_ok hE (drive_tick_cal_ok N) (lp := drive_motion_with_lp N) (jn := noJn) (keys := []) kNil (by kernel_rfl) (js := []) jNil (by kernel_rfl) drive_motion_with_sp_ok drive_motion_with_rs_ok (fun args T kf => Eq.trans (drive_motion_with_def N (toI (lget args 1)) (Cod.dec drive_motionC (lget (entCs (entAt T 0)))) (fun q0 q1 => kf (lget [.int .i64 q0] 0, [(0, .blk (Cod.enc drive_motionC q1))]))) (by kernel_rfl : drive_motion_with_run N args T kf = fnM E (drive_tick_cal N) (drive_motion_with_lp N) (noJn) 35 (drive_motion_with_sp.vs args) (drive_motion_with_sp.tab T) 1 (resK drive_motion_with_rs kf)))


def drive_motion_extreme_m {R : Type} (N : Nat) (a67 : Bool) (a68 : drive_motion) (k : Int → drive_motion → Option R) : Option R :=
  drive_motion_with N (api_Span.Low (api_Stop.Loads (drive_motion.f_s a68))) a68 (fun r99 r100 =>
  drive_motion_with N (api_Span.High (api_Stop.Loads (drive_motion.f_s a68))) a68 (fun r101 r102 =>
  bif a67 then
   bif decide (r101 > r99) then
    k (api_Span.High (api_Stop.Loads (drive_motion.f_s r102))) r102
   else
    bif !a67 then
     bif decide (r101 < r99) then
      k (api_Span.High (api_Stop.Loads (drive_motion.f_s r102))) r102
     else
      k (api_Span.Low (api_Stop.Loads (drive_motion.f_s r100))) r100
    else
     k (api_Span.Low (api_Stop.Loads (drive_motion.f_s r100))) r100
  else
   bif !a67 then
    bif decide (r101 < r99) then
     k (api_Span.High (api_Stop.Loads (drive_motion.f_s r102))) r102
    else
     k (api_Span.Low (api_Stop.Loads (drive_motion.f_s r100))) r100
   else
    k (api_Span.Low (api_Stop.Loads (drive_motion.f_s r100))) r100))
noncomputable def drive_motion_extreme {R : Type} : Nat → Bool → drive_motion → (Int → drive_motion → Option R) → Option R := lock (@drive_motion_extreme_m R)
theorem drive_motion_extreme_def {R : Type} (N : Nat) (a67 : Bool) (a68 : drive_motion) (k : Int → drive_motion → Option R) : drive_motion_extreme N a67 a68 k = drive_motion_extreme_m N a67 a68 k := by unfold drive_motion_extreme; rw [lock_eq]
def drive_motion_extreme_sp : Sp := ⟨[rPtr 0 0, rBool], [(0, eBlkC drive_motionC)]⟩
theorem drive_motion_extreme_sp_ok : drive_motion_extreme_sp.Ok := ⟨(allCons (rPtr_ok 0 0) (allCons rBool_ok allNil)), (eCons (eBlkC_ok drive_motionC_ok drive_motionC_len) eNil)⟩
def drive_motion_extreme_rs : Sp := ⟨[rInt .i64], [(0, eBlkC drive_motionC)]⟩
theorem drive_motion_extreme_rs_ok : drive_motion_extreme_rs.Ok := ⟨(allCons (rInt_ok .i64) allNil), (eCons (eBlkC_ok drive_motionC_ok drive_motionC_len) eNil)⟩
def drive_motion_extreme_run {R : Type} (N : Nat) (args : List SV) (T : Tab) (kf : SV × Tab → Option R) : Option R :=
  drive_motion_extreme_m N (toB (lget args 1)) (Cod.dec drive_motionC (lget (entCs (entAt T 0)))) (fun q0 q1 => kf (lget [.int .i64 q0] 0, [(0, .blk (Cod.enc drive_motionC q1))]))
def drive_motion_extreme_lp {R : Type} (N : Nat) : Lp R := fun body S k => Option.none
noncomputable def drive_motion_extreme_go {R : Type} (N : Nat) (args : List SV) (T : Tab) (kf : SV × Tab → Option R) : Option R :=
  drive_motion_extreme N (toB (lget args 1)) (Cod.dec drive_motionC (lget (entCs (entAt T 0)))) (fun q0 q1 => kf (lget [.int .i64 q0] 0, [(0, .blk (Cod.enc drive_motionC q1))]))
noncomputable def drive_motion_extreme_cal {R : Type} (N : Nat) : Cal R := callM (drive_motion_with_cal N) 62 1 drive_motion_extreme_sp (drive_motion_extreme_go N)
theorem drive_motion_extreme_cal_ok {R : Type} (N : Nat) : CalOk E.P (drive_motion_extreme_cal (R := R) N) :=
  callM_ok hE (drive_motion_with_cal_ok N) (lp := drive_motion_extreme_lp N) (jn := noJn) (keys := []) kNil (by kernel_rfl) (js := []) jNil (by kernel_rfl) drive_motion_extreme_sp_ok drive_motion_extreme_rs_ok (fun args T kf => Eq.trans (drive_motion_extreme_def N (toB (lget args 1)) (Cod.dec drive_motionC (lget (entCs (entAt T 0)))) (fun q0 q1 => kf (lget [.int .i64 q0] 0, [(0, .blk (Cod.enc drive_motionC q1))]))) (by kernel_rfl : drive_motion_extreme_run N args T kf = fnM E (drive_motion_with_cal N) (drive_motion_extreme_lp N) (noJn) 62 (drive_motion_extreme_sp.vs args) (drive_motion_extreme_sp.tab T) 1 (resK drive_motion_extreme_rs kf)))

def drive_run_L3 : LoopSp := ⟨⟨[2, 6, 7, 8], ⟨(dr 2 ((rBool) :: (dr 3 ((rPtr 0 0) :: (rPtr 1 0) :: (rPtr 2 0) :: (dr 35 []))))), [(0, eBlk [rInt .i64, rRow 3, rBool]), (1, eBlkC drive_motionC), (2, eBlk [rInt .i64, rRow 4, rBool]), (3, eRow intC), (4, eRow intC)]⟩, 5⟩, [(some 0, ⟨[6, 8], ⟨(dr 6 ((rPtr 0 0) :: (dr 1 ((rPtr 1 0) :: (dr 35 []))))), [(0, eBlk [rInt .i64, rRow 2, rBool]), (1, eBlk [rInt .i64, rRow 3, rBool]), (2, eRow intC), (3, eRow intC)]⟩, 4⟩)]⟩
theorem drive_run_L3_ok : drive_run_L3.Ok := ⟨⟨(drCons 2 (allCons rBool_ok (drCons 3 (allCons (rPtr_ok 0 0) (allCons (rPtr_ok 1 0) (allCons (rPtr_ok 2 0) (drCons 35 allNil))))))), (eCons (eBlk_ok (allCons (rInt_ok .i64) (allCons (rRow_ok 3) (allCons rBool_ok allNil)))) (eCons (eBlkC_ok drive_motionC_ok drive_motionC_len) (eCons (eBlk_ok (allCons (rInt_ok .i64) (allCons (rRow_ok 4) (allCons rBool_ok allNil)))) (eCons (eRow_ok intC_ok) (eCons (eRow_ok intC_ok) eNil)))))⟩, (xCons ⟨(drCons 6 (allCons (rPtr_ok 0 0) (drCons 1 (allCons (rPtr_ok 1 0) (drCons 35 allNil))))), (eCons (eBlk_ok (allCons (rInt_ok .i64) (allCons (rRow_ok 2) (allCons rBool_ok allNil)))) (eCons (eBlk_ok (allCons (rInt_ok .i64) (allCons (rRow_ok 3) (allCons rBool_ok allNil)))) (eCons (eRow_ok intC_ok) (eCons (eRow_ok intC_ok) eNil))))⟩ xNil)⟩
def drive_run_h3 (v57 : Bool) (v58 : Int) (v59 : Bool) (v60 : drive_motion) (v61 : Int) (v62 : Bool) (v63 : Bool) (v64 : Arr Int) (v65 : Bool) (v66 : Arr Int) : St := ⟨(un 2 ((.bool v57) :: (un 3 ((.ptr 0 0) :: (.ptr 1 0) :: (.ptr 2 0) :: (un 35 []))))), [(0, .blk [.int .i64 v58, .row 3, .bool v59]), (1, .blk (Cod.enc drive_motionC v60)), (2, .blk [.int .i64 v61, .row 4, .bool v62]), (3, rowE intC v63 v64), (4, rowE intC v65 v66)], 5⟩
def drive_run_x3_0 (v58 : Int) (v59 : Bool) (v63 : Bool) (v64 : Arr Int) (q2 : Int) (q3 : Bool) (q6 : Bool) (q7 : Arr Int) : St := ⟨(un 6 ((.ptr 0 0) :: (un 1 ((.ptr 1 0) :: (un 35 []))))), [(0, .blk [.int .i64 v58, .row 2, .bool v59]), (1, .blk [.int .i64 q2, .row 3, .bool q3]), (2, rowE intC v63 v64), (3, rowE intC q6 q7)], 4⟩
def drive_run_b3 {R : Type} (N : Nat) (rc : Bool → Int → Bool → drive_motion → Int → Bool → Bool → Arr Int → Bool → Arr Int → Option R) (v57 : Bool) (v58 : Int) (v59 : Bool) (v60 : drive_motion) (v61 : Int) (v62 : Bool) (v63 : Bool) (v64 : Arr Int) (v65 : Bool) (v66 : Arr Int) (k0 : Int → Bool → Bool → Arr Int → Option R) : Option R :=
  bif !v62 then
   bif decide (drive_motion.f_time v60 < (100 : Int)) then
    drive_motion_extreme N v57 v60 (fun r103 r104 =>
    bif room (Arr.n v66 + (1 : Nat)) then
     rc v57 v58 v59 r104 (w64 (v61 + drive_motion.f_speed r104)) (drive_motion.f_speed r104 == (0 : Int)) v63 v64 false (lst intC (Arr.n v66 + (1 : Nat)) (catC (Arr.n v66) (Cod.cell intC (Arr.f v66)) (litC [SV.int IntKind.i64 (0 : Int)] [[SV.int IntKind.i64 r103]])))
    else
     Option.none)
   else
    k0 v61 v62 v65 v66
  else
   k0 v61 v62 v65 v66
def drive_run_l3 {R : Type} (N : Nat) : Nat → Bool → Int → Bool → drive_motion → Int → Bool → Bool → Arr Int → Bool → Arr Int → (Int → Bool → Bool → Arr Int → Option R) → Option R
  | 0, _, _, _, _, _, _, _, _, _, _, _ => Option.none
  | n + 1, v57, v58, v59, v60, v61, v62, v63, v64, v65, v66, k0 => drive_run_b3 N (fun v57 v58 v59 v60 v61 v62 v63 v64 v65 v66 => drive_run_l3 N n v57 v58 v59 v60 v61 v62 v63 v64 v65 v66 k0) v57 v58 v59 v60 v61 v62 v63 v64 v65 v66 k0


def drive_run_m {R : Type} (N : Nat) (a54 : api_Escalator) (a55 : api_Stop) (a56 : Bool) (k : Int → Bool → Bool → Arr Int → Option R) : Option R :=
  drive_run_l3 N N a56 (0 : Int) false (drive_motion.mk a54 a55 (api_Stop.Speed a55) (0 : Int)) (0 : Int) (api_Stop.Speed a55 == (0 : Int)) true (lst intC (0 : Nat) (zeroC [SV.int IntKind.i64 (0 : Int)])) true (lst intC (0 : Nat) (zeroC [SV.int IntKind.i64 (0 : Int)])) (fun r105 r106 r107 r108 =>
   k r105 r106 r107 r108)
noncomputable def drive_run {R : Type} : Nat → api_Escalator → api_Stop → Bool → (Int → Bool → Bool → Arr Int → Option R) → Option R := lock (@drive_run_m R)
theorem drive_run_def {R : Type} (N : Nat) (a54 : api_Escalator) (a55 : api_Stop) (a56 : Bool) (k : Int → Bool → Bool → Arr Int → Option R) : drive_run N a54 a55 a56 k = drive_run_m N a54 a55 a56 k := by unfold drive_run; rw [lock_eq]
def drive_run_sp : Sp := ⟨[rAgg api_EscalatorC, rAgg api_StopC, rBool], []⟩
theorem drive_run_sp_ok : drive_run_sp.Ok := ⟨(allCons (rAgg_ok api_EscalatorC_ok api_EscalatorC_len) (allCons (rAgg_ok api_StopC_ok api_StopC_len) (allCons rBool_ok allNil))), eNil⟩
def drive_run_rs : Sp := ⟨[rAggs [rInt .i64, rRow 0, rBool]], [(0, eRow intC)]⟩
theorem drive_run_rs_ok : drive_run_rs.Ok := ⟨(allCons (rAggs_ok (allCons (rInt_ok .i64) (allCons (rRow_ok 0) (allCons rBool_ok allNil)))) allNil), (eCons (eRow_ok intC_ok) eNil)⟩
def drive_run_run {R : Type} (N : Nat) (args : List SV) (T : Tab) (kf : SV × Tab → Option R) : Option R :=
  drive_run_m N (Cod.dec api_EscalatorC (lget (toCs (lget args 0)))) (Cod.dec api_StopC (lget (toCs (lget args 1)))) (toB (lget args 2)) (fun q0 q1 q2 q3 => kf (lget [.agg [.int .i64 q0, .row 0, .bool q1]] 0, [(0, rowE intC q2 q3)]))
def drive_run_d3 {R : Type} (N : Nat) (S0 : St) (k : Exit → St → Option R) : Option R :=
  drive_run_l3 N N (toB (lget S0.tmps 2)) (toI (lget (entCs (entAt S0.tab 0)) 0)) (toB (lget (entCs (entAt S0.tab 0)) 2)) (Cod.dec drive_motionC (lget (entCs (entAt S0.tab 1)))) (toI (lget (entCs (entAt S0.tab 2)) 0)) (toB (lget (entCs (entAt S0.tab 2)) 2)) (entNl (entAt S0.tab 3)) (lst intC (entN (entAt S0.tab 3)) (entC (entAt S0.tab 3))) (entNl (entAt S0.tab 4)) (lst intC (entN (entAt S0.tab 4)) (entC (entAt S0.tab 4))) (fun q2 q3 q6 q7 => k (.exit 0) (drive_run_x3_0 (toI (lget (entCs (entAt S0.tab 0)) 0)) (toB (lget (entCs (entAt S0.tab 0)) 2)) (entNl (entAt S0.tab 3)) (lst intC (entN (entAt S0.tab 3)) (entC (entAt S0.tab 3))) q2 q3 q6 q7))
def drive_run_lp {R : Type} (N : Nat) : Lp R := fun body S k => bif (Go.Sx.keyOf body).getD 0 == 3 then (drive_run_L3.head.raw 0 S (fun S0 => drive_run_d3 N S0 k)) else Option.none
theorem drive_run_l3_eq {R : Type} (N : Nat) (k : Exit → St → Option R) (n : Nat) : ∀ (v0 : Bool) (v1 : Int) (v2 : Bool) (v3 : drive_motion) (v4 : Int) (v5 : Bool) (v6 : Bool) (v7 : Arr Int) (v8 : Bool) (v9 : Arr Int), loopM E.Θ (drive_motion_extreme_cal N) (drive_run_lp N) (noJn) 0 drive_run_L3 (bodyAt E 31 3) n (drive_run_h3 v0 v1 v2 v3 v4 v5 v6 v7 v8 v9) k = drive_run_l3 N n v0 v1 v2 v3 v4 v5 v6 v7 v8 v9 (fun q2 q3 q6 q7 => k (.exit 0) (drive_run_x3_0 v1 v2 v6 v7 q2 q3 q6 q7)) := by
  induction n with
  | zero => intro v0 v1 v2 v3 v4 v5 v6 v7 v8 v9; rfl
  | succ n ih =>
    intro v0 v1 v2 v3 v4 v5 v6 v7 v8 v9
    refine Eq.trans (b := drive_run_b3 N (fun v0 v1 v2 v3 v4 v5 v6 v7 v8 v9 => loopM E.Θ (drive_motion_extreme_cal N) (drive_run_lp N) (noJn) 0 drive_run_L3 (bodyAt E 31 3) n (drive_run_h3 v0 v1 v2 v3 v4 v5 v6 v7 v8 v9) k) v0 v1 v2 v3 v4 v5 v6 v7 v8 v9 (fun q2 q3 q6 q7 => k (.exit 0) (drive_run_x3_0 v1 v2 v6 v7 q2 q3 q6 q7))) (by kernel_rfl) ?_
    have h : (fun (v0 : Bool) (v1 : Int) (v2 : Bool) (v3 : drive_motion) (v4 : Int) (v5 : Bool) (v6 : Bool) (v7 : Arr Int) (v8 : Bool) (v9 : Arr Int) => loopM E.Θ (drive_motion_extreme_cal N) (drive_run_lp N) (noJn) 0 drive_run_L3 (bodyAt E 31 3) n (drive_run_h3 v0 v1 v2 v3 v4 v5 v6 v7 v8 v9) k) = (fun (v0 : Bool) (v1 : Int) (v2 : Bool) (v3 : drive_motion) (v4 : Int) (v5 : Bool) (v6 : Bool) (v7 : Arr Int) (v8 : Bool) (v9 : Arr Int) => drive_run_l3 N n v0 v1 v2 v3 v4 v5 v6 v7 v8 v9 (fun q2 q3 q6 q7 => k (.exit 0) (drive_run_x3_0 v1 v2 v6 v7 q2 q3 q6 q7))) := funext fun v0 => funext fun v1 => funext fun v2 => funext fun v3 => funext fun v4 => funext fun v5 => funext fun v6 => funext fun v7 => funext fun v8 => funext fun v9 => ih v0 v1 v2 v3 v4 v5 v6 v7 v8 v9
    rw [h]
    rfl
theorem drive_run_k3 {R : Type} (N : Nat) : LpKey (R := R) E 31 0 (drive_run_lp N) 3 :=
  lpKey_of hE (drive_motion_extreme_cal_ok N) (lp := drive_run_lp N) (jn := noJn) drive_run_L3_ok [] kNil (by kernel_rfl) [] jNil (by kernel_rfl) N fun S k =>
    Eq.trans (b := drive_run_L3.head.raw 0 S (fun S0 => drive_run_d3 N S0 k)) (by kernel_rfl) (congrArg (drive_run_L3.head.raw 0 S) (funext fun S0 => Eq.trans (drive_run_l3_eq N k N (toB (lget S0.tmps 2)) (toI (lget (entCs (entAt S0.tab 0)) 0)) (toB (lget (entCs (entAt S0.tab 0)) 2)) (Cod.dec drive_motionC (lget (entCs (entAt S0.tab 1)))) (toI (lget (entCs (entAt S0.tab 2)) 0)) (toB (lget (entCs (entAt S0.tab 2)) 2)) (entNl (entAt S0.tab 3)) (lst intC (entN (entAt S0.tab 3)) (entC (entAt S0.tab 3))) (entNl (entAt S0.tab 4)) (lst intC (entN (entAt S0.tab 4)) (entC (entAt S0.tab 4)))).symm (by kernel_rfl)))
noncomputable def drive_run_go {R : Type} (N : Nat) (args : List SV) (T : Tab) (kf : SV × Tab → Option R) : Option R :=
  drive_run N (Cod.dec api_EscalatorC (lget (toCs (lget args 0)))) (Cod.dec api_StopC (lget (toCs (lget args 1)))) (toB (lget args 2)) (fun q0 q1 q2 q3 => kf (lget [.agg [.int .i64 q0, .row 0, .bool q1]] 0, [(0, rowE intC q2 q3)]))
noncomputable def drive_run_cal {R : Type} (N : Nat) : Cal R := callM (drive_motion_extreme_cal N) 31 0 drive_run_sp (drive_run_go N)
theorem drive_run_cal_ok {R : Type} (N : Nat) : CalOk E.P (drive_run_cal (R := R) N) :=
  callM_ok hE (drive_motion_extreme_cal_ok N) (lp := drive_run_lp N) (jn := noJn) (keys := [3]) (kCons (drive_run_k3 N) kNil) (by kernel_rfl) (js := []) jNil (by kernel_rfl) drive_run_sp_ok drive_run_rs_ok (fun args T kf => Eq.trans (drive_run_def N (Cod.dec api_EscalatorC (lget (toCs (lget args 0)))) (Cod.dec api_StopC (lget (toCs (lget args 1)))) (toB (lget args 2)) (fun q0 q1 q2 q3 => kf (lget [.agg [.int .i64 q0, .row 0, .bool q1]] 0, [(0, rowE intC q2 q3)]))) (by kernel_rfl : drive_run_run N args T kf = fnM E (drive_motion_extreme_cal N) (drive_run_lp N) (noJn) 31 (drive_run_sp.vs args) (drive_run_sp.tab T) 0 (resK drive_run_rs kf)))


def drive_Distance_m {R : Type} (N : Nat) (a26 : api_Escalator) (a27 : api_Stop) (k : api_Span → api_Span → Int → Option R) : Option R :=
  drive_checkStop N a26 a27 (fun r53 =>
  bif r53 != (0 : Int) then
   k (api_Span.mk (0 : Int) (0 : Int)) (api_Span.mk (0 : Int) (0 : Int)) r53
  else
   drive_run N a26 a27 true (fun r109 r110 r111 r112 =>
   drive_run N a26 a27 false (fun r113 r114 r115 r116 =>
   bif !r110 then
    k (api_Span.mk (0 : Int) (0 : Int)) (api_Span.mk (0 : Int) (0 : Int)) (12 : Int)
   else
    k (api_Span.mk r113 r109) (api_Span.mk (↑(Arr.n r116) : Int) (↑(Arr.n r112) : Int)) (0 : Int))))
noncomputable def drive_Distance {R : Type} : Nat → api_Escalator → api_Stop → (api_Span → api_Span → Int → Option R) → Option R := lock (@drive_Distance_m R)
theorem drive_Distance_def {R : Type} (N : Nat) (a26 : api_Escalator) (a27 : api_Stop) (k : api_Span → api_Span → Int → Option R) : drive_Distance N a26 a27 k = drive_Distance_m N a26 a27 k := by unfold drive_Distance; rw [lock_eq]
def drive_Distance_sp : Sp := ⟨[rAgg api_EscalatorC, rAgg api_StopC], []⟩
theorem drive_Distance_sp_ok : drive_Distance_sp.Ok := ⟨(allCons (rAgg_ok api_EscalatorC_ok api_EscalatorC_len) (allCons (rAgg_ok api_StopC_ok api_StopC_len) allNil)), eNil⟩
def drive_Distance_rs : Sp := ⟨[rTup [rAgg api_SpanC, rAgg api_SpanC, rInt .i64]], []⟩
theorem drive_Distance_rs_ok : drive_Distance_rs.Ok := ⟨(allCons (rTup_ok (allCons (rAgg_ok api_SpanC_ok api_SpanC_len) (allCons (rAgg_ok api_SpanC_ok api_SpanC_len) (allCons (rInt_ok .i64) allNil)))) allNil), eNil⟩
def drive_Distance_run {R : Type} (N : Nat) (args : List SV) (T : Tab) (kf : SV × Tab → Option R) : Option R :=
  drive_Distance_m N (Cod.dec api_EscalatorC (lget (toCs (lget args 0)))) (Cod.dec api_StopC (lget (toCs (lget args 1)))) (fun q0 q1 q2 => kf (lget [.tup [.agg (Cod.enc api_SpanC q0), .agg (Cod.enc api_SpanC q1), .int .i64 q2]] 0, []))
def drive_Distance_lp {R : Type} (N : Nat) : Lp R := fun body S k => Option.none
noncomputable def drive_Distance_go {R : Type} (N : Nat) (args : List SV) (T : Tab) (kf : SV × Tab → Option R) : Option R :=
  drive_Distance N (Cod.dec api_EscalatorC (lget (toCs (lget args 0)))) (Cod.dec api_StopC (lget (toCs (lget args 1)))) (fun q0 q1 q2 => kf (lget [.tup [.agg (Cod.enc api_SpanC q0), .agg (Cod.enc api_SpanC q1), .int .i64 q2]] 0, []))
noncomputable def drive_Distance_cal {R : Type} (N : Nat) : Cal R := callM (drive_run_cal N) 9 0 drive_Distance_sp (drive_Distance_go N)
theorem drive_Distance_cal_ok {R : Type} (N : Nat) : CalOk E.P (drive_Distance_cal (R := R) N) :=
  callM_ok hE (drive_run_cal_ok N) (lp := drive_Distance_lp N) (jn := noJn) (keys := []) kNil (by kernel_rfl) (js := []) jNil (by kernel_rfl) drive_Distance_sp_ok drive_Distance_rs_ok (fun args T kf => Eq.trans (drive_Distance_def N (Cod.dec api_EscalatorC (lget (toCs (lget args 0)))) (Cod.dec api_StopC (lget (toCs (lget args 1)))) (fun q0 q1 q2 => kf (lget [.tup [.agg (Cod.enc api_SpanC q0), .agg (Cod.enc api_SpanC q1), .int .i64 q2]] 0, []))) (by kernel_rfl : drive_Distance_run N args T kf = fnM E (drive_run_cal N) (drive_Distance_lp N) (noJn) 9 (drive_Distance_sp.vs args) (drive_Distance_sp.tab T) 0 (resK drive_Distance_rs kf)))


def drive_Play_1_m {R : Type} (N : Nat) (a138 : Int) (a139 : Int) (a140 : Int) (a141 : Int) (a142 : Int) (k : Bool → Option R) : Option R :=
  drive_in N a138 (api_Span.mk a140 a141) (fun r143 =>
  k !r143)
noncomputable def drive_Play_1 {R : Type} : Nat → Int → Int → Int → Int → Int → (Bool → Option R) → Option R := lock (@drive_Play_1_m R)
theorem drive_Play_1_def {R : Type} (N : Nat) (a138 : Int) (a139 : Int) (a140 : Int) (a141 : Int) (a142 : Int) (k : Bool → Option R) : drive_Play_1 N a138 a139 a140 a141 a142 k = drive_Play_1_m N a138 a139 a140 a141 a142 k := by unfold drive_Play_1; rw [lock_eq]
def drive_Play_1_sp : Sp := ⟨[rInt .i64, rPtr 0 0], [(0, eBlk [rInt .i64, rInt .i64, rInt .i64, rInt .i64])]⟩
theorem drive_Play_1_sp_ok : drive_Play_1_sp.Ok := ⟨(allCons (rInt_ok .i64) (allCons (rPtr_ok 0 0) allNil)), (eCons (eBlk_ok (allCons (rInt_ok .i64) (allCons (rInt_ok .i64) (allCons (rInt_ok .i64) (allCons (rInt_ok .i64) allNil))))) eNil)⟩
def drive_Play_1_rs : Sp := ⟨[rBool], [(0, eBlk [rInt .i64, rInt .i64, rInt .i64, rInt .i64])]⟩
theorem drive_Play_1_rs_ok : drive_Play_1_rs.Ok := ⟨(allCons rBool_ok allNil), (eCons (eBlk_ok (allCons (rInt_ok .i64) (allCons (rInt_ok .i64) (allCons (rInt_ok .i64) (allCons (rInt_ok .i64) allNil))))) eNil)⟩
def drive_Play_1_run {R : Type} (N : Nat) (args : List SV) (T : Tab) (kf : SV × Tab → Option R) : Option R :=
  drive_Play_1_m N (toI (lget args 0)) (toI (lget (entCs (entAt T 0)) 0)) (toI (lget (entCs (entAt T 0)) 1)) (toI (lget (entCs (entAt T 0)) 2)) (toI (lget (entCs (entAt T 0)) 3)) (fun q0 => kf (lget [.bool q0] 0, [(0, .blk [.int .i64 (toI (lget (entCs (entAt T 0)) 0)), .int .i64 (toI (lget (entCs (entAt T 0)) 1)), .int .i64 (toI (lget (entCs (entAt T 0)) 2)), .int .i64 (toI (lget (entCs (entAt T 0)) 3))])]))
def drive_Play_1_lp {R : Type} (N : Nat) : Lp R := fun body S k => Option.none
noncomputable def drive_Play_1_go {R : Type} (N : Nat) (args : List SV) (T : Tab) (kf : SV × Tab → Option R) : Option R :=
  drive_Play_1 N (toI (lget args 0)) (toI (lget (entCs (entAt T 0)) 0)) (toI (lget (entCs (entAt T 0)) 1)) (toI (lget (entCs (entAt T 0)) 2)) (toI (lget (entCs (entAt T 0)) 3)) (fun q0 => kf (lget [.bool q0] 0, [(0, .blk [.int .i64 (toI (lget (entCs (entAt T 0)) 0)), .int .i64 (toI (lget (entCs (entAt T 0)) 1)), .int .i64 (toI (lget (entCs (entAt T 0)) 2)), .int .i64 (toI (lget (entCs (entAt T 0)) 3))])]))
noncomputable def drive_Play_1_cal {R : Type} (N : Nat) : Cal R := callM (drive_Distance_cal N) 33 1 drive_Play_1_sp (drive_Play_1_go N)
theorem drive_Play_1_cal_ok {R : Type} (N : Nat) : CalOk E.P (drive_Play_1_cal (R := R) N) :=
  callM_ok hE (drive_Distance_cal_ok N) (lp := drive_Play_1_lp N) (jn := noJn) (keys := []) kNil (by kernel_rfl) (js := []) jNil (by kernel_rfl) drive_Play_1_sp_ok drive_Play_1_rs_ok (fun args T kf => Eq.trans (drive_Play_1_def N (toI (lget args 0)) (toI (lget (entCs (entAt T 0)) 0)) (toI (lget (entCs (entAt T 0)) 1)) (toI (lget (entCs (entAt T 0)) 2)) (toI (lget (entCs (entAt T 0)) 3)) (fun q0 => kf (lget [.bool q0] 0, [(0, .blk [.int .i64 (toI (lget (entCs (entAt T 0)) 0)), .int .i64 (toI (lget (entCs (entAt T 0)) 1)), .int .i64 (toI (lget (entCs (entAt T 0)) 2)), .int .i64 (toI (lget (entCs (entAt T 0)) 3))])]))) (by kernel_rfl : drive_Play_1_run N args T kf = fnM E (drive_Distance_cal N) (drive_Play_1_lp N) (noJn) 33 (drive_Play_1_sp.vs args) (drive_Play_1_sp.tab T) 1 (resK drive_Play_1_rs kf)))

def slices_IndexFunc___int_int__L2 : LoopSp := ⟨⟨[0, 1, 7, 8], ⟨((rSl intC) :: (rFunc 33 0 [rPtr 0 0]) :: (dr 5 ((rInt .i64) :: (rInt .i64) :: (dr 10 [])))), [(0, eBlk [rInt .i64, rInt .i64, rInt .i64, rInt .i64])]⟩, 1⟩, [(Option.none, ⟨[4], ⟨(dr 4 ((rInt .i64) :: (dr 14 []))), [(0, eBlk [rInt .i64, rInt .i64, rInt .i64, rInt .i64])]⟩, 1⟩), (some 0, ⟨[], ⟨(dr 19 []), [(0, eBlk [rInt .i64, rInt .i64, rInt .i64, rInt .i64])]⟩, 1⟩)]⟩
theorem slices_IndexFunc___int_int__L2_ok : slices_IndexFunc___int_int__L2.Ok := ⟨⟨(allCons (rSl_ok intC_ok) (allCons (rFunc_ok 33 0 (allCons (rPtr_ok 0 0) allNil)) (drCons 5 (allCons (rInt_ok .i64) (allCons (rInt_ok .i64) (drCons 10 allNil)))))), (eCons (eBlk_ok (allCons (rInt_ok .i64) (allCons (rInt_ok .i64) (allCons (rInt_ok .i64) (allCons (rInt_ok .i64) allNil))))) eNil)⟩, (xCons ⟨(drCons 4 (allCons (rInt_ok .i64) (drCons 14 allNil))), (eCons (eBlk_ok (allCons (rInt_ok .i64) (allCons (rInt_ok .i64) (allCons (rInt_ok .i64) (allCons (rInt_ok .i64) allNil))))) eNil)⟩ (xCons ⟨(drCons 19 allNil), (eCons (eBlk_ok (allCons (rInt_ok .i64) (allCons (rInt_ok .i64) (allCons (rInt_ok .i64) (allCons (rInt_ok .i64) allNil))))) eNil)⟩ xNil))⟩
def slices_IndexFunc___int_int__h2 (v131 : Arr Int) (v132 : Int) (v133 : Int) (v134 : Int) (v135 : Int) (v136 : Int) (v137 : Int) : St := ⟨((slC intC v131) :: (.func 33 0 [.ptr 0 0]) :: (un 5 ((.int .i64 v132) :: (.int .i64 v133) :: (un 10 [])))), [(0, .blk [.int .i64 v134, .int .i64 v135, .int .i64 v136, .int .i64 v137])], 1⟩
def slices_IndexFunc___int_int__x2_r (v134 : Int) (v135 : Int) (v136 : Int) (v137 : Int) (q0 : Int) : St := ⟨(un 4 ((.int .i64 q0) :: (un 14 []))), [(0, .blk [.int .i64 v134, .int .i64 v135, .int .i64 v136, .int .i64 v137])], 1⟩
def slices_IndexFunc___int_int__x2_0 (v134 : Int) (v135 : Int) (v136 : Int) (v137 : Int) : St := ⟨(un 19 []), [(0, .blk [.int .i64 v134, .int .i64 v135, .int .i64 v136, .int .i64 v137])], 1⟩
def slices_IndexFunc___int_int__b2 {R : Type} (N : Nat) (rc : Arr Int → Int → Int → Int → Int → Int → Int → Option R) (v131 : Arr Int) (v132 : Int) (v133 : Int) (v134 : Int) (v135 : Int) (v136 : Int) (v137 : Int) (kr : Int → Option R) (k0 : Unit → Option R) : Option R :=
  bif decide (v133 < v132) then
   bif decide ((0 : Int) ≤ v133) && decide (v133 < (↑(Arr.n v131) : Int)) then
    drive_Play_1 N (Arr.f v131 (Int.toNat v133)) v134 v135 v136 v137 (fun r144 =>
    bif r144 then
     kr v133
    else
     rc v131 v132 (w64 (v133 + (1 : Int))) v134 v135 v136 v137)
   else
    Option.none
  else
   k0 ()
def slices_IndexFunc___int_int__l2 {R : Type} (N : Nat) : Nat → Arr Int → Int → Int → Int → Int → Int → Int → (Int → Option R) → (Unit → Option R) → Option R
  | 0, _, _, _, _, _, _, _, _, _ => Option.none
  | n + 1, v131, v132, v133, v134, v135, v136, v137, kr, k0 => slices_IndexFunc___int_int__b2 N (fun v131 v132 v133 v134 v135 v136 v137 => slices_IndexFunc___int_int__l2 N n v131 v132 v133 v134 v135 v136 v137 kr k0) v131 v132 v133 v134 v135 v136 v137 kr k0


def slices_IndexFunc___int_int__m {R : Type} (N : Nat) (a126 : Arr Int) (a127 : Int) (a128 : Int) (a129 : Int) (a130 : Int) (k : Int → Option R) : Option R :=
  slices_IndexFunc___int_int__l2 N N a126 ((↑(Arr.n a126) : Int)) (0 : Int) a127 a128 a129 a130 (fun r145 =>
   k r145) (fun (_ : Unit) =>
   k (-1 : Int))
noncomputable def slices_IndexFunc___int_int_ {R : Type} : Nat → Arr Int → Int → Int → Int → Int → (Int → Option R) → Option R := lock (@slices_IndexFunc___int_int__m R)
theorem slices_IndexFunc___int_int__def {R : Type} (N : Nat) (a126 : Arr Int) (a127 : Int) (a128 : Int) (a129 : Int) (a130 : Int) (k : Int → Option R) : slices_IndexFunc___int_int_ N a126 a127 a128 a129 a130 k = slices_IndexFunc___int_int__m N a126 a127 a128 a129 a130 k := by unfold slices_IndexFunc___int_int_; rw [lock_eq]
def slices_IndexFunc___int_int__sp : Sp := ⟨[rSl intC, rFunc 33 0 [rPtr 0 0]], [(0, eBlk [rInt .i64, rInt .i64, rInt .i64, rInt .i64])]⟩
theorem slices_IndexFunc___int_int__sp_ok : slices_IndexFunc___int_int__sp.Ok := ⟨(allCons (rSl_ok intC_ok) (allCons (rFunc_ok 33 0 (allCons (rPtr_ok 0 0) allNil)) allNil)), (eCons (eBlk_ok (allCons (rInt_ok .i64) (allCons (rInt_ok .i64) (allCons (rInt_ok .i64) (allCons (rInt_ok .i64) allNil))))) eNil)⟩
def slices_IndexFunc___int_int__rs : Sp := ⟨[rInt .i64], [(0, eBlk [rInt .i64, rInt .i64, rInt .i64, rInt .i64])]⟩
theorem slices_IndexFunc___int_int__rs_ok : slices_IndexFunc___int_int__rs.Ok := ⟨(allCons (rInt_ok .i64) allNil), (eCons (eBlk_ok (allCons (rInt_ok .i64) (allCons (rInt_ok .i64) (allCons (rInt_ok .i64) (allCons (rInt_ok .i64) allNil))))) eNil)⟩
def slices_IndexFunc___int_int__run {R : Type} (N : Nat) (args : List SV) (T : Tab) (kf : SV × Tab → Option R) : Option R :=
  slices_IndexFunc___int_int__m N (lstC intC (lget args 0)) (toI (lget (entCs (entAt T 0)) 0)) (toI (lget (entCs (entAt T 0)) 1)) (toI (lget (entCs (entAt T 0)) 2)) (toI (lget (entCs (entAt T 0)) 3)) (fun q0 => kf (lget [.int .i64 q0] 0, [(0, .blk [.int .i64 (toI (lget (entCs (entAt T 0)) 0)), .int .i64 (toI (lget (entCs (entAt T 0)) 1)), .int .i64 (toI (lget (entCs (entAt T 0)) 2)), .int .i64 (toI (lget (entCs (entAt T 0)) 3))])]))
def slices_IndexFunc___int_int__d2 {R : Type} (N : Nat) (S0 : St) (k : Exit → St → Option R) : Option R :=
  slices_IndexFunc___int_int__l2 N N (lstC intC (lget S0.tmps 0)) (toI (lget S0.tmps 7)) (toI (lget S0.tmps 8)) (toI (lget (entCs (entAt S0.tab 0)) 0)) (toI (lget (entCs (entAt S0.tab 0)) 1)) (toI (lget (entCs (entAt S0.tab 0)) 2)) (toI (lget (entCs (entAt S0.tab 0)) 3)) (fun q0 => k .ret (slices_IndexFunc___int_int__x2_r (toI (lget (entCs (entAt S0.tab 0)) 0)) (toI (lget (entCs (entAt S0.tab 0)) 1)) (toI (lget (entCs (entAt S0.tab 0)) 2)) (toI (lget (entCs (entAt S0.tab 0)) 3)) q0)) (fun (_ : Unit) => k (.exit 0) (slices_IndexFunc___int_int__x2_0 (toI (lget (entCs (entAt S0.tab 0)) 0)) (toI (lget (entCs (entAt S0.tab 0)) 1)) (toI (lget (entCs (entAt S0.tab 0)) 2)) (toI (lget (entCs (entAt S0.tab 0)) 3))))
def slices_IndexFunc___int_int__lp {R : Type} (N : Nat) : Lp R := fun body S k => bif (Go.Sx.keyOf body).getD 0 == 2 then (slices_IndexFunc___int_int__L2.head.raw 1 S (fun S0 => slices_IndexFunc___int_int__d2 N S0 k)) else Option.none
theorem slices_IndexFunc___int_int__l2_eq {R : Type} (N : Nat) (k : Exit → St → Option R) (n : Nat) : ∀ (v0 : Arr Int) (v1 : Int) (v2 : Int) (v3 : Int) (v4 : Int) (v5 : Int) (v6 : Int), loopM E.Θ (drive_Play_1_cal N) (slices_IndexFunc___int_int__lp N) (noJn) 1 slices_IndexFunc___int_int__L2 (bodyAt E 63 2) n (slices_IndexFunc___int_int__h2 v0 v1 v2 v3 v4 v5 v6) k = slices_IndexFunc___int_int__l2 N n v0 v1 v2 v3 v4 v5 v6 (fun q0 => k .ret (slices_IndexFunc___int_int__x2_r v3 v4 v5 v6 q0)) (fun (_ : Unit) => k (.exit 0) (slices_IndexFunc___int_int__x2_0 v3 v4 v5 v6)) := by
  induction n with
  | zero => intro v0 v1 v2 v3 v4 v5 v6; rfl
  | succ n ih =>
    intro v0 v1 v2 v3 v4 v5 v6
    refine Eq.trans (b := slices_IndexFunc___int_int__b2 N (fun v0 v1 v2 v3 v4 v5 v6 => loopM E.Θ (drive_Play_1_cal N) (slices_IndexFunc___int_int__lp N) (noJn) 1 slices_IndexFunc___int_int__L2 (bodyAt E 63 2) n (slices_IndexFunc___int_int__h2 v0 v1 v2 v3 v4 v5 v6) k) v0 v1 v2 v3 v4 v5 v6 (fun q0 => k .ret (slices_IndexFunc___int_int__x2_r v3 v4 v5 v6 q0)) (fun (_ : Unit) => k (.exit 0) (slices_IndexFunc___int_int__x2_0 v3 v4 v5 v6))) (by kernel_rfl) ?_
    have h : (fun (v0 : Arr Int) (v1 : Int) (v2 : Int) (v3 : Int) (v4 : Int) (v5 : Int) (v6 : Int) => loopM E.Θ (drive_Play_1_cal N) (slices_IndexFunc___int_int__lp N) (noJn) 1 slices_IndexFunc___int_int__L2 (bodyAt E 63 2) n (slices_IndexFunc___int_int__h2 v0 v1 v2 v3 v4 v5 v6) k) = (fun (v0 : Arr Int) (v1 : Int) (v2 : Int) (v3 : Int) (v4 : Int) (v5 : Int) (v6 : Int) => slices_IndexFunc___int_int__l2 N n v0 v1 v2 v3 v4 v5 v6 (fun q0 => k .ret (slices_IndexFunc___int_int__x2_r v3 v4 v5 v6 q0)) (fun (_ : Unit) => k (.exit 0) (slices_IndexFunc___int_int__x2_0 v3 v4 v5 v6))) := funext fun v0 => funext fun v1 => funext fun v2 => funext fun v3 => funext fun v4 => funext fun v5 => funext fun v6 => ih v0 v1 v2 v3 v4 v5 v6
    rw [h]
    rfl
theorem slices_IndexFunc___int_int__k2 {R : Type} (N : Nat) : LpKey (R := R) E 63 1 (slices_IndexFunc___int_int__lp N) 2 :=
  lpKey_of hE (drive_Play_1_cal_ok N) (lp := slices_IndexFunc___int_int__lp N) (jn := noJn) slices_IndexFunc___int_int__L2_ok [] kNil (by kernel_rfl) [] jNil (by kernel_rfl) N fun S k =>
    Eq.trans (b := slices_IndexFunc___int_int__L2.head.raw 1 S (fun S0 => slices_IndexFunc___int_int__d2 N S0 k)) (by kernel_rfl) (congrArg (slices_IndexFunc___int_int__L2.head.raw 1 S) (funext fun S0 => Eq.trans (slices_IndexFunc___int_int__l2_eq N k N (lstC intC (lget S0.tmps 0)) (toI (lget S0.tmps 7)) (toI (lget S0.tmps 8)) (toI (lget (entCs (entAt S0.tab 0)) 0)) (toI (lget (entCs (entAt S0.tab 0)) 1)) (toI (lget (entCs (entAt S0.tab 0)) 2)) (toI (lget (entCs (entAt S0.tab 0)) 3))).symm (by kernel_rfl)))
noncomputable def slices_IndexFunc___int_int__go {R : Type} (N : Nat) (args : List SV) (T : Tab) (kf : SV × Tab → Option R) : Option R :=
  slices_IndexFunc___int_int_ N (lstC intC (lget args 0)) (toI (lget (entCs (entAt T 0)) 0)) (toI (lget (entCs (entAt T 0)) 1)) (toI (lget (entCs (entAt T 0)) 2)) (toI (lget (entCs (entAt T 0)) 3)) (fun q0 => kf (lget [.int .i64 q0] 0, [(0, .blk [.int .i64 (toI (lget (entCs (entAt T 0)) 0)), .int .i64 (toI (lget (entCs (entAt T 0)) 1)), .int .i64 (toI (lget (entCs (entAt T 0)) 2)), .int .i64 (toI (lget (entCs (entAt T 0)) 3))])]))
noncomputable def slices_IndexFunc___int_int__cal {R : Type} (N : Nat) : Cal R := callM (drive_Play_1_cal N) 63 1 slices_IndexFunc___int_int__sp (slices_IndexFunc___int_int__go N)
theorem slices_IndexFunc___int_int__cal_ok {R : Type} (N : Nat) : CalOk E.P (slices_IndexFunc___int_int__cal (R := R) N) :=
  callM_ok hE (drive_Play_1_cal_ok N) (lp := slices_IndexFunc___int_int__lp N) (jn := noJn) (keys := [2]) (kCons (slices_IndexFunc___int_int__k2 N) kNil) (by kernel_rfl) (js := []) jNil (by kernel_rfl) slices_IndexFunc___int_int__sp_ok slices_IndexFunc___int_int__rs_ok (fun args T kf => Eq.trans (slices_IndexFunc___int_int__def N (lstC intC (lget args 0)) (toI (lget (entCs (entAt T 0)) 0)) (toI (lget (entCs (entAt T 0)) 1)) (toI (lget (entCs (entAt T 0)) 2)) (toI (lget (entCs (entAt T 0)) 3)) (fun q0 => kf (lget [.int .i64 q0] 0, [(0, .blk [.int .i64 (toI (lget (entCs (entAt T 0)) 0)), .int .i64 (toI (lget (entCs (entAt T 0)) 1)), .int .i64 (toI (lget (entCs (entAt T 0)) 2)), .int .i64 (toI (lget (entCs (entAt T 0)) 3))])]))) (by kernel_rfl : slices_IndexFunc___int_int__run N args T kf = fnM E (drive_Play_1_cal N) (slices_IndexFunc___int_int__lp N) (noJn) 63 (slices_IndexFunc___int_int__sp.vs args) (slices_IndexFunc___int_int__sp.tab T) 1 (resK slices_IndexFunc___int_int__rs kf)))


def slices_ContainsFunc___int_int__m {R : Type} (N : Nat) (a121 : Arr Int) (a122 : Int) (a123 : Int) (a124 : Int) (a125 : Int) (k : Bool → Option R) : Option R :=
  slices_IndexFunc___int_int_ N a121 a122 a123 a124 a125 (fun r146 =>
  k (decide (r146 ≥ (0 : Int))))
noncomputable def slices_ContainsFunc___int_int_ {R : Type} : Nat → Arr Int → Int → Int → Int → Int → (Bool → Option R) → Option R := lock (@slices_ContainsFunc___int_int__m R)
theorem slices_ContainsFunc___int_int__def {R : Type} (N : Nat) (a121 : Arr Int) (a122 : Int) (a123 : Int) (a124 : Int) (a125 : Int) (k : Bool → Option R) : slices_ContainsFunc___int_int_ N a121 a122 a123 a124 a125 k = slices_ContainsFunc___int_int__m N a121 a122 a123 a124 a125 k := by unfold slices_ContainsFunc___int_int_; rw [lock_eq]
def slices_ContainsFunc___int_int__sp : Sp := ⟨[rSl intC, rFunc 33 0 [rPtr 0 0]], [(0, eBlk [rInt .i64, rInt .i64, rInt .i64, rInt .i64])]⟩
theorem slices_ContainsFunc___int_int__sp_ok : slices_ContainsFunc___int_int__sp.Ok := ⟨(allCons (rSl_ok intC_ok) (allCons (rFunc_ok 33 0 (allCons (rPtr_ok 0 0) allNil)) allNil)), (eCons (eBlk_ok (allCons (rInt_ok .i64) (allCons (rInt_ok .i64) (allCons (rInt_ok .i64) (allCons (rInt_ok .i64) allNil))))) eNil)⟩
def slices_ContainsFunc___int_int__rs : Sp := ⟨[rBool], [(0, eBlk [rInt .i64, rInt .i64, rInt .i64, rInt .i64])]⟩
theorem slices_ContainsFunc___int_int__rs_ok : slices_ContainsFunc___int_int__rs.Ok := ⟨(allCons rBool_ok allNil), (eCons (eBlk_ok (allCons (rInt_ok .i64) (allCons (rInt_ok .i64) (allCons (rInt_ok .i64) (allCons (rInt_ok .i64) allNil))))) eNil)⟩
def slices_ContainsFunc___int_int__run {R : Type} (N : Nat) (args : List SV) (T : Tab) (kf : SV × Tab → Option R) : Option R :=
  slices_ContainsFunc___int_int__m N (lstC intC (lget args 0)) (toI (lget (entCs (entAt T 0)) 0)) (toI (lget (entCs (entAt T 0)) 1)) (toI (lget (entCs (entAt T 0)) 2)) (toI (lget (entCs (entAt T 0)) 3)) (fun q0 => kf (lget [.bool q0] 0, [(0, .blk [.int .i64 (toI (lget (entCs (entAt T 0)) 0)), .int .i64 (toI (lget (entCs (entAt T 0)) 1)), .int .i64 (toI (lget (entCs (entAt T 0)) 2)), .int .i64 (toI (lget (entCs (entAt T 0)) 3))])]))
def slices_ContainsFunc___int_int__lp {R : Type} (N : Nat) : Lp R := fun body S k => Option.none
noncomputable def slices_ContainsFunc___int_int__go {R : Type} (N : Nat) (args : List SV) (T : Tab) (kf : SV × Tab → Option R) : Option R :=
  slices_ContainsFunc___int_int_ N (lstC intC (lget args 0)) (toI (lget (entCs (entAt T 0)) 0)) (toI (lget (entCs (entAt T 0)) 1)) (toI (lget (entCs (entAt T 0)) 2)) (toI (lget (entCs (entAt T 0)) 3)) (fun q0 => kf (lget [.bool q0] 0, [(0, .blk [.int .i64 (toI (lget (entCs (entAt T 0)) 0)), .int .i64 (toI (lget (entCs (entAt T 0)) 1)), .int .i64 (toI (lget (entCs (entAt T 0)) 2)), .int .i64 (toI (lget (entCs (entAt T 0)) 3))])]))
noncomputable def slices_ContainsFunc___int_int__cal {R : Type} (N : Nat) : Cal R := callM (slices_IndexFunc___int_int__cal N) 32 1 slices_ContainsFunc___int_int__sp (slices_ContainsFunc___int_int__go N)
theorem slices_ContainsFunc___int_int__cal_ok {R : Type} (N : Nat) : CalOk E.P (slices_ContainsFunc___int_int__cal (R := R) N) :=
  callM_ok hE (slices_IndexFunc___int_int__cal_ok N) (lp := slices_ContainsFunc___int_int__lp N) (jn := noJn) (keys := []) kNil (by kernel_rfl) (js := []) jNil (by kernel_rfl) slices_ContainsFunc___int_int__sp_ok slices_ContainsFunc___int_int__rs_ok (fun args T kf => Eq.trans (slices_ContainsFunc___int_int__def N (lstC intC (lget args 0)) (toI (lget (entCs (entAt T 0)) 0)) (toI (lget (entCs (entAt T 0)) 1)) (toI (lget (entCs (entAt T 0)) 2)) (toI (lget (entCs (entAt T 0)) 3)) (fun q0 => kf (lget [.bool q0] 0, [(0, .blk [.int .i64 (toI (lget (entCs (entAt T 0)) 0)), .int .i64 (toI (lget (entCs (entAt T 0)) 1)), .int .i64 (toI (lget (entCs (entAt T 0)) 2)), .int .i64 (toI (lget (entCs (entAt T 0)) 3))])]))) (by kernel_rfl : slices_ContainsFunc___int_int__run N args T kf = fnM E (slices_IndexFunc___int_int__cal N) (slices_ContainsFunc___int_int__lp N) (noJn) 32 (slices_ContainsFunc___int_int__sp.vs args) (slices_ContainsFunc___int_int__sp.tab T) 1 (resK slices_ContainsFunc___int_int__rs kf)))

def drive_Play_L9 : LoopSp := ⟨⟨[9, 10, 32, 33, 34], ⟨(dr 9 ((rPtr 0 0) :: (rRow 1) :: (dr 21 ((rSl intC) :: (rInt .i64) :: (rInt .i64) :: (dr 10 []))))), [(0, eBlkC drive_motionC), (1, eRow intC)]⟩, 2⟩, [(some 0, ⟨[10], ⟨(dr 10 ((rRow 0) :: (dr 34 []))), [(0, eRow intC)]⟩, 1⟩)]⟩
theorem drive_Play_L9_ok : drive_Play_L9.Ok := ⟨⟨(drCons 9 (allCons (rPtr_ok 0 0) (allCons (rRow_ok 1) (drCons 21 (allCons (rSl_ok intC_ok) (allCons (rInt_ok .i64) (allCons (rInt_ok .i64) (drCons 10 allNil)))))))), (eCons (eBlkC_ok drive_motionC_ok drive_motionC_len) (eCons (eRow_ok intC_ok) eNil))⟩, (xCons ⟨(drCons 10 (allCons (rRow_ok 0) (drCons 34 allNil))), (eCons (eRow_ok intC_ok) eNil)⟩ xNil)⟩
def drive_Play_h9 (v148 : Arr Int) (v149 : Int) (v150 : Int) (v151 : drive_motion) (v152 : Bool) (v153 : Arr Int) : St := ⟨(un 9 ((.ptr 0 0) :: (.row 1) :: (un 21 ((slC intC v148) :: (.int .i64 v149) :: (.int .i64 v150) :: (un 10 []))))), [(0, .blk (Cod.enc drive_motionC v151)), (1, rowE intC v152 v153)], 2⟩
def drive_Play_x9_0 (q0 : Bool) (q1 : Arr Int) : St := ⟨(un 10 ((.row 0) :: (un 34 []))), [(0, rowE intC q0 q1)], 1⟩
def drive_Play_b9 {R : Type} (N : Nat) (rc : Arr Int → Int → Int → drive_motion → Bool → Arr Int → Option R) (v148 : Arr Int) (v149 : Int) (v150 : Int) (v151 : drive_motion) (v152 : Bool) (v153 : Arr Int) (k0 : Bool → Arr Int → Option R) : Option R :=
  bif decide (v150 < v149) then
   bif decide ((0 : Int) ≤ v150) && decide (v150 < (↑(Arr.n v148) : Int)) then
    drive_motion_with N (Arr.f v148 (Int.toNat v150)) v151 (fun r154 r155 =>
    bif room (Arr.n v153 + (1 : Nat)) then
     rc v148 v149 (w64 (v150 + (1 : Int))) r155 false (lst intC (Arr.n v153 + (1 : Nat)) (catC (Arr.n v153) (Cod.cell intC (Arr.f v153)) (litC [SV.int IntKind.i64 (0 : Int)] [[SV.int IntKind.i64 r154]])))
    else
     Option.none)
   else
    Option.none
  else
   k0 v152 v153
def drive_Play_l9 {R : Type} (N : Nat) : Nat → Arr Int → Int → Int → drive_motion → Bool → Arr Int → (Bool → Arr Int → Option R) → Option R
  | 0, _, _, _, _, _, _, _ => Option.none
  | n + 1, v148, v149, v150, v151, v152, v153, k0 => drive_Play_b9 N (fun v148 v149 v150 v151 v152 v153 => drive_Play_l9 N n v148 v149 v150 v151 v152 v153 k0) v148 v149 v150 v151 v152 v153 k0


def drive_Play_m {R : Type} (N : Nat) (a117 : api_Escalator) (a118 : api_Stop) (a119 : Arr Int) (k : Int → Bool → Arr Int → Option R) : Option R :=
  drive_checkStop N a117 a118 (fun r120 =>
  bif r120 != (0 : Int) then
   k r120 true (lst intC (0 : Nat) (zeroC [SV.int IntKind.i64 (0 : Int)]))
  else
   bif decide ((↑(Arr.n a119) : Int) > (100 : Int)) then
    k (1 : Int) true (lst intC (0 : Nat) (zeroC [SV.int IntKind.i64 (0 : Int)]))
   else
    slices_ContainsFunc___int_int_ N a119 (api_Stop.Speed a118) (api_Span.Low (api_Stop.Loads a118)) (api_Span.High (api_Stop.Loads a118)) (api_Stop.Fail a118) (fun r147 =>
    bif r147 then
     k (1 : Int) true (lst intC (0 : Nat) (zeroC [SV.int IntKind.i64 (0 : Int)]))
    else
     drive_Play_l9 N N a119 ((↑(Arr.n a119) : Int)) (0 : Int) (drive_motion.mk a117 a118 (api_Stop.Speed a118) (0 : Int)) true (lst intC (0 : Nat) (zeroC [SV.int IntKind.i64 (0 : Int)])) (fun r156 r157 =>
      k (0 : Int) r156 r157)))
noncomputable def drive_Play {R : Type} : Nat → api_Escalator → api_Stop → Arr Int → (Int → Bool → Arr Int → Option R) → Option R := lock (@drive_Play_m R)
theorem drive_Play_def {R : Type} (N : Nat) (a117 : api_Escalator) (a118 : api_Stop) (a119 : Arr Int) (k : Int → Bool → Arr Int → Option R) : drive_Play N a117 a118 a119 k = drive_Play_m N a117 a118 a119 k := by unfold drive_Play; rw [lock_eq]
def drive_Play_sp : Sp := ⟨[rAgg api_EscalatorC, rAgg api_StopC, rSl intC], []⟩
theorem drive_Play_sp_ok : drive_Play_sp.Ok := ⟨(allCons (rAgg_ok api_EscalatorC_ok api_EscalatorC_len) (allCons (rAgg_ok api_StopC_ok api_StopC_len) (allCons (rSl_ok intC_ok) allNil))), eNil⟩
def drive_Play_rs : Sp := ⟨[rTup [rRow 0, rInt .i64]], [(0, eRow intC)]⟩
theorem drive_Play_rs_ok : drive_Play_rs.Ok := ⟨(allCons (rTup_ok (allCons (rRow_ok 0) (allCons (rInt_ok .i64) allNil))) allNil), (eCons (eRow_ok intC_ok) eNil)⟩
def drive_Play_run {R : Type} (N : Nat) (args : List SV) (T : Tab) (kf : SV × Tab → Option R) : Option R :=
  drive_Play_m N (Cod.dec api_EscalatorC (lget (toCs (lget args 0)))) (Cod.dec api_StopC (lget (toCs (lget args 1)))) (lstC intC (lget args 2)) (fun q0 q1 q2 => kf (lget [.tup [.row 0, .int .i64 q0]] 0, [(0, rowE intC q1 q2)]))
def drive_Play_d9 {R : Type} (N : Nat) (S0 : St) (k : Exit → St → Option R) : Option R :=
  drive_Play_l9 N N (lstC intC (lget S0.tmps 32)) (toI (lget S0.tmps 33)) (toI (lget S0.tmps 34)) (Cod.dec drive_motionC (lget (entCs (entAt S0.tab 0)))) (entNl (entAt S0.tab 1)) (lst intC (entN (entAt S0.tab 1)) (entC (entAt S0.tab 1))) (fun q0 q1 => k (.exit 0) (drive_Play_x9_0 q0 q1))
def drive_Play_lp {R : Type} (N : Nat) : Lp R := fun body S k => bif (Go.Sx.keyOf body).getD 0 == 9 then (drive_Play_L9.head.raw 0 S (fun S0 => drive_Play_d9 N S0 k)) else Option.none
theorem drive_Play_l9_eq {R : Type} (N : Nat) (k : Exit → St → Option R) (n : Nat) : ∀ (v0 : Arr Int) (v1 : Int) (v2 : Int) (v3 : drive_motion) (v4 : Bool) (v5 : Arr Int), loopM E.Θ (slices_ContainsFunc___int_int__cal N) (drive_Play_lp N) (noJn) 0 drive_Play_L9 (bodyAt E 10 9) n (drive_Play_h9 v0 v1 v2 v3 v4 v5) k = drive_Play_l9 N n v0 v1 v2 v3 v4 v5 (fun q0 q1 => k (.exit 0) (drive_Play_x9_0 q0 q1)) := by
  induction n with
  | zero => intro v0 v1 v2 v3 v4 v5; rfl
  | succ n ih =>
    intro v0 v1 v2 v3 v4 v5
    refine Eq.trans (b := drive_Play_b9 N (fun v0 v1 v2 v3 v4 v5 => loopM E.Θ (slices_ContainsFunc___int_int__cal N) (drive_Play_lp N) (noJn) 0 drive_Play_L9 (bodyAt E 10 9) n (drive_Play_h9 v0 v1 v2 v3 v4 v5) k) v0 v1 v2 v3 v4 v5 (fun q0 q1 => k (.exit 0) (drive_Play_x9_0 q0 q1))) (by kernel_rfl) ?_
    have h : (fun (v0 : Arr Int) (v1 : Int) (v2 : Int) (v3 : drive_motion) (v4 : Bool) (v5 : Arr Int) => loopM E.Θ (slices_ContainsFunc___int_int__cal N) (drive_Play_lp N) (noJn) 0 drive_Play_L9 (bodyAt E 10 9) n (drive_Play_h9 v0 v1 v2 v3 v4 v5) k) = (fun (v0 : Arr Int) (v1 : Int) (v2 : Int) (v3 : drive_motion) (v4 : Bool) (v5 : Arr Int) => drive_Play_l9 N n v0 v1 v2 v3 v4 v5 (fun q0 q1 => k (.exit 0) (drive_Play_x9_0 q0 q1))) := funext fun v0 => funext fun v1 => funext fun v2 => funext fun v3 => funext fun v4 => funext fun v5 => ih v0 v1 v2 v3 v4 v5
    rw [h]
    rfl
theorem drive_Play_k9 {R : Type} (N : Nat) : LpKey (R := R) E 10 0 (drive_Play_lp N) 9 :=
  lpKey_of hE (slices_ContainsFunc___int_int__cal_ok N) (lp := drive_Play_lp N) (jn := noJn) drive_Play_L9_ok [] kNil (by kernel_rfl) [] jNil (by kernel_rfl) N fun S k =>
    Eq.trans (b := drive_Play_L9.head.raw 0 S (fun S0 => drive_Play_d9 N S0 k)) (by kernel_rfl) (congrArg (drive_Play_L9.head.raw 0 S) (funext fun S0 => Eq.trans (drive_Play_l9_eq N k N (lstC intC (lget S0.tmps 32)) (toI (lget S0.tmps 33)) (toI (lget S0.tmps 34)) (Cod.dec drive_motionC (lget (entCs (entAt S0.tab 0)))) (entNl (entAt S0.tab 1)) (lst intC (entN (entAt S0.tab 1)) (entC (entAt S0.tab 1)))).symm (by kernel_rfl)))
noncomputable def drive_Play_go {R : Type} (N : Nat) (args : List SV) (T : Tab) (kf : SV × Tab → Option R) : Option R :=
  drive_Play N (Cod.dec api_EscalatorC (lget (toCs (lget args 0)))) (Cod.dec api_StopC (lget (toCs (lget args 1)))) (lstC intC (lget args 2)) (fun q0 q1 q2 => kf (lget [.tup [.row 0, .int .i64 q0]] 0, [(0, rowE intC q1 q2)]))
noncomputable def drive_Play_cal {R : Type} (N : Nat) : Cal R := callM (slices_ContainsFunc___int_int__cal N) 10 0 drive_Play_sp (drive_Play_go N)
theorem drive_Play_cal_ok {R : Type} (N : Nat) : CalOk E.P (drive_Play_cal (R := R) N) :=
  callM_ok hE (slices_ContainsFunc___int_int__cal_ok N) (lp := drive_Play_lp N) (jn := noJn) (keys := [9]) (kCons (drive_Play_k9 N) kNil) (by kernel_rfl) (js := []) jNil (by kernel_rfl) drive_Play_sp_ok drive_Play_rs_ok (fun args T kf => Eq.trans (drive_Play_def N (Cod.dec api_EscalatorC (lget (toCs (lget args 0)))) (Cod.dec api_StopC (lget (toCs (lget args 1)))) (lstC intC (lget args 2)) (fun q0 q1 q2 => kf (lget [.tup [.row 0, .int .i64 q0]] 0, [(0, rowE intC q1 q2)]))) (by kernel_rfl : drive_Play_run N args T kf = fnM E (slices_ContainsFunc___int_int__cal N) (drive_Play_lp N) (noJn) 10 (drive_Play_sp.vs args) (drive_Play_sp.tab T) 0 (resK drive_Play_rs kf)))

def newelref01_Rest_L4 : LoopSp := ⟨⟨[1, 4, 7], ⟨(dr 1 ((rSl intC) :: (dr 2 ((rInt .i64) :: (dr 2 ((rInt .i64) :: (dr 25 []))))))), []⟩, 0⟩, [(Option.none, ⟨[4, 5, 6], ⟨(dr 4 ((rInt .i64) :: (rInt .i64) :: (rBool) :: (dr 26 []))), []⟩, 0⟩), (some 0, ⟨[1, 4], ⟨(dr 1 ((rSl intC) :: (dr 2 ((rInt .i64) :: (dr 28 []))))), []⟩, 0⟩)]⟩
theorem newelref01_Rest_L4_ok : newelref01_Rest_L4.Ok := ⟨⟨(drCons 1 (allCons (rSl_ok intC_ok) (drCons 2 (allCons (rInt_ok .i64) (drCons 2 (allCons (rInt_ok .i64) (drCons 25 allNil))))))), eNil⟩, (xCons ⟨(drCons 4 (allCons (rInt_ok .i64) (allCons (rInt_ok .i64) (allCons rBool_ok (drCons 26 allNil))))), eNil⟩ (xCons ⟨(drCons 1 (allCons (rSl_ok intC_ok) (drCons 2 (allCons (rInt_ok .i64) (drCons 28 allNil))))), eNil⟩ xNil))⟩
def newelref01_Rest_h4 (v160 : Arr Int) (v161 : Int) (v162 : Int) : St := ⟨(un 1 ((slC intC v160) :: (un 2 ((.int .i64 v161) :: (un 2 ((.int .i64 v162) :: (un 25 []))))))), [], 0⟩
def newelref01_Rest_x4_r (q0 : Int) (q1 : Int) (q2 : Bool) : St := ⟨(un 4 ((.int .i64 q0) :: (.int .i64 q1) :: (.bool q2) :: (un 26 []))), [], 0⟩
def newelref01_Rest_x4_0 (v160 : Arr Int) (q1 : Int) : St := ⟨(un 1 ((slC intC v160) :: (un 2 ((.int .i64 q1) :: (un 28 []))))), [], 0⟩
def newelref01_Rest_b4 {R : Type} (N : Nat) (rc : Arr Int → Int → Int → Option R) (v160 : Arr Int) (v161 : Int) (v162 : Int) (kr : Int → Int → Bool → Option R) (k0 : Int → Option R) : Option R :=
  bif decide (v162 < (↑(Arr.n v160) : Int)) then
   bif decide ((0 : Int) ≤ v162) && decide (v162 < (↑(Arr.n v160) : Int)) then
    bif decide ((0 : Int) ≤ v162) && decide (v162 < (↑(Arr.n v160) : Int)) then
     bif Arr.f v160 (Int.toNat v162) == (0 : Int) then
      kr (w64 (v161 + Arr.f v160 (Int.toNat v162))) (w64 (v162 + (1 : Int))) true
     else
      rc v160 (w64 (v161 + Arr.f v160 (Int.toNat v162))) (w64 (v162 + (1 : Int)))
    else
     Option.none
   else
    Option.none
  else
   k0 v161
def newelref01_Rest_l4 {R : Type} (N : Nat) : Nat → Arr Int → Int → Int → (Int → Int → Bool → Option R) → (Int → Option R) → Option R
  | 0, _, _, _, _, _ => Option.none
  | n + 1, v160, v161, v162, kr, k0 => newelref01_Rest_b4 N (fun v160 v161 v162 => newelref01_Rest_l4 N n v160 v161 v162 kr k0) v160 v161 v162 kr k0


def newelref01_Rest_m {R : Type} (N : Nat) (a158 : Int) (a159 : Arr Int) (k : Int → Int → Bool → Option R) : Option R :=
  bif a158 == (0 : Int) then
   k (0 : Int) (0 : Int) true
  else
   newelref01_Rest_l4 N N a159 (0 : Int) (0 : Int) (fun r163 r164 r165 =>
    k r163 r164 r165) (fun r166 =>
    k r166 ((↑(Arr.n a159) : Int)) false)
noncomputable def newelref01_Rest {R : Type} : Nat → Int → Arr Int → (Int → Int → Bool → Option R) → Option R := lock (@newelref01_Rest_m R)
theorem newelref01_Rest_def {R : Type} (N : Nat) (a158 : Int) (a159 : Arr Int) (k : Int → Int → Bool → Option R) : newelref01_Rest N a158 a159 k = newelref01_Rest_m N a158 a159 k := by unfold newelref01_Rest; rw [lock_eq]
def newelref01_Rest_sp : Sp := ⟨[rInt .i64, rSl intC], []⟩
theorem newelref01_Rest_sp_ok : newelref01_Rest_sp.Ok := ⟨(allCons (rInt_ok .i64) (allCons (rSl_ok intC_ok) allNil)), eNil⟩
def newelref01_Rest_rs : Sp := ⟨[rTup [rInt .i64, rInt .i64, rBool]], []⟩
theorem newelref01_Rest_rs_ok : newelref01_Rest_rs.Ok := ⟨(allCons (rTup_ok (allCons (rInt_ok .i64) (allCons (rInt_ok .i64) (allCons rBool_ok allNil)))) allNil), eNil⟩
def newelref01_Rest_run {R : Type} (N : Nat) (args : List SV) (T : Tab) (kf : SV × Tab → Option R) : Option R :=
  newelref01_Rest_m N (toI (lget args 0)) (lstC intC (lget args 1)) (fun q0 q1 q2 => kf (lget [.tup [.int .i64 q0, .int .i64 q1, .bool q2]] 0, []))
def newelref01_Rest_d4 {R : Type} (N : Nat) (S0 : St) (k : Exit → St → Option R) : Option R :=
  newelref01_Rest_l4 N N (lstC intC (lget S0.tmps 1)) (toI (lget S0.tmps 4)) (toI (lget S0.tmps 7)) (fun q0 q1 q2 => k .ret (newelref01_Rest_x4_r q0 q1 q2)) (fun q1 => k (.exit 0) (newelref01_Rest_x4_0 (lstC intC (lget S0.tmps 1)) q1))
def newelref01_Rest_lp {R : Type} (N : Nat) : Lp R := fun body S k => bif (Go.Sx.keyOf body).getD 0 == 4 then (newelref01_Rest_L4.head.raw 0 S (fun S0 => newelref01_Rest_d4 N S0 k)) else Option.none
theorem newelref01_Rest_l4_eq {R : Type} (N : Nat) (k : Exit → St → Option R) (n : Nat) : ∀ (v0 : Arr Int) (v1 : Int) (v2 : Int), loopM E.Θ (drive_Play_cal N) (newelref01_Rest_lp N) (noJn) 0 newelref01_Rest_L4 (bodyAt E 11 4) n (newelref01_Rest_h4 v0 v1 v2) k = newelref01_Rest_l4 N n v0 v1 v2 (fun q0 q1 q2 => k .ret (newelref01_Rest_x4_r q0 q1 q2)) (fun q1 => k (.exit 0) (newelref01_Rest_x4_0 v0 q1)) := by
  induction n with
  | zero => intro v0 v1 v2; rfl
  | succ n ih =>
    intro v0 v1 v2
    refine Eq.trans (b := newelref01_Rest_b4 N (fun v0 v1 v2 => loopM E.Θ (drive_Play_cal N) (newelref01_Rest_lp N) (noJn) 0 newelref01_Rest_L4 (bodyAt E 11 4) n (newelref01_Rest_h4 v0 v1 v2) k) v0 v1 v2 (fun q0 q1 q2 => k .ret (newelref01_Rest_x4_r q0 q1 q2)) (fun q1 => k (.exit 0) (newelref01_Rest_x4_0 v0 q1))) (by kernel_rfl) ?_
    have h : (fun (v0 : Arr Int) (v1 : Int) (v2 : Int) => loopM E.Θ (drive_Play_cal N) (newelref01_Rest_lp N) (noJn) 0 newelref01_Rest_L4 (bodyAt E 11 4) n (newelref01_Rest_h4 v0 v1 v2) k) = (fun (v0 : Arr Int) (v1 : Int) (v2 : Int) => newelref01_Rest_l4 N n v0 v1 v2 (fun q0 q1 q2 => k .ret (newelref01_Rest_x4_r q0 q1 q2)) (fun q1 => k (.exit 0) (newelref01_Rest_x4_0 v0 q1))) := funext fun v0 => funext fun v1 => funext fun v2 => ih v0 v1 v2
    rw [h]
    rfl
theorem newelref01_Rest_k4 {R : Type} (N : Nat) : LpKey (R := R) E 11 0 (newelref01_Rest_lp N) 4 :=
  lpKey_of hE (drive_Play_cal_ok N) (lp := newelref01_Rest_lp N) (jn := noJn) newelref01_Rest_L4_ok [] kNil (by kernel_rfl) [] jNil (by kernel_rfl) N fun S k =>
    Eq.trans (b := newelref01_Rest_L4.head.raw 0 S (fun S0 => newelref01_Rest_d4 N S0 k)) (by kernel_rfl) (congrArg (newelref01_Rest_L4.head.raw 0 S) (funext fun S0 => Eq.trans (newelref01_Rest_l4_eq N k N (lstC intC (lget S0.tmps 1)) (toI (lget S0.tmps 4)) (toI (lget S0.tmps 7))).symm (by kernel_rfl)))
noncomputable def newelref01_Rest_go {R : Type} (N : Nat) (args : List SV) (T : Tab) (kf : SV × Tab → Option R) : Option R :=
  newelref01_Rest N (toI (lget args 0)) (lstC intC (lget args 1)) (fun q0 q1 q2 => kf (lget [.tup [.int .i64 q0, .int .i64 q1, .bool q2]] 0, []))
noncomputable def newelref01_Rest_cal {R : Type} (N : Nat) : Cal R := callM (drive_Play_cal N) 11 0 newelref01_Rest_sp (newelref01_Rest_go N)
theorem newelref01_Rest_cal_ok {R : Type} (N : Nat) : CalOk E.P (newelref01_Rest_cal (R := R) N) :=
  callM_ok hE (drive_Play_cal_ok N) (lp := newelref01_Rest_lp N) (jn := noJn) (keys := [4]) (kCons (newelref01_Rest_k4 N) kNil) (by kernel_rfl) (js := []) jNil (by kernel_rfl) newelref01_Rest_sp_ok newelref01_Rest_rs_ok (fun args T kf => Eq.trans (newelref01_Rest_def N (toI (lget args 0)) (lstC intC (lget args 1)) (fun q0 q1 q2 => kf (lget [.tup [.int .i64 q0, .int .i64 q1, .bool q2]] 0, []))) (by kernel_rfl : newelref01_Rest_run N args T kf = fnM E (drive_Play_cal N) (newelref01_Rest_lp N) (noJn) 11 (newelref01_Rest_sp.vs args) (newelref01_Rest_sp.tab T) 0 (resK newelref01_Rest_rs kf)))


def newelref10_from_m {R : Type} (N : Nat) (a172 : Int) (a173 : Int) (a174 : Int) (k : Bool → Option R) : Option R :=
  bif decide (a172 ≥ a173) then
   k (decide (a172 ≤ a174))
  else
   k false
noncomputable def newelref10_from {R : Type} : Nat → Int → Int → Int → (Bool → Option R) → Option R := lock (@newelref10_from_m R)
theorem newelref10_from_def {R : Type} (N : Nat) (a172 : Int) (a173 : Int) (a174 : Int) (k : Bool → Option R) : newelref10_from N a172 a173 a174 k = newelref10_from_m N a172 a173 a174 k := by unfold newelref10_from; rw [lock_eq]
def newelref10_from_sp : Sp := ⟨[rInt .i64, rInt .i64, rInt .i64], []⟩
theorem newelref10_from_sp_ok : newelref10_from_sp.Ok := ⟨(allCons (rInt_ok .i64) (allCons (rInt_ok .i64) (allCons (rInt_ok .i64) allNil))), eNil⟩
def newelref10_from_rs : Sp := ⟨[rBool], []⟩
theorem newelref10_from_rs_ok : newelref10_from_rs.Ok := ⟨(allCons rBool_ok allNil), eNil⟩
def newelref10_from_run {R : Type} (N : Nat) (args : List SV) (T : Tab) (kf : SV × Tab → Option R) : Option R :=
  newelref10_from_m N (toI (lget args 0)) (toI (lget args 1)) (toI (lget args 2)) (fun q0 => kf (lget [.bool q0] 0, []))
def newelref10_from_lp {R : Type} (N : Nat) : Lp R := fun body S k => Option.none
noncomputable def newelref10_from_go {R : Type} (N : Nat) (args : List SV) (T : Tab) (kf : SV × Tab → Option R) : Option R :=
  newelref10_from N (toI (lget args 0)) (toI (lget args 1)) (toI (lget args 2)) (fun q0 => kf (lget [.bool q0] 0, []))
noncomputable def newelref10_from_cal {R : Type} (N : Nat) : Cal R := callM (newelref01_Rest_cal N) 66 0 newelref10_from_sp (newelref10_from_go N)
theorem newelref10_from_cal_ok {R : Type} (N : Nat) : CalOk E.P (newelref10_from_cal (R := R) N) :=
  callM_ok hE (newelref01_Rest_cal_ok N) (lp := newelref10_from_lp N) (jn := noJn) (keys := []) kNil (by kernel_rfl) (js := []) jNil (by kernel_rfl) newelref10_from_sp_ok newelref10_from_rs_ok (fun args T kf => Eq.trans (newelref10_from_def N (toI (lget args 0)) (toI (lget args 1)) (toI (lget args 2)) (fun q0 => kf (lget [.bool q0] 0, []))) (by kernel_rfl : newelref10_from_run N args T kf = fnM E (newelref01_Rest_cal N) (newelref10_from_lp N) (noJn) 66 (newelref10_from_sp.vs args) (newelref10_from_sp.tab T) 0 (resK newelref10_from_rs kf)))

def newelref10_Check_L4 : LoopSp := ⟨⟨[0, 3], ⟨((rSl api_ReadingC) :: (dr 2 ((rInt .i64) :: (dr 43 [])))), []⟩, 0⟩, [(Option.none, ⟨[2], ⟨(dr 2 ((rInt .i64) :: (dr 44 []))), []⟩, 0⟩), (some 0, ⟨[], ⟨(dr 47 []), []⟩, 0⟩)]⟩
theorem newelref10_Check_L4_ok : newelref10_Check_L4.Ok := ⟨⟨(allCons (rSl_ok api_ReadingC_ok) (drCons 2 (allCons (rInt_ok .i64) (drCons 43 allNil)))), eNil⟩, (xCons ⟨(drCons 2 (allCons (rInt_ok .i64) (drCons 44 allNil))), eNil⟩ (xCons ⟨(drCons 47 allNil), eNil⟩ xNil))⟩
def newelref10_Check_h4 (v170 : Arr api_Reading) (v171 : Int) : St := ⟨((slC api_ReadingC v170) :: (un 2 ((.int .i64 v171) :: (un 43 [])))), [], 0⟩
def newelref10_Check_x4_r (q0 : Int) : St := ⟨(un 2 ((.int .i64 q0) :: (un 44 []))), [], 0⟩
def newelref10_Check_x4_0  : St := ⟨(un 47 []), [], 0⟩
def newelref10_Check_b4 {R : Type} (N : Nat) (rc : Arr api_Reading → Int → Option R) (v170 : Arr api_Reading) (v171 : Int) (kr : Int → Option R) (k0 : Unit → Option R) : Option R :=
  bif decide (v171 < (↑(Arr.n v170) : Int)) then
   bif decide ((0 : Int) ≤ v171) && decide (v171 < (↑(Arr.n v170) : Int)) then
    newelref10_from N (api_Reading.Says (Arr.f v170 (Int.toNat v171))) (-100000 : Int) (100000 : Int) (fun r175 =>
    bif !r175 then
     kr (100 : Int)
    else
     bif decide ((0 : Int) ≤ v171) && decide (v171 < (↑(Arr.n v170) : Int)) then
      newelref10_from N (api_Reading.Error (Arr.f v170 (Int.toNat v171))) (0 : Int) (1000 : Int) (fun r176 =>
      bif !r176 then
       kr (100 : Int)
      else
       bif decide ((0 : Int) ≤ v171) && decide (v171 < (↑(Arr.n v170) : Int)) then
        newelref10_from N (api_Reading.Drift (Arr.f v170 (Int.toNat v171))) (0 : Int) (1000 : Int) (fun r177 =>
        bif !r177 then
         kr (100 : Int)
        else
         bif decide ((0 : Int) ≤ v171) && decide (v171 < (↑(Arr.n v170) : Int)) then
          newelref10_from N (api_Reading.Days (Arr.f v170 (Int.toNat v171))) (0 : Int) (1000 : Int) (fun r178 =>
          bif !r178 then
           kr (100 : Int)
          else
           rc v170 (w64 (v171 + (1 : Int))))
         else
          Option.none)
       else
        Option.none)
     else
      Option.none)
   else
    Option.none
  else
   k0 ()
def newelref10_Check_l4 {R : Type} (N : Nat) : Nat → Arr api_Reading → Int → (Int → Option R) → (Unit → Option R) → Option R
  | 0, _, _, _, _ => Option.none
  | n + 1, v170, v171, kr, k0 => newelref10_Check_b4 N (fun v170 v171 => newelref10_Check_l4 N n v170 v171 kr k0) v170 v171 kr k0


def newelref10_Check_m {R : Type} (N : Nat) (a169 : Arr api_Reading) (k : Int → Option R) : Option R :=
  bif decide ((↑(Arr.n a169) : Int) > (12 : Int)) then
   k (2 : Int)
  else
   newelref10_Check_l4 N N a169 (0 : Int) (fun r179 =>
    k r179) (fun (_ : Unit) =>
    k (0 : Int))
noncomputable def newelref10_Check {R : Type} : Nat → Arr api_Reading → (Int → Option R) → Option R := lock (@newelref10_Check_m R)
theorem newelref10_Check_def {R : Type} (N : Nat) (a169 : Arr api_Reading) (k : Int → Option R) : newelref10_Check N a169 k = newelref10_Check_m N a169 k := by unfold newelref10_Check; rw [lock_eq]
def newelref10_Check_sp : Sp := ⟨[rSl api_ReadingC], []⟩
theorem newelref10_Check_sp_ok : newelref10_Check_sp.Ok := ⟨(allCons (rSl_ok api_ReadingC_ok) allNil), eNil⟩
def newelref10_Check_rs : Sp := ⟨[rInt .i64], []⟩
theorem newelref10_Check_rs_ok : newelref10_Check_rs.Ok := ⟨(allCons (rInt_ok .i64) allNil), eNil⟩
def newelref10_Check_run {R : Type} (N : Nat) (args : List SV) (T : Tab) (kf : SV × Tab → Option R) : Option R :=
  newelref10_Check_m N (lstC api_ReadingC (lget args 0)) (fun q0 => kf (lget [.int .i64 q0] 0, []))
def newelref10_Check_d4 {R : Type} (N : Nat) (S0 : St) (k : Exit → St → Option R) : Option R :=
  newelref10_Check_l4 N N (lstC api_ReadingC (lget S0.tmps 0)) (toI (lget S0.tmps 3)) (fun q0 => k .ret (newelref10_Check_x4_r q0)) (fun (_ : Unit) => k (.exit 0) (newelref10_Check_x4_0 ))
def newelref10_Check_lp {R : Type} (N : Nat) : Lp R := fun body S k => bif (Go.Sx.keyOf body).getD 0 == 4 then (newelref10_Check_L4.head.raw 0 S (fun S0 => newelref10_Check_d4 N S0 k)) else Option.none
theorem newelref10_Check_l4_eq {R : Type} (N : Nat) (k : Exit → St → Option R) (n : Nat) : ∀ (v0 : Arr api_Reading) (v1 : Int), loopM E.Θ (newelref10_from_cal N) (newelref10_Check_lp N) (noJn) 0 newelref10_Check_L4 (bodyAt E 36 4) n (newelref10_Check_h4 v0 v1) k = newelref10_Check_l4 N n v0 v1 (fun q0 => k .ret (newelref10_Check_x4_r q0)) (fun (_ : Unit) => k (.exit 0) (newelref10_Check_x4_0 )) := by
  induction n with
  | zero => intro v0 v1; rfl
  | succ n ih =>
    intro v0 v1
    refine Eq.trans (b := newelref10_Check_b4 N (fun v0 v1 => loopM E.Θ (newelref10_from_cal N) (newelref10_Check_lp N) (noJn) 0 newelref10_Check_L4 (bodyAt E 36 4) n (newelref10_Check_h4 v0 v1) k) v0 v1 (fun q0 => k .ret (newelref10_Check_x4_r q0)) (fun (_ : Unit) => k (.exit 0) (newelref10_Check_x4_0 ))) (by kernel_rfl) ?_
    have h : (fun (v0 : Arr api_Reading) (v1 : Int) => loopM E.Θ (newelref10_from_cal N) (newelref10_Check_lp N) (noJn) 0 newelref10_Check_L4 (bodyAt E 36 4) n (newelref10_Check_h4 v0 v1) k) = (fun (v0 : Arr api_Reading) (v1 : Int) => newelref10_Check_l4 N n v0 v1 (fun q0 => k .ret (newelref10_Check_x4_r q0)) (fun (_ : Unit) => k (.exit 0) (newelref10_Check_x4_0 ))) := funext fun v0 => funext fun v1 => ih v0 v1
    rw [h]
    rfl
theorem newelref10_Check_k4 {R : Type} (N : Nat) : LpKey (R := R) E 36 0 (newelref10_Check_lp N) 4 :=
  lpKey_of hE (newelref10_from_cal_ok N) (lp := newelref10_Check_lp N) (jn := noJn) newelref10_Check_L4_ok [] kNil (by kernel_rfl) [] jNil (by kernel_rfl) N fun S k =>
    Eq.trans (b := newelref10_Check_L4.head.raw 0 S (fun S0 => newelref10_Check_d4 N S0 k)) (by kernel_rfl) (congrArg (newelref10_Check_L4.head.raw 0 S) (funext fun S0 => Eq.trans (newelref10_Check_l4_eq N k N (lstC api_ReadingC (lget S0.tmps 0)) (toI (lget S0.tmps 3))).symm (by kernel_rfl)))
noncomputable def newelref10_Check_go {R : Type} (N : Nat) (args : List SV) (T : Tab) (kf : SV × Tab → Option R) : Option R :=
  newelref10_Check N (lstC api_ReadingC (lget args 0)) (fun q0 => kf (lget [.int .i64 q0] 0, []))
noncomputable def newelref10_Check_cal {R : Type} (N : Nat) : Cal R := callM (newelref10_from_cal N) 36 0 newelref10_Check_sp (newelref10_Check_go N)
theorem newelref10_Check_cal_ok {R : Type} (N : Nat) : CalOk E.P (newelref10_Check_cal (R := R) N) :=
  callM_ok hE (newelref10_from_cal_ok N) (lp := newelref10_Check_lp N) (jn := noJn) (keys := [4]) (kCons (newelref10_Check_k4 N) kNil) (by kernel_rfl) (js := []) jNil (by kernel_rfl) newelref10_Check_sp_ok newelref10_Check_rs_ok (fun args T kf => Eq.trans (newelref10_Check_def N (lstC api_ReadingC (lget args 0)) (fun q0 => kf (lget [.int .i64 q0] 0, []))) (by kernel_rfl : newelref10_Check_run N args T kf = fnM E (newelref10_from_cal N) (newelref10_Check_lp N) (noJn) 36 (newelref10_Check_sp.vs args) (newelref10_Check_sp.tab T) 0 (resK newelref10_Check_rs kf)))


def newelref10_Allows_m {R : Type} (N : Nat) (a184 : api_Reading) (k : api_Span → Option R) : Option R :=
  k (api_Span.mk (w64 (api_Reading.Says a184 - w64 (api_Reading.Error a184 + w64 (api_Reading.Drift a184 * api_Reading.Days a184)))) (w64 (api_Reading.Says a184 + w64 (api_Reading.Error a184 + w64 (api_Reading.Drift a184 * api_Reading.Days a184)))))
noncomputable def newelref10_Allows {R : Type} : Nat → api_Reading → (api_Span → Option R) → Option R := lock (@newelref10_Allows_m R)
theorem newelref10_Allows_def {R : Type} (N : Nat) (a184 : api_Reading) (k : api_Span → Option R) : newelref10_Allows N a184 k = newelref10_Allows_m N a184 k := by unfold newelref10_Allows; rw [lock_eq]
def newelref10_Allows_sp : Sp := ⟨[rAgg api_ReadingC], []⟩
theorem newelref10_Allows_sp_ok : newelref10_Allows_sp.Ok := ⟨(allCons (rAgg_ok api_ReadingC_ok api_ReadingC_len) allNil), eNil⟩
def newelref10_Allows_rs : Sp := ⟨[rAgg api_SpanC], []⟩
theorem newelref10_Allows_rs_ok : newelref10_Allows_rs.Ok := ⟨(allCons (rAgg_ok api_SpanC_ok api_SpanC_len) allNil), eNil⟩
def newelref10_Allows_run {R : Type} (N : Nat) (args : List SV) (T : Tab) (kf : SV × Tab → Option R) : Option R :=
  newelref10_Allows_m N (Cod.dec api_ReadingC (lget (toCs (lget args 0)))) (fun q0 => kf (lget [.agg (Cod.enc api_SpanC q0)] 0, []))
def newelref10_Allows_lp {R : Type} (N : Nat) : Lp R := fun body S k => Option.none
noncomputable def newelref10_Allows_go {R : Type} (N : Nat) (args : List SV) (T : Tab) (kf : SV × Tab → Option R) : Option R :=
  newelref10_Allows N (Cod.dec api_ReadingC (lget (toCs (lget args 0)))) (fun q0 => kf (lget [.agg (Cod.enc api_SpanC q0)] 0, []))
noncomputable def newelref10_Allows_cal {R : Type} (N : Nat) : Cal R := callM (newelref10_Check_cal N) 37 0 newelref10_Allows_sp (newelref10_Allows_go N)
theorem newelref10_Allows_cal_ok {R : Type} (N : Nat) : CalOk E.P (newelref10_Allows_cal (R := R) N) :=
  callM_ok hE (newelref10_Check_cal_ok N) (lp := newelref10_Allows_lp N) (jn := noJn) (keys := []) kNil (by kernel_rfl) (js := []) jNil (by kernel_rfl) newelref10_Allows_sp_ok newelref10_Allows_rs_ok (fun args T kf => Eq.trans (newelref10_Allows_def N (Cod.dec api_ReadingC (lget (toCs (lget args 0)))) (fun q0 => kf (lget [.agg (Cod.enc api_SpanC q0)] 0, []))) (by kernel_rfl : newelref10_Allows_run N args T kf = fnM E (newelref10_Check_cal N) (newelref10_Allows_lp N) (noJn) 37 (newelref10_Allows_sp.vs args) (newelref10_Allows_sp.tab T) 0 (resK newelref10_Allows_rs kf)))

def neweltop_allow_L4 : LoopSp := ⟨⟨[0, 1, 5], ⟨((rSl api_ReadingC) :: (rInt .i64) :: (dr 3 ((rInt .i64) :: (dr 35 [])))), []⟩, 0⟩, [(Option.none, ⟨[4], ⟨(dr 4 ((rBool) :: (dr 36 []))), []⟩, 0⟩), (some 0, ⟨[], ⟨(dr 41 []), []⟩, 0⟩)]⟩
theorem neweltop_allow_L4_ok : neweltop_allow_L4.Ok := ⟨⟨(allCons (rSl_ok api_ReadingC_ok) (allCons (rInt_ok .i64) (drCons 3 (allCons (rInt_ok .i64) (drCons 35 allNil))))), eNil⟩, (xCons ⟨(drCons 4 (allCons rBool_ok (drCons 36 allNil))), eNil⟩ (xCons ⟨(drCons 41 allNil), eNil⟩ xNil))⟩
def neweltop_allow_h4 (v181 : Arr api_Reading) (v182 : Int) (v183 : Int) : St := ⟨((slC api_ReadingC v181) :: (.int .i64 v182) :: (un 3 ((.int .i64 v183) :: (un 35 [])))), [], 0⟩
def neweltop_allow_x4_r (q0 : Bool) : St := ⟨(un 4 ((.bool q0) :: (un 36 []))), [], 0⟩
def neweltop_allow_x4_0  : St := ⟨(un 41 []), [], 0⟩
def neweltop_allow_b4 {R : Type} (N : Nat) (rc : Arr api_Reading → Int → Int → Option R) (v181 : Arr api_Reading) (v182 : Int) (v183 : Int) (kr : Bool → Option R) (k0 : Unit → Option R) : Option R :=
  bif decide (v183 < (↑(Arr.n v181) : Int)) then
   bif decide ((0 : Int) ≤ v183) && decide (v183 < (↑(Arr.n v181) : Int)) then
    newelref10_Allows N (Arr.f v181 (Int.toNat v183)) (fun r185 =>
    bif decide (v182 < api_Span.Low r185) then
     kr false
    else
     bif decide (v182 > api_Span.High r185) then
      kr false
     else
      rc v181 v182 (w64 (v183 + (1 : Int))))
   else
    Option.none
  else
   k0 ()
def neweltop_allow_l4 {R : Type} (N : Nat) : Nat → Arr api_Reading → Int → Int → (Bool → Option R) → (Unit → Option R) → Option R
  | 0, _, _, _, _, _ => Option.none
  | n + 1, v181, v182, v183, kr, k0 => neweltop_allow_b4 N (fun v181 v182 v183 => neweltop_allow_l4 N n v181 v182 v183 kr k0) v181 v182 v183 kr k0


def neweltop_allow_m {R : Type} (N : Nat) (a167 : Arr api_Reading) (a168 : Int) (k : Bool → Option R) : Option R :=
  bif (↑(Arr.n a167) : Int) == (0 : Int) then
   k false
  else
   bif decide ((↑(Arr.n a167) : Int) > (8 : Int)) then
    k false
   else
    newelref10_Check N a167 (fun r180 =>
    bif r180 != (0 : Int) then
     k false
    else
     neweltop_allow_l4 N N a167 a168 (0 : Int) (fun r186 =>
      k r186) (fun (_ : Unit) =>
      k true))
noncomputable def neweltop_allow {R : Type} : Nat → Arr api_Reading → Int → (Bool → Option R) → Option R := lock (@neweltop_allow_m R)
theorem neweltop_allow_def {R : Type} (N : Nat) (a167 : Arr api_Reading) (a168 : Int) (k : Bool → Option R) : neweltop_allow N a167 a168 k = neweltop_allow_m N a167 a168 k := by unfold neweltop_allow; rw [lock_eq]
def neweltop_allow_sp : Sp := ⟨[rSl api_ReadingC, rInt .i64], []⟩
theorem neweltop_allow_sp_ok : neweltop_allow_sp.Ok := ⟨(allCons (rSl_ok api_ReadingC_ok) (allCons (rInt_ok .i64) allNil)), eNil⟩
def neweltop_allow_rs : Sp := ⟨[rBool], []⟩
theorem neweltop_allow_rs_ok : neweltop_allow_rs.Ok := ⟨(allCons rBool_ok allNil), eNil⟩
def neweltop_allow_run {R : Type} (N : Nat) (args : List SV) (T : Tab) (kf : SV × Tab → Option R) : Option R :=
  neweltop_allow_m N (lstC api_ReadingC (lget args 0)) (toI (lget args 1)) (fun q0 => kf (lget [.bool q0] 0, []))
def neweltop_allow_d4 {R : Type} (N : Nat) (S0 : St) (k : Exit → St → Option R) : Option R :=
  neweltop_allow_l4 N N (lstC api_ReadingC (lget S0.tmps 0)) (toI (lget S0.tmps 1)) (toI (lget S0.tmps 5)) (fun q0 => k .ret (neweltop_allow_x4_r q0)) (fun (_ : Unit) => k (.exit 0) (neweltop_allow_x4_0 ))
def neweltop_allow_lp {R : Type} (N : Nat) : Lp R := fun body S k => bif (Go.Sx.keyOf body).getD 0 == 4 then (neweltop_allow_L4.head.raw 0 S (fun S0 => neweltop_allow_d4 N S0 k)) else Option.none
theorem neweltop_allow_l4_eq {R : Type} (N : Nat) (k : Exit → St → Option R) (n : Nat) : ∀ (v0 : Arr api_Reading) (v1 : Int) (v2 : Int), loopM E.Θ (newelref10_Allows_cal N) (neweltop_allow_lp N) (noJn) 0 neweltop_allow_L4 (bodyAt E 12 4) n (neweltop_allow_h4 v0 v1 v2) k = neweltop_allow_l4 N n v0 v1 v2 (fun q0 => k .ret (neweltop_allow_x4_r q0)) (fun (_ : Unit) => k (.exit 0) (neweltop_allow_x4_0 )) := by
  induction n with
  | zero => intro v0 v1 v2; rfl
  | succ n ih =>
    intro v0 v1 v2
    refine Eq.trans (b := neweltop_allow_b4 N (fun v0 v1 v2 => loopM E.Θ (newelref10_Allows_cal N) (neweltop_allow_lp N) (noJn) 0 neweltop_allow_L4 (bodyAt E 12 4) n (neweltop_allow_h4 v0 v1 v2) k) v0 v1 v2 (fun q0 => k .ret (neweltop_allow_x4_r q0)) (fun (_ : Unit) => k (.exit 0) (neweltop_allow_x4_0 ))) (by kernel_rfl) ?_
    have h : (fun (v0 : Arr api_Reading) (v1 : Int) (v2 : Int) => loopM E.Θ (newelref10_Allows_cal N) (neweltop_allow_lp N) (noJn) 0 neweltop_allow_L4 (bodyAt E 12 4) n (neweltop_allow_h4 v0 v1 v2) k) = (fun (v0 : Arr api_Reading) (v1 : Int) (v2 : Int) => neweltop_allow_l4 N n v0 v1 v2 (fun q0 => k .ret (neweltop_allow_x4_r q0)) (fun (_ : Unit) => k (.exit 0) (neweltop_allow_x4_0 ))) := funext fun v0 => funext fun v1 => funext fun v2 => ih v0 v1 v2
    rw [h]
    rfl
theorem neweltop_allow_k4 {R : Type} (N : Nat) : LpKey (R := R) E 12 0 (neweltop_allow_lp N) 4 :=
  lpKey_of hE (newelref10_Allows_cal_ok N) (lp := neweltop_allow_lp N) (jn := noJn) neweltop_allow_L4_ok [] kNil (by kernel_rfl) [] jNil (by kernel_rfl) N fun S k =>
    Eq.trans (b := neweltop_allow_L4.head.raw 0 S (fun S0 => neweltop_allow_d4 N S0 k)) (by kernel_rfl) (congrArg (neweltop_allow_L4.head.raw 0 S) (funext fun S0 => Eq.trans (neweltop_allow_l4_eq N k N (lstC api_ReadingC (lget S0.tmps 0)) (toI (lget S0.tmps 1)) (toI (lget S0.tmps 5))).symm (by kernel_rfl)))
noncomputable def neweltop_allow_go {R : Type} (N : Nat) (args : List SV) (T : Tab) (kf : SV × Tab → Option R) : Option R :=
  neweltop_allow N (lstC api_ReadingC (lget args 0)) (toI (lget args 1)) (fun q0 => kf (lget [.bool q0] 0, []))
noncomputable def neweltop_allow_cal {R : Type} (N : Nat) : Cal R := callM (newelref10_Allows_cal N) 12 0 neweltop_allow_sp (neweltop_allow_go N)
theorem neweltop_allow_cal_ok {R : Type} (N : Nat) : CalOk E.P (neweltop_allow_cal (R := R) N) :=
  callM_ok hE (newelref10_Allows_cal_ok N) (lp := neweltop_allow_lp N) (jn := noJn) (keys := [4]) (kCons (neweltop_allow_k4 N) kNil) (by kernel_rfl) (js := []) jNil (by kernel_rfl) neweltop_allow_sp_ok neweltop_allow_rs_ok (fun args T kf => Eq.trans (neweltop_allow_def N (lstC api_ReadingC (lget args 0)) (toI (lget args 1)) (fun q0 => kf (lget [.bool q0] 0, []))) (by kernel_rfl : neweltop_allow_run N args T kf = fnM E (newelref10_Allows_cal N) (neweltop_allow_lp N) (noJn) 12 (neweltop_allow_sp.vs args) (neweltop_allow_sp.tab T) 0 (resK neweltop_allow_rs kf)))


def faults_within_m {R : Type} (N : Nat) (a192 : Int) (a193 : Int) (a194 : Int) (k : Bool → Option R) : Option R :=
  bif decide (a192 ≥ a193) then
   k (decide (a192 ≤ a194))
  else
   k false
noncomputable def faults_within {R : Type} : Nat → Int → Int → Int → (Bool → Option R) → Option R := lock (@faults_within_m R)
theorem faults_within_def {R : Type} (N : Nat) (a192 : Int) (a193 : Int) (a194 : Int) (k : Bool → Option R) : faults_within N a192 a193 a194 k = faults_within_m N a192 a193 a194 k := by unfold faults_within; rw [lock_eq]
def faults_within_sp : Sp := ⟨[rInt .i64, rInt .i64, rInt .i64], []⟩
theorem faults_within_sp_ok : faults_within_sp.Ok := ⟨(allCons (rInt_ok .i64) (allCons (rInt_ok .i64) (allCons (rInt_ok .i64) allNil))), eNil⟩
def faults_within_rs : Sp := ⟨[rBool], []⟩
theorem faults_within_rs_ok : faults_within_rs.Ok := ⟨(allCons rBool_ok allNil), eNil⟩
def faults_within_run {R : Type} (N : Nat) (args : List SV) (T : Tab) (kf : SV × Tab → Option R) : Option R :=
  faults_within_m N (toI (lget args 0)) (toI (lget args 1)) (toI (lget args 2)) (fun q0 => kf (lget [.bool q0] 0, []))
def faults_within_lp {R : Type} (N : Nat) : Lp R := fun body S k => Option.none
noncomputable def faults_within_go {R : Type} (N : Nat) (args : List SV) (T : Tab) (kf : SV × Tab → Option R) : Option R :=
  faults_within N (toI (lget args 0)) (toI (lget args 1)) (toI (lget args 2)) (fun q0 => kf (lget [.bool q0] 0, []))
noncomputable def faults_within_cal {R : Type} (N : Nat) : Cal R := callM (neweltop_allow_cal N) 67 0 faults_within_sp (faults_within_go N)
theorem faults_within_cal_ok {R : Type} (N : Nat) : CalOk E.P (faults_within_cal (R := R) N) :=
  callM_ok hE (neweltop_allow_cal_ok N) (lp := faults_within_lp N) (jn := noJn) (keys := []) kNil (by kernel_rfl) (js := []) jNil (by kernel_rfl) faults_within_sp_ok faults_within_rs_ok (fun args T kf => Eq.trans (faults_within_def N (toI (lget args 0)) (toI (lget args 1)) (toI (lget args 2)) (fun q0 => kf (lget [.bool q0] 0, []))) (by kernel_rfl : faults_within_run N args T kf = fnM E (neweltop_allow_cal N) (faults_within_lp N) (noJn) 67 (faults_within_sp.vs args) (faults_within_sp.tab T) 0 (resK faults_within_rs kf)))

def faults_readings_L4 : LoopSp := ⟨⟨[8, 9, 10], ⟨(dr 8 ((rSl api_ReadingC) :: (rInt .i64) :: (rInt .i64) :: (dr 26 []))), []⟩, 0⟩, [(Option.none, ⟨[2], ⟨(dr 2 ((rInt .i64) :: (dr 34 []))), []⟩, 0⟩), (some 0, ⟨[], ⟨(dr 37 []), []⟩, 0⟩)]⟩
theorem faults_readings_L4_ok : faults_readings_L4.Ok := ⟨⟨(drCons 8 (allCons (rSl_ok api_ReadingC_ok) (allCons (rInt_ok .i64) (allCons (rInt_ok .i64) (drCons 26 allNil))))), eNil⟩, (xCons ⟨(drCons 2 (allCons (rInt_ok .i64) (drCons 34 allNil))), eNil⟩ (xCons ⟨(drCons 37 allNil), eNil⟩ xNil))⟩
def faults_readings_h4 (v189 : Arr api_Reading) (v190 : Int) (v191 : Int) : St := ⟨(un 8 ((slC api_ReadingC v189) :: (.int .i64 v190) :: (.int .i64 v191) :: (un 26 []))), [], 0⟩
def faults_readings_x4_r (q0 : Int) : St := ⟨(un 2 ((.int .i64 q0) :: (un 34 []))), [], 0⟩
def faults_readings_x4_0  : St := ⟨(un 37 []), [], 0⟩
def faults_readings_b4 {R : Type} (N : Nat) (rc : Arr api_Reading → Int → Int → Option R) (v189 : Arr api_Reading) (v190 : Int) (v191 : Int) (kr : Int → Option R) (k0 : Unit → Option R) : Option R :=
  bif decide (v191 < v190) then
   bif decide ((0 : Int) ≤ v191) && decide (v191 < (↑(Arr.n v189) : Int)) then
    faults_within N (api_Reading.Says (Arr.f v189 (Int.toNat v191))) (-100000 : Int) (100000 : Int) (fun r195 =>
    bif !r195 then
     kr (100 : Int)
    else
     faults_within N (api_Reading.Error (Arr.f v189 (Int.toNat v191))) (0 : Int) (1000 : Int) (fun r196 =>
     bif !r196 then
      kr (100 : Int)
     else
      faults_within N (api_Reading.Drift (Arr.f v189 (Int.toNat v191))) (0 : Int) (1000 : Int) (fun r197 =>
      bif !r197 then
       kr (100 : Int)
      else
       faults_within N (api_Reading.Days (Arr.f v189 (Int.toNat v191))) (0 : Int) (1000 : Int) (fun r198 =>
       bif !r198 then
        kr (100 : Int)
       else
        rc v189 v190 (w64 (v191 + (1 : Int)))))))
   else
    Option.none
  else
   k0 ()
def faults_readings_l4 {R : Type} (N : Nat) : Nat → Arr api_Reading → Int → Int → (Int → Option R) → (Unit → Option R) → Option R
  | 0, _, _, _, _, _ => Option.none
  | n + 1, v189, v190, v191, kr, k0 => faults_readings_b4 N (fun v189 v190 v191 => faults_readings_l4 N n v189 v190 v191 kr k0) v189 v190 v191 kr k0


def faults_readings_m {R : Type} (N : Nat) (a188 : Arr api_Reading) (k : Int → Option R) : Option R :=
  bif decide ((↑(Arr.n a188) : Int) > (12 : Int)) then
   k (2 : Int)
  else
   faults_readings_l4 N N a188 ((↑(Arr.n a188) : Int)) (0 : Int) (fun r199 =>
    k r199) (fun (_ : Unit) =>
    k (0 : Int))
noncomputable def faults_readings {R : Type} : Nat → Arr api_Reading → (Int → Option R) → Option R := lock (@faults_readings_m R)
theorem faults_readings_def {R : Type} (N : Nat) (a188 : Arr api_Reading) (k : Int → Option R) : faults_readings N a188 k = faults_readings_m N a188 k := by unfold faults_readings; rw [lock_eq]
def faults_readings_sp : Sp := ⟨[rSl api_ReadingC], []⟩
theorem faults_readings_sp_ok : faults_readings_sp.Ok := ⟨(allCons (rSl_ok api_ReadingC_ok) allNil), eNil⟩
def faults_readings_rs : Sp := ⟨[rInt .i64], []⟩
theorem faults_readings_rs_ok : faults_readings_rs.Ok := ⟨(allCons (rInt_ok .i64) allNil), eNil⟩
def faults_readings_run {R : Type} (N : Nat) (args : List SV) (T : Tab) (kf : SV × Tab → Option R) : Option R :=
  faults_readings_m N (lstC api_ReadingC (lget args 0)) (fun q0 => kf (lget [.int .i64 q0] 0, []))
def faults_readings_d4 {R : Type} (N : Nat) (S0 : St) (k : Exit → St → Option R) : Option R :=
  faults_readings_l4 N N (lstC api_ReadingC (lget S0.tmps 8)) (toI (lget S0.tmps 9)) (toI (lget S0.tmps 10)) (fun q0 => k .ret (faults_readings_x4_r q0)) (fun (_ : Unit) => k (.exit 0) (faults_readings_x4_0 ))
def faults_readings_lp {R : Type} (N : Nat) : Lp R := fun body S k => bif (Go.Sx.keyOf body).getD 0 == 4 then (faults_readings_L4.head.raw 0 S (fun S0 => faults_readings_d4 N S0 k)) else Option.none
theorem faults_readings_l4_eq {R : Type} (N : Nat) (k : Exit → St → Option R) (n : Nat) : ∀ (v0 : Arr api_Reading) (v1 : Int) (v2 : Int), loopM E.Θ (faults_within_cal N) (faults_readings_lp N) (noJn) 0 faults_readings_L4 (bodyAt E 38 4) n (faults_readings_h4 v0 v1 v2) k = faults_readings_l4 N n v0 v1 v2 (fun q0 => k .ret (faults_readings_x4_r q0)) (fun (_ : Unit) => k (.exit 0) (faults_readings_x4_0 )) := by
  induction n with
  | zero => intro v0 v1 v2; rfl
  | succ n ih =>
    intro v0 v1 v2
    refine Eq.trans (b := faults_readings_b4 N (fun v0 v1 v2 => loopM E.Θ (faults_within_cal N) (faults_readings_lp N) (noJn) 0 faults_readings_L4 (bodyAt E 38 4) n (faults_readings_h4 v0 v1 v2) k) v0 v1 v2 (fun q0 => k .ret (faults_readings_x4_r q0)) (fun (_ : Unit) => k (.exit 0) (faults_readings_x4_0 ))) (by kernel_rfl) ?_
    have h : (fun (v0 : Arr api_Reading) (v1 : Int) (v2 : Int) => loopM E.Θ (faults_within_cal N) (faults_readings_lp N) (noJn) 0 faults_readings_L4 (bodyAt E 38 4) n (faults_readings_h4 v0 v1 v2) k) = (fun (v0 : Arr api_Reading) (v1 : Int) (v2 : Int) => faults_readings_l4 N n v0 v1 v2 (fun q0 => k .ret (faults_readings_x4_r q0)) (fun (_ : Unit) => k (.exit 0) (faults_readings_x4_0 ))) := funext fun v0 => funext fun v1 => funext fun v2 => ih v0 v1 v2
    rw [h]
    rfl
theorem faults_readings_k4 {R : Type} (N : Nat) : LpKey (R := R) E 38 0 (faults_readings_lp N) 4 :=
  lpKey_of hE (faults_within_cal_ok N) (lp := faults_readings_lp N) (jn := noJn) faults_readings_L4_ok [] kNil (by kernel_rfl) [] jNil (by kernel_rfl) N fun S k =>
    Eq.trans (b := faults_readings_L4.head.raw 0 S (fun S0 => faults_readings_d4 N S0 k)) (by kernel_rfl) (congrArg (faults_readings_L4.head.raw 0 S) (funext fun S0 => Eq.trans (faults_readings_l4_eq N k N (lstC api_ReadingC (lget S0.tmps 8)) (toI (lget S0.tmps 9)) (toI (lget S0.tmps 10))).symm (by kernel_rfl)))
noncomputable def faults_readings_go {R : Type} (N : Nat) (args : List SV) (T : Tab) (kf : SV × Tab → Option R) : Option R :=
  faults_readings N (lstC api_ReadingC (lget args 0)) (fun q0 => kf (lget [.int .i64 q0] 0, []))
noncomputable def faults_readings_cal {R : Type} (N : Nat) : Cal R := callM (faults_within_cal N) 38 0 faults_readings_sp (faults_readings_go N)
theorem faults_readings_cal_ok {R : Type} (N : Nat) : CalOk E.P (faults_readings_cal (R := R) N) :=
  callM_ok hE (faults_within_cal_ok N) (lp := faults_readings_lp N) (jn := noJn) (keys := [4]) (kCons (faults_readings_k4 N) kNil) (by kernel_rfl) (js := []) jNil (by kernel_rfl) faults_readings_sp_ok faults_readings_rs_ok (fun args T kf => Eq.trans (faults_readings_def N (lstC api_ReadingC (lget args 0)) (fun q0 => kf (lget [.int .i64 q0] 0, []))) (by kernel_rfl : faults_readings_run N args T kf = fnM E (faults_within_cal N) (faults_readings_lp N) (noJn) 38 (faults_readings_sp.vs args) (faults_readings_sp.tab T) 0 (resK faults_readings_rs kf)))

def faults_common_L3 : LoopSp := ⟨⟨[1, 4, 6, 11, 12, 13], ⟨(dr 1 ((rInt .i64) :: (dr 2 ((rPtr 0 0) :: (dr 1 ((rPtr 1 0) :: (dr 4 ((rSl api_ReadingC) :: (rInt .i64) :: (rInt .i64) :: (dr 39 []))))))))), [(0, eBlkC api_SpanC), (1, eBlkC api_SpanC)]⟩, 2⟩, [(some 0, ⟨[4, 6], ⟨(dr 4 ((rPtr 0 0) :: (dr 1 ((rPtr 1 0) :: (dr 46 []))))), [(0, eBlkC api_SpanC), (1, eBlkC api_SpanC)]⟩, 2⟩)]⟩
theorem faults_common_L3_ok : faults_common_L3.Ok := ⟨⟨(drCons 1 (allCons (rInt_ok .i64) (drCons 2 (allCons (rPtr_ok 0 0) (drCons 1 (allCons (rPtr_ok 1 0) (drCons 4 (allCons (rSl_ok api_ReadingC_ok) (allCons (rInt_ok .i64) (allCons (rInt_ok .i64) (drCons 39 allNil))))))))))), (eCons (eBlkC_ok api_SpanC_ok api_SpanC_len) (eCons (eBlkC_ok api_SpanC_ok api_SpanC_len) eNil))⟩, (xCons ⟨(drCons 4 (allCons (rPtr_ok 0 0) (drCons 1 (allCons (rPtr_ok 1 0) (drCons 46 allNil))))), (eCons (eBlkC_ok api_SpanC_ok api_SpanC_len) (eCons (eBlkC_ok api_SpanC_ok api_SpanC_len) eNil))⟩ xNil)⟩
def faults_common_h3 (v203 : Int) (v204 : Arr api_Reading) (v205 : Int) (v206 : Int) (v207 : api_Span) (v208 : api_Span) : St := ⟨(un 1 ((.int .i64 v203) :: (un 2 ((.ptr 0 0) :: (un 1 ((.ptr 1 0) :: (un 4 ((slC api_ReadingC v204) :: (.int .i64 v205) :: (.int .i64 v206) :: (un 39 []))))))))), [(0, .blk (Cod.enc api_SpanC v207)), (1, .blk (Cod.enc api_SpanC v208))], 2⟩
def faults_common_x3_0 (v207 : api_Span) (q1 : api_Span) : St := ⟨(un 4 ((.ptr 0 0) :: (un 1 ((.ptr 1 0) :: (un 46 []))))), [(0, .blk (Cod.enc api_SpanC v207)), (1, .blk (Cod.enc api_SpanC q1))], 2⟩
def faults_common_b3 {R : Type} (N : Nat) (rc : Int → Arr api_Reading → Int → Int → api_Span → api_Span → Option R) (v203 : Int) (v204 : Arr api_Reading) (v205 : Int) (v206 : Int) (v207 : api_Span) (v208 : api_Span) (k0 : api_Span → Option R) : Option R :=
  bif decide (v206 < v205) then
   bif decide ((0 : Int) ≤ v206) && decide (v206 < (↑(Arr.n v204) : Int)) then
    bif decide (v206 < (0 : Int)) then
     Option.none
    else
     bif w64 (↑(BitVec.toNat (BitVec.ofInt (IntKind.bits IntKind.i64) (Int.fdiv v203 ((2 : Int) ^ min (Int.toNat v206) (IntKind.bits IntKind.i64))) &&& BitVec.ofInt (IntKind.bits IntKind.i64) (1 : Int))) : Int) == (0 : Int) then
      rc v203 v204 v205 (w64 (v206 + (1 : Int))) v207 (api_Span.mk (mxI (api_Span.Low v208) (w64 (api_Reading.Says (Arr.f v204 (Int.toNat v206)) - w64 (api_Reading.Error (Arr.f v204 (Int.toNat v206)) + w64 (api_Reading.Drift (Arr.f v204 (Int.toNat v206)) * api_Reading.Days (Arr.f v204 (Int.toNat v206))))))) (mnI (api_Span.High v208) (w64 (api_Reading.Says (Arr.f v204 (Int.toNat v206)) + w64 (api_Reading.Error (Arr.f v204 (Int.toNat v206)) + w64 (api_Reading.Drift (Arr.f v204 (Int.toNat v206)) * api_Reading.Days (Arr.f v204 (Int.toNat v206))))))))
     else
      rc v203 v204 v205 (w64 (v206 + (1 : Int))) v207 v208
   else
    Option.none
  else
   k0 v208
def faults_common_l3 {R : Type} (N : Nat) : Nat → Int → Arr api_Reading → Int → Int → api_Span → api_Span → (api_Span → Option R) → Option R
  | 0, _, _, _, _, _, _, _ => Option.none
  | n + 1, v203, v204, v205, v206, v207, v208, k0 => faults_common_b3 N (fun v203 v204 v205 v206 v207 v208 => faults_common_l3 N n v203 v204 v205 v206 v207 v208 k0) v203 v204 v205 v206 v207 v208 k0


def faults_common_m {R : Type} (N : Nat) (a201 : Arr api_Reading) (a202 : Int) (k : api_Span → Bool → Option R) : Option R :=
  faults_common_l3 N N a202 a201 ((↑(Arr.n a201) : Int)) (0 : Int) (api_Span.mk (0 : Int) (0 : Int)) (api_Span.mk (-1099511627776 : Int) (1099511627776 : Int)) (fun r209 =>
   k r209 (decide (api_Span.Low r209 ≤ api_Span.High r209)))
noncomputable def faults_common {R : Type} : Nat → Arr api_Reading → Int → (api_Span → Bool → Option R) → Option R := lock (@faults_common_m R)
theorem faults_common_def {R : Type} (N : Nat) (a201 : Arr api_Reading) (a202 : Int) (k : api_Span → Bool → Option R) : faults_common N a201 a202 k = faults_common_m N a201 a202 k := by unfold faults_common; rw [lock_eq]
def faults_common_sp : Sp := ⟨[rSl api_ReadingC, rInt .i64], []⟩
theorem faults_common_sp_ok : faults_common_sp.Ok := ⟨(allCons (rSl_ok api_ReadingC_ok) (allCons (rInt_ok .i64) allNil)), eNil⟩
def faults_common_rs : Sp := ⟨[rTup [rAgg api_SpanC, rBool]], []⟩
theorem faults_common_rs_ok : faults_common_rs.Ok := ⟨(allCons (rTup_ok (allCons (rAgg_ok api_SpanC_ok api_SpanC_len) (allCons rBool_ok allNil))) allNil), eNil⟩
def faults_common_run {R : Type} (N : Nat) (args : List SV) (T : Tab) (kf : SV × Tab → Option R) : Option R :=
  faults_common_m N (lstC api_ReadingC (lget args 0)) (toI (lget args 1)) (fun q0 q1 => kf (lget [.tup [.agg (Cod.enc api_SpanC q0), .bool q1]] 0, []))
def faults_common_d3 {R : Type} (N : Nat) (S0 : St) (k : Exit → St → Option R) : Option R :=
  faults_common_l3 N N (toI (lget S0.tmps 1)) (lstC api_ReadingC (lget S0.tmps 11)) (toI (lget S0.tmps 12)) (toI (lget S0.tmps 13)) (Cod.dec api_SpanC (lget (entCs (entAt S0.tab 0)))) (Cod.dec api_SpanC (lget (entCs (entAt S0.tab 1)))) (fun q1 => k (.exit 0) (faults_common_x3_0 (Cod.dec api_SpanC (lget (entCs (entAt S0.tab 0)))) q1))
def faults_common_lp {R : Type} (N : Nat) : Lp R := fun body S k => bif (Go.Sx.keyOf body).getD 0 == 3 then (faults_common_L3.head.raw 0 S (fun S0 => faults_common_d3 N S0 k)) else Option.none
theorem faults_common_l3_eq {R : Type} (N : Nat) (k : Exit → St → Option R) (n : Nat) : ∀ (v0 : Int) (v1 : Arr api_Reading) (v2 : Int) (v3 : Int) (v4 : api_Span) (v5 : api_Span), loopM E.Θ (faults_readings_cal N) (faults_common_lp N) (noJn) 0 faults_common_L3 (bodyAt E 39 3) n (faults_common_h3 v0 v1 v2 v3 v4 v5) k = faults_common_l3 N n v0 v1 v2 v3 v4 v5 (fun q1 => k (.exit 0) (faults_common_x3_0 v4 q1)) := by
  induction n with
  | zero => intro v0 v1 v2 v3 v4 v5; rfl
  | succ n ih =>
    intro v0 v1 v2 v3 v4 v5
    refine Eq.trans (b := faults_common_b3 N (fun v0 v1 v2 v3 v4 v5 => loopM E.Θ (faults_readings_cal N) (faults_common_lp N) (noJn) 0 faults_common_L3 (bodyAt E 39 3) n (faults_common_h3 v0 v1 v2 v3 v4 v5) k) v0 v1 v2 v3 v4 v5 (fun q1 => k (.exit 0) (faults_common_x3_0 v4 q1))) (by kernel_rfl) ?_
    have h : (fun (v0 : Int) (v1 : Arr api_Reading) (v2 : Int) (v3 : Int) (v4 : api_Span) (v5 : api_Span) => loopM E.Θ (faults_readings_cal N) (faults_common_lp N) (noJn) 0 faults_common_L3 (bodyAt E 39 3) n (faults_common_h3 v0 v1 v2 v3 v4 v5) k) = (fun (v0 : Int) (v1 : Arr api_Reading) (v2 : Int) (v3 : Int) (v4 : api_Span) (v5 : api_Span) => faults_common_l3 N n v0 v1 v2 v3 v4 v5 (fun q1 => k (.exit 0) (faults_common_x3_0 v4 q1))) := funext fun v0 => funext fun v1 => funext fun v2 => funext fun v3 => funext fun v4 => funext fun v5 => ih v0 v1 v2 v3 v4 v5
    rw [h]
    rfl
theorem faults_common_k3 {R : Type} (N : Nat) : LpKey (R := R) E 39 0 (faults_common_lp N) 3 :=
  lpKey_of hE (faults_readings_cal_ok N) (lp := faults_common_lp N) (jn := noJn) faults_common_L3_ok [] kNil (by kernel_rfl) [] jNil (by kernel_rfl) N fun S k =>
    Eq.trans (b := faults_common_L3.head.raw 0 S (fun S0 => faults_common_d3 N S0 k)) (by kernel_rfl) (congrArg (faults_common_L3.head.raw 0 S) (funext fun S0 => Eq.trans (faults_common_l3_eq N k N (toI (lget S0.tmps 1)) (lstC api_ReadingC (lget S0.tmps 11)) (toI (lget S0.tmps 12)) (toI (lget S0.tmps 13)) (Cod.dec api_SpanC (lget (entCs (entAt S0.tab 0)))) (Cod.dec api_SpanC (lget (entCs (entAt S0.tab 1))))).symm (by kernel_rfl)))
noncomputable def faults_common_go {R : Type} (N : Nat) (args : List SV) (T : Tab) (kf : SV × Tab → Option R) : Option R :=
  faults_common N (lstC api_ReadingC (lget args 0)) (toI (lget args 1)) (fun q0 q1 => kf (lget [.tup [.agg (Cod.enc api_SpanC q0), .bool q1]] 0, []))
noncomputable def faults_common_cal {R : Type} (N : Nat) : Cal R := callM (faults_readings_cal N) 39 0 faults_common_sp (faults_common_go N)
theorem faults_common_cal_ok {R : Type} (N : Nat) : CalOk E.P (faults_common_cal (R := R) N) :=
  callM_ok hE (faults_readings_cal_ok N) (lp := faults_common_lp N) (jn := noJn) (keys := [3]) (kCons (faults_common_k3 N) kNil) (by kernel_rfl) (js := []) jNil (by kernel_rfl) faults_common_sp_ok faults_common_rs_ok (fun args T kf => Eq.trans (faults_common_def N (lstC api_ReadingC (lget args 0)) (toI (lget args 1)) (fun q0 q1 => kf (lget [.tup [.agg (Cod.enc api_SpanC q0), .bool q1]] 0, []))) (by kernel_rfl : faults_common_run N args T kf = fnM E (faults_readings_cal N) (faults_common_lp N) (noJn) 39 (faults_common_sp.vs args) (faults_common_sp.tab T) 0 (resK faults_common_rs kf)))


def faults_Truth_m {R : Type} (N : Nat) (a187 : Arr api_Reading) (k : api_Span → Int → Option R) : Option R :=
  faults_readings N a187 (fun r200 =>
  bif r200 != (0 : Int) then
   k (api_Span.mk (0 : Int) (0 : Int)) r200
  else
   faults_common N a187 (0 : Int) (fun r210 r211 =>
   bif (↑(Arr.n a187) : Int) == (0 : Int) then
    k (api_Span.mk (0 : Int) (0 : Int)) (3 : Int)
   else
    bif !r211 then
     k (api_Span.mk (0 : Int) (0 : Int)) (3 : Int)
    else
     k r210 (0 : Int)))
noncomputable def faults_Truth {R : Type} : Nat → Arr api_Reading → (api_Span → Int → Option R) → Option R := lock (@faults_Truth_m R)
theorem faults_Truth_def {R : Type} (N : Nat) (a187 : Arr api_Reading) (k : api_Span → Int → Option R) : faults_Truth N a187 k = faults_Truth_m N a187 k := by unfold faults_Truth; rw [lock_eq]
def faults_Truth_sp : Sp := ⟨[rSl api_ReadingC], []⟩
theorem faults_Truth_sp_ok : faults_Truth_sp.Ok := ⟨(allCons (rSl_ok api_ReadingC_ok) allNil), eNil⟩
def faults_Truth_rs : Sp := ⟨[rTup [rAgg api_SpanC, rInt .i64]], []⟩
theorem faults_Truth_rs_ok : faults_Truth_rs.Ok := ⟨(allCons (rTup_ok (allCons (rAgg_ok api_SpanC_ok api_SpanC_len) (allCons (rInt_ok .i64) allNil))) allNil), eNil⟩
def faults_Truth_run {R : Type} (N : Nat) (args : List SV) (T : Tab) (kf : SV × Tab → Option R) : Option R :=
  faults_Truth_m N (lstC api_ReadingC (lget args 0)) (fun q0 q1 => kf (lget [.tup [.agg (Cod.enc api_SpanC q0), .int .i64 q1]] 0, []))
def faults_Truth_lp {R : Type} (N : Nat) : Lp R := fun body S k => Option.none
noncomputable def faults_Truth_go {R : Type} (N : Nat) (args : List SV) (T : Tab) (kf : SV × Tab → Option R) : Option R :=
  faults_Truth N (lstC api_ReadingC (lget args 0)) (fun q0 q1 => kf (lget [.tup [.agg (Cod.enc api_SpanC q0), .int .i64 q1]] 0, []))
noncomputable def faults_Truth_cal {R : Type} (N : Nat) : Cal R := callM (faults_common_cal N) 13 0 faults_Truth_sp (faults_Truth_go N)
theorem faults_Truth_cal_ok {R : Type} (N : Nat) : CalOk E.P (faults_Truth_cal (R := R) N) :=
  callM_ok hE (faults_common_cal_ok N) (lp := faults_Truth_lp N) (jn := noJn) (keys := []) kNil (by kernel_rfl) (js := []) jNil (by kernel_rfl) faults_Truth_sp_ok faults_Truth_rs_ok (fun args T kf => Eq.trans (faults_Truth_def N (lstC api_ReadingC (lget args 0)) (fun q0 q1 => kf (lget [.tup [.agg (Cod.enc api_SpanC q0), .int .i64 q1]] 0, []))) (by kernel_rfl : faults_Truth_run N args T kf = fnM E (faults_common_cal N) (faults_Truth_lp N) (noJn) 13 (faults_Truth_sp.vs args) (faults_Truth_sp.tab T) 0 (resK faults_Truth_rs kf)))


def math_bits_OnesCount64_m {R : Type} (N : Nat) (a223 : Int) (k : Int → Option R) : Option R :=
  k (w64 (↑(BitVec.toNat (BitVec.ofInt (IntKind.bits IntKind.i64) (w64 (IntKind.wrap IntKind.u64 (IntKind.wrap IntKind.u64 (IntKind.wrap IntKind.u64 (IntKind.wrap IntKind.u64 (↑(BitVec.toNat (BitVec.ofInt (IntKind.bits IntKind.u64) (IntKind.wrap IntKind.u64 (Int.fdiv (IntKind.wrap IntKind.u64 (IntKind.wrap IntKind.u64 (↑(BitVec.toNat (BitVec.ofInt (IntKind.bits IntKind.u64) (Int.fdiv (IntKind.wrap IntKind.u64 (IntKind.wrap IntKind.u64 (↑(BitVec.toNat (BitVec.ofInt (IntKind.bits IntKind.u64) (Int.fdiv a223 ((2 : Int) ^ min (Int.toNat (1 : Int)) (IntKind.bits IntKind.u64))) &&& BitVec.ofInt (IntKind.bits IntKind.u64) (6148914691236517205 : Int))) : Int) + IntKind.wrap IntKind.u64 (↑(BitVec.toNat (BitVec.ofInt (IntKind.bits IntKind.u64) a223 &&& BitVec.ofInt (IntKind.bits IntKind.u64) (6148914691236517205 : Int))) : Int))) ((2 : Int) ^ min (Int.toNat (2 : Int)) (IntKind.bits IntKind.u64))) &&& BitVec.ofInt (IntKind.bits IntKind.u64) (3689348814741910323 : Int))) : Int) + IntKind.wrap IntKind.u64 (↑(BitVec.toNat (BitVec.ofInt (IntKind.bits IntKind.u64) (IntKind.wrap IntKind.u64 (IntKind.wrap IntKind.u64 (↑(BitVec.toNat (BitVec.ofInt (IntKind.bits IntKind.u64) (Int.fdiv a223 ((2 : Int) ^ min (Int.toNat (1 : Int)) (IntKind.bits IntKind.u64))) &&& BitVec.ofInt (IntKind.bits IntKind.u64) (6148914691236517205 : Int))) : Int) + IntKind.wrap IntKind.u64 (↑(BitVec.toNat (BitVec.ofInt (IntKind.bits IntKind.u64) a223 &&& BitVec.ofInt (IntKind.bits IntKind.u64) (6148914691236517205 : Int))) : Int))) &&& BitVec.ofInt (IntKind.bits IntKind.u64) (3689348814741910323 : Int))) : Int))) ((2 : Int) ^ min (Int.toNat (4 : Int)) (IntKind.bits IntKind.u64)) + IntKind.wrap IntKind.u64 (IntKind.wrap IntKind.u64 (↑(BitVec.toNat (BitVec.ofInt (IntKind.bits IntKind.u64) (Int.fdiv (IntKind.wrap IntKind.u64 (IntKind.wrap IntKind.u64 (↑(BitVec.toNat (BitVec.ofInt (IntKind.bits IntKind.u64) (Int.fdiv a223 ((2 : Int) ^ min (Int.toNat (1 : Int)) (IntKind.bits IntKind.u64))) &&& BitVec.ofInt (IntKind.bits IntKind.u64) (6148914691236517205 : Int))) : Int) + IntKind.wrap IntKind.u64 (↑(BitVec.toNat (BitVec.ofInt (IntKind.bits IntKind.u64) a223 &&& BitVec.ofInt (IntKind.bits IntKind.u64) (6148914691236517205 : Int))) : Int))) ((2 : Int) ^ min (Int.toNat (2 : Int)) (IntKind.bits IntKind.u64))) &&& BitVec.ofInt (IntKind.bits IntKind.u64) (3689348814741910323 : Int))) : Int) + IntKind.wrap IntKind.u64 (↑(BitVec.toNat (BitVec.ofInt (IntKind.bits IntKind.u64) (IntKind.wrap IntKind.u64 (IntKind.wrap IntKind.u64 (↑(BitVec.toNat (BitVec.ofInt (IntKind.bits IntKind.u64) (Int.fdiv a223 ((2 : Int) ^ min (Int.toNat (1 : Int)) (IntKind.bits IntKind.u64))) &&& BitVec.ofInt (IntKind.bits IntKind.u64) (6148914691236517205 : Int))) : Int) + IntKind.wrap IntKind.u64 (↑(BitVec.toNat (BitVec.ofInt (IntKind.bits IntKind.u64) a223 &&& BitVec.ofInt (IntKind.bits IntKind.u64) (6148914691236517205 : Int))) : Int))) &&& BitVec.ofInt (IntKind.bits IntKind.u64) (3689348814741910323 : Int))) : Int)))) &&& BitVec.ofInt (IntKind.bits IntKind.u64) (1085102592571150095 : Int))) : Int) + Int.fdiv (IntKind.wrap IntKind.u64 (↑(BitVec.toNat (BitVec.ofInt (IntKind.bits IntKind.u64) (IntKind.wrap IntKind.u64 (Int.fdiv (IntKind.wrap IntKind.u64 (IntKind.wrap IntKind.u64 (↑(BitVec.toNat (BitVec.ofInt (IntKind.bits IntKind.u64) (Int.fdiv (IntKind.wrap IntKind.u64 (IntKind.wrap IntKind.u64 (↑(BitVec.toNat (BitVec.ofInt (IntKind.bits IntKind.u64) (Int.fdiv a223 ((2 : Int) ^ min (Int.toNat (1 : Int)) (IntKind.bits IntKind.u64))) &&& BitVec.ofInt (IntKind.bits IntKind.u64) (6148914691236517205 : Int))) : Int) + IntKind.wrap IntKind.u64 (↑(BitVec.toNat (BitVec.ofInt (IntKind.bits IntKind.u64) a223 &&& BitVec.ofInt (IntKind.bits IntKind.u64) (6148914691236517205 : Int))) : Int))) ((2 : Int) ^ min (Int.toNat (2 : Int)) (IntKind.bits IntKind.u64))) &&& BitVec.ofInt (IntKind.bits IntKind.u64) (3689348814741910323 : Int))) : Int) + IntKind.wrap IntKind.u64 (↑(BitVec.toNat (BitVec.ofInt (IntKind.bits IntKind.u64) (IntKind.wrap IntKind.u64 (IntKind.wrap IntKind.u64 (↑(BitVec.toNat (BitVec.ofInt (IntKind.bits IntKind.u64) (Int.fdiv a223 ((2 : Int) ^ min (Int.toNat (1 : Int)) (IntKind.bits IntKind.u64))) &&& BitVec.ofInt (IntKind.bits IntKind.u64) (6148914691236517205 : Int))) : Int) + IntKind.wrap IntKind.u64 (↑(BitVec.toNat (BitVec.ofInt (IntKind.bits IntKind.u64) a223 &&& BitVec.ofInt (IntKind.bits IntKind.u64) (6148914691236517205 : Int))) : Int))) &&& BitVec.ofInt (IntKind.bits IntKind.u64) (3689348814741910323 : Int))) : Int))) ((2 : Int) ^ min (Int.toNat (4 : Int)) (IntKind.bits IntKind.u64)) + IntKind.wrap IntKind.u64 (IntKind.wrap IntKind.u64 (↑(BitVec.toNat (BitVec.ofInt (IntKind.bits IntKind.u64) (Int.fdiv (IntKind.wrap IntKind.u64 (IntKind.wrap IntKind.u64 (↑(BitVec.toNat (BitVec.ofInt (IntKind.bits IntKind.u64) (Int.fdiv a223 ((2 : Int) ^ min (Int.toNat (1 : Int)) (IntKind.bits IntKind.u64))) &&& BitVec.ofInt (IntKind.bits IntKind.u64) (6148914691236517205 : Int))) : Int) + IntKind.wrap IntKind.u64 (↑(BitVec.toNat (BitVec.ofInt (IntKind.bits IntKind.u64) a223 &&& BitVec.ofInt (IntKind.bits IntKind.u64) (6148914691236517205 : Int))) : Int))) ((2 : Int) ^ min (Int.toNat (2 : Int)) (IntKind.bits IntKind.u64))) &&& BitVec.ofInt (IntKind.bits IntKind.u64) (3689348814741910323 : Int))) : Int) + IntKind.wrap IntKind.u64 (↑(BitVec.toNat (BitVec.ofInt (IntKind.bits IntKind.u64) (IntKind.wrap IntKind.u64 (IntKind.wrap IntKind.u64 (↑(BitVec.toNat (BitVec.ofInt (IntKind.bits IntKind.u64) (Int.fdiv a223 ((2 : Int) ^ min (Int.toNat (1 : Int)) (IntKind.bits IntKind.u64))) &&& BitVec.ofInt (IntKind.bits IntKind.u64) (6148914691236517205 : Int))) : Int) + IntKind.wrap IntKind.u64 (↑(BitVec.toNat (BitVec.ofInt (IntKind.bits IntKind.u64) a223 &&& BitVec.ofInt (IntKind.bits IntKind.u64) (6148914691236517205 : Int))) : Int))) &&& BitVec.ofInt (IntKind.bits IntKind.u64) (3689348814741910323 : Int))) : Int)))) &&& BitVec.ofInt (IntKind.bits IntKind.u64) (1085102592571150095 : Int))) : Int)) ((2 : Int) ^ min (Int.toNat (8 : Int)) (IntKind.bits IntKind.u64))) + Int.fdiv (IntKind.wrap IntKind.u64 (IntKind.wrap IntKind.u64 (↑(BitVec.toNat (BitVec.ofInt (IntKind.bits IntKind.u64) (IntKind.wrap IntKind.u64 (Int.fdiv (IntKind.wrap IntKind.u64 (IntKind.wrap IntKind.u64 (↑(BitVec.toNat (BitVec.ofInt (IntKind.bits IntKind.u64) (Int.fdiv (IntKind.wrap IntKind.u64 (IntKind.wrap IntKind.u64 (↑(BitVec.toNat (BitVec.ofInt (IntKind.bits IntKind.u64) (Int.fdiv a223 ((2 : Int) ^ min (Int.toNat (1 : Int)) (IntKind.bits IntKind.u64))) &&& BitVec.ofInt (IntKind.bits IntKind.u64) (6148914691236517205 : Int))) : Int) + IntKind.wrap IntKind.u64 (↑(BitVec.toNat (BitVec.ofInt (IntKind.bits IntKind.u64) a223 &&& BitVec.ofInt (IntKind.bits IntKind.u64) (6148914691236517205 : Int))) : Int))) ((2 : Int) ^ min (Int.toNat (2 : Int)) (IntKind.bits IntKind.u64))) &&& BitVec.ofInt (IntKind.bits IntKind.u64) (3689348814741910323 : Int))) : Int) + IntKind.wrap IntKind.u64 (↑(BitVec.toNat (BitVec.ofInt (IntKind.bits IntKind.u64) (IntKind.wrap IntKind.u64 (IntKind.wrap IntKind.u64 (↑(BitVec.toNat (BitVec.ofInt (IntKind.bits IntKind.u64) (Int.fdiv a223 ((2 : Int) ^ min (Int.toNat (1 : Int)) (IntKind.bits IntKind.u64))) &&& BitVec.ofInt (IntKind.bits IntKind.u64) (6148914691236517205 : Int))) : Int) + IntKind.wrap IntKind.u64 (↑(BitVec.toNat (BitVec.ofInt (IntKind.bits IntKind.u64) a223 &&& BitVec.ofInt (IntKind.bits IntKind.u64) (6148914691236517205 : Int))) : Int))) &&& BitVec.ofInt (IntKind.bits IntKind.u64) (3689348814741910323 : Int))) : Int))) ((2 : Int) ^ min (Int.toNat (4 : Int)) (IntKind.bits IntKind.u64)) + IntKind.wrap IntKind.u64 (IntKind.wrap IntKind.u64 (↑(BitVec.toNat (BitVec.ofInt (IntKind.bits IntKind.u64) (Int.fdiv (IntKind.wrap IntKind.u64 (IntKind.wrap IntKind.u64 (↑(BitVec.toNat (BitVec.ofInt (IntKind.bits IntKind.u64) (Int.fdiv a223 ((2 : Int) ^ min (Int.toNat (1 : Int)) (IntKind.bits IntKind.u64))) &&& BitVec.ofInt (IntKind.bits IntKind.u64) (6148914691236517205 : Int))) : Int) + IntKind.wrap IntKind.u64 (↑(BitVec.toNat (BitVec.ofInt (IntKind.bits IntKind.u64) a223 &&& BitVec.ofInt (IntKind.bits IntKind.u64) (6148914691236517205 : Int))) : Int))) ((2 : Int) ^ min (Int.toNat (2 : Int)) (IntKind.bits IntKind.u64))) &&& BitVec.ofInt (IntKind.bits IntKind.u64) (3689348814741910323 : Int))) : Int) + IntKind.wrap IntKind.u64 (↑(BitVec.toNat (BitVec.ofInt (IntKind.bits IntKind.u64) (IntKind.wrap IntKind.u64 (IntKind.wrap IntKind.u64 (↑(BitVec.toNat (BitVec.ofInt (IntKind.bits IntKind.u64) (Int.fdiv a223 ((2 : Int) ^ min (Int.toNat (1 : Int)) (IntKind.bits IntKind.u64))) &&& BitVec.ofInt (IntKind.bits IntKind.u64) (6148914691236517205 : Int))) : Int) + IntKind.wrap IntKind.u64 (↑(BitVec.toNat (BitVec.ofInt (IntKind.bits IntKind.u64) a223 &&& BitVec.ofInt (IntKind.bits IntKind.u64) (6148914691236517205 : Int))) : Int))) &&& BitVec.ofInt (IntKind.bits IntKind.u64) (3689348814741910323 : Int))) : Int)))) &&& BitVec.ofInt (IntKind.bits IntKind.u64) (1085102592571150095 : Int))) : Int) + Int.fdiv (IntKind.wrap IntKind.u64 (↑(BitVec.toNat (BitVec.ofInt (IntKind.bits IntKind.u64) (IntKind.wrap IntKind.u64 (Int.fdiv (IntKind.wrap IntKind.u64 (IntKind.wrap IntKind.u64 (↑(BitVec.toNat (BitVec.ofInt (IntKind.bits IntKind.u64) (Int.fdiv (IntKind.wrap IntKind.u64 (IntKind.wrap IntKind.u64 (↑(BitVec.toNat (BitVec.ofInt (IntKind.bits IntKind.u64) (Int.fdiv a223 ((2 : Int) ^ min (Int.toNat (1 : Int)) (IntKind.bits IntKind.u64))) &&& BitVec.ofInt (IntKind.bits IntKind.u64) (6148914691236517205 : Int))) : Int) + IntKind.wrap IntKind.u64 (↑(BitVec.toNat (BitVec.ofInt (IntKind.bits IntKind.u64) a223 &&& BitVec.ofInt (IntKind.bits IntKind.u64) (6148914691236517205 : Int))) : Int))) ((2 : Int) ^ min (Int.toNat (2 : Int)) (IntKind.bits IntKind.u64))) &&& BitVec.ofInt (IntKind.bits IntKind.u64) (3689348814741910323 : Int))) : Int) + IntKind.wrap IntKind.u64 (↑(BitVec.toNat (BitVec.ofInt (IntKind.bits IntKind.u64) (IntKind.wrap IntKind.u64 (IntKind.wrap IntKind.u64 (↑(BitVec.toNat (BitVec.ofInt (IntKind.bits IntKind.u64) (Int.fdiv a223 ((2 : Int) ^ min (Int.toNat (1 : Int)) (IntKind.bits IntKind.u64))) &&& BitVec.ofInt (IntKind.bits IntKind.u64) (6148914691236517205 : Int))) : Int) + IntKind.wrap IntKind.u64 (↑(BitVec.toNat (BitVec.ofInt (IntKind.bits IntKind.u64) a223 &&& BitVec.ofInt (IntKind.bits IntKind.u64) (6148914691236517205 : Int))) : Int))) &&& BitVec.ofInt (IntKind.bits IntKind.u64) (3689348814741910323 : Int))) : Int))) ((2 : Int) ^ min (Int.toNat (4 : Int)) (IntKind.bits IntKind.u64)) + IntKind.wrap IntKind.u64 (IntKind.wrap IntKind.u64 (↑(BitVec.toNat (BitVec.ofInt (IntKind.bits IntKind.u64) (Int.fdiv (IntKind.wrap IntKind.u64 (IntKind.wrap IntKind.u64 (↑(BitVec.toNat (BitVec.ofInt (IntKind.bits IntKind.u64) (Int.fdiv a223 ((2 : Int) ^ min (Int.toNat (1 : Int)) (IntKind.bits IntKind.u64))) &&& BitVec.ofInt (IntKind.bits IntKind.u64) (6148914691236517205 : Int))) : Int) + IntKind.wrap IntKind.u64 (↑(BitVec.toNat (BitVec.ofInt (IntKind.bits IntKind.u64) a223 &&& BitVec.ofInt (IntKind.bits IntKind.u64) (6148914691236517205 : Int))) : Int))) ((2 : Int) ^ min (Int.toNat (2 : Int)) (IntKind.bits IntKind.u64))) &&& BitVec.ofInt (IntKind.bits IntKind.u64) (3689348814741910323 : Int))) : Int) + IntKind.wrap IntKind.u64 (↑(BitVec.toNat (BitVec.ofInt (IntKind.bits IntKind.u64) (IntKind.wrap IntKind.u64 (IntKind.wrap IntKind.u64 (↑(BitVec.toNat (BitVec.ofInt (IntKind.bits IntKind.u64) (Int.fdiv a223 ((2 : Int) ^ min (Int.toNat (1 : Int)) (IntKind.bits IntKind.u64))) &&& BitVec.ofInt (IntKind.bits IntKind.u64) (6148914691236517205 : Int))) : Int) + IntKind.wrap IntKind.u64 (↑(BitVec.toNat (BitVec.ofInt (IntKind.bits IntKind.u64) a223 &&& BitVec.ofInt (IntKind.bits IntKind.u64) (6148914691236517205 : Int))) : Int))) &&& BitVec.ofInt (IntKind.bits IntKind.u64) (3689348814741910323 : Int))) : Int)))) &&& BitVec.ofInt (IntKind.bits IntKind.u64) (1085102592571150095 : Int))) : Int)) ((2 : Int) ^ min (Int.toNat (8 : Int)) (IntKind.bits IntKind.u64)))) ((2 : Int) ^ min (Int.toNat (16 : Int)) (IntKind.bits IntKind.u64))) + Int.fdiv (IntKind.wrap IntKind.u64 (IntKind.wrap IntKind.u64 (IntKind.wrap IntKind.u64 (↑(BitVec.toNat (BitVec.ofInt (IntKind.bits IntKind.u64) (IntKind.wrap IntKind.u64 (Int.fdiv (IntKind.wrap IntKind.u64 (IntKind.wrap IntKind.u64 (↑(BitVec.toNat (BitVec.ofInt (IntKind.bits IntKind.u64) (Int.fdiv (IntKind.wrap IntKind.u64 (IntKind.wrap IntKind.u64 (↑(BitVec.toNat (BitVec.ofInt (IntKind.bits IntKind.u64) (Int.fdiv a223 ((2 : Int) ^ min (Int.toNat (1 : Int)) (IntKind.bits IntKind.u64))) &&& BitVec.ofInt (IntKind.bits IntKind.u64) (6148914691236517205 : Int))) : Int) + IntKind.wrap IntKind.u64 (↑(BitVec.toNat (BitVec.ofInt (IntKind.bits IntKind.u64) a223 &&& BitVec.ofInt (IntKind.bits IntKind.u64) (6148914691236517205 : Int))) : Int))) ((2 : Int) ^ min (Int.toNat (2 : Int)) (IntKind.bits IntKind.u64))) &&& BitVec.ofInt (IntKind.bits IntKind.u64) (3689348814741910323 : Int))) : Int) + IntKind.wrap IntKind.u64 (↑(BitVec.toNat (BitVec.ofInt (IntKind.bits IntKind.u64) (IntKind.wrap IntKind.u64 (IntKind.wrap IntKind.u64 (↑(BitVec.toNat (BitVec.ofInt (IntKind.bits IntKind.u64) (Int.fdiv a223 ((2 : Int) ^ min (Int.toNat (1 : Int)) (IntKind.bits IntKind.u64))) &&& BitVec.ofInt (IntKind.bits IntKind.u64) (6148914691236517205 : Int))) : Int) + IntKind.wrap IntKind.u64 (↑(BitVec.toNat (BitVec.ofInt (IntKind.bits IntKind.u64) a223 &&& BitVec.ofInt (IntKind.bits IntKind.u64) (6148914691236517205 : Int))) : Int))) &&& BitVec.ofInt (IntKind.bits IntKind.u64) (3689348814741910323 : Int))) : Int))) ((2 : Int) ^ min (Int.toNat (4 : Int)) (IntKind.bits IntKind.u64)) + IntKind.wrap IntKind.u64 (IntKind.wrap IntKind.u64 (↑(BitVec.toNat (BitVec.ofInt (IntKind.bits IntKind.u64) (Int.fdiv (IntKind.wrap IntKind.u64 (IntKind.wrap IntKind.u64 (↑(BitVec.toNat (BitVec.ofInt (IntKind.bits IntKind.u64) (Int.fdiv a223 ((2 : Int) ^ min (Int.toNat (1 : Int)) (IntKind.bits IntKind.u64))) &&& BitVec.ofInt (IntKind.bits IntKind.u64) (6148914691236517205 : Int))) : Int) + IntKind.wrap IntKind.u64 (↑(BitVec.toNat (BitVec.ofInt (IntKind.bits IntKind.u64) a223 &&& BitVec.ofInt (IntKind.bits IntKind.u64) (6148914691236517205 : Int))) : Int))) ((2 : Int) ^ min (Int.toNat (2 : Int)) (IntKind.bits IntKind.u64))) &&& BitVec.ofInt (IntKind.bits IntKind.u64) (3689348814741910323 : Int))) : Int) + IntKind.wrap IntKind.u64 (↑(BitVec.toNat (BitVec.ofInt (IntKind.bits IntKind.u64) (IntKind.wrap IntKind.u64 (IntKind.wrap IntKind.u64 (↑(BitVec.toNat (BitVec.ofInt (IntKind.bits IntKind.u64) (Int.fdiv a223 ((2 : Int) ^ min (Int.toNat (1 : Int)) (IntKind.bits IntKind.u64))) &&& BitVec.ofInt (IntKind.bits IntKind.u64) (6148914691236517205 : Int))) : Int) + IntKind.wrap IntKind.u64 (↑(BitVec.toNat (BitVec.ofInt (IntKind.bits IntKind.u64) a223 &&& BitVec.ofInt (IntKind.bits IntKind.u64) (6148914691236517205 : Int))) : Int))) &&& BitVec.ofInt (IntKind.bits IntKind.u64) (3689348814741910323 : Int))) : Int)))) &&& BitVec.ofInt (IntKind.bits IntKind.u64) (1085102592571150095 : Int))) : Int) + Int.fdiv (IntKind.wrap IntKind.u64 (↑(BitVec.toNat (BitVec.ofInt (IntKind.bits IntKind.u64) (IntKind.wrap IntKind.u64 (Int.fdiv (IntKind.wrap IntKind.u64 (IntKind.wrap IntKind.u64 (↑(BitVec.toNat (BitVec.ofInt (IntKind.bits IntKind.u64) (Int.fdiv (IntKind.wrap IntKind.u64 (IntKind.wrap IntKind.u64 (↑(BitVec.toNat (BitVec.ofInt (IntKind.bits IntKind.u64) (Int.fdiv a223 ((2 : Int) ^ min (Int.toNat (1 : Int)) (IntKind.bits IntKind.u64))) &&& BitVec.ofInt (IntKind.bits IntKind.u64) (6148914691236517205 : Int))) : Int) + IntKind.wrap IntKind.u64 (↑(BitVec.toNat (BitVec.ofInt (IntKind.bits IntKind.u64) a223 &&& BitVec.ofInt (IntKind.bits IntKind.u64) (6148914691236517205 : Int))) : Int))) ((2 : Int) ^ min (Int.toNat (2 : Int)) (IntKind.bits IntKind.u64))) &&& BitVec.ofInt (IntKind.bits IntKind.u64) (3689348814741910323 : Int))) : Int) + IntKind.wrap IntKind.u64 (↑(BitVec.toNat (BitVec.ofInt (IntKind.bits IntKind.u64) (IntKind.wrap IntKind.u64 (IntKind.wrap IntKind.u64 (↑(BitVec.toNat (BitVec.ofInt (IntKind.bits IntKind.u64) (Int.fdiv a223 ((2 : Int) ^ min (Int.toNat (1 : Int)) (IntKind.bits IntKind.u64))) &&& BitVec.ofInt (IntKind.bits IntKind.u64) (6148914691236517205 : Int))) : Int) + IntKind.wrap IntKind.u64 (↑(BitVec.toNat (BitVec.ofInt (IntKind.bits IntKind.u64) a223 &&& BitVec.ofInt (IntKind.bits IntKind.u64) (6148914691236517205 : Int))) : Int))) &&& BitVec.ofInt (IntKind.bits IntKind.u64) (3689348814741910323 : Int))) : Int))) ((2 : Int) ^ min (Int.toNat (4 : Int)) (IntKind.bits IntKind.u64)) + IntKind.wrap IntKind.u64 (IntKind.wrap IntKind.u64 (↑(BitVec.toNat (BitVec.ofInt (IntKind.bits IntKind.u64) (Int.fdiv (IntKind.wrap IntKind.u64 (IntKind.wrap IntKind.u64 (↑(BitVec.toNat (BitVec.ofInt (IntKind.bits IntKind.u64) (Int.fdiv a223 ((2 : Int) ^ min (Int.toNat (1 : Int)) (IntKind.bits IntKind.u64))) &&& BitVec.ofInt (IntKind.bits IntKind.u64) (6148914691236517205 : Int))) : Int) + IntKind.wrap IntKind.u64 (↑(BitVec.toNat (BitVec.ofInt (IntKind.bits IntKind.u64) a223 &&& BitVec.ofInt (IntKind.bits IntKind.u64) (6148914691236517205 : Int))) : Int))) ((2 : Int) ^ min (Int.toNat (2 : Int)) (IntKind.bits IntKind.u64))) &&& BitVec.ofInt (IntKind.bits IntKind.u64) (3689348814741910323 : Int))) : Int) + IntKind.wrap IntKind.u64 (↑(BitVec.toNat (BitVec.ofInt (IntKind.bits IntKind.u64) (IntKind.wrap IntKind.u64 (IntKind.wrap IntKind.u64 (↑(BitVec.toNat (BitVec.ofInt (IntKind.bits IntKind.u64) (Int.fdiv a223 ((2 : Int) ^ min (Int.toNat (1 : Int)) (IntKind.bits IntKind.u64))) &&& BitVec.ofInt (IntKind.bits IntKind.u64) (6148914691236517205 : Int))) : Int) + IntKind.wrap IntKind.u64 (↑(BitVec.toNat (BitVec.ofInt (IntKind.bits IntKind.u64) a223 &&& BitVec.ofInt (IntKind.bits IntKind.u64) (6148914691236517205 : Int))) : Int))) &&& BitVec.ofInt (IntKind.bits IntKind.u64) (3689348814741910323 : Int))) : Int)))) &&& BitVec.ofInt (IntKind.bits IntKind.u64) (1085102592571150095 : Int))) : Int)) ((2 : Int) ^ min (Int.toNat (8 : Int)) (IntKind.bits IntKind.u64))) + Int.fdiv (IntKind.wrap IntKind.u64 (IntKind.wrap IntKind.u64 (↑(BitVec.toNat (BitVec.ofInt (IntKind.bits IntKind.u64) (IntKind.wrap IntKind.u64 (Int.fdiv (IntKind.wrap IntKind.u64 (IntKind.wrap IntKind.u64 (↑(BitVec.toNat (BitVec.ofInt (IntKind.bits IntKind.u64) (Int.fdiv (IntKind.wrap IntKind.u64 (IntKind.wrap IntKind.u64 (↑(BitVec.toNat (BitVec.ofInt (IntKind.bits IntKind.u64) (Int.fdiv a223 ((2 : Int) ^ min (Int.toNat (1 : Int)) (IntKind.bits IntKind.u64))) &&& BitVec.ofInt (IntKind.bits IntKind.u64) (6148914691236517205 : Int))) : Int) + IntKind.wrap IntKind.u64 (↑(BitVec.toNat (BitVec.ofInt (IntKind.bits IntKind.u64) a223 &&& BitVec.ofInt (IntKind.bits IntKind.u64) (6148914691236517205 : Int))) : Int))) ((2 : Int) ^ min (Int.toNat (2 : Int)) (IntKind.bits IntKind.u64))) &&& BitVec.ofInt (IntKind.bits IntKind.u64) (3689348814741910323 : Int))) : Int) + IntKind.wrap IntKind.u64 (↑(BitVec.toNat (BitVec.ofInt (IntKind.bits IntKind.u64) (IntKind.wrap IntKind.u64 (IntKind.wrap IntKind.u64 (↑(BitVec.toNat (BitVec.ofInt (IntKind.bits IntKind.u64) (Int.fdiv a223 ((2 : Int) ^ min (Int.toNat (1 : Int)) (IntKind.bits IntKind.u64))) &&& BitVec.ofInt (IntKind.bits IntKind.u64) (6148914691236517205 : Int))) : Int) + IntKind.wrap IntKind.u64 (↑(BitVec.toNat (BitVec.ofInt (IntKind.bits IntKind.u64) a223 &&& BitVec.ofInt (IntKind.bits IntKind.u64) (6148914691236517205 : Int))) : Int))) &&& BitVec.ofInt (IntKind.bits IntKind.u64) (3689348814741910323 : Int))) : Int))) ((2 : Int) ^ min (Int.toNat (4 : Int)) (IntKind.bits IntKind.u64)) + IntKind.wrap IntKind.u64 (IntKind.wrap IntKind.u64 (↑(BitVec.toNat (BitVec.ofInt (IntKind.bits IntKind.u64) (Int.fdiv (IntKind.wrap IntKind.u64 (IntKind.wrap IntKind.u64 (↑(BitVec.toNat (BitVec.ofInt (IntKind.bits IntKind.u64) (Int.fdiv a223 ((2 : Int) ^ min (Int.toNat (1 : Int)) (IntKind.bits IntKind.u64))) &&& BitVec.ofInt (IntKind.bits IntKind.u64) (6148914691236517205 : Int))) : Int) + IntKind.wrap IntKind.u64 (↑(BitVec.toNat (BitVec.ofInt (IntKind.bits IntKind.u64) a223 &&& BitVec.ofInt (IntKind.bits IntKind.u64) (6148914691236517205 : Int))) : Int))) ((2 : Int) ^ min (Int.toNat (2 : Int)) (IntKind.bits IntKind.u64))) &&& BitVec.ofInt (IntKind.bits IntKind.u64) (3689348814741910323 : Int))) : Int) + IntKind.wrap IntKind.u64 (↑(BitVec.toNat (BitVec.ofInt (IntKind.bits IntKind.u64) (IntKind.wrap IntKind.u64 (IntKind.wrap IntKind.u64 (↑(BitVec.toNat (BitVec.ofInt (IntKind.bits IntKind.u64) (Int.fdiv a223 ((2 : Int) ^ min (Int.toNat (1 : Int)) (IntKind.bits IntKind.u64))) &&& BitVec.ofInt (IntKind.bits IntKind.u64) (6148914691236517205 : Int))) : Int) + IntKind.wrap IntKind.u64 (↑(BitVec.toNat (BitVec.ofInt (IntKind.bits IntKind.u64) a223 &&& BitVec.ofInt (IntKind.bits IntKind.u64) (6148914691236517205 : Int))) : Int))) &&& BitVec.ofInt (IntKind.bits IntKind.u64) (3689348814741910323 : Int))) : Int)))) &&& BitVec.ofInt (IntKind.bits IntKind.u64) (1085102592571150095 : Int))) : Int) + Int.fdiv (IntKind.wrap IntKind.u64 (↑(BitVec.toNat (BitVec.ofInt (IntKind.bits IntKind.u64) (IntKind.wrap IntKind.u64 (Int.fdiv (IntKind.wrap IntKind.u64 (IntKind.wrap IntKind.u64 (↑(BitVec.toNat (BitVec.ofInt (IntKind.bits IntKind.u64) (Int.fdiv (IntKind.wrap IntKind.u64 (IntKind.wrap IntKind.u64 (↑(BitVec.toNat (BitVec.ofInt (IntKind.bits IntKind.u64) (Int.fdiv a223 ((2 : Int) ^ min (Int.toNat (1 : Int)) (IntKind.bits IntKind.u64))) &&& BitVec.ofInt (IntKind.bits IntKind.u64) (6148914691236517205 : Int))) : Int) + IntKind.wrap IntKind.u64 (↑(BitVec.toNat (BitVec.ofInt (IntKind.bits IntKind.u64) a223 &&& BitVec.ofInt (IntKind.bits IntKind.u64) (6148914691236517205 : Int))) : Int))) ((2 : Int) ^ min (Int.toNat (2 : Int)) (IntKind.bits IntKind.u64))) &&& BitVec.ofInt (IntKind.bits IntKind.u64) (3689348814741910323 : Int))) : Int) + IntKind.wrap IntKind.u64 (↑(BitVec.toNat (BitVec.ofInt (IntKind.bits IntKind.u64) (IntKind.wrap IntKind.u64 (IntKind.wrap IntKind.u64 (↑(BitVec.toNat (BitVec.ofInt (IntKind.bits IntKind.u64) (Int.fdiv a223 ((2 : Int) ^ min (Int.toNat (1 : Int)) (IntKind.bits IntKind.u64))) &&& BitVec.ofInt (IntKind.bits IntKind.u64) (6148914691236517205 : Int))) : Int) + IntKind.wrap IntKind.u64 (↑(BitVec.toNat (BitVec.ofInt (IntKind.bits IntKind.u64) a223 &&& BitVec.ofInt (IntKind.bits IntKind.u64) (6148914691236517205 : Int))) : Int))) &&& BitVec.ofInt (IntKind.bits IntKind.u64) (3689348814741910323 : Int))) : Int))) ((2 : Int) ^ min (Int.toNat (4 : Int)) (IntKind.bits IntKind.u64)) + IntKind.wrap IntKind.u64 (IntKind.wrap IntKind.u64 (↑(BitVec.toNat (BitVec.ofInt (IntKind.bits IntKind.u64) (Int.fdiv (IntKind.wrap IntKind.u64 (IntKind.wrap IntKind.u64 (↑(BitVec.toNat (BitVec.ofInt (IntKind.bits IntKind.u64) (Int.fdiv a223 ((2 : Int) ^ min (Int.toNat (1 : Int)) (IntKind.bits IntKind.u64))) &&& BitVec.ofInt (IntKind.bits IntKind.u64) (6148914691236517205 : Int))) : Int) + IntKind.wrap IntKind.u64 (↑(BitVec.toNat (BitVec.ofInt (IntKind.bits IntKind.u64) a223 &&& BitVec.ofInt (IntKind.bits IntKind.u64) (6148914691236517205 : Int))) : Int))) ((2 : Int) ^ min (Int.toNat (2 : Int)) (IntKind.bits IntKind.u64))) &&& BitVec.ofInt (IntKind.bits IntKind.u64) (3689348814741910323 : Int))) : Int) + IntKind.wrap IntKind.u64 (↑(BitVec.toNat (BitVec.ofInt (IntKind.bits IntKind.u64) (IntKind.wrap IntKind.u64 (IntKind.wrap IntKind.u64 (↑(BitVec.toNat (BitVec.ofInt (IntKind.bits IntKind.u64) (Int.fdiv a223 ((2 : Int) ^ min (Int.toNat (1 : Int)) (IntKind.bits IntKind.u64))) &&& BitVec.ofInt (IntKind.bits IntKind.u64) (6148914691236517205 : Int))) : Int) + IntKind.wrap IntKind.u64 (↑(BitVec.toNat (BitVec.ofInt (IntKind.bits IntKind.u64) a223 &&& BitVec.ofInt (IntKind.bits IntKind.u64) (6148914691236517205 : Int))) : Int))) &&& BitVec.ofInt (IntKind.bits IntKind.u64) (3689348814741910323 : Int))) : Int)))) &&& BitVec.ofInt (IntKind.bits IntKind.u64) (1085102592571150095 : Int))) : Int)) ((2 : Int) ^ min (Int.toNat (8 : Int)) (IntKind.bits IntKind.u64)))) ((2 : Int) ^ min (Int.toNat (16 : Int)) (IntKind.bits IntKind.u64)))) ((2 : Int) ^ min (Int.toNat (32 : Int)) (IntKind.bits IntKind.u64))))) &&& BitVec.ofInt (IntKind.bits IntKind.i64) (127 : Int))) : Int))
noncomputable def math_bits_OnesCount64 {R : Type} : Nat → Int → (Int → Option R) → Option R := lock (@math_bits_OnesCount64_m R)
theorem math_bits_OnesCount64_def {R : Type} (N : Nat) (a223 : Int) (k : Int → Option R) : math_bits_OnesCount64 N a223 k = math_bits_OnesCount64_m N a223 k := by unfold math_bits_OnesCount64; rw [lock_eq]
def math_bits_OnesCount64_sp : Sp := ⟨[rInt .u64], []⟩
theorem math_bits_OnesCount64_sp_ok : math_bits_OnesCount64_sp.Ok := ⟨(allCons (rInt_ok .u64) allNil), eNil⟩
def math_bits_OnesCount64_rs : Sp := ⟨[rInt .i64], []⟩
theorem math_bits_OnesCount64_rs_ok : math_bits_OnesCount64_rs.Ok := ⟨(allCons (rInt_ok .i64) allNil), eNil⟩
def math_bits_OnesCount64_run {R : Type} (N : Nat) (args : List SV) (T : Tab) (kf : SV × Tab → Option R) : Option R :=
  math_bits_OnesCount64_m N (toI (lget args 0)) (fun q0 => kf (lget [.int .i64 q0] 0, []))
def math_bits_OnesCount64_lp {R : Type} (N : Nat) : Lp R := fun body S k => Option.none
noncomputable def math_bits_OnesCount64_go {R : Type} (N : Nat) (args : List SV) (T : Tab) (kf : SV × Tab → Option R) : Option R :=
  math_bits_OnesCount64 N (toI (lget args 0)) (fun q0 => kf (lget [.int .i64 q0] 0, []))
noncomputable def math_bits_OnesCount64_cal {R : Type} (N : Nat) : Cal R := callM (faults_Truth_cal N) 88 0 math_bits_OnesCount64_sp (math_bits_OnesCount64_go N)
theorem math_bits_OnesCount64_cal_ok {R : Type} (N : Nat) : CalOk E.P (math_bits_OnesCount64_cal (R := R) N) :=
  callM_ok hE (faults_Truth_cal_ok N) (lp := math_bits_OnesCount64_lp N) (jn := noJn) (keys := []) kNil (by kernel_rfl) (js := []) jNil (by kernel_rfl) math_bits_OnesCount64_sp_ok math_bits_OnesCount64_rs_ok (fun args T kf => Eq.trans (math_bits_OnesCount64_def N (toI (lget args 0)) (fun q0 => kf (lget [.int .i64 q0] 0, []))) (by kernel_rfl : math_bits_OnesCount64_run N args T kf = fnM E (faults_Truth_cal N) (math_bits_OnesCount64_lp N) (noJn) 88 (math_bits_OnesCount64_sp.vs args) (math_bits_OnesCount64_sp.tab T) 0 (resK math_bits_OnesCount64_rs kf)))


def math_bits_OnesCount_m {R : Type} (N : Nat) (a222 : Int) (k : Int → Option R) : Option R :=
  math_bits_OnesCount64 N a222 (fun r224 =>
  k r224)
noncomputable def math_bits_OnesCount {R : Type} : Nat → Int → (Int → Option R) → Option R := lock (@math_bits_OnesCount_m R)
theorem math_bits_OnesCount_def {R : Type} (N : Nat) (a222 : Int) (k : Int → Option R) : math_bits_OnesCount N a222 k = math_bits_OnesCount_m N a222 k := by unfold math_bits_OnesCount; rw [lock_eq]
def math_bits_OnesCount_sp : Sp := ⟨[rInt .u64], []⟩
theorem math_bits_OnesCount_sp_ok : math_bits_OnesCount_sp.Ok := ⟨(allCons (rInt_ok .u64) allNil), eNil⟩
def math_bits_OnesCount_rs : Sp := ⟨[rInt .i64], []⟩
theorem math_bits_OnesCount_rs_ok : math_bits_OnesCount_rs.Ok := ⟨(allCons (rInt_ok .i64) allNil), eNil⟩
def math_bits_OnesCount_run {R : Type} (N : Nat) (args : List SV) (T : Tab) (kf : SV × Tab → Option R) : Option R :=
  math_bits_OnesCount_m N (toI (lget args 0)) (fun q0 => kf (lget [.int .i64 q0] 0, []))
def math_bits_OnesCount_lp {R : Type} (N : Nat) : Lp R := fun body S k => Option.none
noncomputable def math_bits_OnesCount_go {R : Type} (N : Nat) (args : List SV) (T : Tab) (kf : SV × Tab → Option R) : Option R :=
  math_bits_OnesCount N (toI (lget args 0)) (fun q0 => kf (lget [.int .i64 q0] 0, []))
noncomputable def math_bits_OnesCount_cal {R : Type} (N : Nat) : Cal R := callM (math_bits_OnesCount64_cal N) 68 0 math_bits_OnesCount_sp (math_bits_OnesCount_go N)
theorem math_bits_OnesCount_cal_ok {R : Type} (N : Nat) : CalOk E.P (math_bits_OnesCount_cal (R := R) N) :=
  callM_ok hE (math_bits_OnesCount64_cal_ok N) (lp := math_bits_OnesCount_lp N) (jn := noJn) (keys := []) kNil (by kernel_rfl) (js := []) jNil (by kernel_rfl) math_bits_OnesCount_sp_ok math_bits_OnesCount_rs_ok (fun args T kf => Eq.trans (math_bits_OnesCount_def N (toI (lget args 0)) (fun q0 => kf (lget [.int .i64 q0] 0, []))) (by kernel_rfl : math_bits_OnesCount_run N args T kf = fnM E (math_bits_OnesCount64_cal N) (math_bits_OnesCount_lp N) (noJn) 68 (math_bits_OnesCount_sp.vs args) (math_bits_OnesCount_sp.tab T) 0 (resK math_bits_OnesCount_rs kf)))


def math_bits_TrailingZeros64_m {R : Type} (N : Nat) (a232 : Int) (k : Int → Option R) : Option R :=
  bif a232 == (0 : Int) then
   k (64 : Int)
  else
   Option.none
noncomputable def math_bits_TrailingZeros64 {R : Type} : Nat → Int → (Int → Option R) → Option R := lock (@math_bits_TrailingZeros64_m R)
theorem math_bits_TrailingZeros64_def {R : Type} (N : Nat) (a232 : Int) (k : Int → Option R) : math_bits_TrailingZeros64 N a232 k = math_bits_TrailingZeros64_m N a232 k := by unfold math_bits_TrailingZeros64; rw [lock_eq]
def math_bits_TrailingZeros64_sp : Sp := ⟨[rInt .u64], []⟩
theorem math_bits_TrailingZeros64_sp_ok : math_bits_TrailingZeros64_sp.Ok := ⟨(allCons (rInt_ok .u64) allNil), eNil⟩
def math_bits_TrailingZeros64_rs : Sp := ⟨[rInt .i64], []⟩
theorem math_bits_TrailingZeros64_rs_ok : math_bits_TrailingZeros64_rs.Ok := ⟨(allCons (rInt_ok .i64) allNil), eNil⟩
def math_bits_TrailingZeros64_run {R : Type} (N : Nat) (args : List SV) (T : Tab) (kf : SV × Tab → Option R) : Option R :=
  math_bits_TrailingZeros64_m N (toI (lget args 0)) (fun q0 => kf (lget [.int .i64 q0] 0, []))
def math_bits_TrailingZeros64_lp {R : Type} (N : Nat) : Lp R := fun body S k => Option.none
noncomputable def math_bits_TrailingZeros64_go {R : Type} (N : Nat) (args : List SV) (T : Tab) (kf : SV × Tab → Option R) : Option R :=
  math_bits_TrailingZeros64 N (toI (lget args 0)) (fun q0 => kf (lget [.int .i64 q0] 0, []))
noncomputable def math_bits_TrailingZeros64_cal {R : Type} (N : Nat) : Cal R := callM (math_bits_OnesCount_cal N) 91 0 math_bits_TrailingZeros64_sp (math_bits_TrailingZeros64_go N)
theorem math_bits_TrailingZeros64_cal_ok {R : Type} (N : Nat) : CalOk E.P (math_bits_TrailingZeros64_cal (R := R) N) :=
  callM_ok hE (math_bits_OnesCount_cal_ok N) (lp := math_bits_TrailingZeros64_lp N) (jn := noJn) (keys := []) kNil (by kernel_rfl) (js := []) jNil (by kernel_rfl) math_bits_TrailingZeros64_sp_ok math_bits_TrailingZeros64_rs_ok (fun args T kf => Eq.trans (math_bits_TrailingZeros64_def N (toI (lget args 0)) (fun q0 => kf (lget [.int .i64 q0] 0, []))) (by kernel_rfl : math_bits_TrailingZeros64_run N args T kf = fnM E (math_bits_OnesCount_cal N) (math_bits_TrailingZeros64_lp N) (noJn) 91 (math_bits_TrailingZeros64_sp.vs args) (math_bits_TrailingZeros64_sp.tab T) 0 (resK math_bits_TrailingZeros64_rs kf)))


def math_bits_TrailingZeros_m {R : Type} (N : Nat) (a231 : Int) (k : Int → Option R) : Option R :=
  math_bits_TrailingZeros64 N a231 (fun r233 =>
  k r233)
noncomputable def math_bits_TrailingZeros {R : Type} : Nat → Int → (Int → Option R) → Option R := lock (@math_bits_TrailingZeros_m R)
theorem math_bits_TrailingZeros_def {R : Type} (N : Nat) (a231 : Int) (k : Int → Option R) : math_bits_TrailingZeros N a231 k = math_bits_TrailingZeros_m N a231 k := by unfold math_bits_TrailingZeros; rw [lock_eq]
def math_bits_TrailingZeros_sp : Sp := ⟨[rInt .u64], []⟩
theorem math_bits_TrailingZeros_sp_ok : math_bits_TrailingZeros_sp.Ok := ⟨(allCons (rInt_ok .u64) allNil), eNil⟩
def math_bits_TrailingZeros_rs : Sp := ⟨[rInt .i64], []⟩
theorem math_bits_TrailingZeros_rs_ok : math_bits_TrailingZeros_rs.Ok := ⟨(allCons (rInt_ok .i64) allNil), eNil⟩
def math_bits_TrailingZeros_run {R : Type} (N : Nat) (args : List SV) (T : Tab) (kf : SV × Tab → Option R) : Option R :=
  math_bits_TrailingZeros_m N (toI (lget args 0)) (fun q0 => kf (lget [.int .i64 q0] 0, []))
def math_bits_TrailingZeros_lp {R : Type} (N : Nat) : Lp R := fun body S k => Option.none
noncomputable def math_bits_TrailingZeros_go {R : Type} (N : Nat) (args : List SV) (T : Tab) (kf : SV × Tab → Option R) : Option R :=
  math_bits_TrailingZeros N (toI (lget args 0)) (fun q0 => kf (lget [.int .i64 q0] 0, []))
noncomputable def math_bits_TrailingZeros_cal {R : Type} (N : Nat) : Cal R := callM (math_bits_TrailingZeros64_cal N) 70 0 math_bits_TrailingZeros_sp (math_bits_TrailingZeros_go N)
theorem math_bits_TrailingZeros_cal_ok {R : Type} (N : Nat) : CalOk E.P (math_bits_TrailingZeros_cal (R := R) N) :=
  callM_ok hE (math_bits_TrailingZeros64_cal_ok N) (lp := math_bits_TrailingZeros_lp N) (jn := noJn) (keys := []) kNil (by kernel_rfl) (js := []) jNil (by kernel_rfl) math_bits_TrailingZeros_sp_ok math_bits_TrailingZeros_rs_ok (fun args T kf => Eq.trans (math_bits_TrailingZeros_def N (toI (lget args 0)) (fun q0 => kf (lget [.int .i64 q0] 0, []))) (by kernel_rfl : math_bits_TrailingZeros_run N args T kf = fnM E (math_bits_TrailingZeros64_cal N) (math_bits_TrailingZeros_lp N) (noJn) 70 (math_bits_TrailingZeros_sp.vs args) (math_bits_TrailingZeros_sp.tab T) 0 (resK math_bits_TrailingZeros_rs kf)))

def faults_members_L2 : LoopSp := ⟨⟨[0, 3], ⟨((rInt .i64) :: (dr 2 ((rRow 0) :: (dr 13 [])))), [(0, eRow intC)]⟩, 1⟩, [(some 0, ⟨[3], ⟨(dr 3 ((rRow 0) :: (dr 13 []))), [(0, eRow intC)]⟩, 1⟩)]⟩
theorem faults_members_L2_ok : faults_members_L2.Ok := ⟨⟨(allCons (rInt_ok .i64) (drCons 2 (allCons (rRow_ok 0) (drCons 13 allNil)))), (eCons (eRow_ok intC_ok) eNil)⟩, (xCons ⟨(drCons 3 (allCons (rRow_ok 0) (drCons 13 allNil))), (eCons (eRow_ok intC_ok) eNil)⟩ xNil)⟩
def faults_members_h2 (v228 : Int) (v229 : Bool) (v230 : Arr Int) : St := ⟨((.int .i64 v228) :: (un 2 ((.row 0) :: (un 13 [])))), [(0, rowE intC v229 v230)], 1⟩
def faults_members_x2_0 (q0 : Bool) (q1 : Arr Int) : St := ⟨(un 3 ((.row 0) :: (un 13 []))), [(0, rowE intC q0 q1)], 1⟩
def faults_members_b2 {R : Type} (N : Nat) (rc : Int → Bool → Arr Int → Option R) (v228 : Int) (v229 : Bool) (v230 : Arr Int) (k0 : Bool → Arr Int → Option R) : Option R :=
  bif v228 != (0 : Int) then
   math_bits_TrailingZeros N (IntKind.wrap IntKind.u64 v228) (fun r234 =>
   bif room (Arr.n v230 + (1 : Nat)) then
    rc (w64 (↑(BitVec.toNat (BitVec.ofInt (IntKind.bits IntKind.i64) v228 &&& BitVec.ofInt (IntKind.bits IntKind.i64) (w64 (v228 - (1 : Int))))) : Int)) false (lst intC (Arr.n v230 + (1 : Nat)) (catC (Arr.n v230) (Cod.cell intC (Arr.f v230)) (litC [SV.int IntKind.i64 (0 : Int)] [[SV.int IntKind.i64 r234]])))
   else
    Option.none)
  else
   k0 v229 v230
def faults_members_l2 {R : Type} (N : Nat) : Nat → Int → Bool → Arr Int → (Bool → Arr Int → Option R) → Option R
  | 0, _, _, _, _ => Option.none
  | n + 1, v228, v229, v230, k0 => faults_members_b2 N (fun v228 v229 v230 => faults_members_l2 N n v228 v229 v230 k0) v228 v229 v230 k0


def faults_members_m {R : Type} (N : Nat) (a227 : Int) (k : Bool → Arr Int → Option R) : Option R :=
  faults_members_l2 N N a227 true (lst intC (0 : Nat) (zeroC [SV.int IntKind.i64 (0 : Int)])) (fun r235 r236 =>
   k r235 r236)
noncomputable def faults_members {R : Type} : Nat → Int → (Bool → Arr Int → Option R) → Option R := lock (@faults_members_m R)
theorem faults_members_def {R : Type} (N : Nat) (a227 : Int) (k : Bool → Arr Int → Option R) : faults_members N a227 k = faults_members_m N a227 k := by unfold faults_members; rw [lock_eq]
def faults_members_sp : Sp := ⟨[rInt .i64], []⟩
theorem faults_members_sp_ok : faults_members_sp.Ok := ⟨(allCons (rInt_ok .i64) allNil), eNil⟩
def faults_members_rs : Sp := ⟨[rRow 0], [(0, eRow intC)]⟩
theorem faults_members_rs_ok : faults_members_rs.Ok := ⟨(allCons (rRow_ok 0) allNil), (eCons (eRow_ok intC_ok) eNil)⟩
def faults_members_run {R : Type} (N : Nat) (args : List SV) (T : Tab) (kf : SV × Tab → Option R) : Option R :=
  faults_members_m N (toI (lget args 0)) (fun q0 q1 => kf (lget [.row 0] 0, [(0, rowE intC q0 q1)]))
def faults_members_d2 {R : Type} (N : Nat) (S0 : St) (k : Exit → St → Option R) : Option R :=
  faults_members_l2 N N (toI (lget S0.tmps 0)) (entNl (entAt S0.tab 0)) (lst intC (entN (entAt S0.tab 0)) (entC (entAt S0.tab 0))) (fun q0 q1 => k (.exit 0) (faults_members_x2_0 q0 q1))
def faults_members_lp {R : Type} (N : Nat) : Lp R := fun body S k => bif (Go.Sx.keyOf body).getD 0 == 2 then (faults_members_L2.head.raw 0 S (fun S0 => faults_members_d2 N S0 k)) else Option.none
theorem faults_members_l2_eq {R : Type} (N : Nat) (k : Exit → St → Option R) (n : Nat) : ∀ (v0 : Int) (v1 : Bool) (v2 : Arr Int), loopM E.Θ (math_bits_TrailingZeros_cal N) (faults_members_lp N) (noJn) 0 faults_members_L2 (bodyAt E 41 2) n (faults_members_h2 v0 v1 v2) k = faults_members_l2 N n v0 v1 v2 (fun q0 q1 => k (.exit 0) (faults_members_x2_0 q0 q1)) := by
  induction n with
  | zero => intro v0 v1 v2; rfl
  | succ n ih =>
    intro v0 v1 v2
    refine Eq.trans (b := faults_members_b2 N (fun v0 v1 v2 => loopM E.Θ (math_bits_TrailingZeros_cal N) (faults_members_lp N) (noJn) 0 faults_members_L2 (bodyAt E 41 2) n (faults_members_h2 v0 v1 v2) k) v0 v1 v2 (fun q0 q1 => k (.exit 0) (faults_members_x2_0 q0 q1))) (by kernel_rfl) ?_
    have h : (fun (v0 : Int) (v1 : Bool) (v2 : Arr Int) => loopM E.Θ (math_bits_TrailingZeros_cal N) (faults_members_lp N) (noJn) 0 faults_members_L2 (bodyAt E 41 2) n (faults_members_h2 v0 v1 v2) k) = (fun (v0 : Int) (v1 : Bool) (v2 : Arr Int) => faults_members_l2 N n v0 v1 v2 (fun q0 q1 => k (.exit 0) (faults_members_x2_0 q0 q1))) := funext fun v0 => funext fun v1 => funext fun v2 => ih v0 v1 v2
    rw [h]
    rfl
theorem faults_members_k2 {R : Type} (N : Nat) : LpKey (R := R) E 41 0 (faults_members_lp N) 2 :=
  lpKey_of hE (math_bits_TrailingZeros_cal_ok N) (lp := faults_members_lp N) (jn := noJn) faults_members_L2_ok [] kNil (by kernel_rfl) [] jNil (by kernel_rfl) N fun S k =>
    Eq.trans (b := faults_members_L2.head.raw 0 S (fun S0 => faults_members_d2 N S0 k)) (by kernel_rfl) (congrArg (faults_members_L2.head.raw 0 S) (funext fun S0 => Eq.trans (faults_members_l2_eq N k N (toI (lget S0.tmps 0)) (entNl (entAt S0.tab 0)) (lst intC (entN (entAt S0.tab 0)) (entC (entAt S0.tab 0)))).symm (by kernel_rfl)))
noncomputable def faults_members_go {R : Type} (N : Nat) (args : List SV) (T : Tab) (kf : SV × Tab → Option R) : Option R :=
  faults_members N (toI (lget args 0)) (fun q0 q1 => kf (lget [.row 0] 0, [(0, rowE intC q0 q1)]))
noncomputable def faults_members_cal {R : Type} (N : Nat) : Cal R := callM (math_bits_TrailingZeros_cal N) 41 0 faults_members_sp (faults_members_go N)
theorem faults_members_cal_ok {R : Type} (N : Nat) : CalOk E.P (faults_members_cal (R := R) N) :=
  callM_ok hE (math_bits_TrailingZeros_cal_ok N) (lp := faults_members_lp N) (jn := noJn) (keys := [2]) (kCons (faults_members_k2 N) kNil) (by kernel_rfl) (js := []) jNil (by kernel_rfl) faults_members_sp_ok faults_members_rs_ok (fun args T kf => Eq.trans (faults_members_def N (toI (lget args 0)) (fun q0 q1 => kf (lget [.row 0] 0, [(0, rowE intC q0 q1)]))) (by kernel_rfl : faults_members_run N args T kf = fnM E (math_bits_TrailingZeros_cal N) (faults_members_lp N) (noJn) 41 (faults_members_sp.vs args) (faults_members_sp.tab T) 0 (resK faults_members_rs kf)))


def cmp_isNaN_int__m {R : Type} (N : Nat) (a250 : Int) (k : Bool → Option R) : Option R :=
  k (a250 != a250)
noncomputable def cmp_isNaN_int_ {R : Type} : Nat → Int → (Bool → Option R) → Option R := lock (@cmp_isNaN_int__m R)
theorem cmp_isNaN_int__def {R : Type} (N : Nat) (a250 : Int) (k : Bool → Option R) : cmp_isNaN_int_ N a250 k = cmp_isNaN_int__m N a250 k := by unfold cmp_isNaN_int_; rw [lock_eq]
def cmp_isNaN_int__sp : Sp := ⟨[rInt .i64], []⟩
theorem cmp_isNaN_int__sp_ok : cmp_isNaN_int__sp.Ok := ⟨(allCons (rInt_ok .i64) allNil), eNil⟩
def cmp_isNaN_int__rs : Sp := ⟨[rBool], []⟩
theorem cmp_isNaN_int__rs_ok : cmp_isNaN_int__rs.Ok := ⟨(allCons rBool_ok allNil), eNil⟩
def cmp_isNaN_int__run {R : Type} (N : Nat) (args : List SV) (T : Tab) (kf : SV × Tab → Option R) : Option R :=
  cmp_isNaN_int__m N (toI (lget args 0)) (fun q0 => kf (lget [.bool q0] 0, []))
def cmp_isNaN_int__lp {R : Type} (N : Nat) : Lp R := fun body S k => Option.none
noncomputable def cmp_isNaN_int__go {R : Type} (N : Nat) (args : List SV) (T : Tab) (kf : SV × Tab → Option R) : Option R :=
  cmp_isNaN_int_ N (toI (lget args 0)) (fun q0 => kf (lget [.bool q0] 0, []))
noncomputable def cmp_isNaN_int__cal {R : Type} (N : Nat) : Cal R := callM (faults_members_cal N) 103 0 cmp_isNaN_int__sp (cmp_isNaN_int__go N)
theorem cmp_isNaN_int__cal_ok {R : Type} (N : Nat) : CalOk E.P (cmp_isNaN_int__cal (R := R) N) :=
  callM_ok hE (faults_members_cal_ok N) (lp := cmp_isNaN_int__lp N) (jn := noJn) (keys := []) kNil (by kernel_rfl) (js := []) jNil (by kernel_rfl) cmp_isNaN_int__sp_ok cmp_isNaN_int__rs_ok (fun args T kf => Eq.trans (cmp_isNaN_int__def N (toI (lget args 0)) (fun q0 => kf (lget [.bool q0] 0, []))) (by kernel_rfl : cmp_isNaN_int__run N args T kf = fnM E (faults_members_cal N) (cmp_isNaN_int__lp N) (noJn) 103 (cmp_isNaN_int__sp.vs args) (cmp_isNaN_int__sp.tab T) 0 (resK cmp_isNaN_int__rs kf)))


def cmp_Compare_int__m {R : Type} (N : Nat) (a248 : Int) (a249 : Int) (k : Int → Option R) : Option R :=
  cmp_isNaN_int_ N a248 (fun r251 =>
  cmp_isNaN_int_ N a249 (fun r252 =>
  bif r251 then
   bif r252 then
    k (0 : Int)
   else
    k (-1 : Int)
  else
   bif r252 then
    k (1 : Int)
   else
    bif decide (a248 < a249) then
     k (-1 : Int)
    else
     bif decide (a248 > a249) then
      k (1 : Int)
     else
      k (0 : Int)))
noncomputable def cmp_Compare_int_ {R : Type} : Nat → Int → Int → (Int → Option R) → Option R := lock (@cmp_Compare_int__m R)
theorem cmp_Compare_int__def {R : Type} (N : Nat) (a248 : Int) (a249 : Int) (k : Int → Option R) : cmp_Compare_int_ N a248 a249 k = cmp_Compare_int__m N a248 a249 k := by unfold cmp_Compare_int_; rw [lock_eq]
def cmp_Compare_int__sp : Sp := ⟨[rInt .i64, rInt .i64], []⟩
theorem cmp_Compare_int__sp_ok : cmp_Compare_int__sp.Ok := ⟨(allCons (rInt_ok .i64) (allCons (rInt_ok .i64) allNil)), eNil⟩
def cmp_Compare_int__rs : Sp := ⟨[rInt .i64], []⟩
theorem cmp_Compare_int__rs_ok : cmp_Compare_int__rs.Ok := ⟨(allCons (rInt_ok .i64) allNil), eNil⟩
def cmp_Compare_int__run {R : Type} (N : Nat) (args : List SV) (T : Tab) (kf : SV × Tab → Option R) : Option R :=
  cmp_Compare_int__m N (toI (lget args 0)) (toI (lget args 1)) (fun q0 => kf (lget [.int .i64 q0] 0, []))
def cmp_Compare_int__lp {R : Type} (N : Nat) : Lp R := fun body S k => Option.none
noncomputable def cmp_Compare_int__go {R : Type} (N : Nat) (args : List SV) (T : Tab) (kf : SV × Tab → Option R) : Option R :=
  cmp_Compare_int_ N (toI (lget args 0)) (toI (lget args 1)) (fun q0 => kf (lget [.int .i64 q0] 0, []))
noncomputable def cmp_Compare_int__cal {R : Type} (N : Nat) : Cal R := callM (cmp_isNaN_int__cal N) 89 0 cmp_Compare_int__sp (cmp_Compare_int__go N)
theorem cmp_Compare_int__cal_ok {R : Type} (N : Nat) : CalOk E.P (cmp_Compare_int__cal (R := R) N) :=
  callM_ok hE (cmp_isNaN_int__cal_ok N) (lp := cmp_Compare_int__lp N) (jn := noJn) (keys := []) kNil (by kernel_rfl) (js := []) jNil (by kernel_rfl) cmp_Compare_int__sp_ok cmp_Compare_int__rs_ok (fun args T kf => Eq.trans (cmp_Compare_int__def N (toI (lget args 0)) (toI (lget args 1)) (fun q0 => kf (lget [.int .i64 q0] 0, []))) (by kernel_rfl : cmp_Compare_int__run N args T kf = fnM E (cmp_isNaN_int__cal N) (cmp_Compare_int__lp N) (noJn) 89 (cmp_Compare_int__sp.vs args) (cmp_Compare_int__sp.tab T) 0 (resK cmp_Compare_int__rs kf)))

def slices_Compare___int_int__L2 : LoopSp := ⟨⟨[0, 1, 9, 10, 11], ⟨((rSl intC) :: (rSl intC) :: (dr 7 ((rSl intC) :: (rInt .i64) :: (rInt .i64) :: (dr 24 [])))), []⟩, 0⟩, [(Option.none, ⟨[4], ⟨(dr 4 ((rInt .i64) :: (dr 31 []))), []⟩, 0⟩), (some 0, ⟨[0, 1], ⟨((rSl intC) :: (rSl intC) :: (dr 34 [])), []⟩, 0⟩)]⟩
theorem slices_Compare___int_int__L2_ok : slices_Compare___int_int__L2.Ok := ⟨⟨(allCons (rSl_ok intC_ok) (allCons (rSl_ok intC_ok) (drCons 7 (allCons (rSl_ok intC_ok) (allCons (rInt_ok .i64) (allCons (rInt_ok .i64) (drCons 24 allNil))))))), eNil⟩, (xCons ⟨(drCons 4 (allCons (rInt_ok .i64) (drCons 31 allNil))), eNil⟩ (xCons ⟨(allCons (rSl_ok intC_ok) (allCons (rSl_ok intC_ok) (drCons 34 allNil))), eNil⟩ xNil))⟩
def slices_Compare___int_int__h2 (v243 : Arr Int) (v244 : Arr Int) (v245 : Arr Int) (v246 : Int) (v247 : Int) : St := ⟨((slC intC v243) :: (slC intC v244) :: (un 7 ((slC intC v245) :: (.int .i64 v246) :: (.int .i64 v247) :: (un 24 [])))), [], 0⟩
def slices_Compare___int_int__x2_r (q0 : Int) : St := ⟨(un 4 ((.int .i64 q0) :: (un 31 []))), [], 0⟩
def slices_Compare___int_int__x2_0 (v243 : Arr Int) (v244 : Arr Int) : St := ⟨((slC intC v243) :: (slC intC v244) :: (un 34 [])), [], 0⟩
def slices_Compare___int_int__b2 {R : Type} (N : Nat) (rc : Arr Int → Arr Int → Arr Int → Int → Int → Option R) (v243 : Arr Int) (v244 : Arr Int) (v245 : Arr Int) (v246 : Int) (v247 : Int) (kr : Int → Option R) (k0 : Unit → Option R) : Option R :=
  bif decide (v247 < v246) then
   bif decide ((0 : Int) ≤ v247) && decide (v247 < (↑(Arr.n v245) : Int)) then
    bif decide (v247 ≥ (↑(Arr.n v244) : Int)) then
     kr (1 : Int)
    else
     bif decide ((0 : Int) ≤ v247) && decide (v247 < (↑(Arr.n v244) : Int)) then
      cmp_Compare_int_ N (Arr.f v245 (Int.toNat v247)) (Arr.f v244 (Int.toNat v247)) (fun r253 =>
      bif r253 != (0 : Int) then
       kr r253
      else
       rc v243 v244 v245 v246 (w64 (v247 + (1 : Int))))
     else
      Option.none
   else
    Option.none
  else
   k0 ()
def slices_Compare___int_int__l2 {R : Type} (N : Nat) : Nat → Arr Int → Arr Int → Arr Int → Int → Int → (Int → Option R) → (Unit → Option R) → Option R
  | 0, _, _, _, _, _, _, _ => Option.none
  | n + 1, v243, v244, v245, v246, v247, kr, k0 => slices_Compare___int_int__b2 N (fun v243 v244 v245 v246 v247 => slices_Compare___int_int__l2 N n v243 v244 v245 v246 v247 kr k0) v243 v244 v245 v246 v247 kr k0


def slices_Compare___int_int__m {R : Type} (N : Nat) (a241 : Arr Int) (a242 : Arr Int) (k : Int → Option R) : Option R :=
  slices_Compare___int_int__l2 N N a241 a242 a241 ((↑(Arr.n a241) : Int)) (0 : Int) (fun r254 =>
   k r254) (fun (_ : Unit) =>
   bif decide ((↑(Arr.n a241) : Int) < (↑(Arr.n a242) : Int)) then
    k (-1 : Int)
   else
    k (0 : Int))
noncomputable def slices_Compare___int_int_ {R : Type} : Nat → Arr Int → Arr Int → (Int → Option R) → Option R := lock (@slices_Compare___int_int__m R)
theorem slices_Compare___int_int__def {R : Type} (N : Nat) (a241 : Arr Int) (a242 : Arr Int) (k : Int → Option R) : slices_Compare___int_int_ N a241 a242 k = slices_Compare___int_int__m N a241 a242 k := by unfold slices_Compare___int_int_; rw [lock_eq]
def slices_Compare___int_int__sp : Sp := ⟨[rSl intC, rSl intC], []⟩
theorem slices_Compare___int_int__sp_ok : slices_Compare___int_int__sp.Ok := ⟨(allCons (rSl_ok intC_ok) (allCons (rSl_ok intC_ok) allNil)), eNil⟩
def slices_Compare___int_int__rs : Sp := ⟨[rInt .i64], []⟩
theorem slices_Compare___int_int__rs_ok : slices_Compare___int_int__rs.Ok := ⟨(allCons (rInt_ok .i64) allNil), eNil⟩
def slices_Compare___int_int__run {R : Type} (N : Nat) (args : List SV) (T : Tab) (kf : SV × Tab → Option R) : Option R :=
  slices_Compare___int_int__m N (lstC intC (lget args 0)) (lstC intC (lget args 1)) (fun q0 => kf (lget [.int .i64 q0] 0, []))
def slices_Compare___int_int__d2 {R : Type} (N : Nat) (S0 : St) (k : Exit → St → Option R) : Option R :=
  slices_Compare___int_int__l2 N N (lstC intC (lget S0.tmps 0)) (lstC intC (lget S0.tmps 1)) (lstC intC (lget S0.tmps 9)) (toI (lget S0.tmps 10)) (toI (lget S0.tmps 11)) (fun q0 => k .ret (slices_Compare___int_int__x2_r q0)) (fun (_ : Unit) => k (.exit 0) (slices_Compare___int_int__x2_0 (lstC intC (lget S0.tmps 0)) (lstC intC (lget S0.tmps 1))))
def slices_Compare___int_int__lp {R : Type} (N : Nat) : Lp R := fun body S k => bif (Go.Sx.keyOf body).getD 0 == 2 then (slices_Compare___int_int__L2.head.raw 0 S (fun S0 => slices_Compare___int_int__d2 N S0 k)) else Option.none
theorem slices_Compare___int_int__l2_eq {R : Type} (N : Nat) (k : Exit → St → Option R) (n : Nat) : ∀ (v0 : Arr Int) (v1 : Arr Int) (v2 : Arr Int) (v3 : Int) (v4 : Int), loopM E.Θ (cmp_Compare_int__cal N) (slices_Compare___int_int__lp N) (noJn) 0 slices_Compare___int_int__L2 (bodyAt E 69 2) n (slices_Compare___int_int__h2 v0 v1 v2 v3 v4) k = slices_Compare___int_int__l2 N n v0 v1 v2 v3 v4 (fun q0 => k .ret (slices_Compare___int_int__x2_r q0)) (fun (_ : Unit) => k (.exit 0) (slices_Compare___int_int__x2_0 v0 v1)) := by
  induction n with
  | zero => intro v0 v1 v2 v3 v4; rfl
  | succ n ih =>
    intro v0 v1 v2 v3 v4
    refine Eq.trans (b := slices_Compare___int_int__b2 N (fun v0 v1 v2 v3 v4 => loopM E.Θ (cmp_Compare_int__cal N) (slices_Compare___int_int__lp N) (noJn) 0 slices_Compare___int_int__L2 (bodyAt E 69 2) n (slices_Compare___int_int__h2 v0 v1 v2 v3 v4) k) v0 v1 v2 v3 v4 (fun q0 => k .ret (slices_Compare___int_int__x2_r q0)) (fun (_ : Unit) => k (.exit 0) (slices_Compare___int_int__x2_0 v0 v1))) (by kernel_rfl) ?_
    have h : (fun (v0 : Arr Int) (v1 : Arr Int) (v2 : Arr Int) (v3 : Int) (v4 : Int) => loopM E.Θ (cmp_Compare_int__cal N) (slices_Compare___int_int__lp N) (noJn) 0 slices_Compare___int_int__L2 (bodyAt E 69 2) n (slices_Compare___int_int__h2 v0 v1 v2 v3 v4) k) = (fun (v0 : Arr Int) (v1 : Arr Int) (v2 : Arr Int) (v3 : Int) (v4 : Int) => slices_Compare___int_int__l2 N n v0 v1 v2 v3 v4 (fun q0 => k .ret (slices_Compare___int_int__x2_r q0)) (fun (_ : Unit) => k (.exit 0) (slices_Compare___int_int__x2_0 v0 v1))) := funext fun v0 => funext fun v1 => funext fun v2 => funext fun v3 => funext fun v4 => ih v0 v1 v2 v3 v4
    rw [h]
    rfl
theorem slices_Compare___int_int__k2 {R : Type} (N : Nat) : LpKey (R := R) E 69 0 (slices_Compare___int_int__lp N) 2 :=
  lpKey_of hE (cmp_Compare_int__cal_ok N) (lp := slices_Compare___int_int__lp N) (jn := noJn) slices_Compare___int_int__L2_ok [] kNil (by kernel_rfl) [] jNil (by kernel_rfl) N fun S k =>
    Eq.trans (b := slices_Compare___int_int__L2.head.raw 0 S (fun S0 => slices_Compare___int_int__d2 N S0 k)) (by kernel_rfl) (congrArg (slices_Compare___int_int__L2.head.raw 0 S) (funext fun S0 => Eq.trans (slices_Compare___int_int__l2_eq N k N (lstC intC (lget S0.tmps 0)) (lstC intC (lget S0.tmps 1)) (lstC intC (lget S0.tmps 9)) (toI (lget S0.tmps 10)) (toI (lget S0.tmps 11))).symm (by kernel_rfl)))
noncomputable def slices_Compare___int_int__go {R : Type} (N : Nat) (args : List SV) (T : Tab) (kf : SV × Tab → Option R) : Option R :=
  slices_Compare___int_int_ N (lstC intC (lget args 0)) (lstC intC (lget args 1)) (fun q0 => kf (lget [.int .i64 q0] 0, []))
noncomputable def slices_Compare___int_int__cal {R : Type} (N : Nat) : Cal R := callM (cmp_Compare_int__cal N) 69 0 slices_Compare___int_int__sp (slices_Compare___int_int__go N)
theorem slices_Compare___int_int__cal_ok {R : Type} (N : Nat) : CalOk E.P (slices_Compare___int_int__cal (R := R) N) :=
  callM_ok hE (cmp_Compare_int__cal_ok N) (lp := slices_Compare___int_int__lp N) (jn := noJn) (keys := [2]) (kCons (slices_Compare___int_int__k2 N) kNil) (by kernel_rfl) (js := []) jNil (by kernel_rfl) slices_Compare___int_int__sp_ok slices_Compare___int_int__rs_ok (fun args T kf => Eq.trans (slices_Compare___int_int__def N (lstC intC (lget args 0)) (lstC intC (lget args 1)) (fun q0 => kf (lget [.int .i64 q0] 0, []))) (by kernel_rfl : slices_Compare___int_int__run N args T kf = fnM E (cmp_Compare_int__cal N) (slices_Compare___int_int__lp N) (noJn) 69 (slices_Compare___int_int__sp.vs args) (slices_Compare___int_int__sp.tab T) 0 (resK slices_Compare___int_int__rs kf)))


def faults_fewer_m {R : Type} (N : Nat) (a220 : Int) (a221 : Int) (k : Bool → Option R) : Option R :=
  math_bits_OnesCount N (IntKind.wrap IntKind.u64 a220) (fun r225 =>
  math_bits_OnesCount N (IntKind.wrap IntKind.u64 a221) (fun r226 =>
  bif r225 != r226 then
   k (decide (r225 < r226))
  else
   faults_members N a220 (fun r237 r238 =>
   faults_members N a221 (fun r239 r240 =>
   slices_Compare___int_int_ N r238 r240 (fun r255 =>
   k (decide (r255 < (0 : Int))))))))
noncomputable def faults_fewer {R : Type} : Nat → Int → Int → (Bool → Option R) → Option R := lock (@faults_fewer_m R)
theorem faults_fewer_def {R : Type} (N : Nat) (a220 : Int) (a221 : Int) (k : Bool → Option R) : faults_fewer N a220 a221 k = faults_fewer_m N a220 a221 k := by unfold faults_fewer; rw [lock_eq]
def faults_fewer_sp : Sp := ⟨[rInt .i64, rInt .i64], []⟩
theorem faults_fewer_sp_ok : faults_fewer_sp.Ok := ⟨(allCons (rInt_ok .i64) (allCons (rInt_ok .i64) allNil)), eNil⟩
def faults_fewer_rs : Sp := ⟨[rBool], []⟩
theorem faults_fewer_rs_ok : faults_fewer_rs.Ok := ⟨(allCons rBool_ok allNil), eNil⟩
def faults_fewer_run {R : Type} (N : Nat) (args : List SV) (T : Tab) (kf : SV × Tab → Option R) : Option R :=
  faults_fewer_m N (toI (lget args 0)) (toI (lget args 1)) (fun q0 => kf (lget [.bool q0] 0, []))
def faults_fewer_lp {R : Type} (N : Nat) : Lp R := fun body S k => Option.none
noncomputable def faults_fewer_go {R : Type} (N : Nat) (args : List SV) (T : Tab) (kf : SV × Tab → Option R) : Option R :=
  faults_fewer N (toI (lget args 0)) (toI (lget args 1)) (fun q0 => kf (lget [.bool q0] 0, []))
noncomputable def faults_fewer_cal {R : Type} (N : Nat) : Cal R := callM (slices_Compare___int_int__cal N) 40 0 faults_fewer_sp (faults_fewer_go N)
theorem faults_fewer_cal_ok {R : Type} (N : Nat) : CalOk E.P (faults_fewer_cal (R := R) N) :=
  callM_ok hE (slices_Compare___int_int__cal_ok N) (lp := faults_fewer_lp N) (jn := noJn) (keys := []) kNil (by kernel_rfl) (js := []) jNil (by kernel_rfl) faults_fewer_sp_ok faults_fewer_rs_ok (fun args T kf => Eq.trans (faults_fewer_def N (toI (lget args 0)) (toI (lget args 1)) (fun q0 => kf (lget [.bool q0] 0, []))) (by kernel_rfl : faults_fewer_run N args T kf = fnM E (slices_Compare___int_int__cal N) (faults_fewer_lp N) (noJn) 40 (faults_fewer_sp.vs args) (faults_fewer_sp.tab T) 0 (resK faults_fewer_rs kf)))

def faults_Liars_L6 : LoopSp := ⟨⟨[0, 5, 18, 19], ⟨((rSl api_ReadingC) :: (dr 4 ((rInt .i64) :: (dr 12 ((rInt .i64) :: (rInt .i64) :: (dr 18 [])))))), []⟩, 0⟩, [(some 0, ⟨[5], ⟨(dr 5 ((rInt .i64) :: (dr 32 []))), []⟩, 0⟩)]⟩
theorem faults_Liars_L6_ok : faults_Liars_L6.Ok := ⟨⟨(allCons (rSl_ok api_ReadingC_ok) (drCons 4 (allCons (rInt_ok .i64) (drCons 12 (allCons (rInt_ok .i64) (allCons (rInt_ok .i64) (drCons 18 allNil))))))), eNil⟩, (xCons ⟨(drCons 5 (allCons (rInt_ok .i64) (drCons 32 allNil))), eNil⟩ xNil)⟩
def faults_Liars_h6 (v214 : Arr api_Reading) (v215 : Int) (v216 : Int) (v217 : Int) : St := ⟨((slC api_ReadingC v214) :: (un 4 ((.int .i64 v215) :: (un 12 ((.int .i64 v216) :: (.int .i64 v217) :: (un 18 [])))))), [], 0⟩
def faults_Liars_x6_0 (q0 : Int) : St := ⟨(un 5 ((.int .i64 q0) :: (un 32 []))), [], 0⟩
def faults_Liars_b6 {R : Type} (N : Nat) (rc : Arr api_Reading → Int → Int → Int → Option R) (v214 : Arr api_Reading) (v215 : Int) (v216 : Int) (v217 : Int) (k0 : Int → Option R) : Option R :=
  bif decide (v217 < v216) then
   faults_common N v214 v217 (fun r218 r219 =>
   bif r219 then
    faults_fewer N v217 v215 (fun r256 =>
    bif r256 then
     rc v214 v217 v216 (w64 (v217 + (1 : Int)))
    else
     rc v214 v215 v216 (w64 (v217 + (1 : Int))))
   else
    rc v214 v215 v216 (w64 (v217 + (1 : Int))))
  else
   k0 v215
def faults_Liars_l6 {R : Type} (N : Nat) : Nat → Arr api_Reading → Int → Int → Int → (Int → Option R) → Option R
  | 0, _, _, _, _, _ => Option.none
  | n + 1, v214, v215, v216, v217, k0 => faults_Liars_b6 N (fun v214 v215 v216 v217 => faults_Liars_l6 N n v214 v215 v216 v217 k0) v214 v215 v216 v217 k0


def faults_Liars_m {R : Type} (N : Nat) (a212 : Arr api_Reading) (k : Int → Bool → Arr Int → Option R) : Option R :=
  faults_readings N a212 (fun r213 =>
  bif r213 != (0 : Int) then
   k r213 true (lst intC (0 : Nat) (zeroC [SV.int IntKind.i64 (0 : Int)]))
  else
   faults_Liars_l6 N N a212 (w64 (w64 ((1 : Int) * (2 : Int) ^ min (Int.toNat (↑(Arr.n a212) : Int)) (IntKind.bits IntKind.i64)) - (1 : Int))) (w64 (w64 ((1 : Int) * (2 : Int) ^ min (Int.toNat (↑(Arr.n a212) : Int)) (IntKind.bits IntKind.i64)) - (1 : Int))) (0 : Int) (fun r257 =>
    faults_members N r257 (fun r258 r259 =>
    k (0 : Int) r258 r259)))
noncomputable def faults_Liars {R : Type} : Nat → Arr api_Reading → (Int → Bool → Arr Int → Option R) → Option R := lock (@faults_Liars_m R)
theorem faults_Liars_def {R : Type} (N : Nat) (a212 : Arr api_Reading) (k : Int → Bool → Arr Int → Option R) : faults_Liars N a212 k = faults_Liars_m N a212 k := by unfold faults_Liars; rw [lock_eq]
def faults_Liars_sp : Sp := ⟨[rSl api_ReadingC], []⟩
theorem faults_Liars_sp_ok : faults_Liars_sp.Ok := ⟨(allCons (rSl_ok api_ReadingC_ok) allNil), eNil⟩
def faults_Liars_rs : Sp := ⟨[rTup [rRow 0, rInt .i64]], [(0, eRow intC)]⟩
theorem faults_Liars_rs_ok : faults_Liars_rs.Ok := ⟨(allCons (rTup_ok (allCons (rRow_ok 0) (allCons (rInt_ok .i64) allNil))) allNil), (eCons (eRow_ok intC_ok) eNil)⟩
def faults_Liars_run {R : Type} (N : Nat) (args : List SV) (T : Tab) (kf : SV × Tab → Option R) : Option R :=
  faults_Liars_m N (lstC api_ReadingC (lget args 0)) (fun q0 q1 q2 => kf (lget [.tup [.row 0, .int .i64 q0]] 0, [(0, rowE intC q1 q2)]))
def faults_Liars_d6 {R : Type} (N : Nat) (S0 : St) (k : Exit → St → Option R) : Option R :=
  faults_Liars_l6 N N (lstC api_ReadingC (lget S0.tmps 0)) (toI (lget S0.tmps 5)) (toI (lget S0.tmps 18)) (toI (lget S0.tmps 19)) (fun q0 => k (.exit 0) (faults_Liars_x6_0 q0))
def faults_Liars_lp {R : Type} (N : Nat) : Lp R := fun body S k => bif (Go.Sx.keyOf body).getD 0 == 6 then (faults_Liars_L6.head.raw 0 S (fun S0 => faults_Liars_d6 N S0 k)) else Option.none
theorem faults_Liars_l6_eq {R : Type} (N : Nat) (k : Exit → St → Option R) (n : Nat) : ∀ (v0 : Arr api_Reading) (v1 : Int) (v2 : Int) (v3 : Int), loopM E.Θ (faults_fewer_cal N) (faults_Liars_lp N) (noJn) 0 faults_Liars_L6 (bodyAt E 14 6) n (faults_Liars_h6 v0 v1 v2 v3) k = faults_Liars_l6 N n v0 v1 v2 v3 (fun q0 => k (.exit 0) (faults_Liars_x6_0 q0)) := by
  induction n with
  | zero => intro v0 v1 v2 v3; rfl
  | succ n ih =>
    intro v0 v1 v2 v3
    refine Eq.trans (b := faults_Liars_b6 N (fun v0 v1 v2 v3 => loopM E.Θ (faults_fewer_cal N) (faults_Liars_lp N) (noJn) 0 faults_Liars_L6 (bodyAt E 14 6) n (faults_Liars_h6 v0 v1 v2 v3) k) v0 v1 v2 v3 (fun q0 => k (.exit 0) (faults_Liars_x6_0 q0))) (by kernel_rfl) ?_
    have h : (fun (v0 : Arr api_Reading) (v1 : Int) (v2 : Int) (v3 : Int) => loopM E.Θ (faults_fewer_cal N) (faults_Liars_lp N) (noJn) 0 faults_Liars_L6 (bodyAt E 14 6) n (faults_Liars_h6 v0 v1 v2 v3) k) = (fun (v0 : Arr api_Reading) (v1 : Int) (v2 : Int) (v3 : Int) => faults_Liars_l6 N n v0 v1 v2 v3 (fun q0 => k (.exit 0) (faults_Liars_x6_0 q0))) := funext fun v0 => funext fun v1 => funext fun v2 => funext fun v3 => ih v0 v1 v2 v3
    rw [h]
    rfl
theorem faults_Liars_k6 {R : Type} (N : Nat) : LpKey (R := R) E 14 0 (faults_Liars_lp N) 6 :=
  lpKey_of hE (faults_fewer_cal_ok N) (lp := faults_Liars_lp N) (jn := noJn) faults_Liars_L6_ok [] kNil (by kernel_rfl) [] jNil (by kernel_rfl) N fun S k =>
    Eq.trans (b := faults_Liars_L6.head.raw 0 S (fun S0 => faults_Liars_d6 N S0 k)) (by kernel_rfl) (congrArg (faults_Liars_L6.head.raw 0 S) (funext fun S0 => Eq.trans (faults_Liars_l6_eq N k N (lstC api_ReadingC (lget S0.tmps 0)) (toI (lget S0.tmps 5)) (toI (lget S0.tmps 18)) (toI (lget S0.tmps 19))).symm (by kernel_rfl)))
noncomputable def faults_Liars_go {R : Type} (N : Nat) (args : List SV) (T : Tab) (kf : SV × Tab → Option R) : Option R :=
  faults_Liars N (lstC api_ReadingC (lget args 0)) (fun q0 q1 q2 => kf (lget [.tup [.row 0, .int .i64 q0]] 0, [(0, rowE intC q1 q2)]))
noncomputable def faults_Liars_cal {R : Type} (N : Nat) : Cal R := callM (faults_fewer_cal N) 14 0 faults_Liars_sp (faults_Liars_go N)
theorem faults_Liars_cal_ok {R : Type} (N : Nat) : CalOk E.P (faults_Liars_cal (R := R) N) :=
  callM_ok hE (faults_fewer_cal_ok N) (lp := faults_Liars_lp N) (jn := noJn) (keys := [6]) (kCons (faults_Liars_k6 N) kNil) (by kernel_rfl) (js := []) jNil (by kernel_rfl) faults_Liars_sp_ok faults_Liars_rs_ok (fun args T kf => Eq.trans (faults_Liars_def N (lstC api_ReadingC (lget args 0)) (fun q0 q1 q2 => kf (lget [.tup [.row 0, .int .i64 q0]] 0, [(0, rowE intC q1 q2)]))) (by kernel_rfl : faults_Liars_run N args T kf = fnM E (faults_fewer_cal N) (faults_Liars_lp N) (noJn) 14 (faults_Liars_sp.vs args) (faults_Liars_sp.tab T) 0 (resK faults_Liars_rs kf)))



end
end Go.Proofs.YtpillmoddoccfabDoor
