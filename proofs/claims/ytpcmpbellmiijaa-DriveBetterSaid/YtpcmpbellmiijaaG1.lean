/-
  Models of the functions, and that they are what the code does. Written by a program.
-/
import Derived.Test.YtpcmpbellmiijaaCod
set_option maxRecDepth 100000
set_option maxHeartbeats 0
set_option linter.unusedVariables false
namespace Go.Proofs.Ytpcmpbellmiijaa
open Go.Sx
noncomputable section

def newellaw01_Far_m {R : Type} (N : Nat) (a0 : api_Escalator) (k : Bool → Option R) : Option R :=
  k (decide ((↑(Arr.n (api_Escalator.Brakes a0)) : Int) > (10 : Int)))
noncomputable def newellaw01_Far {R : Type} : Nat → api_Escalator → (Bool → Option R) → Option R := lock (@newellaw01_Far_m R)
theorem newellaw01_Far_def {R : Type} (N : Nat) (a0 : api_Escalator) (k : Bool → Option R) : newellaw01_Far N a0 k = newellaw01_Far_m N a0 k := by unfold newellaw01_Far; rw [lock_eq]
def newellaw01_Far_sp : Sp := ⟨[rAgg api_EscalatorC], []⟩
theorem newellaw01_Far_sp_ok : newellaw01_Far_sp.Ok := ⟨(allCons (rAgg_ok api_EscalatorC_ok api_EscalatorC_len) allNil), eNil⟩
def newellaw01_Far_rs : Sp := ⟨[rBool], []⟩
theorem newellaw01_Far_rs_ok : newellaw01_Far_rs.Ok := ⟨(allCons rBool_ok allNil), eNil⟩
def newellaw01_Far_run {R : Type} (N : Nat) (args : List SV) (T : Tab) (kf : SV × Tab → Option R) : Option R :=
  newellaw01_Far_m N (Cod.dec api_EscalatorC (lget (toCs (lget args 0)))) (fun q0 => kf (lget [.bool q0] 0, []))
def newellaw01_Far_lp {R : Type} (N : Nat) : Lp R := fun body S k => Option.none
noncomputable def newellaw01_Far_go {R : Type} (N : Nat) (args : List SV) (T : Tab) (kf : SV × Tab → Option R) : Option R :=
  newellaw01_Far N (Cod.dec api_EscalatorC (lget (toCs (lget args 0)))) (fun q0 => kf (lget [.bool q0] 0, []))
noncomputable def newellaw01_Far_cal {R : Type} (N : Nat) : Cal R := callM (noCal E) 15 0 newellaw01_Far_sp (newellaw01_Far_go N)
theorem newellaw01_Far_cal_ok {R : Type} (N : Nat) : CalOk E.P (newellaw01_Far_cal (R := R) N) :=
  callM_ok hE (noCal_ok E) (lp := newellaw01_Far_lp N) (jn := noJn) (keys := []) kNil (by kernel_rfl) (js := []) jNil (by kernel_rfl) newellaw01_Far_sp_ok newellaw01_Far_rs_ok (fun args T kf => Eq.trans (newellaw01_Far_def N (Cod.dec api_EscalatorC (lget (toCs (lget args 0)))) (fun q0 => kf (lget [.bool q0] 0, []))) (by kernel_rfl : newellaw01_Far_run N args T kf = fnM E (noCal E) (newellaw01_Far_lp N) (noJn) 15 (newellaw01_Far_sp.vs args) (newellaw01_Far_sp.tab T) 0 (resK newellaw01_Far_rs kf)))


def newelref01_within_m {R : Type} (N : Nat) (a4 : Int) (a5 : Int) (a6 : Int) (k : Bool → Option R) : Option R :=
  bif decide (a4 ≥ a5) then
   k (decide (a4 ≤ a6))
  else
   k false
noncomputable def newelref01_within {R : Type} : Nat → Int → Int → Int → (Bool → Option R) → Option R := lock (@newelref01_within_m R)
theorem newelref01_within_def {R : Type} (N : Nat) (a4 : Int) (a5 : Int) (a6 : Int) (k : Bool → Option R) : newelref01_within N a4 a5 a6 k = newelref01_within_m N a4 a5 a6 k := by unfold newelref01_within; rw [lock_eq]
def newelref01_within_sp : Sp := ⟨[rInt .i64, rInt .i64, rInt .i64], []⟩
theorem newelref01_within_sp_ok : newelref01_within_sp.Ok := ⟨(allCons (rInt_ok .i64) (allCons (rInt_ok .i64) (allCons (rInt_ok .i64) allNil))), eNil⟩
def newelref01_within_rs : Sp := ⟨[rBool], []⟩
theorem newelref01_within_rs_ok : newelref01_within_rs.Ok := ⟨(allCons rBool_ok allNil), eNil⟩
def newelref01_within_run {R : Type} (N : Nat) (args : List SV) (T : Tab) (kf : SV × Tab → Option R) : Option R :=
  newelref01_within_m N (toI (lget args 0)) (toI (lget args 1)) (toI (lget args 2)) (fun q0 => kf (lget [.bool q0] 0, []))
def newelref01_within_lp {R : Type} (N : Nat) : Lp R := fun body S k => Option.none
noncomputable def newelref01_within_go {R : Type} (N : Nat) (args : List SV) (T : Tab) (kf : SV × Tab → Option R) : Option R :=
  newelref01_within N (toI (lget args 0)) (toI (lget args 1)) (toI (lget args 2)) (fun q0 => kf (lget [.bool q0] 0, []))
noncomputable def newelref01_within_cal {R : Type} (N : Nat) : Cal R := callM (newellaw01_Far_cal N) 44 0 newelref01_within_sp (newelref01_within_go N)
theorem newelref01_within_cal_ok {R : Type} (N : Nat) : CalOk E.P (newelref01_within_cal (R := R) N) :=
  callM_ok hE (newellaw01_Far_cal_ok N) (lp := newelref01_within_lp N) (jn := noJn) (keys := []) kNil (by kernel_rfl) (js := []) jNil (by kernel_rfl) newelref01_within_sp_ok newelref01_within_rs_ok (fun args T kf => Eq.trans (newelref01_within_def N (toI (lget args 0)) (toI (lget args 1)) (toI (lget args 2)) (fun q0 => kf (lget [.bool q0] 0, []))) (by kernel_rfl : newelref01_within_run N args T kf = fnM E (newellaw01_Far_cal N) (newelref01_within_lp N) (noJn) 44 (newelref01_within_sp.vs args) (newelref01_within_sp.tab T) 0 (resK newelref01_within_rs kf)))

def newelref01_Check_L4 : LoopSp := ⟨⟨[1, 3], ⟨(dr 1 ((rPtr 0 0) :: (dr 1 ((rInt .i64) :: (dr 53 []))))), [(0, eBlkC api_EscalatorC)]⟩, 1⟩, [(Option.none, ⟨[2], ⟨(dr 2 ((rInt .i64) :: (dr 54 []))), []⟩, 0⟩), (some 0, ⟨[], ⟨(dr 57 []), []⟩, 0⟩)]⟩
theorem newelref01_Check_L4_ok : newelref01_Check_L4.Ok := ⟨⟨(drCons 1 (allCons (rPtr_ok 0 0) (drCons 1 (allCons (rInt_ok .i64) (drCons 53 allNil))))), (eCons (eBlkC_ok api_EscalatorC_ok api_EscalatorC_len) eNil)⟩, (xCons ⟨(drCons 2 (allCons (rInt_ok .i64) (drCons 54 allNil))), eNil⟩ (xCons ⟨(drCons 57 allNil), eNil⟩ xNil))⟩
def newelref01_Check_h4 (v11 : Int) (v12 : api_Escalator) : St := ⟨(un 1 ((.ptr 0 0) :: (un 1 ((.int .i64 v11) :: (un 53 []))))), [(0, .blk (Cod.enc api_EscalatorC v12))], 1⟩
def newelref01_Check_x4_r (q0 : Int) : St := ⟨(un 2 ((.int .i64 q0) :: (un 54 []))), [], 0⟩
def newelref01_Check_x4_0  : St := ⟨(un 57 []), [], 0⟩
def newelref01_Check_b4 {R : Type} (N : Nat) (rc : Int → api_Escalator → Option R) (v11 : Int) (v12 : api_Escalator) (kr : Int → Option R) (k0 : Unit → Option R) : Option R :=
  bif decide (v11 < (↑(Arr.n (api_Escalator.Brakes v12)) : Int)) then
   bif decide ((0 : Int) ≤ v11) && decide (v11 < (↑(Arr.n (api_Escalator.Brakes v12)) : Int)) then
    newelref01_within N (api_Brake.Force (Arr.f (api_Escalator.Brakes v12) (Int.toNat v11))) (0 : Int) (10000000 : Int) (fun r13 =>
    bif !r13 then
     kr (10 : Int)
    else
     bif decide ((0 : Int) ≤ v11) && decide (v11 < (↑(Arr.n (api_Escalator.Brakes v12)) : Int)) then
      newelref01_within N (api_Brake.Delay (Arr.f (api_Escalator.Brakes v12) (Int.toNat v11))) (0 : Int) (20 : Int) (fun r14 =>
      bif !r14 then
       kr (10 : Int)
      else
       rc (w64 (v11 + (1 : Int))) v12)
     else
      Option.none)
   else
    Option.none
  else
   k0 ()
def newelref01_Check_l4 {R : Type} (N : Nat) : Nat → Int → api_Escalator → (Int → Option R) → (Unit → Option R) → Option R
  | 0, _, _, _, _ => Option.none
  | n + 1, v11, v12, kr, k0 => newelref01_Check_b4 N (fun v11 v12 => newelref01_Check_l4 N n v11 v12 kr k0) v11 v12 kr k0


def newelref01_Check_m {R : Type} (N : Nat) (a3 : api_Escalator) (k : Int → Option R) : Option R :=
  newelref01_within N (api_Escalator.Empty a3) (1 : Int) (100000 : Int) (fun r7 =>
  bif !r7 then
   k (10 : Int)
  else
   newelref01_within N (api_Escalator.Pull a3) (0 : Int) (100 : Int) (fun r8 =>
   bif !r8 then
    k (10 : Int)
   else
    newelref01_within N (api_Escalator.Drag a3) (0 : Int) (10000000 : Int) (fun r9 =>
    bif !r9 then
     k (10 : Int)
    else
     newelref01_within N (api_Escalator.Motor a3) (0 : Int) (10000000 : Int) (fun r10 =>
     bif !r10 then
      k (10 : Int)
     else
      bif decide ((↑(Arr.n (api_Escalator.Brakes a3)) : Int) > (3 : Int)) then
       k (10 : Int)
      else
       newelref01_Check_l4 N N (0 : Int) a3 (fun r15 =>
        k r15) (fun (_ : Unit) =>
        k (0 : Int))))))
noncomputable def newelref01_Check {R : Type} : Nat → api_Escalator → (Int → Option R) → Option R := lock (@newelref01_Check_m R)
theorem newelref01_Check_def {R : Type} (N : Nat) (a3 : api_Escalator) (k : Int → Option R) : newelref01_Check N a3 k = newelref01_Check_m N a3 k := by unfold newelref01_Check; rw [lock_eq]
def newelref01_Check_sp : Sp := ⟨[rAgg api_EscalatorC], []⟩
theorem newelref01_Check_sp_ok : newelref01_Check_sp.Ok := ⟨(allCons (rAgg_ok api_EscalatorC_ok api_EscalatorC_len) allNil), eNil⟩
def newelref01_Check_rs : Sp := ⟨[rInt .i64], []⟩
theorem newelref01_Check_rs_ok : newelref01_Check_rs.Ok := ⟨(allCons (rInt_ok .i64) allNil), eNil⟩
def newelref01_Check_run {R : Type} (N : Nat) (args : List SV) (T : Tab) (kf : SV × Tab → Option R) : Option R :=
  newelref01_Check_m N (Cod.dec api_EscalatorC (lget (toCs (lget args 0)))) (fun q0 => kf (lget [.int .i64 q0] 0, []))
def newelref01_Check_d4 {R : Type} (N : Nat) (S0 : St) (k : Exit → St → Option R) : Option R :=
  newelref01_Check_l4 N N (toI (lget S0.tmps 3)) (Cod.dec api_EscalatorC (lget (entCs (entAt S0.tab 0)))) (fun q0 => k .ret (newelref01_Check_x4_r q0)) (fun (_ : Unit) => k (.exit 0) (newelref01_Check_x4_0 ))
def newelref01_Check_lp {R : Type} (N : Nat) : Lp R := fun body S k => bif (Go.Sx.keyOf body).getD 0 == 4 then newelref01_Check_L4.head.raw 0 S (fun S0 => newelref01_Check_d4 N S0 k) else Option.none
theorem newelref01_Check_l4_eq {R : Type} (N : Nat) (k : Exit → St → Option R) (n : Nat) : ∀ (v0 : Int) (v1 : api_Escalator), loopM E.Θ (newelref01_within_cal N) (newelref01_Check_lp N) (noJn) 0 newelref01_Check_L4 (bodyAt E 27 4) n (newelref01_Check_h4 v0 v1) k = newelref01_Check_l4 N n v0 v1 (fun q0 => k .ret (newelref01_Check_x4_r q0)) (fun (_ : Unit) => k (.exit 0) (newelref01_Check_x4_0 )) := by
  induction n with
  | zero => intro v0 v1; rfl
  | succ n ih =>
    intro v0 v1
    refine Eq.trans (b := newelref01_Check_b4 N (fun v0 v1 => loopM E.Θ (newelref01_within_cal N) (newelref01_Check_lp N) (noJn) 0 newelref01_Check_L4 (bodyAt E 27 4) n (newelref01_Check_h4 v0 v1) k) v0 v1 (fun q0 => k .ret (newelref01_Check_x4_r q0)) (fun (_ : Unit) => k (.exit 0) (newelref01_Check_x4_0 ))) (by kernel_rfl) ?_
    have h : (fun (v0 : Int) (v1 : api_Escalator) => loopM E.Θ (newelref01_within_cal N) (newelref01_Check_lp N) (noJn) 0 newelref01_Check_L4 (bodyAt E 27 4) n (newelref01_Check_h4 v0 v1) k) = (fun (v0 : Int) (v1 : api_Escalator) => newelref01_Check_l4 N n v0 v1 (fun q0 => k .ret (newelref01_Check_x4_r q0)) (fun (_ : Unit) => k (.exit 0) (newelref01_Check_x4_0 ))) := funext fun v0 => funext fun v1 => ih v0 v1
    rw [h]
    rfl
theorem newelref01_Check_k4 {R : Type} (N : Nat) : LpKey (R := R) E 27 0 (newelref01_Check_lp N) 4 :=
  lpKey_of hE (newelref01_within_cal_ok N) (jn := noJn) newelref01_Check_L4_ok [] kNil (by kernel_rfl) [] jNil (by kernel_rfl) N fun S k =>
    Eq.trans (b := newelref01_Check_L4.head.raw 0 S (fun S0 => newelref01_Check_d4 N S0 k)) (by kernel_rfl) (congrArg (newelref01_Check_L4.head.raw 0 S) (funext fun S0 => Eq.trans (newelref01_Check_l4_eq N k N (toI (lget S0.tmps 3)) (Cod.dec api_EscalatorC (lget (entCs (entAt S0.tab 0))))).symm (by kernel_rfl)))
noncomputable def newelref01_Check_go {R : Type} (N : Nat) (args : List SV) (T : Tab) (kf : SV × Tab → Option R) : Option R :=
  newelref01_Check N (Cod.dec api_EscalatorC (lget (toCs (lget args 0)))) (fun q0 => kf (lget [.int .i64 q0] 0, []))
noncomputable def newelref01_Check_cal {R : Type} (N : Nat) : Cal R := callM (newelref01_within_cal N) 27 0 newelref01_Check_sp (newelref01_Check_go N)
theorem newelref01_Check_cal_ok {R : Type} (N : Nat) : CalOk E.P (newelref01_Check_cal (R := R) N) :=
  callM_ok hE (newelref01_within_cal_ok N) (lp := newelref01_Check_lp N) (jn := noJn) (keys := [4]) (kCons (newelref01_Check_k4 N) kNil) (by kernel_rfl) (js := []) jNil (by kernel_rfl) newelref01_Check_sp_ok newelref01_Check_rs_ok (fun args T kf => Eq.trans (newelref01_Check_def N (Cod.dec api_EscalatorC (lget (toCs (lget args 0)))) (fun q0 => kf (lget [.int .i64 q0] 0, []))) (by kernel_rfl : newelref01_Check_run N args T kf = fnM E (newelref01_within_cal N) (newelref01_Check_lp N) (noJn) 27 (newelref01_Check_sp.vs args) (newelref01_Check_sp.tab T) 0 (resK newelref01_Check_rs kf)))


def newelref01_CheckStop_m {R : Type} (N : Nat) (a1 : api_Escalator) (a2 : api_Stop) (k : Int → Option R) : Option R :=
  newelref01_Check N a1 (fun r16 =>
  bif r16 != (0 : Int) then
   k (10 : Int)
  else
   newelref01_within N (api_Stop.Speed a2) (0 : Int) (1000 : Int) (fun r17 =>
   bif !r17 then
    k (11 : Int)
   else
    bif decide (api_Span.Low (api_Stop.Loads a2) < (0 : Int)) then
     k (11 : Int)
    else
     bif decide (api_Span.High (api_Stop.Loads a2) < api_Span.Low (api_Stop.Loads a2)) then
      k (11 : Int)
     else
      bif decide (api_Span.High (api_Stop.Loads a2) > (100000 : Int)) then
       k (11 : Int)
      else
       newelref01_within N (api_Stop.Fail a2) (0 : Int) (w64 (w64 ((1 : Int) * (2 : Int) ^ min (Int.toNat (IntKind.wrap IntKind.u64 (↑(Arr.n (api_Escalator.Brakes a1)) : Int))) (IntKind.bits IntKind.i64)) - (1 : Int))) (fun r18 =>
       bif !r18 then
        k (11 : Int)
       else
        k (0 : Int))))
noncomputable def newelref01_CheckStop {R : Type} : Nat → api_Escalator → api_Stop → (Int → Option R) → Option R := lock (@newelref01_CheckStop_m R)
theorem newelref01_CheckStop_def {R : Type} (N : Nat) (a1 : api_Escalator) (a2 : api_Stop) (k : Int → Option R) : newelref01_CheckStop N a1 a2 k = newelref01_CheckStop_m N a1 a2 k := by unfold newelref01_CheckStop; rw [lock_eq]
def newelref01_CheckStop_sp : Sp := ⟨[rAgg api_EscalatorC, rAgg api_StopC], []⟩
theorem newelref01_CheckStop_sp_ok : newelref01_CheckStop_sp.Ok := ⟨(allCons (rAgg_ok api_EscalatorC_ok api_EscalatorC_len) (allCons (rAgg_ok api_StopC_ok api_StopC_len) allNil)), eNil⟩
def newelref01_CheckStop_rs : Sp := ⟨[rInt .i64], []⟩
theorem newelref01_CheckStop_rs_ok : newelref01_CheckStop_rs.Ok := ⟨(allCons (rInt_ok .i64) allNil), eNil⟩
def newelref01_CheckStop_run {R : Type} (N : Nat) (args : List SV) (T : Tab) (kf : SV × Tab → Option R) : Option R :=
  newelref01_CheckStop_m N (Cod.dec api_EscalatorC (lget (toCs (lget args 0)))) (Cod.dec api_StopC (lget (toCs (lget args 1)))) (fun q0 => kf (lget [.int .i64 q0] 0, []))
def newelref01_CheckStop_lp {R : Type} (N : Nat) : Lp R := fun body S k => Option.none
noncomputable def newelref01_CheckStop_go {R : Type} (N : Nat) (args : List SV) (T : Tab) (kf : SV × Tab → Option R) : Option R :=
  newelref01_CheckStop N (Cod.dec api_EscalatorC (lget (toCs (lget args 0)))) (Cod.dec api_StopC (lget (toCs (lget args 1)))) (fun q0 => kf (lget [.int .i64 q0] 0, []))
noncomputable def newelref01_CheckStop_cal {R : Type} (N : Nat) : Cal R := callM (newelref01_Check_cal N) 16 0 newelref01_CheckStop_sp (newelref01_CheckStop_go N)
theorem newelref01_CheckStop_cal_ok {R : Type} (N : Nat) : CalOk E.P (newelref01_CheckStop_cal (R := R) N) :=
  callM_ok hE (newelref01_Check_cal_ok N) (lp := newelref01_CheckStop_lp N) (jn := noJn) (keys := []) kNil (by kernel_rfl) (js := []) jNil (by kernel_rfl) newelref01_CheckStop_sp_ok newelref01_CheckStop_rs_ok (fun args T kf => Eq.trans (newelref01_CheckStop_def N (Cod.dec api_EscalatorC (lget (toCs (lget args 0)))) (Cod.dec api_StopC (lget (toCs (lget args 1)))) (fun q0 => kf (lget [.int .i64 q0] 0, []))) (by kernel_rfl : newelref01_CheckStop_run N args T kf = fnM E (newelref01_Check_cal N) (newelref01_CheckStop_lp N) (noJn) 16 (newelref01_CheckStop_sp.vs args) (newelref01_CheckStop_sp.tab T) 0 (resK newelref01_CheckStop_rs kf)))


def newellaw01_Example_m {R : Type} (N : Nat)  (k : Bool → Int → Int → Int → Int → Bool → Arr api_Brake → Option R) : Option R :=
  k true (1000 : Int) (20 : Int) (2000 : Int) (20000 : Int) false (lst api_BrakeC (2 : Nat) (litC [SV.int IntKind.i64 (0 : Int), SV.int IntKind.i64 (0 : Int)] [[SV.int IntKind.i64 (12000 : Int), SV.int IntKind.i64 (1 : Int)], [SV.int IntKind.i64 (16000 : Int), SV.int IntKind.i64 (3 : Int)]]))
noncomputable def newellaw01_Example {R : Type} : Nat → (Bool → Int → Int → Int → Int → Bool → Arr api_Brake → Option R) → Option R := lock (@newellaw01_Example_m R)
theorem newellaw01_Example_def {R : Type} (N : Nat)  (k : Bool → Int → Int → Int → Int → Bool → Arr api_Brake → Option R) : newellaw01_Example N  k = newellaw01_Example_m N  k := by unfold newellaw01_Example; rw [lock_eq]
def newellaw01_Example_sp : Sp := ⟨[], []⟩
theorem newellaw01_Example_sp_ok : newellaw01_Example_sp.Ok := ⟨allNil, eNil⟩
def newellaw01_Example_rs : Sp := ⟨[rAggs [rBool, rInt .i64, rInt .i64, rInt .i64, rInt .i64, rRow 0]], [(0, eRow api_BrakeC)]⟩
theorem newellaw01_Example_rs_ok : newellaw01_Example_rs.Ok := ⟨(allCons (rAggs_ok (allCons rBool_ok (allCons (rInt_ok .i64) (allCons (rInt_ok .i64) (allCons (rInt_ok .i64) (allCons (rInt_ok .i64) (allCons (rRow_ok 0) allNil))))))) allNil), (eCons (eRow_ok api_BrakeC_ok) eNil)⟩
def newellaw01_Example_run {R : Type} (N : Nat) (args : List SV) (T : Tab) (kf : SV × Tab → Option R) : Option R :=
  newellaw01_Example_m N  (fun q0 q1 q2 q3 q4 q5 q6 => kf (lget [.agg [.bool q0, .int .i64 q1, .int .i64 q2, .int .i64 q3, .int .i64 q4, .row 0]] 0, [(0, rowE api_BrakeC q5 q6)]))
def newellaw01_Example_lp {R : Type} (N : Nat) : Lp R := fun body S k => Option.none
noncomputable def newellaw01_Example_go {R : Type} (N : Nat) (args : List SV) (T : Tab) (kf : SV × Tab → Option R) : Option R :=
  newellaw01_Example N  (fun q0 q1 q2 q3 q4 q5 q6 => kf (lget [.agg [.bool q0, .int .i64 q1, .int .i64 q2, .int .i64 q3, .int .i64 q4, .row 0]] 0, [(0, rowE api_BrakeC q5 q6)]))
noncomputable def newellaw01_Example_cal {R : Type} (N : Nat) : Cal R := callM (newelref01_CheckStop_cal N) 45 0 newellaw01_Example_sp (newellaw01_Example_go N)
theorem newellaw01_Example_cal_ok {R : Type} (N : Nat) : CalOk E.P (newellaw01_Example_cal (R := R) N) :=
  callM_ok hE (newelref01_CheckStop_cal_ok N) (lp := newellaw01_Example_lp N) (jn := noJn) (keys := []) kNil (by kernel_rfl) (js := []) jNil (by kernel_rfl) newellaw01_Example_sp_ok newellaw01_Example_rs_ok (fun args T kf => Eq.trans (newellaw01_Example_def N  (fun q0 q1 q2 q3 q4 q5 q6 => kf (lget [.agg [.bool q0, .int .i64 q1, .int .i64 q2, .int .i64 q3, .int .i64 q4, .row 0]] 0, [(0, rowE api_BrakeC q5 q6)]))) (by kernel_rfl : newellaw01_Example_run N args T kf = fnM E (newelref01_CheckStop_cal N) (newellaw01_Example_lp N) (noJn) 45 (newellaw01_Example_sp.vs args) (newellaw01_Example_sp.tab T) 0 (resK newellaw01_Example_rs kf)))


def drive_to_m {R : Type} (N : Nat) (a31 : Int) (k : api_Span → Option R) : Option R :=
  k (api_Span.mk (0 : Int) a31)
noncomputable def drive_to {R : Type} : Nat → Int → (api_Span → Option R) → Option R := lock (@drive_to_m R)
theorem drive_to_def {R : Type} (N : Nat) (a31 : Int) (k : api_Span → Option R) : drive_to N a31 k = drive_to_m N a31 k := by unfold drive_to; rw [lock_eq]
def drive_to_sp : Sp := ⟨[rInt .i64], []⟩
theorem drive_to_sp_ok : drive_to_sp.Ok := ⟨(allCons (rInt_ok .i64) allNil), eNil⟩
def drive_to_rs : Sp := ⟨[rAgg api_SpanC], []⟩
theorem drive_to_rs_ok : drive_to_rs.Ok := ⟨(allCons (rAgg_ok api_SpanC_ok api_SpanC_len) allNil), eNil⟩
def drive_to_run {R : Type} (N : Nat) (args : List SV) (T : Tab) (kf : SV × Tab → Option R) : Option R :=
  drive_to_m N (toI (lget args 0)) (fun q0 => kf (lget [.agg (Cod.enc api_SpanC q0)] 0, []))
def drive_to_lp {R : Type} (N : Nat) : Lp R := fun body S k => Option.none
noncomputable def drive_to_go {R : Type} (N : Nat) (args : List SV) (T : Tab) (kf : SV × Tab → Option R) : Option R :=
  drive_to N (toI (lget args 0)) (fun q0 => kf (lget [.agg (Cod.enc api_SpanC q0)] 0, []))
noncomputable def drive_to_cal {R : Type} (N : Nat) : Cal R := callM (newellaw01_Example_cal N) 53 0 drive_to_sp (drive_to_go N)
theorem drive_to_cal_ok {R : Type} (N : Nat) : CalOk E.P (drive_to_cal (R := R) N) :=
  callM_ok hE (newellaw01_Example_cal_ok N) (lp := drive_to_lp N) (jn := noJn) (keys := []) kNil (by kernel_rfl) (js := []) jNil (by kernel_rfl) drive_to_sp_ok drive_to_rs_ok (fun args T kf => Eq.trans (drive_to_def N (toI (lget args 0)) (fun q0 => kf (lget [.agg (Cod.enc api_SpanC q0)] 0, []))) (by kernel_rfl : drive_to_run N args T kf = fnM E (newellaw01_Example_cal N) (drive_to_lp N) (noJn) 53 (drive_to_sp.vs args) (drive_to_sp.tab T) 0 (resK drive_to_rs kf)))


def drive_in_m {R : Type} (N : Nat) (a33 : Int) (a34 : api_Span) (k : Bool → Option R) : Option R :=
  bif decide (api_Span.Low a34 ≤ a33) then
   k (decide (a33 ≤ api_Span.High a34))
  else
   k false
noncomputable def drive_in {R : Type} : Nat → Int → api_Span → (Bool → Option R) → Option R := lock (@drive_in_m R)
theorem drive_in_def {R : Type} (N : Nat) (a33 : Int) (a34 : api_Span) (k : Bool → Option R) : drive_in N a33 a34 k = drive_in_m N a33 a34 k := by unfold drive_in; rw [lock_eq]
def drive_in_sp : Sp := ⟨[rInt .i64, rAgg api_SpanC], []⟩
theorem drive_in_sp_ok : drive_in_sp.Ok := ⟨(allCons (rInt_ok .i64) (allCons (rAgg_ok api_SpanC_ok api_SpanC_len) allNil)), eNil⟩
def drive_in_rs : Sp := ⟨[rBool], []⟩
theorem drive_in_rs_ok : drive_in_rs.Ok := ⟨(allCons rBool_ok allNil), eNil⟩
def drive_in_run {R : Type} (N : Nat) (args : List SV) (T : Tab) (kf : SV × Tab → Option R) : Option R :=
  drive_in_m N (toI (lget args 0)) (Cod.dec api_SpanC (lget (toCs (lget args 1)))) (fun q0 => kf (lget [.bool q0] 0, []))
def drive_in_lp {R : Type} (N : Nat) : Lp R := fun body S k => Option.none
noncomputable def drive_in_go {R : Type} (N : Nat) (args : List SV) (T : Tab) (kf : SV × Tab → Option R) : Option R :=
  drive_in N (toI (lget args 0)) (Cod.dec api_SpanC (lget (toCs (lget args 1)))) (fun q0 => kf (lget [.bool q0] 0, []))
noncomputable def drive_in_cal {R : Type} (N : Nat) : Cal R := callM (drive_to_cal N) 52 0 drive_in_sp (drive_in_go N)
theorem drive_in_cal_ok {R : Type} (N : Nat) : CalOk E.P (drive_in_cal (R := R) N) :=
  callM_ok hE (drive_to_cal_ok N) (lp := drive_in_lp N) (jn := noJn) (keys := []) kNil (by kernel_rfl) (js := []) jNil (by kernel_rfl) drive_in_sp_ok drive_in_rs_ok (fun args T kf => Eq.trans (drive_in_def N (toI (lget args 0)) (Cod.dec api_SpanC (lget (toCs (lget args 1)))) (fun q0 => kf (lget [.bool q0] 0, []))) (by kernel_rfl : drive_in_run N args T kf = fnM E (drive_to_cal N) (drive_in_lp N) (noJn) 52 (drive_in_sp.vs args) (drive_in_sp.tab T) 0 (resK drive_in_rs kf)))


def drive_Check_1_m {R : Type} (N : Nat) (a43 : api_Brake) (k : Bool → Option R) : Option R :=
  drive_to N (10000000 : Int) (fun r44 =>
  drive_in N (api_Brake.Force a43) r44 (fun r45 =>
  bif r45 then
   drive_to N (20 : Int) (fun r46 =>
   drive_in N (api_Brake.Delay a43) r46 (fun r47 =>
   k r47))
  else
   k false))
noncomputable def drive_Check_1 {R : Type} : Nat → api_Brake → (Bool → Option R) → Option R := lock (@drive_Check_1_m R)
theorem drive_Check_1_def {R : Type} (N : Nat) (a43 : api_Brake) (k : Bool → Option R) : drive_Check_1 N a43 k = drive_Check_1_m N a43 k := by unfold drive_Check_1; rw [lock_eq]
def drive_Check_1_sp : Sp := ⟨[rAgg api_BrakeC], []⟩
theorem drive_Check_1_sp_ok : drive_Check_1_sp.Ok := ⟨(allCons (rAgg_ok api_BrakeC_ok api_BrakeC_len) allNil), eNil⟩
def drive_Check_1_rs : Sp := ⟨[rBool], []⟩
theorem drive_Check_1_rs_ok : drive_Check_1_rs.Ok := ⟨(allCons rBool_ok allNil), eNil⟩
def drive_Check_1_run {R : Type} (N : Nat) (args : List SV) (T : Tab) (kf : SV × Tab → Option R) : Option R :=
  drive_Check_1_m N (Cod.dec api_BrakeC (lget (toCs (lget args 0)))) (fun q0 => kf (lget [.bool q0] 0, []))
def drive_Check_1_lp {R : Type} (N : Nat) : Lp R := fun body S k => Option.none
noncomputable def drive_Check_1_go {R : Type} (N : Nat) (args : List SV) (T : Tab) (kf : SV × Tab → Option R) : Option R :=
  drive_Check_1 N (Cod.dec api_BrakeC (lget (toCs (lget args 0)))) (fun q0 => kf (lget [.bool q0] 0, []))
noncomputable def drive_Check_1_cal {R : Type} (N : Nat) : Cal R := callM (drive_in_cal N) 61 0 drive_Check_1_sp (drive_Check_1_go N)
theorem drive_Check_1_cal_ok {R : Type} (N : Nat) : CalOk E.P (drive_Check_1_cal (R := R) N) :=
  callM_ok hE (drive_in_cal_ok N) (lp := drive_Check_1_lp N) (jn := noJn) (keys := []) kNil (by kernel_rfl) (js := []) jNil (by kernel_rfl) drive_Check_1_sp_ok drive_Check_1_rs_ok (fun args T kf => Eq.trans (drive_Check_1_def N (Cod.dec api_BrakeC (lget (toCs (lget args 0)))) (fun q0 => kf (lget [.bool q0] 0, []))) (by kernel_rfl : drive_Check_1_run N args T kf = fnM E (drive_in_cal N) (drive_Check_1_lp N) (noJn) 61 (drive_Check_1_sp.vs args) (drive_Check_1_sp.tab T) 0 (resK drive_Check_1_rs kf)))

def drive_Check_L5 : LoopSp := ⟨⟨[3, 42, 43, 44], ⟨(dr 3 ((rFunc 61 0 []) :: (dr 38 ((rSl api_BrakeC) :: (rInt .i64) :: (rInt .i64) :: (dr 8 []))))), []⟩, 0⟩, [(Option.none, ⟨[2], ⟨(dr 2 ((rInt .i64) :: (dr 50 []))), []⟩, 0⟩), (some 0, ⟨[], ⟨(dr 53 []), []⟩, 0⟩)]⟩
theorem drive_Check_L5_ok : drive_Check_L5.Ok := ⟨⟨(drCons 3 (allCons (rFunc_ok 61 0 allNil) (drCons 38 (allCons (rSl_ok api_BrakeC_ok) (allCons (rInt_ok .i64) (allCons (rInt_ok .i64) (drCons 8 allNil))))))), eNil⟩, (xCons ⟨(drCons 2 (allCons (rInt_ok .i64) (drCons 50 allNil))), eNil⟩ (xCons ⟨(drCons 53 allNil), eNil⟩ xNil))⟩
def drive_Check_h5 (v40 : Arr api_Brake) (v41 : Int) (v42 : Int) : St := ⟨(un 3 ((.func 61 0 []) :: (un 38 ((slC api_BrakeC v40) :: (.int .i64 v41) :: (.int .i64 v42) :: (un 8 []))))), [], 0⟩
def drive_Check_x5_r (q0 : Int) : St := ⟨(un 2 ((.int .i64 q0) :: (un 50 []))), [], 0⟩
def drive_Check_x5_0  : St := ⟨(un 53 []), [], 0⟩
def drive_Check_b5 {R : Type} (N : Nat) (rc : Arr api_Brake → Int → Int → Option R) (v40 : Arr api_Brake) (v41 : Int) (v42 : Int) (kr : Int → Option R) (k0 : Unit → Option R) : Option R :=
  bif decide (v42 < v41) then
   bif decide ((0 : Int) ≤ v42) && decide (v42 < (↑(Arr.n v40) : Int)) then
    drive_Check_1 N (Arr.f v40 (Int.toNat v42)) (fun r48 =>
    bif !r48 then
     kr (10 : Int)
    else
     rc v40 v41 (w64 (v42 + (1 : Int))))
   else
    Option.none
  else
   k0 ()
def drive_Check_l5 {R : Type} (N : Nat) : Nat → Arr api_Brake → Int → Int → (Int → Option R) → (Unit → Option R) → Option R
  | 0, _, _, _, _, _ => Option.none
  | n + 1, v40, v41, v42, kr, k0 => drive_Check_b5 N (fun v40 v41 v42 => drive_Check_l5 N n v40 v41 v42 kr k0) v40 v41 v42 kr k0


def drive_Check_m {R : Type} (N : Nat) (a30 : api_Escalator) (k : Int → Option R) : Option R :=
  bif decide (api_Escalator.Empty a30 < (1 : Int)) then
   k (10 : Int)
  else
   bif decide (api_Escalator.Empty a30 > (100000 : Int)) then
    k (10 : Int)
   else
    drive_to N (100 : Int) (fun r32 =>
    drive_in N (api_Escalator.Pull a30) r32 (fun r35 =>
    bif !r35 then
     k (10 : Int)
    else
     drive_to N (10000000 : Int) (fun r36 =>
     drive_in N (api_Escalator.Drag a30) r36 (fun r37 =>
     bif !r37 then
      k (10 : Int)
     else
      drive_to N (10000000 : Int) (fun r38 =>
      drive_in N (api_Escalator.Motor a30) r38 (fun r39 =>
      bif !r39 then
       k (10 : Int)
      else
       bif decide ((↑(Arr.n (api_Escalator.Brakes a30)) : Int) > (3 : Int)) then
        k (10 : Int)
       else
        drive_Check_l5 N N (api_Escalator.Brakes a30) ((↑(Arr.n (api_Escalator.Brakes a30)) : Int)) (0 : Int) (fun r49 =>
         k r49) (fun (_ : Unit) =>
         k (0 : Int))))))))
noncomputable def drive_Check {R : Type} : Nat → api_Escalator → (Int → Option R) → Option R := lock (@drive_Check_m R)
theorem drive_Check_def {R : Type} (N : Nat) (a30 : api_Escalator) (k : Int → Option R) : drive_Check N a30 k = drive_Check_m N a30 k := by unfold drive_Check; rw [lock_eq]
def drive_Check_sp : Sp := ⟨[rAgg api_EscalatorC], []⟩
theorem drive_Check_sp_ok : drive_Check_sp.Ok := ⟨(allCons (rAgg_ok api_EscalatorC_ok api_EscalatorC_len) allNil), eNil⟩
def drive_Check_rs : Sp := ⟨[rInt .i64], []⟩
theorem drive_Check_rs_ok : drive_Check_rs.Ok := ⟨(allCons (rInt_ok .i64) allNil), eNil⟩
def drive_Check_run {R : Type} (N : Nat) (args : List SV) (T : Tab) (kf : SV × Tab → Option R) : Option R :=
  drive_Check_m N (Cod.dec api_EscalatorC (lget (toCs (lget args 0)))) (fun q0 => kf (lget [.int .i64 q0] 0, []))
def drive_Check_d5 {R : Type} (N : Nat) (S0 : St) (k : Exit → St → Option R) : Option R :=
  drive_Check_l5 N N (lstC api_BrakeC (lget S0.tmps 42)) (toI (lget S0.tmps 43)) (toI (lget S0.tmps 44)) (fun q0 => k .ret (drive_Check_x5_r q0)) (fun (_ : Unit) => k (.exit 0) (drive_Check_x5_0 ))
def drive_Check_lp {R : Type} (N : Nat) : Lp R := fun body S k => bif (Go.Sx.keyOf body).getD 0 == 5 then drive_Check_L5.head.raw 0 S (fun S0 => drive_Check_d5 N S0 k) else Option.none
theorem drive_Check_l5_eq {R : Type} (N : Nat) (k : Exit → St → Option R) (n : Nat) : ∀ (v0 : Arr api_Brake) (v1 : Int) (v2 : Int), loopM E.Θ (drive_Check_1_cal N) (drive_Check_lp N) (noJn) 0 drive_Check_L5 (bodyAt E 39 5) n (drive_Check_h5 v0 v1 v2) k = drive_Check_l5 N n v0 v1 v2 (fun q0 => k .ret (drive_Check_x5_r q0)) (fun (_ : Unit) => k (.exit 0) (drive_Check_x5_0 )) := by
  induction n with
  | zero => intro v0 v1 v2; rfl
  | succ n ih =>
    intro v0 v1 v2
    refine Eq.trans (b := drive_Check_b5 N (fun v0 v1 v2 => loopM E.Θ (drive_Check_1_cal N) (drive_Check_lp N) (noJn) 0 drive_Check_L5 (bodyAt E 39 5) n (drive_Check_h5 v0 v1 v2) k) v0 v1 v2 (fun q0 => k .ret (drive_Check_x5_r q0)) (fun (_ : Unit) => k (.exit 0) (drive_Check_x5_0 ))) (by kernel_rfl) ?_
    have h : (fun (v0 : Arr api_Brake) (v1 : Int) (v2 : Int) => loopM E.Θ (drive_Check_1_cal N) (drive_Check_lp N) (noJn) 0 drive_Check_L5 (bodyAt E 39 5) n (drive_Check_h5 v0 v1 v2) k) = (fun (v0 : Arr api_Brake) (v1 : Int) (v2 : Int) => drive_Check_l5 N n v0 v1 v2 (fun q0 => k .ret (drive_Check_x5_r q0)) (fun (_ : Unit) => k (.exit 0) (drive_Check_x5_0 ))) := funext fun v0 => funext fun v1 => funext fun v2 => ih v0 v1 v2
    rw [h]
    rfl
theorem drive_Check_k5 {R : Type} (N : Nat) : LpKey (R := R) E 39 0 (drive_Check_lp N) 5 :=
  lpKey_of hE (drive_Check_1_cal_ok N) (jn := noJn) drive_Check_L5_ok [] kNil (by kernel_rfl) [] jNil (by kernel_rfl) N fun S k =>
    Eq.trans (b := drive_Check_L5.head.raw 0 S (fun S0 => drive_Check_d5 N S0 k)) (by kernel_rfl) (congrArg (drive_Check_L5.head.raw 0 S) (funext fun S0 => Eq.trans (drive_Check_l5_eq N k N (lstC api_BrakeC (lget S0.tmps 42)) (toI (lget S0.tmps 43)) (toI (lget S0.tmps 44))).symm (by kernel_rfl)))
noncomputable def drive_Check_go {R : Type} (N : Nat) (args : List SV) (T : Tab) (kf : SV × Tab → Option R) : Option R :=
  drive_Check N (Cod.dec api_EscalatorC (lget (toCs (lget args 0)))) (fun q0 => kf (lget [.int .i64 q0] 0, []))
noncomputable def drive_Check_cal {R : Type} (N : Nat) : Cal R := callM (drive_Check_1_cal N) 39 0 drive_Check_sp (drive_Check_go N)
theorem drive_Check_cal_ok {R : Type} (N : Nat) : CalOk E.P (drive_Check_cal (R := R) N) :=
  callM_ok hE (drive_Check_1_cal_ok N) (lp := drive_Check_lp N) (jn := noJn) (keys := [5]) (kCons (drive_Check_k5 N) kNil) (by kernel_rfl) (js := []) jNil (by kernel_rfl) drive_Check_sp_ok drive_Check_rs_ok (fun args T kf => Eq.trans (drive_Check_def N (Cod.dec api_EscalatorC (lget (toCs (lget args 0)))) (fun q0 => kf (lget [.int .i64 q0] 0, []))) (by kernel_rfl : drive_Check_run N args T kf = fnM E (drive_Check_1_cal N) (drive_Check_lp N) (noJn) 39 (drive_Check_sp.vs args) (drive_Check_sp.tab T) 0 (resK drive_Check_rs kf)))


def drive_checkStop_m {R : Type} (N : Nat) (a28 : api_Escalator) (a29 : api_Stop) (k : Int → Option R) : Option R :=
  drive_Check N a28 (fun r50 =>
  bif r50 != (0 : Int) then
   k r50
  else
   drive_to N (1000 : Int) (fun r51 =>
   drive_in N (api_Stop.Speed a29) r51 (fun r52 =>
   bif !r52 then
    k (11 : Int)
   else
    bif decide (api_Span.Low (api_Stop.Loads a29) < (0 : Int)) then
     k (11 : Int)
    else
     bif decide (api_Span.Low (api_Stop.Loads a29) > api_Span.High (api_Stop.Loads a29)) then
      k (11 : Int)
     else
      bif decide (api_Span.High (api_Stop.Loads a29) > (100000 : Int)) then
       k (11 : Int)
      else
       bif decide (api_Stop.Fail a29 < (0 : Int)) then
        k (11 : Int)
       else
        bif decide (api_Stop.Fail a29 ≥ w64 ((1 : Int) * (2 : Int) ^ min (Int.toNat (↑(Arr.n (api_Escalator.Brakes a28)) : Int)) (IntKind.bits IntKind.i64))) then
         k (11 : Int)
        else
         k (0 : Int))))
noncomputable def drive_checkStop {R : Type} : Nat → api_Escalator → api_Stop → (Int → Option R) → Option R := lock (@drive_checkStop_m R)
theorem drive_checkStop_def {R : Type} (N : Nat) (a28 : api_Escalator) (a29 : api_Stop) (k : Int → Option R) : drive_checkStop N a28 a29 k = drive_checkStop_m N a28 a29 k := by unfold drive_checkStop; rw [lock_eq]
def drive_checkStop_sp : Sp := ⟨[rAgg api_EscalatorC, rAgg api_StopC], []⟩
theorem drive_checkStop_sp_ok : drive_checkStop_sp.Ok := ⟨(allCons (rAgg_ok api_EscalatorC_ok api_EscalatorC_len) (allCons (rAgg_ok api_StopC_ok api_StopC_len) allNil)), eNil⟩
def drive_checkStop_rs : Sp := ⟨[rInt .i64], []⟩
theorem drive_checkStop_rs_ok : drive_checkStop_rs.Ok := ⟨(allCons (rInt_ok .i64) allNil), eNil⟩
def drive_checkStop_run {R : Type} (N : Nat) (args : List SV) (T : Tab) (kf : SV × Tab → Option R) : Option R :=
  drive_checkStop_m N (Cod.dec api_EscalatorC (lget (toCs (lget args 0)))) (Cod.dec api_StopC (lget (toCs (lget args 1)))) (fun q0 => kf (lget [.int .i64 q0] 0, []))
def drive_checkStop_lp {R : Type} (N : Nat) : Lp R := fun body S k => Option.none
noncomputable def drive_checkStop_go {R : Type} (N : Nat) (args : List SV) (T : Tab) (kf : SV × Tab → Option R) : Option R :=
  drive_checkStop N (Cod.dec api_EscalatorC (lget (toCs (lget args 0)))) (Cod.dec api_StopC (lget (toCs (lget args 1)))) (fun q0 => kf (lget [.int .i64 q0] 0, []))
noncomputable def drive_checkStop_cal {R : Type} (N : Nat) : Cal R := callM (drive_Check_cal N) 46 0 drive_checkStop_sp (drive_checkStop_go N)
theorem drive_checkStop_cal_ok {R : Type} (N : Nat) : CalOk E.P (drive_checkStop_cal (R := R) N) :=
  callM_ok hE (drive_Check_cal_ok N) (lp := drive_checkStop_lp N) (jn := noJn) (keys := []) kNil (by kernel_rfl) (js := []) jNil (by kernel_rfl) drive_checkStop_sp_ok drive_checkStop_rs_ok (fun args T kf => Eq.trans (drive_checkStop_def N (Cod.dec api_EscalatorC (lget (toCs (lget args 0)))) (Cod.dec api_StopC (lget (toCs (lget args 1)))) (fun q0 => kf (lget [.int .i64 q0] 0, []))) (by kernel_rfl : drive_checkStop_run N args T kf = fnM E (drive_Check_cal N) (drive_checkStop_lp N) (noJn) 46 (drive_checkStop_sp.vs args) (drive_checkStop_sp.tab T) 0 (resK drive_checkStop_rs kf)))

def drive_motion_grip_L2 : LoopSp := ⟨⟨[0, 2, 9, 10, 11], ⟨((rEptr drive_motionC) :: (dr 1 ((rInt .i64) :: (dr 6 ((rSl api_BrakeC) :: (rInt .i64) :: (rInt .i64) :: (dr 28 [])))))), []⟩, 0⟩, [(some 0, ⟨[2], ⟨(dr 2 ((rInt .i64) :: (dr 37 []))), []⟩, 0⟩)]⟩
theorem drive_motion_grip_L2_ok : drive_motion_grip_L2.Ok := ⟨⟨(allCons (rEptr_ok drive_motionC_ok) (drCons 1 (allCons (rInt_ok .i64) (drCons 6 (allCons (rSl_ok api_BrakeC_ok) (allCons (rInt_ok .i64) (allCons (rInt_ok .i64) (drCons 28 allNil)))))))), eNil⟩, (xCons ⟨(drCons 2 (allCons (rInt_ok .i64) (drCons 37 allNil))), eNil⟩ xNil)⟩
def drive_motion_grip_h2 (v72 : drive_motion) (v73 : Int) (v74 : Arr api_Brake) (v75 : Int) (v76 : Int) : St := ⟨((.eptr (Cod.size drive_motionC) (lget (Cod.enc drive_motionC v72))) :: (un 1 ((.int .i64 v73) :: (un 6 ((slC api_BrakeC v74) :: (.int .i64 v75) :: (.int .i64 v76) :: (un 28 [])))))), [], 0⟩
def drive_motion_grip_x2_0 (q0 : Int) : St := ⟨(un 2 ((.int .i64 q0) :: (un 37 []))), [], 0⟩
def drive_motion_grip_b2 {R : Type} (N : Nat) (rc : drive_motion → Int → Arr api_Brake → Int → Int → Option R) (v72 : drive_motion) (v73 : Int) (v74 : Arr api_Brake) (v75 : Int) (v76 : Int) (k0 : Int → Option R) : Option R :=
  bif decide (v76 < v75) then
   bif decide ((0 : Int) ≤ v76) && decide (v76 < (↑(Arr.n v74) : Int)) then
    bif decide (v76 < (0 : Int)) then
     Option.none
    else
     bif w64 (↑(BitVec.toNat (BitVec.ofInt (IntKind.bits IntKind.i64) (Int.fdiv (api_Stop.Fail (drive_motion.f_s v72)) ((2 : Int) ^ min (Int.toNat v76) (IntKind.bits IntKind.i64))) &&& BitVec.ofInt (IntKind.bits IntKind.i64) (1 : Int))) : Int) == (0 : Int) then
      bif decide (api_Brake.Delay (Arr.f v74 (Int.toNat v76)) ≤ drive_motion.f_time v72) then
       rc v72 (w64 (v73 + api_Brake.Force (Arr.f v74 (Int.toNat v76)))) v74 v75 (w64 (v76 + (1 : Int)))
      else
       rc v72 v73 v74 v75 (w64 (v76 + (1 : Int)))
     else
      rc v72 v73 v74 v75 (w64 (v76 + (1 : Int)))
   else
    Option.none
  else
   k0 v73
def drive_motion_grip_l2 {R : Type} (N : Nat) : Nat → drive_motion → Int → Arr api_Brake → Int → Int → (Int → Option R) → Option R
  | 0, _, _, _, _, _, _ => Option.none
  | n + 1, v72, v73, v74, v75, v76, k0 => drive_motion_grip_b2 N (fun v72 v73 v74 v75 v76 => drive_motion_grip_l2 N n v72 v73 v74 v75 v76 k0) v72 v73 v74 v75 v76 k0


def drive_motion_grip_m {R : Type} (N : Nat) (a71 : drive_motion) (k : Int → Option R) : Option R :=
  drive_motion_grip_l2 N N a71 (0 : Int) (api_Escalator.Brakes (drive_motion.f_e a71)) ((↑(Arr.n (api_Escalator.Brakes (drive_motion.f_e a71))) : Int)) (0 : Int) (fun r77 =>
   k r77)
noncomputable def drive_motion_grip {R : Type} : Nat → drive_motion → (Int → Option R) → Option R := lock (@drive_motion_grip_m R)
theorem drive_motion_grip_def {R : Type} (N : Nat) (a71 : drive_motion) (k : Int → Option R) : drive_motion_grip N a71 k = drive_motion_grip_m N a71 k := by unfold drive_motion_grip; rw [lock_eq]
def drive_motion_grip_sp : Sp := ⟨[rEptr drive_motionC], []⟩
theorem drive_motion_grip_sp_ok : drive_motion_grip_sp.Ok := ⟨(allCons (rEptr_ok drive_motionC_ok) allNil), eNil⟩
def drive_motion_grip_rs : Sp := ⟨[rInt .i64], []⟩
theorem drive_motion_grip_rs_ok : drive_motion_grip_rs.Ok := ⟨(allCons (rInt_ok .i64) allNil), eNil⟩
def drive_motion_grip_run {R : Type} (N : Nat) (args : List SV) (T : Tab) (kf : SV × Tab → Option R) : Option R :=
  drive_motion_grip_m N (Cod.dec drive_motionC (toE (lget args 0))) (fun q0 => kf (lget [.int .i64 q0] 0, []))
def drive_motion_grip_d2 {R : Type} (N : Nat) (S0 : St) (k : Exit → St → Option R) : Option R :=
  drive_motion_grip_l2 N N (Cod.dec drive_motionC (toE (lget S0.tmps 0))) (toI (lget S0.tmps 2)) (lstC api_BrakeC (lget S0.tmps 9)) (toI (lget S0.tmps 10)) (toI (lget S0.tmps 11)) (fun q0 => k (.exit 0) (drive_motion_grip_x2_0 q0))
def drive_motion_grip_lp {R : Type} (N : Nat) : Lp R := fun body S k => bif (Go.Sx.keyOf body).getD 0 == 2 then drive_motion_grip_L2.head.raw 0 S (fun S0 => drive_motion_grip_d2 N S0 k) else Option.none
theorem drive_motion_grip_l2_eq {R : Type} (N : Nat) (k : Exit → St → Option R) (n : Nat) : ∀ (v0 : drive_motion) (v1 : Int) (v2 : Arr api_Brake) (v3 : Int) (v4 : Int), loopM E.Θ (drive_checkStop_cal N) (drive_motion_grip_lp N) (noJn) 0 drive_motion_grip_L2 (bodyAt E 50 2) n (drive_motion_grip_h2 v0 v1 v2 v3 v4) k = drive_motion_grip_l2 N n v0 v1 v2 v3 v4 (fun q0 => k (.exit 0) (drive_motion_grip_x2_0 q0)) := by
  induction n with
  | zero => intro v0 v1 v2 v3 v4; rfl
  | succ n ih =>
    intro v0 v1 v2 v3 v4
    refine Eq.trans (b := drive_motion_grip_b2 N (fun v0 v1 v2 v3 v4 => loopM E.Θ (drive_checkStop_cal N) (drive_motion_grip_lp N) (noJn) 0 drive_motion_grip_L2 (bodyAt E 50 2) n (drive_motion_grip_h2 v0 v1 v2 v3 v4) k) v0 v1 v2 v3 v4 (fun q0 => k (.exit 0) (drive_motion_grip_x2_0 q0))) (by kernel_rfl) ?_
    have h : (fun (v0 : drive_motion) (v1 : Int) (v2 : Arr api_Brake) (v3 : Int) (v4 : Int) => loopM E.Θ (drive_checkStop_cal N) (drive_motion_grip_lp N) (noJn) 0 drive_motion_grip_L2 (bodyAt E 50 2) n (drive_motion_grip_h2 v0 v1 v2 v3 v4) k) = (fun (v0 : drive_motion) (v1 : Int) (v2 : Arr api_Brake) (v3 : Int) (v4 : Int) => drive_motion_grip_l2 N n v0 v1 v2 v3 v4 (fun q0 => k (.exit 0) (drive_motion_grip_x2_0 q0))) := funext fun v0 => funext fun v1 => funext fun v2 => funext fun v3 => funext fun v4 => ih v0 v1 v2 v3 v4
    rw [h]
    rfl
theorem drive_motion_grip_k2 {R : Type} (N : Nat) : LpKey (R := R) E 50 0 (drive_motion_grip_lp N) 2 :=
  lpKey_of hE (drive_checkStop_cal_ok N) (jn := noJn) drive_motion_grip_L2_ok [] kNil (by kernel_rfl) [] jNil (by kernel_rfl) N fun S k =>
    Eq.trans (b := drive_motion_grip_L2.head.raw 0 S (fun S0 => drive_motion_grip_d2 N S0 k)) (by kernel_rfl) (congrArg (drive_motion_grip_L2.head.raw 0 S) (funext fun S0 => Eq.trans (drive_motion_grip_l2_eq N k N (Cod.dec drive_motionC (toE (lget S0.tmps 0))) (toI (lget S0.tmps 2)) (lstC api_BrakeC (lget S0.tmps 9)) (toI (lget S0.tmps 10)) (toI (lget S0.tmps 11))).symm (by kernel_rfl)))
noncomputable def drive_motion_grip_go {R : Type} (N : Nat) (args : List SV) (T : Tab) (kf : SV × Tab → Option R) : Option R :=
  drive_motion_grip N (Cod.dec drive_motionC (toE (lget args 0))) (fun q0 => kf (lget [.int .i64 q0] 0, []))
noncomputable def drive_motion_grip_cal {R : Type} (N : Nat) : Cal R := callM (drive_checkStop_cal N) 50 0 drive_motion_grip_sp (drive_motion_grip_go N)
theorem drive_motion_grip_cal_ok {R : Type} (N : Nat) : CalOk E.P (drive_motion_grip_cal (R := R) N) :=
  callM_ok hE (drive_checkStop_cal_ok N) (lp := drive_motion_grip_lp N) (jn := noJn) (keys := [2]) (kCons (drive_motion_grip_k2 N) kNil) (by kernel_rfl) (js := []) jNil (by kernel_rfl) drive_motion_grip_sp_ok drive_motion_grip_rs_ok (fun args T kf => Eq.trans (drive_motion_grip_def N (Cod.dec drive_motionC (toE (lget args 0))) (fun q0 => kf (lget [.int .i64 q0] 0, []))) (by kernel_rfl : drive_motion_grip_run N args T kf = fnM E (drive_checkStop_cal N) (drive_motion_grip_lp N) (noJn) 50 (drive_motion_grip_sp.vs args) (drive_motion_grip_sp.tab T) 0 (resK drive_motion_grip_rs kf)))


def drive_floor_m {R : Type} (N : Nat) (a87 : Int) (a88 : Int) (k : Int → Option R) : Option R :=
  bif a88 == (0 : Int) then
   Option.none
  else
   bif a88 == (0 : Int) then
    Option.none
   else
    bif decide (Int.tmod a87 a88 < (0 : Int)) then
     k (w64 (w64 (Int.tdiv a87 a88) - (1 : Int)))
    else
     k (w64 (Int.tdiv a87 a88))
noncomputable def drive_floor {R : Type} : Nat → Int → Int → (Int → Option R) → Option R := lock (@drive_floor_m R)
theorem drive_floor_def {R : Type} (N : Nat) (a87 : Int) (a88 : Int) (k : Int → Option R) : drive_floor N a87 a88 k = drive_floor_m N a87 a88 k := by unfold drive_floor; rw [lock_eq]
def drive_floor_sp : Sp := ⟨[rInt .i64, rInt .i64], []⟩
theorem drive_floor_sp_ok : drive_floor_sp.Ok := ⟨(allCons (rInt_ok .i64) (allCons (rInt_ok .i64) allNil)), eNil⟩
def drive_floor_rs : Sp := ⟨[rInt .i64], []⟩
theorem drive_floor_rs_ok : drive_floor_rs.Ok := ⟨(allCons (rInt_ok .i64) allNil), eNil⟩
def drive_floor_run {R : Type} (N : Nat) (args : List SV) (T : Tab) (kf : SV × Tab → Option R) : Option R :=
  drive_floor_m N (toI (lget args 0)) (toI (lget args 1)) (fun q0 => kf (lget [.int .i64 q0] 0, []))
def drive_floor_lp {R : Type} (N : Nat) : Lp R := fun body S k => Option.none
noncomputable def drive_floor_go {R : Type} (N : Nat) (args : List SV) (T : Tab) (kf : SV × Tab → Option R) : Option R :=
  drive_floor N (toI (lget args 0)) (toI (lget args 1)) (fun q0 => kf (lget [.int .i64 q0] 0, []))
noncomputable def drive_floor_cal {R : Type} (N : Nat) : Cal R := callM (drive_motion_grip_cal N) 67 0 drive_floor_sp (drive_floor_go N)
theorem drive_floor_cal_ok {R : Type} (N : Nat) : CalOk E.P (drive_floor_cal (R := R) N) :=
  callM_ok hE (drive_motion_grip_cal_ok N) (lp := drive_floor_lp N) (jn := noJn) (keys := []) kNil (by kernel_rfl) (js := []) jNil (by kernel_rfl) drive_floor_sp_ok drive_floor_rs_ok (fun args T kf => Eq.trans (drive_floor_def N (toI (lget args 0)) (toI (lget args 1)) (fun q0 => kf (lget [.int .i64 q0] 0, []))) (by kernel_rfl : drive_floor_run N args T kf = fnM E (drive_motion_grip_cal N) (drive_floor_lp N) (noJn) 67 (drive_floor_sp.vs args) (drive_floor_sp.tab T) 0 (resK drive_floor_rs kf)))


def drive_ahead_m {R : Type} (N : Nat) (a83 : Int) (a84 : Int) (a85 : Int) (a86 : Int) (k : Int → Option R) : Option R :=
  drive_floor N (w64 (a84 - a85)) a86 (fun r89 =>
  k (if w64 (a83 + r89) > (0 : Int) then w64 (a83 + r89) else (0 : Int)))
noncomputable def drive_ahead {R : Type} : Nat → Int → Int → Int → Int → (Int → Option R) → Option R := lock (@drive_ahead_m R)
theorem drive_ahead_def {R : Type} (N : Nat) (a83 : Int) (a84 : Int) (a85 : Int) (a86 : Int) (k : Int → Option R) : drive_ahead N a83 a84 a85 a86 k = drive_ahead_m N a83 a84 a85 a86 k := by unfold drive_ahead; rw [lock_eq]
def drive_ahead_sp : Sp := ⟨[rInt .i64, rInt .i64, rInt .i64, rInt .i64], []⟩
theorem drive_ahead_sp_ok : drive_ahead_sp.Ok := ⟨(allCons (rInt_ok .i64) (allCons (rInt_ok .i64) (allCons (rInt_ok .i64) (allCons (rInt_ok .i64) allNil)))), eNil⟩
def drive_ahead_rs : Sp := ⟨[rInt .i64], []⟩
theorem drive_ahead_rs_ok : drive_ahead_rs.Ok := ⟨(allCons (rInt_ok .i64) allNil), eNil⟩
def drive_ahead_run {R : Type} (N : Nat) (args : List SV) (T : Tab) (kf : SV × Tab → Option R) : Option R :=
  drive_ahead_m N (toI (lget args 0)) (toI (lget args 1)) (toI (lget args 2)) (toI (lget args 3)) (fun q0 => kf (lget [.int .i64 q0] 0, []))
def drive_ahead_lp {R : Type} (N : Nat) : Lp R := fun body S k => Option.none
noncomputable def drive_ahead_go {R : Type} (N : Nat) (args : List SV) (T : Tab) (kf : SV × Tab → Option R) : Option R :=
  drive_ahead N (toI (lget args 0)) (toI (lget args 1)) (toI (lget args 2)) (toI (lget args 3)) (fun q0 => kf (lget [.int .i64 q0] 0, []))
noncomputable def drive_ahead_cal {R : Type} (N : Nat) : Cal R := callM (drive_floor_cal N) 64 0 drive_ahead_sp (drive_ahead_go N)
theorem drive_ahead_cal_ok {R : Type} (N : Nat) : CalOk E.P (drive_ahead_cal (R := R) N) :=
  callM_ok hE (drive_floor_cal_ok N) (lp := drive_ahead_lp N) (jn := noJn) (keys := []) kNil (by kernel_rfl) (js := []) jNil (by kernel_rfl) drive_ahead_sp_ok drive_ahead_rs_ok (fun args T kf => Eq.trans (drive_ahead_def N (toI (lget args 0)) (toI (lget args 1)) (toI (lget args 2)) (toI (lget args 3)) (fun q0 => kf (lget [.int .i64 q0] 0, []))) (by kernel_rfl : drive_ahead_run N args T kf = fnM E (drive_floor_cal N) (drive_ahead_lp N) (noJn) 64 (drive_ahead_sp.vs args) (drive_ahead_sp.tab T) 0 (resK drive_ahead_rs kf)))


def drive_tick_m {R : Type} (N : Nat) (a79 : api_Escalator) (a80 : Int) (a81 : Int) (a82 : Int) (k : Int → Option R) : Option R :=
  bif api_Escalator.Up a79 then
   bif decide (a80 < (0 : Int)) then
    drive_ahead N (w64 ((0 : Int) - a80)) (w64 ((0 : Int) - w64 ((0 : Int) - w64 (api_Escalator.Pull a79 * a81)))) (w64 (api_Escalator.Drag a79 + a82)) (w64 (api_Escalator.Empty a79 + a81)) (fun r90 =>
    k (w64 ((0 : Int) - r90)))
   else
    bif a80 == (0 : Int) then
     bif decide (w64 ((0 : Int) - w64 (api_Escalator.Pull a79 * a81)) < (0 : Int)) then
      drive_ahead N (w64 ((0 : Int) - a80)) (w64 ((0 : Int) - w64 ((0 : Int) - w64 (api_Escalator.Pull a79 * a81)))) (w64 (api_Escalator.Drag a79 + a82)) (w64 (api_Escalator.Empty a79 + a81)) (fun r91 =>
      k (w64 ((0 : Int) - r91)))
     else
      drive_ahead N a80 (w64 ((0 : Int) - w64 (api_Escalator.Pull a79 * a81))) (w64 (api_Escalator.Drag a79 + a82)) (w64 (api_Escalator.Empty a79 + a81)) (fun r92 =>
      k r92)
    else
     drive_ahead N a80 (w64 ((0 : Int) - w64 (api_Escalator.Pull a79 * a81))) (w64 (api_Escalator.Drag a79 + a82)) (w64 (api_Escalator.Empty a79 + a81)) (fun r93 =>
     k r93)
  else
   bif decide (a80 < (0 : Int)) then
    drive_ahead N (w64 ((0 : Int) - a80)) (w64 ((0 : Int) - w64 (api_Escalator.Pull a79 * a81))) (w64 (api_Escalator.Drag a79 + a82)) (w64 (api_Escalator.Empty a79 + a81)) (fun r94 =>
    k (w64 ((0 : Int) - r94)))
   else
    bif a80 == (0 : Int) then
     bif decide (w64 (api_Escalator.Pull a79 * a81) < (0 : Int)) then
      drive_ahead N (w64 ((0 : Int) - a80)) (w64 ((0 : Int) - w64 (api_Escalator.Pull a79 * a81))) (w64 (api_Escalator.Drag a79 + a82)) (w64 (api_Escalator.Empty a79 + a81)) (fun r95 =>
      k (w64 ((0 : Int) - r95)))
     else
      drive_ahead N a80 (w64 (api_Escalator.Pull a79 * a81)) (w64 (api_Escalator.Drag a79 + a82)) (w64 (api_Escalator.Empty a79 + a81)) (fun r96 =>
      k r96)
    else
     drive_ahead N a80 (w64 (api_Escalator.Pull a79 * a81)) (w64 (api_Escalator.Drag a79 + a82)) (w64 (api_Escalator.Empty a79 + a81)) (fun r97 =>
     k r97)
noncomputable def drive_tick {R : Type} : Nat → api_Escalator → Int → Int → Int → (Int → Option R) → Option R := lock (@drive_tick_m R)
theorem drive_tick_def {R : Type} (N : Nat) (a79 : api_Escalator) (a80 : Int) (a81 : Int) (a82 : Int) (k : Int → Option R) : drive_tick N a79 a80 a81 a82 k = drive_tick_m N a79 a80 a81 a82 k := by unfold drive_tick; rw [lock_eq]
def drive_tick_sp : Sp := ⟨[rAgg api_EscalatorC, rInt .i64, rInt .i64, rInt .i64], []⟩
theorem drive_tick_sp_ok : drive_tick_sp.Ok := ⟨(allCons (rAgg_ok api_EscalatorC_ok api_EscalatorC_len) (allCons (rInt_ok .i64) (allCons (rInt_ok .i64) (allCons (rInt_ok .i64) allNil)))), eNil⟩
def drive_tick_rs : Sp := ⟨[rInt .i64], []⟩
theorem drive_tick_rs_ok : drive_tick_rs.Ok := ⟨(allCons (rInt_ok .i64) allNil), eNil⟩
def drive_tick_run {R : Type} (N : Nat) (args : List SV) (T : Tab) (kf : SV × Tab → Option R) : Option R :=
  drive_tick_m N (Cod.dec api_EscalatorC (lget (toCs (lget args 0)))) (toI (lget args 1)) (toI (lget args 2)) (toI (lget args 3)) (fun q0 => kf (lget [.int .i64 q0] 0, []))
def drive_tick_lp {R : Type} (N : Nat) : Lp R := fun body S k => Option.none
noncomputable def drive_tick_go {R : Type} (N : Nat) (args : List SV) (T : Tab) (kf : SV × Tab → Option R) : Option R :=
  drive_tick N (Cod.dec api_EscalatorC (lget (toCs (lget args 0)))) (toI (lget args 1)) (toI (lget args 2)) (toI (lget args 3)) (fun q0 => kf (lget [.int .i64 q0] 0, []))
noncomputable def drive_tick_cal {R : Type} (N : Nat) : Cal R := callM (drive_ahead_cal N) 54 0 drive_tick_sp (drive_tick_go N)
theorem drive_tick_cal_ok {R : Type} (N : Nat) : CalOk E.P (drive_tick_cal (R := R) N) :=
  callM_ok hE (drive_ahead_cal_ok N) (lp := drive_tick_lp N) (jn := noJn) (keys := []) kNil (by kernel_rfl) (js := []) jNil (by kernel_rfl) drive_tick_sp_ok drive_tick_rs_ok (fun args T kf => Eq.trans (drive_tick_def N (Cod.dec api_EscalatorC (lget (toCs (lget args 0)))) (toI (lget args 1)) (toI (lget args 2)) (toI (lget args 3)) (fun q0 => kf (lget [.int .i64 q0] 0, []))) (by kernel_rfl : drive_tick_run N args T kf = fnM E (drive_ahead_cal N) (drive_tick_lp N) (noJn) 54 (drive_tick_sp.vs args) (drive_tick_sp.tab T) 0 (resK drive_tick_rs kf)))


def drive_motion_with_m {R : Type} (N : Nat) (a69 : Int) (a70 : drive_motion) (k : Int → drive_motion → Option R) : Option R :=
  drive_motion_grip N a70 (fun r78 =>
  drive_tick N (drive_motion.f_e a70) (drive_motion.f_speed a70) a69 r78 (fun r98 =>
  k r98 (drive_motion.mk (drive_motion.f_e a70) (drive_motion.f_s a70) r98 (w64 (drive_motion.f_time a70 + (1 : Int))))))
noncomputable def drive_motion_with {R : Type} : Nat → Int → drive_motion → (Int → drive_motion → Option R) → Option R := lock (@drive_motion_with_m R)
theorem drive_motion_with_def {R : Type} (N : Nat) (a69 : Int) (a70 : drive_motion) (k : Int → drive_motion → Option R) : drive_motion_with N a69 a70 k = drive_motion_with_m N a69 a70 k := by unfold drive_motion_with; rw [lock_eq]
def drive_motion_with_sp : Sp := ⟨[rPtr 0 0, rInt .i64], [(0, eBlkC drive_motionC)]⟩
theorem drive_motion_with_sp_ok : drive_motion_with_sp.Ok := ⟨(allCons (rPtr_ok 0 0) (allCons (rInt_ok .i64) allNil)), (eCons (eBlkC_ok drive_motionC_ok drive_motionC_len) eNil)⟩
def drive_motion_with_rs : Sp := ⟨[rInt .i64], [(0, eBlkC drive_motionC)]⟩
theorem drive_motion_with_rs_ok : drive_motion_with_rs.Ok := ⟨(allCons (rInt_ok .i64) allNil), (eCons (eBlkC_ok drive_motionC_ok drive_motionC_len) eNil)⟩
def drive_motion_with_run {R : Type} (N : Nat) (args : List SV) (T : Tab) (kf : SV × Tab → Option R) : Option R :=
  drive_motion_with_m N (toI (lget args 1)) (Cod.dec drive_motionC (lget (entCs (entAt T 0)))) (fun q0 q1 => kf (lget [.int .i64 q0] 0, [(0, .blk (Cod.enc drive_motionC q1))]))
def drive_motion_with_lp {R : Type} (N : Nat) : Lp R := fun body S k => Option.none
noncomputable def drive_motion_with_go {R : Type} (N : Nat) (args : List SV) (T : Tab) (kf : SV × Tab → Option R) : Option R :=
  drive_motion_with N (toI (lget args 1)) (Cod.dec drive_motionC (lget (entCs (entAt T 0)))) (fun q0 q1 => kf (lget [.int .i64 q0] 0, [(0, .blk (Cod.enc drive_motionC q1))]))
noncomputable def drive_motion_with_cal {R : Type} (N : Nat) : Cal R := callM (drive_tick_cal N) 57 1 drive_motion_with_sp (drive_motion_with_go N)
theorem drive_motion_with_cal_ok {R : Type} (N : Nat) : CalOk E.P (drive_motion_with_cal (R := R) N) :=
  callM_ok hE (drive_tick_cal_ok N) (lp := drive_motion_with_lp N) (jn := noJn) (keys := []) kNil (by kernel_rfl) (js := []) jNil (by kernel_rfl) drive_motion_with_sp_ok drive_motion_with_rs_ok (fun args T kf => Eq.trans (drive_motion_with_def N (toI (lget args 1)) (Cod.dec drive_motionC (lget (entCs (entAt T 0)))) (fun q0 q1 => kf (lget [.int .i64 q0] 0, [(0, .blk (Cod.enc drive_motionC q1))]))) (by kernel_rfl : drive_motion_with_run N args T kf = fnM E (drive_tick_cal N) (drive_motion_with_lp N) (noJn) 57 (drive_motion_with_sp.vs args) (drive_motion_with_sp.tab T) 1 (resK drive_motion_with_rs kf)))


def drive_motion_extreme_m {R : Type} (N : Nat) (a67 : Bool) (a68 : drive_motion) (k : Int → drive_motion → Option R) : Option R :=
  drive_motion_with N (api_Span.Low (api_Stop.Loads (drive_motion.f_s a68))) a68 (fun r99 r100 =>
  drive_motion_with N (api_Span.High (api_Stop.Loads (drive_motion.f_s a68))) a68 (fun r101 r102 =>
  bif a67 then
   bif decide (r101 > r99) then
    k (api_Span.High (api_Stop.Loads (drive_motion.f_s r102))) r102
   else
    bif !a67 then
     bif decide (r101 < r99) then
      k (api_Span.High (api_Stop.Loads (drive_motion.f_s r102))) r102
     else
      k (api_Span.Low (api_Stop.Loads (drive_motion.f_s r100))) r100
    else
     k (api_Span.Low (api_Stop.Loads (drive_motion.f_s r100))) r100
  else
   bif !a67 then
    bif decide (r101 < r99) then
     k (api_Span.High (api_Stop.Loads (drive_motion.f_s r102))) r102
    else
     k (api_Span.Low (api_Stop.Loads (drive_motion.f_s r100))) r100
   else
    k (api_Span.Low (api_Stop.Loads (drive_motion.f_s r100))) r100))
noncomputable def drive_motion_extreme {R : Type} : Nat → Bool → drive_motion → (Int → drive_motion → Option R) → Option R := lock (@drive_motion_extreme_m R)
theorem drive_motion_extreme_def {R : Type} (N : Nat) (a67 : Bool) (a68 : drive_motion) (k : Int → drive_motion → Option R) : drive_motion_extreme N a67 a68 k = drive_motion_extreme_m N a67 a68 k := by unfold drive_motion_extreme; rw [lock_eq]
def drive_motion_extreme_sp : Sp := ⟨[rPtr 0 0, rBool], [(0, eBlkC drive_motionC)]⟩
theorem drive_motion_extreme_sp_ok : drive_motion_extreme_sp.Ok := ⟨(allCons (rPtr_ok 0 0) (allCons rBool_ok allNil)), (eCons (eBlkC_ok drive_motionC_ok drive_motionC_len) eNil)⟩
def drive_motion_extreme_rs : Sp := ⟨[rInt .i64], [(0, eBlkC drive_motionC)]⟩
theorem drive_motion_extreme_rs_ok : drive_motion_extreme_rs.Ok := ⟨(allCons (rInt_ok .i64) allNil), (eCons (eBlkC_ok drive_motionC_ok drive_motionC_len) eNil)⟩
def drive_motion_extreme_run {R : Type} (N : Nat) (args : List SV) (T : Tab) (kf : SV × Tab → Option R) : Option R :=
  drive_motion_extreme_m N (toB (lget args 1)) (Cod.dec drive_motionC (lget (entCs (entAt T 0)))) (fun q0 q1 => kf (lget [.int .i64 q0] 0, [(0, .blk (Cod.enc drive_motionC q1))]))
def drive_motion_extreme_lp {R : Type} (N : Nat) : Lp R := fun body S k => Option.none
noncomputable def drive_motion_extreme_go {R : Type} (N : Nat) (args : List SV) (T : Tab) (kf : SV × Tab → Option R) : Option R :=
  drive_motion_extreme N (toB (lget args 1)) (Cod.dec drive_motionC (lget (entCs (entAt T 0)))) (fun q0 q1 => kf (lget [.int .i64 q0] 0, [(0, .blk (Cod.enc drive_motionC q1))]))
noncomputable def drive_motion_extreme_cal {R : Type} (N : Nat) : Cal R := callM (drive_motion_with_cal N) 49 1 drive_motion_extreme_sp (drive_motion_extreme_go N)
theorem drive_motion_extreme_cal_ok {R : Type} (N : Nat) : CalOk E.P (drive_motion_extreme_cal (R := R) N) :=
  callM_ok hE (drive_motion_with_cal_ok N) (lp := drive_motion_extreme_lp N) (jn := noJn) (keys := []) kNil (by kernel_rfl) (js := []) jNil (by kernel_rfl) drive_motion_extreme_sp_ok drive_motion_extreme_rs_ok (fun args T kf => Eq.trans (drive_motion_extreme_def N (toB (lget args 1)) (Cod.dec drive_motionC (lget (entCs (entAt T 0)))) (fun q0 q1 => kf (lget [.int .i64 q0] 0, [(0, .blk (Cod.enc drive_motionC q1))]))) (by kernel_rfl : drive_motion_extreme_run N args T kf = fnM E (drive_motion_with_cal N) (drive_motion_extreme_lp N) (noJn) 49 (drive_motion_extreme_sp.vs args) (drive_motion_extreme_sp.tab T) 1 (resK drive_motion_extreme_rs kf)))

def drive_run_L3 : LoopSp := ⟨⟨[2, 6, 7, 8], ⟨(dr 2 ((rBool) :: (dr 3 ((rPtr 0 0) :: (rPtr 1 0) :: (rPtr 2 0) :: (dr 35 []))))), [(0, eBlk [rInt .i64, rRow 3, rBool]), (1, eBlkC drive_motionC), (2, eBlk [rInt .i64, rRow 4, rBool]), (3, eRow intC), (4, eRow intC)]⟩, 5⟩, [(some 0, ⟨[6, 8], ⟨(dr 6 ((rPtr 0 0) :: (dr 1 ((rPtr 1 0) :: (dr 35 []))))), [(0, eBlk [rInt .i64, rRow 2, rBool]), (1, eBlk [rInt .i64, rRow 3, rBool]), (2, eRow intC), (3, eRow intC)]⟩, 4⟩)]⟩
theorem drive_run_L3_ok : drive_run_L3.Ok := ⟨⟨(drCons 2 (allCons rBool_ok (drCons 3 (allCons (rPtr_ok 0 0) (allCons (rPtr_ok 1 0) (allCons (rPtr_ok 2 0) (drCons 35 allNil))))))), (eCons (eBlk_ok (allCons (rInt_ok .i64) (allCons (rRow_ok 3) (allCons rBool_ok allNil)))) (eCons (eBlkC_ok drive_motionC_ok drive_motionC_len) (eCons (eBlk_ok (allCons (rInt_ok .i64) (allCons (rRow_ok 4) (allCons rBool_ok allNil)))) (eCons (eRow_ok intC_ok) (eCons (eRow_ok intC_ok) eNil)))))⟩, (xCons ⟨(drCons 6 (allCons (rPtr_ok 0 0) (drCons 1 (allCons (rPtr_ok 1 0) (drCons 35 allNil))))), (eCons (eBlk_ok (allCons (rInt_ok .i64) (allCons (rRow_ok 2) (allCons rBool_ok allNil)))) (eCons (eBlk_ok (allCons (rInt_ok .i64) (allCons (rRow_ok 3) (allCons rBool_ok allNil)))) (eCons (eRow_ok intC_ok) (eCons (eRow_ok intC_ok) eNil))))⟩ xNil)⟩
def drive_run_h3 (v57 : Bool) (v58 : Int) (v59 : Bool) (v60 : drive_motion) (v61 : Int) (v62 : Bool) (v63 : Bool) (v64 : Arr Int) (v65 : Bool) (v66 : Arr Int) : St := ⟨(un 2 ((.bool v57) :: (un 3 ((.ptr 0 0) :: (.ptr 1 0) :: (.ptr 2 0) :: (un 35 []))))), [(0, .blk [.int .i64 v58, .row 3, .bool v59]), (1, .blk (Cod.enc drive_motionC v60)), (2, .blk [.int .i64 v61, .row 4, .bool v62]), (3, rowE intC v63 v64), (4, rowE intC v65 v66)], 5⟩
def drive_run_x3_0 (v58 : Int) (v59 : Bool) (v63 : Bool) (v64 : Arr Int) (q2 : Int) (q3 : Bool) (q6 : Bool) (q7 : Arr Int) : St := ⟨(un 6 ((.ptr 0 0) :: (un 1 ((.ptr 1 0) :: (un 35 []))))), [(0, .blk [.int .i64 v58, .row 2, .bool v59]), (1, .blk [.int .i64 q2, .row 3, .bool q3]), (2, rowE intC v63 v64), (3, rowE intC q6 q7)], 4⟩
def drive_run_b3 {R : Type} (N : Nat) (rc : Bool → Int → Bool → drive_motion → Int → Bool → Bool → Arr Int → Bool → Arr Int → Option R) (v57 : Bool) (v58 : Int) (v59 : Bool) (v60 : drive_motion) (v61 : Int) (v62 : Bool) (v63 : Bool) (v64 : Arr Int) (v65 : Bool) (v66 : Arr Int) (k0 : Int → Bool → Bool → Arr Int → Option R) : Option R :=
  bif !v62 then
   bif decide (drive_motion.f_time v60 < (100 : Int)) then
    drive_motion_extreme N v57 v60 (fun r103 r104 =>
    bif room (Arr.n v66 + (1 : Nat)) then
     rc v57 v58 v59 r104 (w64 (v61 + drive_motion.f_speed r104)) (drive_motion.f_speed r104 == (0 : Int)) v63 v64 false (lst intC (Arr.n v66 + (1 : Nat)) (catC (Arr.n v66) (Cod.cell intC (Arr.f v66)) (litC [SV.int IntKind.i64 (0 : Int)] [[SV.int IntKind.i64 r103]])))
    else
     Option.none)
   else
    k0 v61 v62 v65 v66
  else
   k0 v61 v62 v65 v66
def drive_run_l3 {R : Type} (N : Nat) : Nat → Bool → Int → Bool → drive_motion → Int → Bool → Bool → Arr Int → Bool → Arr Int → (Int → Bool → Bool → Arr Int → Option R) → Option R
  | 0, _, _, _, _, _, _, _, _, _, _, _ => Option.none
  | n + 1, v57, v58, v59, v60, v61, v62, v63, v64, v65, v66, k0 => drive_run_b3 N (fun v57 v58 v59 v60 v61 v62 v63 v64 v65 v66 => drive_run_l3 N n v57 v58 v59 v60 v61 v62 v63 v64 v65 v66 k0) v57 v58 v59 v60 v61 v62 v63 v64 v65 v66 k0


def drive_run_m {R : Type} (N : Nat) (a54 : api_Escalator) (a55 : api_Stop) (a56 : Bool) (k : Int → Bool → Bool → Arr Int → Option R) : Option R :=
  drive_run_l3 N N a56 (0 : Int) false (drive_motion.mk a54 a55 (api_Stop.Speed a55) (0 : Int)) (0 : Int) (api_Stop.Speed a55 == (0 : Int)) true (lst intC (0 : Nat) (zeroC [SV.int IntKind.i64 (0 : Int)])) true (lst intC (0 : Nat) (zeroC [SV.int IntKind.i64 (0 : Int)])) (fun r105 r106 r107 r108 =>
   k r105 r106 r107 r108)
noncomputable def drive_run {R : Type} : Nat → api_Escalator → api_Stop → Bool → (Int → Bool → Bool → Arr Int → Option R) → Option R := lock (@drive_run_m R)
theorem drive_run_def {R : Type} (N : Nat) (a54 : api_Escalator) (a55 : api_Stop) (a56 : Bool) (k : Int → Bool → Bool → Arr Int → Option R) : drive_run N a54 a55 a56 k = drive_run_m N a54 a55 a56 k := by unfold drive_run; rw [lock_eq]
def drive_run_sp : Sp := ⟨[rAgg api_EscalatorC, rAgg api_StopC, rBool], []⟩
theorem drive_run_sp_ok : drive_run_sp.Ok := ⟨(allCons (rAgg_ok api_EscalatorC_ok api_EscalatorC_len) (allCons (rAgg_ok api_StopC_ok api_StopC_len) (allCons rBool_ok allNil))), eNil⟩
def drive_run_rs : Sp := ⟨[rAggs [rInt .i64, rRow 0, rBool]], [(0, eRow intC)]⟩
theorem drive_run_rs_ok : drive_run_rs.Ok := ⟨(allCons (rAggs_ok (allCons (rInt_ok .i64) (allCons (rRow_ok 0) (allCons rBool_ok allNil)))) allNil), (eCons (eRow_ok intC_ok) eNil)⟩
def drive_run_run {R : Type} (N : Nat) (args : List SV) (T : Tab) (kf : SV × Tab → Option R) : Option R :=
  drive_run_m N (Cod.dec api_EscalatorC (lget (toCs (lget args 0)))) (Cod.dec api_StopC (lget (toCs (lget args 1)))) (toB (lget args 2)) (fun q0 q1 q2 q3 => kf (lget [.agg [.int .i64 q0, .row 0, .bool q1]] 0, [(0, rowE intC q2 q3)]))
def drive_run_d3 {R : Type} (N : Nat) (S0 : St) (k : Exit → St → Option R) : Option R :=
  drive_run_l3 N N (toB (lget S0.tmps 2)) (toI (lget (entCs (entAt S0.tab 0)) 0)) (toB (lget (entCs (entAt S0.tab 0)) 2)) (Cod.dec drive_motionC (lget (entCs (entAt S0.tab 1)))) (toI (lget (entCs (entAt S0.tab 2)) 0)) (toB (lget (entCs (entAt S0.tab 2)) 2)) (entNl (entAt S0.tab 3)) (lst intC (entN (entAt S0.tab 3)) (entC (entAt S0.tab 3))) (entNl (entAt S0.tab 4)) (lst intC (entN (entAt S0.tab 4)) (entC (entAt S0.tab 4))) (fun q2 q3 q6 q7 => k (.exit 0) (drive_run_x3_0 (toI (lget (entCs (entAt S0.tab 0)) 0)) (toB (lget (entCs (entAt S0.tab 0)) 2)) (entNl (entAt S0.tab 3)) (lst intC (entN (entAt S0.tab 3)) (entC (entAt S0.tab 3))) q2 q3 q6 q7))
def drive_run_lp {R : Type} (N : Nat) : Lp R := fun body S k => bif (Go.Sx.keyOf body).getD 0 == 3 then drive_run_L3.head.raw 0 S (fun S0 => drive_run_d3 N S0 k) else Option.none
theorem drive_run_l3_eq {R : Type} (N : Nat) (k : Exit → St → Option R) (n : Nat) : ∀ (v0 : Bool) (v1 : Int) (v2 : Bool) (v3 : drive_motion) (v4 : Int) (v5 : Bool) (v6 : Bool) (v7 : Arr Int) (v8 : Bool) (v9 : Arr Int), loopM E.Θ (drive_motion_extreme_cal N) (drive_run_lp N) (noJn) 0 drive_run_L3 (bodyAt E 47 3) n (drive_run_h3 v0 v1 v2 v3 v4 v5 v6 v7 v8 v9) k = drive_run_l3 N n v0 v1 v2 v3 v4 v5 v6 v7 v8 v9 (fun q2 q3 q6 q7 => k (.exit 0) (drive_run_x3_0 v1 v2 v6 v7 q2 q3 q6 q7)) := by
  induction n with
  | zero => intro v0 v1 v2 v3 v4 v5 v6 v7 v8 v9; rfl
  | succ n ih =>
    intro v0 v1 v2 v3 v4 v5 v6 v7 v8 v9
    refine Eq.trans (b := drive_run_b3 N (fun v0 v1 v2 v3 v4 v5 v6 v7 v8 v9 => loopM E.Θ (drive_motion_extreme_cal N) (drive_run_lp N) (noJn) 0 drive_run_L3 (bodyAt E 47 3) n (drive_run_h3 v0 v1 v2 v3 v4 v5 v6 v7 v8 v9) k) v0 v1 v2 v3 v4 v5 v6 v7 v8 v9 (fun q2 q3 q6 q7 => k (.exit 0) (drive_run_x3_0 v1 v2 v6 v7 q2 q3 q6 q7))) (by kernel_rfl) ?_
    have h : (fun (v0 : Bool) (v1 : Int) (v2 : Bool) (v3 : drive_motion) (v4 : Int) (v5 : Bool) (v6 : Bool) (v7 : Arr Int) (v8 : Bool) (v9 : Arr Int) => loopM E.Θ (drive_motion_extreme_cal N) (drive_run_lp N) (noJn) 0 drive_run_L3 (bodyAt E 47 3) n (drive_run_h3 v0 v1 v2 v3 v4 v5 v6 v7 v8 v9) k) = (fun (v0 : Bool) (v1 : Int) (v2 : Bool) (v3 : drive_motion) (v4 : Int) (v5 : Bool) (v6 : Bool) (v7 : Arr Int) (v8 : Bool) (v9 : Arr Int) => drive_run_l3 N n v0 v1 v2 v3 v4 v5 v6 v7 v8 v9 (fun q2 q3 q6 q7 => k (.exit 0) (drive_run_x3_0 v1 v2 v6 v7 q2 q3 q6 q7))) := funext fun v0 => funext fun v1 => funext fun v2 => funext fun v3 => funext fun v4 => funext fun v5 => funext fun v6 => funext fun v7 => funext fun v8 => funext fun v9 => ih v0 v1 v2 v3 v4 v5 v6 v7 v8 v9
    rw [h]
    rfl
theorem drive_run_k3 {R : Type} (N : Nat) : LpKey (R := R) E 47 0 (drive_run_lp N) 3 :=
  lpKey_of hE (drive_motion_extreme_cal_ok N) (jn := noJn) drive_run_L3_ok [] kNil (by kernel_rfl) [] jNil (by kernel_rfl) N fun S k =>
    Eq.trans (b := drive_run_L3.head.raw 0 S (fun S0 => drive_run_d3 N S0 k)) (by kernel_rfl) (congrArg (drive_run_L3.head.raw 0 S) (funext fun S0 => Eq.trans (drive_run_l3_eq N k N (toB (lget S0.tmps 2)) (toI (lget (entCs (entAt S0.tab 0)) 0)) (toB (lget (entCs (entAt S0.tab 0)) 2)) (Cod.dec drive_motionC (lget (entCs (entAt S0.tab 1)))) (toI (lget (entCs (entAt S0.tab 2)) 0)) (toB (lget (entCs (entAt S0.tab 2)) 2)) (entNl (entAt S0.tab 3)) (lst intC (entN (entAt S0.tab 3)) (entC (entAt S0.tab 3))) (entNl (entAt S0.tab 4)) (lst intC (entN (entAt S0.tab 4)) (entC (entAt S0.tab 4)))).symm (by kernel_rfl)))
noncomputable def drive_run_go {R : Type} (N : Nat) (args : List SV) (T : Tab) (kf : SV × Tab → Option R) : Option R :=
  drive_run N (Cod.dec api_EscalatorC (lget (toCs (lget args 0)))) (Cod.dec api_StopC (lget (toCs (lget args 1)))) (toB (lget args 2)) (fun q0 q1 q2 q3 => kf (lget [.agg [.int .i64 q0, .row 0, .bool q1]] 0, [(0, rowE intC q2 q3)]))
noncomputable def drive_run_cal {R : Type} (N : Nat) : Cal R := callM (drive_motion_extreme_cal N) 47 0 drive_run_sp (drive_run_go N)
theorem drive_run_cal_ok {R : Type} (N : Nat) : CalOk E.P (drive_run_cal (R := R) N) :=
  callM_ok hE (drive_motion_extreme_cal_ok N) (lp := drive_run_lp N) (jn := noJn) (keys := [3]) (kCons (drive_run_k3 N) kNil) (by kernel_rfl) (js := []) jNil (by kernel_rfl) drive_run_sp_ok drive_run_rs_ok (fun args T kf => Eq.trans (drive_run_def N (Cod.dec api_EscalatorC (lget (toCs (lget args 0)))) (Cod.dec api_StopC (lget (toCs (lget args 1)))) (toB (lget args 2)) (fun q0 q1 q2 q3 => kf (lget [.agg [.int .i64 q0, .row 0, .bool q1]] 0, [(0, rowE intC q2 q3)]))) (by kernel_rfl : drive_run_run N args T kf = fnM E (drive_motion_extreme_cal N) (drive_run_lp N) (noJn) 47 (drive_run_sp.vs args) (drive_run_sp.tab T) 0 (resK drive_run_rs kf)))


def drive_Distance_m {R : Type} (N : Nat) (a26 : api_Escalator) (a27 : api_Stop) (k : api_Span → api_Span → Int → Option R) : Option R :=
  drive_checkStop N a26 a27 (fun r53 =>
  bif r53 != (0 : Int) then
   k (api_Span.mk (0 : Int) (0 : Int)) (api_Span.mk (0 : Int) (0 : Int)) r53
  else
   drive_run N a26 a27 true (fun r109 r110 r111 r112 =>
   drive_run N a26 a27 false (fun r113 r114 r115 r116 =>
   bif !r110 then
    k (api_Span.mk (0 : Int) (0 : Int)) (api_Span.mk (0 : Int) (0 : Int)) (12 : Int)
   else
    k (api_Span.mk r113 r109) (api_Span.mk (↑(Arr.n r116) : Int) (↑(Arr.n r112) : Int)) (0 : Int))))
noncomputable def drive_Distance {R : Type} : Nat → api_Escalator → api_Stop → (api_Span → api_Span → Int → Option R) → Option R := lock (@drive_Distance_m R)
theorem drive_Distance_def {R : Type} (N : Nat) (a26 : api_Escalator) (a27 : api_Stop) (k : api_Span → api_Span → Int → Option R) : drive_Distance N a26 a27 k = drive_Distance_m N a26 a27 k := by unfold drive_Distance; rw [lock_eq]
def drive_Distance_sp : Sp := ⟨[rAgg api_EscalatorC, rAgg api_StopC], []⟩
theorem drive_Distance_sp_ok : drive_Distance_sp.Ok := ⟨(allCons (rAgg_ok api_EscalatorC_ok api_EscalatorC_len) (allCons (rAgg_ok api_StopC_ok api_StopC_len) allNil)), eNil⟩
def drive_Distance_rs : Sp := ⟨[rTup [rAgg api_SpanC, rAgg api_SpanC, rInt .i64]], []⟩
theorem drive_Distance_rs_ok : drive_Distance_rs.Ok := ⟨(allCons (rTup_ok (allCons (rAgg_ok api_SpanC_ok api_SpanC_len) (allCons (rAgg_ok api_SpanC_ok api_SpanC_len) (allCons (rInt_ok .i64) allNil)))) allNil), eNil⟩
def drive_Distance_run {R : Type} (N : Nat) (args : List SV) (T : Tab) (kf : SV × Tab → Option R) : Option R :=
  drive_Distance_m N (Cod.dec api_EscalatorC (lget (toCs (lget args 0)))) (Cod.dec api_StopC (lget (toCs (lget args 1)))) (fun q0 q1 q2 => kf (lget [.tup [.agg (Cod.enc api_SpanC q0), .agg (Cod.enc api_SpanC q1), .int .i64 q2]] 0, []))
def drive_Distance_lp {R : Type} (N : Nat) : Lp R := fun body S k => Option.none
noncomputable def drive_Distance_go {R : Type} (N : Nat) (args : List SV) (T : Tab) (kf : SV × Tab → Option R) : Option R :=
  drive_Distance N (Cod.dec api_EscalatorC (lget (toCs (lget args 0)))) (Cod.dec api_StopC (lget (toCs (lget args 1)))) (fun q0 q1 q2 => kf (lget [.tup [.agg (Cod.enc api_SpanC q0), .agg (Cod.enc api_SpanC q1), .int .i64 q2]] 0, []))
noncomputable def drive_Distance_cal {R : Type} (N : Nat) : Cal R := callM (drive_run_cal N) 18 0 drive_Distance_sp (drive_Distance_go N)
theorem drive_Distance_cal_ok {R : Type} (N : Nat) : CalOk E.P (drive_Distance_cal (R := R) N) :=
  callM_ok hE (drive_run_cal_ok N) (lp := drive_Distance_lp N) (jn := noJn) (keys := []) kNil (by kernel_rfl) (js := []) jNil (by kernel_rfl) drive_Distance_sp_ok drive_Distance_rs_ok (fun args T kf => Eq.trans (drive_Distance_def N (Cod.dec api_EscalatorC (lget (toCs (lget args 0)))) (Cod.dec api_StopC (lget (toCs (lget args 1)))) (fun q0 q1 q2 => kf (lget [.tup [.agg (Cod.enc api_SpanC q0), .agg (Cod.enc api_SpanC q1), .int .i64 q2]] 0, []))) (by kernel_rfl : drive_Distance_run N args T kf = fnM E (drive_run_cal N) (drive_Distance_lp N) (noJn) 18 (drive_Distance_sp.vs args) (drive_Distance_sp.tab T) 0 (resK drive_Distance_rs kf)))

def drive_Back_L7 : LoopSp := ⟨⟨[7, 8, 20], ⟨(dr 7 ((rPtr 0 0) :: (rInt .i64) :: (dr 11 ((rInt .i64) :: (dr 12 []))))), [(0, eBlkC drive_motionC)]⟩, 1⟩, [(some 0, ⟨[7, 8], ⟨(dr 7 ((rPtr 0 0) :: (rInt .i64) :: (dr 24 []))), [(0, eBlkC drive_motionC)]⟩, 1⟩)]⟩
theorem drive_Back_L7_ok : drive_Back_L7.Ok := ⟨⟨(drCons 7 (allCons (rPtr_ok 0 0) (allCons (rInt_ok .i64) (drCons 11 (allCons (rInt_ok .i64) (drCons 12 allNil)))))), (eCons (eBlkC_ok drive_motionC_ok drive_motionC_len) eNil)⟩, (xCons ⟨(drCons 7 (allCons (rPtr_ok 0 0) (allCons (rInt_ok .i64) (drCons 24 allNil)))), (eCons (eBlkC_ok drive_motionC_ok drive_motionC_len) eNil)⟩ xNil)⟩
def drive_Back_h7 (v130 : Int) (v131 : Int) (v132 : drive_motion) : St := ⟨(un 7 ((.ptr 0 0) :: (.int .i64 v130) :: (un 11 ((.int .i64 v131) :: (un 12 []))))), [(0, .blk (Cod.enc drive_motionC v132))], 1⟩
def drive_Back_x7_0 (q0 : Int) (q1 : drive_motion) : St := ⟨(un 7 ((.ptr 0 0) :: (.int .i64 q0) :: (un 24 []))), [(0, .blk (Cod.enc drive_motionC q1))], 1⟩
def drive_Back_b7 {R : Type} (N : Nat) (rc : Int → Int → drive_motion → Option R) (v130 : Int) (v131 : Int) (v132 : drive_motion) (k0 : Int → drive_motion → Option R) : Option R :=
  bif decide (v131 < (100 : Int)) then
   drive_motion_extreme N false v132 (fun r133 r134 =>
   rc (w64 (v130 - if drive_motion.f_speed r134 < (0 : Int) then drive_motion.f_speed r134 else (0 : Int))) (w64 (v131 + (1 : Int))) r134)
  else
   k0 v130 v132
def drive_Back_l7 {R : Type} (N : Nat) : Nat → Int → Int → drive_motion → (Int → drive_motion → Option R) → Option R
  | 0, _, _, _, _ => Option.none
  | n + 1, v130, v131, v132, k0 => drive_Back_b7 N (fun v130 v131 v132 => drive_Back_l7 N n v130 v131 v132 k0) v130 v131 v132 k0


def drive_Back_m {R : Type} (N : Nat) (a127 : api_Escalator) (a128 : api_Stop) (k : Int → Int → Option R) : Option R :=
  drive_checkStop N a127 a128 (fun r129 =>
  bif r129 != (0 : Int) then
   k (0 : Int) r129
  else
   drive_Back_l7 N N (0 : Int) (0 : Int) (drive_motion.mk a127 a128 (api_Stop.Speed a128) (0 : Int)) (fun r135 r136 =>
    bif decide (drive_motion.f_speed r136 < (0 : Int)) then
     k (0 : Int) (12 : Int)
    else
     k r135 (0 : Int)))
noncomputable def drive_Back {R : Type} : Nat → api_Escalator → api_Stop → (Int → Int → Option R) → Option R := lock (@drive_Back_m R)
theorem drive_Back_def {R : Type} (N : Nat) (a127 : api_Escalator) (a128 : api_Stop) (k : Int → Int → Option R) : drive_Back N a127 a128 k = drive_Back_m N a127 a128 k := by unfold drive_Back; rw [lock_eq]
def drive_Back_sp : Sp := ⟨[rAgg api_EscalatorC, rAgg api_StopC], []⟩
theorem drive_Back_sp_ok : drive_Back_sp.Ok := ⟨(allCons (rAgg_ok api_EscalatorC_ok api_EscalatorC_len) (allCons (rAgg_ok api_StopC_ok api_StopC_len) allNil)), eNil⟩
def drive_Back_rs : Sp := ⟨[rTup [rInt .i64, rInt .i64]], []⟩
theorem drive_Back_rs_ok : drive_Back_rs.Ok := ⟨(allCons (rTup_ok (allCons (rInt_ok .i64) (allCons (rInt_ok .i64) allNil))) allNil), eNil⟩
def drive_Back_run {R : Type} (N : Nat) (args : List SV) (T : Tab) (kf : SV × Tab → Option R) : Option R :=
  drive_Back_m N (Cod.dec api_EscalatorC (lget (toCs (lget args 0)))) (Cod.dec api_StopC (lget (toCs (lget args 1)))) (fun q0 q1 => kf (lget [.tup [.int .i64 q0, .int .i64 q1]] 0, []))
def drive_Back_d7 {R : Type} (N : Nat) (S0 : St) (k : Exit → St → Option R) : Option R :=
  drive_Back_l7 N N (toI (lget S0.tmps 8)) (toI (lget S0.tmps 20)) (Cod.dec drive_motionC (lget (entCs (entAt S0.tab 0)))) (fun q0 q1 => k (.exit 0) (drive_Back_x7_0 q0 q1))
def drive_Back_lp {R : Type} (N : Nat) : Lp R := fun body S k => bif (Go.Sx.keyOf body).getD 0 == 7 then drive_Back_L7.head.raw 0 S (fun S0 => drive_Back_d7 N S0 k) else Option.none
theorem drive_Back_l7_eq {R : Type} (N : Nat) (k : Exit → St → Option R) (n : Nat) : ∀ (v0 : Int) (v1 : Int) (v2 : drive_motion), loopM E.Θ (drive_Distance_cal N) (drive_Back_lp N) (noJn) 0 drive_Back_L7 (bodyAt E 23 7) n (drive_Back_h7 v0 v1 v2) k = drive_Back_l7 N n v0 v1 v2 (fun q0 q1 => k (.exit 0) (drive_Back_x7_0 q0 q1)) := by
  induction n with
  | zero => intro v0 v1 v2; rfl
  | succ n ih =>
    intro v0 v1 v2
    refine Eq.trans (b := drive_Back_b7 N (fun v0 v1 v2 => loopM E.Θ (drive_Distance_cal N) (drive_Back_lp N) (noJn) 0 drive_Back_L7 (bodyAt E 23 7) n (drive_Back_h7 v0 v1 v2) k) v0 v1 v2 (fun q0 q1 => k (.exit 0) (drive_Back_x7_0 q0 q1))) (by kernel_rfl) ?_
    have h : (fun (v0 : Int) (v1 : Int) (v2 : drive_motion) => loopM E.Θ (drive_Distance_cal N) (drive_Back_lp N) (noJn) 0 drive_Back_L7 (bodyAt E 23 7) n (drive_Back_h7 v0 v1 v2) k) = (fun (v0 : Int) (v1 : Int) (v2 : drive_motion) => drive_Back_l7 N n v0 v1 v2 (fun q0 q1 => k (.exit 0) (drive_Back_x7_0 q0 q1))) := funext fun v0 => funext fun v1 => funext fun v2 => ih v0 v1 v2
    rw [h]
    rfl
theorem drive_Back_k7 {R : Type} (N : Nat) : LpKey (R := R) E 23 0 (drive_Back_lp N) 7 :=
  lpKey_of hE (drive_Distance_cal_ok N) (jn := noJn) drive_Back_L7_ok [] kNil (by kernel_rfl) [] jNil (by kernel_rfl) N fun S k =>
    Eq.trans (b := drive_Back_L7.head.raw 0 S (fun S0 => drive_Back_d7 N S0 k)) (by kernel_rfl) (congrArg (drive_Back_L7.head.raw 0 S) (funext fun S0 => Eq.trans (drive_Back_l7_eq N k N (toI (lget S0.tmps 8)) (toI (lget S0.tmps 20)) (Cod.dec drive_motionC (lget (entCs (entAt S0.tab 0))))).symm (by kernel_rfl)))
noncomputable def drive_Back_go {R : Type} (N : Nat) (args : List SV) (T : Tab) (kf : SV × Tab → Option R) : Option R :=
  drive_Back N (Cod.dec api_EscalatorC (lget (toCs (lget args 0)))) (Cod.dec api_StopC (lget (toCs (lget args 1)))) (fun q0 q1 => kf (lget [.tup [.int .i64 q0, .int .i64 q1]] 0, []))
noncomputable def drive_Back_cal {R : Type} (N : Nat) : Cal R := callM (drive_Distance_cal N) 23 0 drive_Back_sp (drive_Back_go N)
theorem drive_Back_cal_ok {R : Type} (N : Nat) : CalOk E.P (drive_Back_cal (R := R) N) :=
  callM_ok hE (drive_Distance_cal_ok N) (lp := drive_Back_lp N) (jn := noJn) (keys := [7]) (kCons (drive_Back_k7 N) kNil) (by kernel_rfl) (js := []) jNil (by kernel_rfl) drive_Back_sp_ok drive_Back_rs_ok (fun args T kf => Eq.trans (drive_Back_def N (Cod.dec api_EscalatorC (lget (toCs (lget args 0)))) (Cod.dec api_StopC (lget (toCs (lget args 1)))) (fun q0 q1 => kf (lget [.tup [.int .i64 q0, .int .i64 q1]] 0, []))) (by kernel_rfl : drive_Back_run N args T kf = fnM E (drive_Distance_cal N) (drive_Back_lp N) (noJn) 23 (drive_Back_sp.vs args) (drive_Back_sp.tab T) 0 (resK drive_Back_rs kf)))


def newellaw01_works_m {R : Type} (N : Nat)  (k : Bool → Option R) : Option R :=
  newellaw01_Example N  (fun r19 r20 r21 r22 r23 r24 r25 =>
  drive_Distance N (api_Escalator.mk r19 r20 r21 r22 r23 r25) (api_Stop.mk (60 : Int) (api_Span.mk (0 : Int) (500 : Int)) (0 : Int)) (fun r117 r118 r119 =>
  newellaw01_Example N  (fun r120 r121 r122 r123 r124 r125 r126 =>
  drive_Back N (api_Escalator.mk r120 r121 r122 r123 r124 r126) (api_Stop.mk (0 : Int) (api_Span.mk (0 : Int) (500 : Int)) (0 : Int)) (fun r137 r138 =>
  bif r119 == (0 : Int) then
   bif r138 == (0 : Int) then
    bif api_Span.Low r117 == (108 : Int) && (api_Span.High r117 == (135 : Int) && true) then
     bif api_Span.Low r118 == (4 : Int) && (api_Span.High r118 == (5 : Int) && true) then
      k (r137 == (7 : Int))
     else
      k false
    else
     k false
   else
    k false
  else
   k false))))
noncomputable def newellaw01_works {R : Type} : Nat → (Bool → Option R) → Option R := lock (@newellaw01_works_m R)
theorem newellaw01_works_def {R : Type} (N : Nat)  (k : Bool → Option R) : newellaw01_works N  k = newellaw01_works_m N  k := by unfold newellaw01_works; rw [lock_eq]
def newellaw01_works_sp : Sp := ⟨[], []⟩
theorem newellaw01_works_sp_ok : newellaw01_works_sp.Ok := ⟨allNil, eNil⟩
def newellaw01_works_rs : Sp := ⟨[rBool], []⟩
theorem newellaw01_works_rs_ok : newellaw01_works_rs.Ok := ⟨(allCons rBool_ok allNil), eNil⟩
def newellaw01_works_run {R : Type} (N : Nat) (args : List SV) (T : Tab) (kf : SV × Tab → Option R) : Option R :=
  newellaw01_works_m N  (fun q0 => kf (lget [.bool q0] 0, []))
def newellaw01_works_lp {R : Type} (N : Nat) : Lp R := fun body S k => Option.none
noncomputable def newellaw01_works_go {R : Type} (N : Nat) (args : List SV) (T : Tab) (kf : SV × Tab → Option R) : Option R :=
  newellaw01_works N  (fun q0 => kf (lget [.bool q0] 0, []))
noncomputable def newellaw01_works_cal {R : Type} (N : Nat) : Cal R := callM (drive_Back_cal N) 17 0 newellaw01_works_sp (newellaw01_works_go N)
theorem newellaw01_works_cal_ok {R : Type} (N : Nat) : CalOk E.P (newellaw01_works_cal (R := R) N) :=
  callM_ok hE (drive_Back_cal_ok N) (lp := newellaw01_works_lp N) (jn := noJn) (keys := []) kNil (by kernel_rfl) (js := []) jNil (by kernel_rfl) newellaw01_works_sp_ok newellaw01_works_rs_ok (fun args T kf => Eq.trans (newellaw01_works_def N  (fun q0 => kf (lget [.bool q0] 0, []))) (by kernel_rfl : newellaw01_works_run N args T kf = fnM E (drive_Back_cal N) (newellaw01_works_lp N) (noJn) 17 (newellaw01_works_sp.vs args) (newellaw01_works_sp.tab T) 0 (resK newellaw01_works_rs kf)))

def newelref01_Grip_L3 : LoopSp := ⟨⟨[2, 3, 4, 7, 8], ⟨(dr 2 ((rInt .i64) :: (rPtr 0 0) :: (rPtr 1 0) :: (dr 2 ((rInt .i64) :: (rInt .i64) :: (dr 33 []))))), [(0, eBlkC api_EscalatorC), (1, eBlkC api_StopC)]⟩, 2⟩, [(some 0, ⟨[7], ⟨(dr 7 ((rInt .i64) :: (dr 34 []))), []⟩, 0⟩)]⟩
theorem newelref01_Grip_L3_ok : newelref01_Grip_L3.Ok := ⟨⟨(drCons 2 (allCons (rInt_ok .i64) (allCons (rPtr_ok 0 0) (allCons (rPtr_ok 1 0) (drCons 2 (allCons (rInt_ok .i64) (allCons (rInt_ok .i64) (drCons 33 allNil)))))))), (eCons (eBlkC_ok api_EscalatorC_ok api_EscalatorC_len) (eCons (eBlkC_ok api_StopC_ok api_StopC_len) eNil))⟩, (xCons ⟨(drCons 7 (allCons (rInt_ok .i64) (drCons 34 allNil))), eNil⟩ xNil)⟩
def newelref01_Grip_h3 (v162 : Int) (v163 : Int) (v164 : Int) (v165 : api_Escalator) (v166 : api_Stop) : St := ⟨(un 2 ((.int .i64 v162) :: (.ptr 0 0) :: (.ptr 1 0) :: (un 2 ((.int .i64 v163) :: (.int .i64 v164) :: (un 33 []))))), [(0, .blk (Cod.enc api_EscalatorC v165)), (1, .blk (Cod.enc api_StopC v166))], 2⟩
def newelref01_Grip_x3_0 (q0 : Int) : St := ⟨(un 7 ((.int .i64 q0) :: (un 34 []))), [], 0⟩
def newelref01_Grip_b3 {R : Type} (N : Nat) (rc : Int → Int → Int → api_Escalator → api_Stop → Option R) (v162 : Int) (v163 : Int) (v164 : Int) (v165 : api_Escalator) (v166 : api_Stop) (k0 : Int → Option R) : Option R :=
  bif decide (v164 < (↑(Arr.n (api_Escalator.Brakes v165)) : Int)) then
   bif decide (IntKind.wrap IntKind.u64 v164 < (0 : Int)) then
    Option.none
   else
    bif w64 (↑(BitVec.toNat (BitVec.ofInt (IntKind.bits IntKind.i64) (Int.fdiv (api_Stop.Fail v166) ((2 : Int) ^ min (Int.toNat (IntKind.wrap IntKind.u64 v164)) (IntKind.bits IntKind.i64))) &&& BitVec.ofInt (IntKind.bits IntKind.i64) (1 : Int))) : Int) == (0 : Int) then
     bif decide ((0 : Int) ≤ v164) && decide (v164 < (↑(Arr.n (api_Escalator.Brakes v165)) : Int)) then
      bif decide (v162 ≥ api_Brake.Delay (Arr.f (api_Escalator.Brakes v165) (Int.toNat v164))) then
       bif decide ((0 : Int) ≤ v164) && decide (v164 < (↑(Arr.n (api_Escalator.Brakes v165)) : Int)) then
        rc v162 (w64 (v163 + api_Brake.Force (Arr.f (api_Escalator.Brakes v165) (Int.toNat v164)))) (w64 (v164 + (1 : Int))) v165 v166
       else
        Option.none
      else
       rc v162 v163 (w64 (v164 + (1 : Int))) v165 v166
     else
      Option.none
    else
     rc v162 v163 (w64 (v164 + (1 : Int))) v165 v166
  else
   k0 v163
def newelref01_Grip_l3 {R : Type} (N : Nat) : Nat → Int → Int → Int → api_Escalator → api_Stop → (Int → Option R) → Option R
  | 0, _, _, _, _, _, _ => Option.none
  | n + 1, v162, v163, v164, v165, v166, k0 => newelref01_Grip_b3 N (fun v162 v163 v164 v165 v166 => newelref01_Grip_l3 N n v162 v163 v164 v165 v166 k0) v162 v163 v164 v165 v166 k0


def newelref01_Grip_m {R : Type} (N : Nat) (a159 : api_Escalator) (a160 : api_Stop) (a161 : Int) (k : Int → Option R) : Option R :=
  newelref01_Grip_l3 N N a161 (0 : Int) (0 : Int) a159 a160 (fun r167 =>
   k r167)
noncomputable def newelref01_Grip {R : Type} : Nat → api_Escalator → api_Stop → Int → (Int → Option R) → Option R := lock (@newelref01_Grip_m R)
theorem newelref01_Grip_def {R : Type} (N : Nat) (a159 : api_Escalator) (a160 : api_Stop) (a161 : Int) (k : Int → Option R) : newelref01_Grip N a159 a160 a161 k = newelref01_Grip_m N a159 a160 a161 k := by unfold newelref01_Grip; rw [lock_eq]
def newelref01_Grip_sp : Sp := ⟨[rAgg api_EscalatorC, rAgg api_StopC, rInt .i64], []⟩
theorem newelref01_Grip_sp_ok : newelref01_Grip_sp.Ok := ⟨(allCons (rAgg_ok api_EscalatorC_ok api_EscalatorC_len) (allCons (rAgg_ok api_StopC_ok api_StopC_len) (allCons (rInt_ok .i64) allNil))), eNil⟩
def newelref01_Grip_rs : Sp := ⟨[rInt .i64], []⟩
theorem newelref01_Grip_rs_ok : newelref01_Grip_rs.Ok := ⟨(allCons (rInt_ok .i64) allNil), eNil⟩
def newelref01_Grip_run {R : Type} (N : Nat) (args : List SV) (T : Tab) (kf : SV × Tab → Option R) : Option R :=
  newelref01_Grip_m N (Cod.dec api_EscalatorC (lget (toCs (lget args 0)))) (Cod.dec api_StopC (lget (toCs (lget args 1)))) (toI (lget args 2)) (fun q0 => kf (lget [.int .i64 q0] 0, []))
def newelref01_Grip_d3 {R : Type} (N : Nat) (S0 : St) (k : Exit → St → Option R) : Option R :=
  newelref01_Grip_l3 N N (toI (lget S0.tmps 2)) (toI (lget S0.tmps 7)) (toI (lget S0.tmps 8)) (Cod.dec api_EscalatorC (lget (entCs (entAt S0.tab 0)))) (Cod.dec api_StopC (lget (entCs (entAt S0.tab 1)))) (fun q0 => k (.exit 0) (newelref01_Grip_x3_0 q0))
def newelref01_Grip_lp {R : Type} (N : Nat) : Lp R := fun body S k => bif (Go.Sx.keyOf body).getD 0 == 3 then newelref01_Grip_L3.head.raw 0 S (fun S0 => newelref01_Grip_d3 N S0 k) else Option.none
theorem newelref01_Grip_l3_eq {R : Type} (N : Nat) (k : Exit → St → Option R) (n : Nat) : ∀ (v0 : Int) (v1 : Int) (v2 : Int) (v3 : api_Escalator) (v4 : api_Stop), loopM E.Θ (newellaw01_works_cal N) (newelref01_Grip_lp N) (noJn) 0 newelref01_Grip_L3 (bodyAt E 51 3) n (newelref01_Grip_h3 v0 v1 v2 v3 v4) k = newelref01_Grip_l3 N n v0 v1 v2 v3 v4 (fun q0 => k (.exit 0) (newelref01_Grip_x3_0 q0)) := by
  induction n with
  | zero => intro v0 v1 v2 v3 v4; rfl
  | succ n ih =>
    intro v0 v1 v2 v3 v4
    refine Eq.trans (b := newelref01_Grip_b3 N (fun v0 v1 v2 v3 v4 => loopM E.Θ (newellaw01_works_cal N) (newelref01_Grip_lp N) (noJn) 0 newelref01_Grip_L3 (bodyAt E 51 3) n (newelref01_Grip_h3 v0 v1 v2 v3 v4) k) v0 v1 v2 v3 v4 (fun q0 => k (.exit 0) (newelref01_Grip_x3_0 q0))) (by kernel_rfl) ?_
    have h : (fun (v0 : Int) (v1 : Int) (v2 : Int) (v3 : api_Escalator) (v4 : api_Stop) => loopM E.Θ (newellaw01_works_cal N) (newelref01_Grip_lp N) (noJn) 0 newelref01_Grip_L3 (bodyAt E 51 3) n (newelref01_Grip_h3 v0 v1 v2 v3 v4) k) = (fun (v0 : Int) (v1 : Int) (v2 : Int) (v3 : api_Escalator) (v4 : api_Stop) => newelref01_Grip_l3 N n v0 v1 v2 v3 v4 (fun q0 => k (.exit 0) (newelref01_Grip_x3_0 q0))) := funext fun v0 => funext fun v1 => funext fun v2 => funext fun v3 => funext fun v4 => ih v0 v1 v2 v3 v4
    rw [h]
    rfl
theorem newelref01_Grip_k3 {R : Type} (N : Nat) : LpKey (R := R) E 51 0 (newelref01_Grip_lp N) 3 :=
  lpKey_of hE (newellaw01_works_cal_ok N) (jn := noJn) newelref01_Grip_L3_ok [] kNil (by kernel_rfl) [] jNil (by kernel_rfl) N fun S k =>
    Eq.trans (b := newelref01_Grip_L3.head.raw 0 S (fun S0 => newelref01_Grip_d3 N S0 k)) (by kernel_rfl) (congrArg (newelref01_Grip_L3.head.raw 0 S) (funext fun S0 => Eq.trans (newelref01_Grip_l3_eq N k N (toI (lget S0.tmps 2)) (toI (lget S0.tmps 7)) (toI (lget S0.tmps 8)) (Cod.dec api_EscalatorC (lget (entCs (entAt S0.tab 0)))) (Cod.dec api_StopC (lget (entCs (entAt S0.tab 1))))).symm (by kernel_rfl)))
noncomputable def newelref01_Grip_go {R : Type} (N : Nat) (args : List SV) (T : Tab) (kf : SV × Tab → Option R) : Option R :=
  newelref01_Grip N (Cod.dec api_EscalatorC (lget (toCs (lget args 0)))) (Cod.dec api_StopC (lget (toCs (lget args 1)))) (toI (lget args 2)) (fun q0 => kf (lget [.int .i64 q0] 0, []))
noncomputable def newelref01_Grip_cal {R : Type} (N : Nat) : Cal R := callM (newellaw01_works_cal N) 51 0 newelref01_Grip_sp (newelref01_Grip_go N)
theorem newelref01_Grip_cal_ok {R : Type} (N : Nat) : CalOk E.P (newelref01_Grip_cal (R := R) N) :=
  callM_ok hE (newellaw01_works_cal_ok N) (lp := newelref01_Grip_lp N) (jn := noJn) (keys := [3]) (kCons (newelref01_Grip_k3 N) kNil) (by kernel_rfl) (js := []) jNil (by kernel_rfl) newelref01_Grip_sp_ok newelref01_Grip_rs_ok (fun args T kf => Eq.trans (newelref01_Grip_def N (Cod.dec api_EscalatorC (lget (toCs (lget args 0)))) (Cod.dec api_StopC (lget (toCs (lget args 1)))) (toI (lget args 2)) (fun q0 => kf (lget [.int .i64 q0] 0, []))) (by kernel_rfl : newelref01_Grip_run N args T kf = fnM E (newellaw01_works_cal N) (newelref01_Grip_lp N) (noJn) 51 (newelref01_Grip_sp.vs args) (newelref01_Grip_sp.tab T) 0 (resK newelref01_Grip_rs kf)))


def newelref01_down_m {R : Type} (N : Nat) (a173 : Int) (a174 : Int) (k : Int → Option R) : Option R :=
  bif a174 == (0 : Int) then
   Option.none
  else
   bif decide (w64 (w64 (Int.tdiv a173 a174) * a174) > a173) then
    k (w64 (w64 (Int.tdiv a173 a174) - (1 : Int)))
   else
    k (w64 (Int.tdiv a173 a174))
noncomputable def newelref01_down {R : Type} : Nat → Int → Int → (Int → Option R) → Option R := lock (@newelref01_down_m R)
theorem newelref01_down_def {R : Type} (N : Nat) (a173 : Int) (a174 : Int) (k : Int → Option R) : newelref01_down N a173 a174 k = newelref01_down_m N a173 a174 k := by unfold newelref01_down; rw [lock_eq]
def newelref01_down_sp : Sp := ⟨[rInt .i64, rInt .i64], []⟩
theorem newelref01_down_sp_ok : newelref01_down_sp.Ok := ⟨(allCons (rInt_ok .i64) (allCons (rInt_ok .i64) allNil)), eNil⟩
def newelref01_down_rs : Sp := ⟨[rInt .i64], []⟩
theorem newelref01_down_rs_ok : newelref01_down_rs.Ok := ⟨(allCons (rInt_ok .i64) allNil), eNil⟩
def newelref01_down_run {R : Type} (N : Nat) (args : List SV) (T : Tab) (kf : SV × Tab → Option R) : Option R :=
  newelref01_down_m N (toI (lget args 0)) (toI (lget args 1)) (fun q0 => kf (lget [.int .i64 q0] 0, []))
def newelref01_down_lp {R : Type} (N : Nat) : Lp R := fun body S k => Option.none
noncomputable def newelref01_down_go {R : Type} (N : Nat) (args : List SV) (T : Tab) (kf : SV × Tab → Option R) : Option R :=
  newelref01_down N (toI (lget args 0)) (toI (lget args 1)) (fun q0 => kf (lget [.int .i64 q0] 0, []))
noncomputable def newelref01_down_cal {R : Type} (N : Nat) : Cal R := callM (newelref01_Grip_cal N) 66 0 newelref01_down_sp (newelref01_down_go N)
theorem newelref01_down_cal_ok {R : Type} (N : Nat) : CalOk E.P (newelref01_down_cal (R := R) N) :=
  callM_ok hE (newelref01_Grip_cal_ok N) (lp := newelref01_down_lp N) (jn := noJn) (keys := []) kNil (by kernel_rfl) (js := []) jNil (by kernel_rfl) newelref01_down_sp_ok newelref01_down_rs_ok (fun args T kf => Eq.trans (newelref01_down_def N (toI (lget args 0)) (toI (lget args 1)) (fun q0 => kf (lget [.int .i64 q0] 0, []))) (by kernel_rfl : newelref01_down_run N args T kf = fnM E (newelref01_Grip_cal N) (newelref01_down_lp N) (noJn) 66 (newelref01_down_sp.vs args) (newelref01_down_sp.tab T) 0 (resK newelref01_down_rs kf)))


def newelref01_next_m {R : Type} (N : Nat) (a169 : api_Escalator) (a170 : Int) (a171 : Int) (a172 : Int) (k : Int → Option R) : Option R :=
  bif api_Escalator.Up a169 then
   bif decide (a170 > (0 : Int)) then
    newelref01_down N (w64 (w64 ((0 : Int) - w64 (api_Escalator.Pull a169 * a171)) - w64 (api_Escalator.Drag a169 + a172))) (w64 (api_Escalator.Empty a169 + a171)) (fun r175 =>
    k (if w64 (a170 + r175) > (0 : Int) then w64 (a170 + r175) else (0 : Int)))
   else
    bif decide (a170 < (0 : Int)) then
     newelref01_down N (w64 (w64 ((0 : Int) - w64 ((0 : Int) - w64 (api_Escalator.Pull a169 * a171))) - w64 (api_Escalator.Drag a169 + a172))) (w64 (api_Escalator.Empty a169 + a171)) (fun r176 =>
     k (w64 ((0 : Int) - if w64 (w64 ((0 : Int) - a170) + r176) > (0 : Int) then w64 (w64 ((0 : Int) - a170) + r176) else (0 : Int))))
    else
     bif decide (w64 ((0 : Int) - w64 (api_Escalator.Pull a169 * a171)) > w64 (api_Escalator.Drag a169 + a172)) then
      newelref01_down N (w64 (w64 ((0 : Int) - w64 (api_Escalator.Pull a169 * a171)) - w64 (api_Escalator.Drag a169 + a172))) (w64 (api_Escalator.Empty a169 + a171)) (fun r177 =>
      k r177)
     else
      bif decide (w64 ((0 : Int) - w64 ((0 : Int) - w64 (api_Escalator.Pull a169 * a171))) > w64 (api_Escalator.Drag a169 + a172)) then
       newelref01_down N (w64 (w64 ((0 : Int) - w64 ((0 : Int) - w64 (api_Escalator.Pull a169 * a171))) - w64 (api_Escalator.Drag a169 + a172))) (w64 (api_Escalator.Empty a169 + a171)) (fun r178 =>
       k (w64 ((0 : Int) - r178)))
      else
       k (0 : Int)
  else
   bif decide (a170 > (0 : Int)) then
    newelref01_down N (w64 (w64 (api_Escalator.Pull a169 * a171) - w64 (api_Escalator.Drag a169 + a172))) (w64 (api_Escalator.Empty a169 + a171)) (fun r179 =>
    k (if w64 (a170 + r179) > (0 : Int) then w64 (a170 + r179) else (0 : Int)))
   else
    bif decide (a170 < (0 : Int)) then
     newelref01_down N (w64 (w64 ((0 : Int) - w64 (api_Escalator.Pull a169 * a171)) - w64 (api_Escalator.Drag a169 + a172))) (w64 (api_Escalator.Empty a169 + a171)) (fun r180 =>
     k (w64 ((0 : Int) - if w64 (w64 ((0 : Int) - a170) + r180) > (0 : Int) then w64 (w64 ((0 : Int) - a170) + r180) else (0 : Int))))
    else
     bif decide (w64 (api_Escalator.Pull a169 * a171) > w64 (api_Escalator.Drag a169 + a172)) then
      newelref01_down N (w64 (w64 (api_Escalator.Pull a169 * a171) - w64 (api_Escalator.Drag a169 + a172))) (w64 (api_Escalator.Empty a169 + a171)) (fun r181 =>
      k r181)
     else
      bif decide (w64 ((0 : Int) - w64 (api_Escalator.Pull a169 * a171)) > w64 (api_Escalator.Drag a169 + a172)) then
       newelref01_down N (w64 (w64 ((0 : Int) - w64 (api_Escalator.Pull a169 * a171)) - w64 (api_Escalator.Drag a169 + a172))) (w64 (api_Escalator.Empty a169 + a171)) (fun r182 =>
       k (w64 ((0 : Int) - r182)))
      else
       k (0 : Int)
noncomputable def newelref01_next {R : Type} : Nat → api_Escalator → Int → Int → Int → (Int → Option R) → Option R := lock (@newelref01_next_m R)
theorem newelref01_next_def {R : Type} (N : Nat) (a169 : api_Escalator) (a170 : Int) (a171 : Int) (a172 : Int) (k : Int → Option R) : newelref01_next N a169 a170 a171 a172 k = newelref01_next_m N a169 a170 a171 a172 k := by unfold newelref01_next; rw [lock_eq]
def newelref01_next_sp : Sp := ⟨[rAgg api_EscalatorC, rInt .i64, rInt .i64, rInt .i64], []⟩
theorem newelref01_next_sp_ok : newelref01_next_sp.Ok := ⟨(allCons (rAgg_ok api_EscalatorC_ok api_EscalatorC_len) (allCons (rInt_ok .i64) (allCons (rInt_ok .i64) (allCons (rInt_ok .i64) allNil)))), eNil⟩
def newelref01_next_rs : Sp := ⟨[rInt .i64], []⟩
theorem newelref01_next_rs_ok : newelref01_next_rs.Ok := ⟨(allCons (rInt_ok .i64) allNil), eNil⟩
def newelref01_next_run {R : Type} (N : Nat) (args : List SV) (T : Tab) (kf : SV × Tab → Option R) : Option R :=
  newelref01_next_m N (Cod.dec api_EscalatorC (lget (toCs (lget args 0)))) (toI (lget args 1)) (toI (lget args 2)) (toI (lget args 3)) (fun q0 => kf (lget [.int .i64 q0] 0, []))
def newelref01_next_lp {R : Type} (N : Nat) : Lp R := fun body S k => Option.none
noncomputable def newelref01_next_go {R : Type} (N : Nat) (args : List SV) (T : Tab) (kf : SV × Tab → Option R) : Option R :=
  newelref01_next N (Cod.dec api_EscalatorC (lget (toCs (lget args 0)))) (toI (lget args 1)) (toI (lget args 2)) (toI (lget args 3)) (fun q0 => kf (lget [.int .i64 q0] 0, []))
noncomputable def newelref01_next_cal {R : Type} (N : Nat) : Cal R := callM (newelref01_down_cal N) 58 0 newelref01_next_sp (newelref01_next_go N)
theorem newelref01_next_cal_ok {R : Type} (N : Nat) : CalOk E.P (newelref01_next_cal (R := R) N) :=
  callM_ok hE (newelref01_down_cal_ok N) (lp := newelref01_next_lp N) (jn := noJn) (keys := []) kNil (by kernel_rfl) (js := []) jNil (by kernel_rfl) newelref01_next_sp_ok newelref01_next_rs_ok (fun args T kf => Eq.trans (newelref01_next_def N (Cod.dec api_EscalatorC (lget (toCs (lget args 0)))) (toI (lget args 1)) (toI (lget args 2)) (toI (lget args 3)) (fun q0 => kf (lget [.int .i64 q0] 0, []))) (by kernel_rfl : newelref01_next_run N args T kf = fnM E (newelref01_down_cal N) (newelref01_next_lp N) (noJn) 58 (newelref01_next_sp.vs args) (newelref01_next_sp.tab T) 0 (resK newelref01_next_rs kf)))


def newelref01_edge_m {R : Type} (N : Nat) (a154 : api_Escalator) (a155 : api_Stop) (a156 : Int) (a157 : Int) (a158 : Bool) (k : Int → Int → Option R) : Option R :=
  newelref01_Grip N a154 a155 a157 (fun r168 =>
  newelref01_next N a154 a156 (api_Span.Low (api_Stop.Loads a155)) r168 (fun r183 =>
  newelref01_next N a154 a156 (api_Span.High (api_Stop.Loads a155)) r168 (fun r184 =>
  bif a158 then
   bif decide (r184 > r183) then
    k r184 (api_Span.High (api_Stop.Loads a155))
   else
    bif !a158 then
     bif decide (r184 < r183) then
      k r184 (api_Span.High (api_Stop.Loads a155))
     else
      k r183 (api_Span.Low (api_Stop.Loads a155))
    else
     k r183 (api_Span.Low (api_Stop.Loads a155))
  else
   bif !a158 then
    bif decide (r184 < r183) then
     k r184 (api_Span.High (api_Stop.Loads a155))
    else
     k r183 (api_Span.Low (api_Stop.Loads a155))
   else
    k r183 (api_Span.Low (api_Stop.Loads a155)))))
noncomputable def newelref01_edge {R : Type} : Nat → api_Escalator → api_Stop → Int → Int → Bool → (Int → Int → Option R) → Option R := lock (@newelref01_edge_m R)
theorem newelref01_edge_def {R : Type} (N : Nat) (a154 : api_Escalator) (a155 : api_Stop) (a156 : Int) (a157 : Int) (a158 : Bool) (k : Int → Int → Option R) : newelref01_edge N a154 a155 a156 a157 a158 k = newelref01_edge_m N a154 a155 a156 a157 a158 k := by unfold newelref01_edge; rw [lock_eq]
def newelref01_edge_sp : Sp := ⟨[rAgg api_EscalatorC, rAgg api_StopC, rInt .i64, rInt .i64, rBool], []⟩
theorem newelref01_edge_sp_ok : newelref01_edge_sp.Ok := ⟨(allCons (rAgg_ok api_EscalatorC_ok api_EscalatorC_len) (allCons (rAgg_ok api_StopC_ok api_StopC_len) (allCons (rInt_ok .i64) (allCons (rInt_ok .i64) (allCons rBool_ok allNil))))), eNil⟩
def newelref01_edge_rs : Sp := ⟨[rTup [rInt .i64, rInt .i64]], []⟩
theorem newelref01_edge_rs_ok : newelref01_edge_rs.Ok := ⟨(allCons (rTup_ok (allCons (rInt_ok .i64) (allCons (rInt_ok .i64) allNil))) allNil), eNil⟩
def newelref01_edge_run {R : Type} (N : Nat) (args : List SV) (T : Tab) (kf : SV × Tab → Option R) : Option R :=
  newelref01_edge_m N (Cod.dec api_EscalatorC (lget (toCs (lget args 0)))) (Cod.dec api_StopC (lget (toCs (lget args 1)))) (toI (lget args 2)) (toI (lget args 3)) (toB (lget args 4)) (fun q0 q1 => kf (lget [.tup [.int .i64 q0, .int .i64 q1]] 0, []))
def newelref01_edge_lp {R : Type} (N : Nat) : Lp R := fun body S k => Option.none
noncomputable def newelref01_edge_go {R : Type} (N : Nat) (args : List SV) (T : Tab) (kf : SV × Tab → Option R) : Option R :=
  newelref01_edge N (Cod.dec api_EscalatorC (lget (toCs (lget args 0)))) (Cod.dec api_StopC (lget (toCs (lget args 1)))) (toI (lget args 2)) (toI (lget args 3)) (toB (lget args 4)) (fun q0 q1 => kf (lget [.tup [.int .i64 q0, .int .i64 q1]] 0, []))
noncomputable def newelref01_edge_cal {R : Type} (N : Nat) : Cal R := callM (newelref01_next_cal N) 63 0 newelref01_edge_sp (newelref01_edge_go N)
theorem newelref01_edge_cal_ok {R : Type} (N : Nat) : CalOk E.P (newelref01_edge_cal (R := R) N) :=
  callM_ok hE (newelref01_next_cal_ok N) (lp := newelref01_edge_lp N) (jn := noJn) (keys := []) kNil (by kernel_rfl) (js := []) jNil (by kernel_rfl) newelref01_edge_sp_ok newelref01_edge_rs_ok (fun args T kf => Eq.trans (newelref01_edge_def N (Cod.dec api_EscalatorC (lget (toCs (lget args 0)))) (Cod.dec api_StopC (lget (toCs (lget args 1)))) (toI (lget args 2)) (toI (lget args 3)) (toB (lget args 4)) (fun q0 q1 => kf (lget [.tup [.int .i64 q0, .int .i64 q1]] 0, []))) (by kernel_rfl : newelref01_edge_run N args T kf = fnM E (newelref01_next_cal N) (newelref01_edge_lp N) (noJn) 63 (newelref01_edge_sp.vs args) (newelref01_edge_sp.tab T) 0 (resK newelref01_edge_rs kf)))

def newelref01_Path_L3 : LoopSp := ⟨⟨[2, 3, 4, 6, 7, 8, 10], ⟨(dr 2 ((rBool) :: (rPtr 0 0) :: (rPtr 1 0) :: (dr 1 ((rRow 2) :: (rRow 3) :: (rInt .i64) :: (dr 1 ((rInt .i64) :: (dr 25 []))))))), [(0, eBlkC api_EscalatorC), (1, eBlkC api_StopC), (2, eRow intC), (3, eRow intC)]⟩, 4⟩, [(some 0, ⟨[6, 7], ⟨(dr 6 ((rRow 0) :: (rRow 1) :: (dr 28 []))), [(0, eRow intC), (1, eRow intC)]⟩, 2⟩)]⟩
theorem newelref01_Path_L3_ok : newelref01_Path_L3.Ok := ⟨⟨(drCons 2 (allCons rBool_ok (allCons (rPtr_ok 0 0) (allCons (rPtr_ok 1 0) (drCons 1 (allCons (rRow_ok 2) (allCons (rRow_ok 3) (allCons (rInt_ok .i64) (drCons 1 (allCons (rInt_ok .i64) (drCons 25 allNil))))))))))), (eCons (eBlkC_ok api_EscalatorC_ok api_EscalatorC_len) (eCons (eBlkC_ok api_StopC_ok api_StopC_len) (eCons (eRow_ok intC_ok) (eCons (eRow_ok intC_ok) eNil))))⟩, (xCons ⟨(drCons 6 (allCons (rRow_ok 0) (allCons (rRow_ok 1) (drCons 28 allNil)))), (eCons (eRow_ok intC_ok) (eCons (eRow_ok intC_ok) eNil))⟩ xNil)⟩
def newelref01_Path_h3 (v145 : Bool) (v146 : Int) (v147 : Int) (v148 : api_Escalator) (v149 : api_Stop) (v150 : Bool) (v151 : Arr Int) (v152 : Bool) (v153 : Arr Int) : St := ⟨(un 2 ((.bool v145) :: (.ptr 0 0) :: (.ptr 1 0) :: (un 1 ((.row 2) :: (.row 3) :: (.int .i64 v146) :: (un 1 ((.int .i64 v147) :: (un 25 []))))))), [(0, .blk (Cod.enc api_EscalatorC v148)), (1, .blk (Cod.enc api_StopC v149)), (2, rowE intC v150 v151), (3, rowE intC v152 v153)], 4⟩
def newelref01_Path_x3_0 (q0 : Bool) (q1 : Arr Int) (q2 : Bool) (q3 : Arr Int) : St := ⟨(un 6 ((.row 0) :: (.row 1) :: (un 28 []))), [(0, rowE intC q0 q1), (1, rowE intC q2 q3)], 2⟩
def newelref01_Path_b3 {R : Type} (N : Nat) (rc : Bool → Int → Int → api_Escalator → api_Stop → Bool → Arr Int → Bool → Arr Int → Option R) (v145 : Bool) (v146 : Int) (v147 : Int) (v148 : api_Escalator) (v149 : api_Stop) (v150 : Bool) (v151 : Arr Int) (v152 : Bool) (v153 : Arr Int) (k0 : Bool → Arr Int → Bool → Arr Int → Option R) : Option R :=
  bif decide (v147 < (100 : Int)) then
   newelref01_edge N v148 v149 v146 v147 v145 (fun r185 r186 =>
   bif room (Arr.n v151 + (1 : Nat)) then
    bif room (Arr.n v153 + (1 : Nat)) then
     rc v145 r185 (w64 (v147 + (1 : Int))) v148 v149 false (lst intC (Arr.n v151 + (1 : Nat)) (catC (Arr.n v151) (Cod.cell intC (Arr.f v151)) (litC [SV.int IntKind.i64 (0 : Int)] [[SV.int IntKind.i64 r185]]))) false (lst intC (Arr.n v153 + (1 : Nat)) (catC (Arr.n v153) (Cod.cell intC (Arr.f v153)) (litC [SV.int IntKind.i64 (0 : Int)] [[SV.int IntKind.i64 r186]])))
    else
     Option.none
   else
    Option.none)
  else
   k0 v150 v151 v152 v153
def newelref01_Path_l3 {R : Type} (N : Nat) : Nat → Bool → Int → Int → api_Escalator → api_Stop → Bool → Arr Int → Bool → Arr Int → (Bool → Arr Int → Bool → Arr Int → Option R) → Option R
  | 0, _, _, _, _, _, _, _, _, _, _ => Option.none
  | n + 1, v145, v146, v147, v148, v149, v150, v151, v152, v153, k0 => newelref01_Path_b3 N (fun v145 v146 v147 v148 v149 v150 v151 v152 v153 => newelref01_Path_l3 N n v145 v146 v147 v148 v149 v150 v151 v152 v153 k0) v145 v146 v147 v148 v149 v150 v151 v152 v153 k0


def newelref01_Path_m {R : Type} (N : Nat) (a142 : api_Escalator) (a143 : api_Stop) (a144 : Bool) (k : Bool → Arr Int → Bool → Arr Int → Option R) : Option R :=
  newelref01_Path_l3 N N a144 (api_Stop.Speed a143) (0 : Int) a142 a143 true (lst intC (0 : Nat) (zeroC [SV.int IntKind.i64 (0 : Int)])) true (lst intC (0 : Nat) (zeroC [SV.int IntKind.i64 (0 : Int)])) (fun r187 r188 r189 r190 =>
   k r187 r188 r189 r190)
noncomputable def newelref01_Path {R : Type} : Nat → api_Escalator → api_Stop → Bool → (Bool → Arr Int → Bool → Arr Int → Option R) → Option R := lock (@newelref01_Path_m R)
theorem newelref01_Path_def {R : Type} (N : Nat) (a142 : api_Escalator) (a143 : api_Stop) (a144 : Bool) (k : Bool → Arr Int → Bool → Arr Int → Option R) : newelref01_Path N a142 a143 a144 k = newelref01_Path_m N a142 a143 a144 k := by unfold newelref01_Path; rw [lock_eq]
def newelref01_Path_sp : Sp := ⟨[rAgg api_EscalatorC, rAgg api_StopC, rBool], []⟩
theorem newelref01_Path_sp_ok : newelref01_Path_sp.Ok := ⟨(allCons (rAgg_ok api_EscalatorC_ok api_EscalatorC_len) (allCons (rAgg_ok api_StopC_ok api_StopC_len) (allCons rBool_ok allNil))), eNil⟩
def newelref01_Path_rs : Sp := ⟨[rTup [rRow 0, rRow 1]], [(0, eRow intC), (1, eRow intC)]⟩
theorem newelref01_Path_rs_ok : newelref01_Path_rs.Ok := ⟨(allCons (rTup_ok (allCons (rRow_ok 0) (allCons (rRow_ok 1) allNil))) allNil), (eCons (eRow_ok intC_ok) (eCons (eRow_ok intC_ok) eNil))⟩
def newelref01_Path_run {R : Type} (N : Nat) (args : List SV) (T : Tab) (kf : SV × Tab → Option R) : Option R :=
  newelref01_Path_m N (Cod.dec api_EscalatorC (lget (toCs (lget args 0)))) (Cod.dec api_StopC (lget (toCs (lget args 1)))) (toB (lget args 2)) (fun q0 q1 q2 q3 => kf (lget [.tup [.row 0, .row 1]] 0, [(0, rowE intC q0 q1), (1, rowE intC q2 q3)]))
def newelref01_Path_d3 {R : Type} (N : Nat) (S0 : St) (k : Exit → St → Option R) : Option R :=
  newelref01_Path_l3 N N (toB (lget S0.tmps 2)) (toI (lget S0.tmps 8)) (toI (lget S0.tmps 10)) (Cod.dec api_EscalatorC (lget (entCs (entAt S0.tab 0)))) (Cod.dec api_StopC (lget (entCs (entAt S0.tab 1)))) (entNl (entAt S0.tab 2)) (lst intC (entN (entAt S0.tab 2)) (entC (entAt S0.tab 2))) (entNl (entAt S0.tab 3)) (lst intC (entN (entAt S0.tab 3)) (entC (entAt S0.tab 3))) (fun q0 q1 q2 q3 => k (.exit 0) (newelref01_Path_x3_0 q0 q1 q2 q3))
def newelref01_Path_lp {R : Type} (N : Nat) : Lp R := fun body S k => bif (Go.Sx.keyOf body).getD 0 == 3 then newelref01_Path_L3.head.raw 0 S (fun S0 => newelref01_Path_d3 N S0 k) else Option.none
theorem newelref01_Path_l3_eq {R : Type} (N : Nat) (k : Exit → St → Option R) (n : Nat) : ∀ (v0 : Bool) (v1 : Int) (v2 : Int) (v3 : api_Escalator) (v4 : api_Stop) (v5 : Bool) (v6 : Arr Int) (v7 : Bool) (v8 : Arr Int), loopM E.Θ (newelref01_edge_cal N) (newelref01_Path_lp N) (noJn) 0 newelref01_Path_L3 (bodyAt E 48 3) n (newelref01_Path_h3 v0 v1 v2 v3 v4 v5 v6 v7 v8) k = newelref01_Path_l3 N n v0 v1 v2 v3 v4 v5 v6 v7 v8 (fun q0 q1 q2 q3 => k (.exit 0) (newelref01_Path_x3_0 q0 q1 q2 q3)) := by
  induction n with
  | zero => intro v0 v1 v2 v3 v4 v5 v6 v7 v8; rfl
  | succ n ih =>
    intro v0 v1 v2 v3 v4 v5 v6 v7 v8
    refine Eq.trans (b := newelref01_Path_b3 N (fun v0 v1 v2 v3 v4 v5 v6 v7 v8 => loopM E.Θ (newelref01_edge_cal N) (newelref01_Path_lp N) (noJn) 0 newelref01_Path_L3 (bodyAt E 48 3) n (newelref01_Path_h3 v0 v1 v2 v3 v4 v5 v6 v7 v8) k) v0 v1 v2 v3 v4 v5 v6 v7 v8 (fun q0 q1 q2 q3 => k (.exit 0) (newelref01_Path_x3_0 q0 q1 q2 q3))) (by kernel_rfl) ?_
    have h : (fun (v0 : Bool) (v1 : Int) (v2 : Int) (v3 : api_Escalator) (v4 : api_Stop) (v5 : Bool) (v6 : Arr Int) (v7 : Bool) (v8 : Arr Int) => loopM E.Θ (newelref01_edge_cal N) (newelref01_Path_lp N) (noJn) 0 newelref01_Path_L3 (bodyAt E 48 3) n (newelref01_Path_h3 v0 v1 v2 v3 v4 v5 v6 v7 v8) k) = (fun (v0 : Bool) (v1 : Int) (v2 : Int) (v3 : api_Escalator) (v4 : api_Stop) (v5 : Bool) (v6 : Arr Int) (v7 : Bool) (v8 : Arr Int) => newelref01_Path_l3 N n v0 v1 v2 v3 v4 v5 v6 v7 v8 (fun q0 q1 q2 q3 => k (.exit 0) (newelref01_Path_x3_0 q0 q1 q2 q3))) := funext fun v0 => funext fun v1 => funext fun v2 => funext fun v3 => funext fun v4 => funext fun v5 => funext fun v6 => funext fun v7 => funext fun v8 => ih v0 v1 v2 v3 v4 v5 v6 v7 v8
    rw [h]
    rfl
theorem newelref01_Path_k3 {R : Type} (N : Nat) : LpKey (R := R) E 48 0 (newelref01_Path_lp N) 3 :=
  lpKey_of hE (newelref01_edge_cal_ok N) (jn := noJn) newelref01_Path_L3_ok [] kNil (by kernel_rfl) [] jNil (by kernel_rfl) N fun S k =>
    Eq.trans (b := newelref01_Path_L3.head.raw 0 S (fun S0 => newelref01_Path_d3 N S0 k)) (by kernel_rfl) (congrArg (newelref01_Path_L3.head.raw 0 S) (funext fun S0 => Eq.trans (newelref01_Path_l3_eq N k N (toB (lget S0.tmps 2)) (toI (lget S0.tmps 8)) (toI (lget S0.tmps 10)) (Cod.dec api_EscalatorC (lget (entCs (entAt S0.tab 0)))) (Cod.dec api_StopC (lget (entCs (entAt S0.tab 1)))) (entNl (entAt S0.tab 2)) (lst intC (entN (entAt S0.tab 2)) (entC (entAt S0.tab 2))) (entNl (entAt S0.tab 3)) (lst intC (entN (entAt S0.tab 3)) (entC (entAt S0.tab 3)))).symm (by kernel_rfl)))
noncomputable def newelref01_Path_go {R : Type} (N : Nat) (args : List SV) (T : Tab) (kf : SV × Tab → Option R) : Option R :=
  newelref01_Path N (Cod.dec api_EscalatorC (lget (toCs (lget args 0)))) (Cod.dec api_StopC (lget (toCs (lget args 1)))) (toB (lget args 2)) (fun q0 q1 q2 q3 => kf (lget [.tup [.row 0, .row 1]] 0, [(0, rowE intC q0 q1), (1, rowE intC q2 q3)]))
noncomputable def newelref01_Path_cal {R : Type} (N : Nat) : Cal R := callM (newelref01_edge_cal N) 48 0 newelref01_Path_sp (newelref01_Path_go N)
theorem newelref01_Path_cal_ok {R : Type} (N : Nat) : CalOk E.P (newelref01_Path_cal (R := R) N) :=
  callM_ok hE (newelref01_edge_cal_ok N) (lp := newelref01_Path_lp N) (jn := noJn) (keys := [3]) (kCons (newelref01_Path_k3 N) kNil) (by kernel_rfl) (js := []) jNil (by kernel_rfl) newelref01_Path_sp_ok newelref01_Path_rs_ok (fun args T kf => Eq.trans (newelref01_Path_def N (Cod.dec api_EscalatorC (lget (toCs (lget args 0)))) (Cod.dec api_StopC (lget (toCs (lget args 1)))) (toB (lget args 2)) (fun q0 q1 q2 q3 => kf (lget [.tup [.row 0, .row 1]] 0, [(0, rowE intC q0 q1), (1, rowE intC q2 q3)]))) (by kernel_rfl : newelref01_Path_run N args T kf = fnM E (newelref01_edge_cal N) (newelref01_Path_lp N) (noJn) 48 (newelref01_Path_sp.vs args) (newelref01_Path_sp.tab T) 0 (resK newelref01_Path_rs kf)))

def newelref01_Rest_L4 : LoopSp := ⟨⟨[1, 4, 7], ⟨(dr 1 ((rSl intC) :: (dr 2 ((rInt .i64) :: (dr 2 ((rInt .i64) :: (dr 25 []))))))), []⟩, 0⟩, [(Option.none, ⟨[4, 5, 6], ⟨(dr 4 ((rInt .i64) :: (rInt .i64) :: (rBool) :: (dr 26 []))), []⟩, 0⟩), (some 0, ⟨[1, 4], ⟨(dr 1 ((rSl intC) :: (dr 2 ((rInt .i64) :: (dr 28 []))))), []⟩, 0⟩)]⟩
theorem newelref01_Rest_L4_ok : newelref01_Rest_L4.Ok := ⟨⟨(drCons 1 (allCons (rSl_ok intC_ok) (drCons 2 (allCons (rInt_ok .i64) (drCons 2 (allCons (rInt_ok .i64) (drCons 25 allNil))))))), eNil⟩, (xCons ⟨(drCons 4 (allCons (rInt_ok .i64) (allCons (rInt_ok .i64) (allCons rBool_ok (drCons 26 allNil))))), eNil⟩ (xCons ⟨(drCons 1 (allCons (rSl_ok intC_ok) (drCons 2 (allCons (rInt_ok .i64) (drCons 28 allNil))))), eNil⟩ xNil))⟩
def newelref01_Rest_h4 (v201 : Arr Int) (v202 : Int) (v203 : Int) : St := ⟨(un 1 ((slC intC v201) :: (un 2 ((.int .i64 v202) :: (un 2 ((.int .i64 v203) :: (un 25 []))))))), [], 0⟩
def newelref01_Rest_x4_r (q0 : Int) (q1 : Int) (q2 : Bool) : St := ⟨(un 4 ((.int .i64 q0) :: (.int .i64 q1) :: (.bool q2) :: (un 26 []))), [], 0⟩
def newelref01_Rest_x4_0 (v201 : Arr Int) (q1 : Int) : St := ⟨(un 1 ((slC intC v201) :: (un 2 ((.int .i64 q1) :: (un 28 []))))), [], 0⟩
def newelref01_Rest_b4 {R : Type} (N : Nat) (rc : Arr Int → Int → Int → Option R) (v201 : Arr Int) (v202 : Int) (v203 : Int) (kr : Int → Int → Bool → Option R) (k0 : Int → Option R) : Option R :=
  bif decide (v203 < (↑(Arr.n v201) : Int)) then
   bif decide ((0 : Int) ≤ v203) && decide (v203 < (↑(Arr.n v201) : Int)) then
    bif decide ((0 : Int) ≤ v203) && decide (v203 < (↑(Arr.n v201) : Int)) then
     bif Arr.f v201 (Int.toNat v203) == (0 : Int) then
      kr (w64 (v202 + Arr.f v201 (Int.toNat v203))) (w64 (v203 + (1 : Int))) true
     else
      rc v201 (w64 (v202 + Arr.f v201 (Int.toNat v203))) (w64 (v203 + (1 : Int)))
    else
     Option.none
   else
    Option.none
  else
   k0 v202
def newelref01_Rest_l4 {R : Type} (N : Nat) : Nat → Arr Int → Int → Int → (Int → Int → Bool → Option R) → (Int → Option R) → Option R
  | 0, _, _, _, _, _ => Option.none
  | n + 1, v201, v202, v203, kr, k0 => newelref01_Rest_b4 N (fun v201 v202 v203 => newelref01_Rest_l4 N n v201 v202 v203 kr k0) v201 v202 v203 kr k0


def newelref01_Rest_m {R : Type} (N : Nat) (a199 : Int) (a200 : Arr Int) (k : Int → Int → Bool → Option R) : Option R :=
  bif a199 == (0 : Int) then
   k (0 : Int) (0 : Int) true
  else
   newelref01_Rest_l4 N N a200 (0 : Int) (0 : Int) (fun r204 r205 r206 =>
    k r204 r205 r206) (fun r207 =>
    k r207 ((↑(Arr.n a200) : Int)) false)
noncomputable def newelref01_Rest {R : Type} : Nat → Int → Arr Int → (Int → Int → Bool → Option R) → Option R := lock (@newelref01_Rest_m R)
theorem newelref01_Rest_def {R : Type} (N : Nat) (a199 : Int) (a200 : Arr Int) (k : Int → Int → Bool → Option R) : newelref01_Rest N a199 a200 k = newelref01_Rest_m N a199 a200 k := by unfold newelref01_Rest; rw [lock_eq]
def newelref01_Rest_sp : Sp := ⟨[rInt .i64, rSl intC], []⟩
theorem newelref01_Rest_sp_ok : newelref01_Rest_sp.Ok := ⟨(allCons (rInt_ok .i64) (allCons (rSl_ok intC_ok) allNil)), eNil⟩
def newelref01_Rest_rs : Sp := ⟨[rTup [rInt .i64, rInt .i64, rBool]], []⟩
theorem newelref01_Rest_rs_ok : newelref01_Rest_rs.Ok := ⟨(allCons (rTup_ok (allCons (rInt_ok .i64) (allCons (rInt_ok .i64) (allCons rBool_ok allNil)))) allNil), eNil⟩
def newelref01_Rest_run {R : Type} (N : Nat) (args : List SV) (T : Tab) (kf : SV × Tab → Option R) : Option R :=
  newelref01_Rest_m N (toI (lget args 0)) (lstC intC (lget args 1)) (fun q0 q1 q2 => kf (lget [.tup [.int .i64 q0, .int .i64 q1, .bool q2]] 0, []))
def newelref01_Rest_d4 {R : Type} (N : Nat) (S0 : St) (k : Exit → St → Option R) : Option R :=
  newelref01_Rest_l4 N N (lstC intC (lget S0.tmps 1)) (toI (lget S0.tmps 4)) (toI (lget S0.tmps 7)) (fun q0 q1 q2 => k .ret (newelref01_Rest_x4_r q0 q1 q2)) (fun q1 => k (.exit 0) (newelref01_Rest_x4_0 (lstC intC (lget S0.tmps 1)) q1))
def newelref01_Rest_lp {R : Type} (N : Nat) : Lp R := fun body S k => bif (Go.Sx.keyOf body).getD 0 == 4 then newelref01_Rest_L4.head.raw 0 S (fun S0 => newelref01_Rest_d4 N S0 k) else Option.none
theorem newelref01_Rest_l4_eq {R : Type} (N : Nat) (k : Exit → St → Option R) (n : Nat) : ∀ (v0 : Arr Int) (v1 : Int) (v2 : Int), loopM E.Θ (newelref01_Path_cal N) (newelref01_Rest_lp N) (noJn) 0 newelref01_Rest_L4 (bodyAt E 35 4) n (newelref01_Rest_h4 v0 v1 v2) k = newelref01_Rest_l4 N n v0 v1 v2 (fun q0 q1 q2 => k .ret (newelref01_Rest_x4_r q0 q1 q2)) (fun q1 => k (.exit 0) (newelref01_Rest_x4_0 v0 q1)) := by
  induction n with
  | zero => intro v0 v1 v2; rfl
  | succ n ih =>
    intro v0 v1 v2
    refine Eq.trans (b := newelref01_Rest_b4 N (fun v0 v1 v2 => loopM E.Θ (newelref01_Path_cal N) (newelref01_Rest_lp N) (noJn) 0 newelref01_Rest_L4 (bodyAt E 35 4) n (newelref01_Rest_h4 v0 v1 v2) k) v0 v1 v2 (fun q0 q1 q2 => k .ret (newelref01_Rest_x4_r q0 q1 q2)) (fun q1 => k (.exit 0) (newelref01_Rest_x4_0 v0 q1))) (by kernel_rfl) ?_
    have h : (fun (v0 : Arr Int) (v1 : Int) (v2 : Int) => loopM E.Θ (newelref01_Path_cal N) (newelref01_Rest_lp N) (noJn) 0 newelref01_Rest_L4 (bodyAt E 35 4) n (newelref01_Rest_h4 v0 v1 v2) k) = (fun (v0 : Arr Int) (v1 : Int) (v2 : Int) => newelref01_Rest_l4 N n v0 v1 v2 (fun q0 q1 q2 => k .ret (newelref01_Rest_x4_r q0 q1 q2)) (fun q1 => k (.exit 0) (newelref01_Rest_x4_0 v0 q1))) := funext fun v0 => funext fun v1 => funext fun v2 => ih v0 v1 v2
    rw [h]
    rfl
theorem newelref01_Rest_k4 {R : Type} (N : Nat) : LpKey (R := R) E 35 0 (newelref01_Rest_lp N) 4 :=
  lpKey_of hE (newelref01_Path_cal_ok N) (jn := noJn) newelref01_Rest_L4_ok [] kNil (by kernel_rfl) [] jNil (by kernel_rfl) N fun S k =>
    Eq.trans (b := newelref01_Rest_L4.head.raw 0 S (fun S0 => newelref01_Rest_d4 N S0 k)) (by kernel_rfl) (congrArg (newelref01_Rest_L4.head.raw 0 S) (funext fun S0 => Eq.trans (newelref01_Rest_l4_eq N k N (lstC intC (lget S0.tmps 1)) (toI (lget S0.tmps 4)) (toI (lget S0.tmps 7))).symm (by kernel_rfl)))
noncomputable def newelref01_Rest_go {R : Type} (N : Nat) (args : List SV) (T : Tab) (kf : SV × Tab → Option R) : Option R :=
  newelref01_Rest N (toI (lget args 0)) (lstC intC (lget args 1)) (fun q0 q1 q2 => kf (lget [.tup [.int .i64 q0, .int .i64 q1, .bool q2]] 0, []))
noncomputable def newelref01_Rest_cal {R : Type} (N : Nat) : Cal R := callM (newelref01_Path_cal N) 35 0 newelref01_Rest_sp (newelref01_Rest_go N)
theorem newelref01_Rest_cal_ok {R : Type} (N : Nat) : CalOk E.P (newelref01_Rest_cal (R := R) N) :=
  callM_ok hE (newelref01_Path_cal_ok N) (lp := newelref01_Rest_lp N) (jn := noJn) (keys := [4]) (kCons (newelref01_Rest_k4 N) kNil) (by kernel_rfl) (js := []) jNil (by kernel_rfl) newelref01_Rest_sp_ok newelref01_Rest_rs_ok (fun args T kf => Eq.trans (newelref01_Rest_def N (toI (lget args 0)) (lstC intC (lget args 1)) (fun q0 q1 q2 => kf (lget [.tup [.int .i64 q0, .int .i64 q1, .bool q2]] 0, []))) (by kernel_rfl : newelref01_Rest_run N args T kf = fnM E (newelref01_Path_cal N) (newelref01_Rest_lp N) (noJn) 35 (newelref01_Rest_sp.vs args) (newelref01_Rest_sp.tab T) 0 (resK newelref01_Rest_rs kf)))


def newelref01_Distance_m {R : Type} (N : Nat) (a139 : api_Escalator) (a140 : api_Stop) (k : api_Span → api_Span → Int → Option R) : Option R :=
  newelref01_CheckStop N a139 a140 (fun r141 =>
  bif r141 != (0 : Int) then
   k (api_Span.mk (0 : Int) (0 : Int)) (api_Span.mk (0 : Int) (0 : Int)) r141
  else
   newelref01_Path N a139 a140 true (fun r191 r192 r193 r194 =>
   newelref01_Path N a139 a140 false (fun r195 r196 r197 r198 =>
   newelref01_Rest N (api_Stop.Speed a140) r196 (fun r208 r209 r210 =>
   newelref01_Rest N (api_Stop.Speed a140) r192 (fun r211 r212 r213 =>
   bif !r213 then
    k (api_Span.mk (0 : Int) (0 : Int)) (api_Span.mk (0 : Int) (0 : Int)) (12 : Int)
   else
    k (api_Span.mk r208 r211) (api_Span.mk r209 r212) (0 : Int))))))
noncomputable def newelref01_Distance {R : Type} : Nat → api_Escalator → api_Stop → (api_Span → api_Span → Int → Option R) → Option R := lock (@newelref01_Distance_m R)
theorem newelref01_Distance_def {R : Type} (N : Nat) (a139 : api_Escalator) (a140 : api_Stop) (k : api_Span → api_Span → Int → Option R) : newelref01_Distance N a139 a140 k = newelref01_Distance_m N a139 a140 k := by unfold newelref01_Distance; rw [lock_eq]
def newelref01_Distance_sp : Sp := ⟨[rAgg api_EscalatorC, rAgg api_StopC], []⟩
theorem newelref01_Distance_sp_ok : newelref01_Distance_sp.Ok := ⟨(allCons (rAgg_ok api_EscalatorC_ok api_EscalatorC_len) (allCons (rAgg_ok api_StopC_ok api_StopC_len) allNil)), eNil⟩
def newelref01_Distance_rs : Sp := ⟨[rTup [rAgg api_SpanC, rAgg api_SpanC, rInt .i64]], []⟩
theorem newelref01_Distance_rs_ok : newelref01_Distance_rs.Ok := ⟨(allCons (rTup_ok (allCons (rAgg_ok api_SpanC_ok api_SpanC_len) (allCons (rAgg_ok api_SpanC_ok api_SpanC_len) (allCons (rInt_ok .i64) allNil)))) allNil), eNil⟩
def newelref01_Distance_run {R : Type} (N : Nat) (args : List SV) (T : Tab) (kf : SV × Tab → Option R) : Option R :=
  newelref01_Distance_m N (Cod.dec api_EscalatorC (lget (toCs (lget args 0)))) (Cod.dec api_StopC (lget (toCs (lget args 1)))) (fun q0 q1 q2 => kf (lget [.tup [.agg (Cod.enc api_SpanC q0), .agg (Cod.enc api_SpanC q1), .int .i64 q2]] 0, []))
def newelref01_Distance_lp {R : Type} (N : Nat) : Lp R := fun body S k => Option.none
noncomputable def newelref01_Distance_go {R : Type} (N : Nat) (args : List SV) (T : Tab) (kf : SV × Tab → Option R) : Option R :=
  newelref01_Distance N (Cod.dec api_EscalatorC (lget (toCs (lget args 0)))) (Cod.dec api_StopC (lget (toCs (lget args 1)))) (fun q0 q1 q2 => kf (lget [.tup [.agg (Cod.enc api_SpanC q0), .agg (Cod.enc api_SpanC q1), .int .i64 q2]] 0, []))
noncomputable def newelref01_Distance_cal {R : Type} (N : Nat) : Cal R := callM (newelref01_Rest_cal N) 19 0 newelref01_Distance_sp (newelref01_Distance_go N)
theorem newelref01_Distance_cal_ok {R : Type} (N : Nat) : CalOk E.P (newelref01_Distance_cal (R := R) N) :=
  callM_ok hE (newelref01_Rest_cal_ok N) (lp := newelref01_Distance_lp N) (jn := noJn) (keys := []) kNil (by kernel_rfl) (js := []) jNil (by kernel_rfl) newelref01_Distance_sp_ok newelref01_Distance_rs_ok (fun args T kf => Eq.trans (newelref01_Distance_def N (Cod.dec api_EscalatorC (lget (toCs (lget args 0)))) (Cod.dec api_StopC (lget (toCs (lget args 1)))) (fun q0 q1 q2 => kf (lget [.tup [.agg (Cod.enc api_SpanC q0), .agg (Cod.enc api_SpanC q1), .int .i64 q2]] 0, []))) (by kernel_rfl : newelref01_Distance_run N args T kf = fnM E (newelref01_Rest_cal N) (newelref01_Distance_lp N) (noJn) 19 (newelref01_Distance_sp.vs args) (newelref01_Distance_sp.tab T) 0 (resK newelref01_Distance_rs kf)))


def drive_Witness_m {R : Type} (N : Nat) (a214 : api_Escalator) (a215 : api_Stop) (a216 : Bool) (k : Int → Bool → Arr Int → Option R) : Option R :=
  drive_Distance N a214 a215 (fun r217 r218 r219 =>
  bif r219 != (0 : Int) then
   k r219 true (lst intC (0 : Nat) (zeroC [SV.int IntKind.i64 (0 : Int)]))
  else
   drive_run N a214 a215 a216 (fun r220 r221 r222 r223 =>
   k (0 : Int) r222 r223))
noncomputable def drive_Witness {R : Type} : Nat → api_Escalator → api_Stop → Bool → (Int → Bool → Arr Int → Option R) → Option R := lock (@drive_Witness_m R)
theorem drive_Witness_def {R : Type} (N : Nat) (a214 : api_Escalator) (a215 : api_Stop) (a216 : Bool) (k : Int → Bool → Arr Int → Option R) : drive_Witness N a214 a215 a216 k = drive_Witness_m N a214 a215 a216 k := by unfold drive_Witness; rw [lock_eq]
def drive_Witness_sp : Sp := ⟨[rAgg api_EscalatorC, rAgg api_StopC, rBool], []⟩
theorem drive_Witness_sp_ok : drive_Witness_sp.Ok := ⟨(allCons (rAgg_ok api_EscalatorC_ok api_EscalatorC_len) (allCons (rAgg_ok api_StopC_ok api_StopC_len) (allCons rBool_ok allNil))), eNil⟩
def drive_Witness_rs : Sp := ⟨[rTup [rRow 0, rInt .i64]], [(0, eRow intC)]⟩
theorem drive_Witness_rs_ok : drive_Witness_rs.Ok := ⟨(allCons (rTup_ok (allCons (rRow_ok 0) (allCons (rInt_ok .i64) allNil))) allNil), (eCons (eRow_ok intC_ok) eNil)⟩
def drive_Witness_run {R : Type} (N : Nat) (args : List SV) (T : Tab) (kf : SV × Tab → Option R) : Option R :=
  drive_Witness_m N (Cod.dec api_EscalatorC (lget (toCs (lget args 0)))) (Cod.dec api_StopC (lget (toCs (lget args 1)))) (toB (lget args 2)) (fun q0 q1 q2 => kf (lget [.tup [.row 0, .int .i64 q0]] 0, [(0, rowE intC q1 q2)]))
def drive_Witness_lp {R : Type} (N : Nat) : Lp R := fun body S k => Option.none
noncomputable def drive_Witness_go {R : Type} (N : Nat) (args : List SV) (T : Tab) (kf : SV × Tab → Option R) : Option R :=
  drive_Witness N (Cod.dec api_EscalatorC (lget (toCs (lget args 0)))) (Cod.dec api_StopC (lget (toCs (lget args 1)))) (toB (lget args 2)) (fun q0 q1 q2 => kf (lget [.tup [.row 0, .int .i64 q0]] 0, [(0, rowE intC q1 q2)]))
noncomputable def drive_Witness_cal {R : Type} (N : Nat) : Cal R := callM (newelref01_Distance_cal N) 20 0 drive_Witness_sp (drive_Witness_go N)
theorem drive_Witness_cal_ok {R : Type} (N : Nat) : CalOk E.P (drive_Witness_cal (R := R) N) :=
  callM_ok hE (newelref01_Distance_cal_ok N) (lp := drive_Witness_lp N) (jn := noJn) (keys := []) kNil (by kernel_rfl) (js := []) jNil (by kernel_rfl) drive_Witness_sp_ok drive_Witness_rs_ok (fun args T kf => Eq.trans (drive_Witness_def N (Cod.dec api_EscalatorC (lget (toCs (lget args 0)))) (Cod.dec api_StopC (lget (toCs (lget args 1)))) (toB (lget args 2)) (fun q0 q1 q2 => kf (lget [.tup [.row 0, .int .i64 q0]] 0, [(0, rowE intC q1 q2)]))) (by kernel_rfl : drive_Witness_run N args T kf = fnM E (newelref01_Distance_cal N) (drive_Witness_lp N) (noJn) 20 (drive_Witness_sp.vs args) (drive_Witness_sp.tab T) 0 (resK drive_Witness_rs kf)))


def newelref01_Witness_m {R : Type} (N : Nat) (a224 : api_Escalator) (a225 : api_Stop) (a226 : Bool) (k : Arr Int → Int → Option R) : Option R :=
  newelref01_Distance N a224 a225 (fun r227 r228 r229 =>
  bif r229 != (0 : Int) then
   k (lst intC (0 : Nat) (zeroC [SV.int IntKind.i64 (0 : Int)])) r229
  else
   newelref01_Path N a224 a225 a226 (fun r230 r231 r232 r233 =>
   newelref01_Rest N (api_Stop.Speed a225) r231 (fun r234 r235 r236 =>
   bif decide ((↑(0 : Nat) : Int) ≤ r235) && decide (r235 ≤ (↑(Arr.n r233) : Int)) then
    k (lst intC (Int.toNat r235 - Int.toNat (↑(0 : Nat) : Int)) fun (i j : Nat) ↦ Cod.cell intC (Arr.f r233) (Int.toNat (↑(0 : Nat) : Int) + i) j) (0 : Int)
   else
    Option.none)))
noncomputable def newelref01_Witness {R : Type} : Nat → api_Escalator → api_Stop → Bool → (Arr Int → Int → Option R) → Option R := lock (@newelref01_Witness_m R)
theorem newelref01_Witness_def {R : Type} (N : Nat) (a224 : api_Escalator) (a225 : api_Stop) (a226 : Bool) (k : Arr Int → Int → Option R) : newelref01_Witness N a224 a225 a226 k = newelref01_Witness_m N a224 a225 a226 k := by unfold newelref01_Witness; rw [lock_eq]
def newelref01_Witness_sp : Sp := ⟨[rAgg api_EscalatorC, rAgg api_StopC, rBool], []⟩
theorem newelref01_Witness_sp_ok : newelref01_Witness_sp.Ok := ⟨(allCons (rAgg_ok api_EscalatorC_ok api_EscalatorC_len) (allCons (rAgg_ok api_StopC_ok api_StopC_len) (allCons rBool_ok allNil))), eNil⟩
def newelref01_Witness_rs : Sp := ⟨[rTup [rSl intC, rInt .i64]], []⟩
theorem newelref01_Witness_rs_ok : newelref01_Witness_rs.Ok := ⟨(allCons (rTup_ok (allCons (rSl_ok intC_ok) (allCons (rInt_ok .i64) allNil))) allNil), eNil⟩
def newelref01_Witness_run {R : Type} (N : Nat) (args : List SV) (T : Tab) (kf : SV × Tab → Option R) : Option R :=
  newelref01_Witness_m N (Cod.dec api_EscalatorC (lget (toCs (lget args 0)))) (Cod.dec api_StopC (lget (toCs (lget args 1)))) (toB (lget args 2)) (fun q0 q1 => kf (lget [.tup [slC intC q0, .int .i64 q1]] 0, []))
def newelref01_Witness_lp {R : Type} (N : Nat) : Lp R := fun body S k => Option.none
noncomputable def newelref01_Witness_go {R : Type} (N : Nat) (args : List SV) (T : Tab) (kf : SV × Tab → Option R) : Option R :=
  newelref01_Witness N (Cod.dec api_EscalatorC (lget (toCs (lget args 0)))) (Cod.dec api_StopC (lget (toCs (lget args 1)))) (toB (lget args 2)) (fun q0 q1 => kf (lget [.tup [slC intC q0, .int .i64 q1]] 0, []))
noncomputable def newelref01_Witness_cal {R : Type} (N : Nat) : Cal R := callM (drive_Witness_cal N) 21 0 newelref01_Witness_sp (newelref01_Witness_go N)
theorem newelref01_Witness_cal_ok {R : Type} (N : Nat) : CalOk E.P (newelref01_Witness_cal (R := R) N) :=
  callM_ok hE (drive_Witness_cal_ok N) (lp := newelref01_Witness_lp N) (jn := noJn) (keys := []) kNil (by kernel_rfl) (js := []) jNil (by kernel_rfl) newelref01_Witness_sp_ok newelref01_Witness_rs_ok (fun args T kf => Eq.trans (newelref01_Witness_def N (Cod.dec api_EscalatorC (lget (toCs (lget args 0)))) (Cod.dec api_StopC (lget (toCs (lget args 1)))) (toB (lget args 2)) (fun q0 q1 => kf (lget [.tup [slC intC q0, .int .i64 q1]] 0, []))) (by kernel_rfl : newelref01_Witness_run N args T kf = fnM E (drive_Witness_cal N) (newelref01_Witness_lp N) (noJn) 21 (newelref01_Witness_sp.vs args) (newelref01_Witness_sp.tab T) 0 (resK newelref01_Witness_rs kf)))

def newellaw01_sameInts_L4 : LoopSp := ⟨⟨[0, 1, 5], ⟨((rSl intC) :: (rSl intC) :: (dr 3 ((rInt .i64) :: (dr 20 [])))), []⟩, 0⟩, [(Option.none, ⟨[4], ⟨(dr 4 ((rBool) :: (dr 21 []))), []⟩, 0⟩), (some 0, ⟨[], ⟨(dr 26 []), []⟩, 0⟩)]⟩
theorem newellaw01_sameInts_L4_ok : newellaw01_sameInts_L4.Ok := ⟨⟨(allCons (rSl_ok intC_ok) (allCons (rSl_ok intC_ok) (drCons 3 (allCons (rInt_ok .i64) (drCons 20 allNil))))), eNil⟩, (xCons ⟨(drCons 4 (allCons rBool_ok (drCons 21 allNil))), eNil⟩ (xCons ⟨(drCons 26 allNil), eNil⟩ xNil))⟩
def newellaw01_sameInts_h4 (v239 : Arr Int) (v240 : Arr Int) (v241 : Int) : St := ⟨((slC intC v239) :: (slC intC v240) :: (un 3 ((.int .i64 v241) :: (un 20 [])))), [], 0⟩
def newellaw01_sameInts_x4_r (q0 : Bool) : St := ⟨(un 4 ((.bool q0) :: (un 21 []))), [], 0⟩
def newellaw01_sameInts_x4_0  : St := ⟨(un 26 []), [], 0⟩
def newellaw01_sameInts_b4 {R : Type} (N : Nat) (rc : Arr Int → Arr Int → Int → Option R) (v239 : Arr Int) (v240 : Arr Int) (v241 : Int) (kr : Bool → Option R) (k0 : Unit → Option R) : Option R :=
  bif decide (v241 < (↑(Arr.n v239) : Int)) then
   bif decide ((0 : Int) ≤ v241) && decide (v241 < (↑(Arr.n v239) : Int)) then
    bif decide ((0 : Int) ≤ v241) && decide (v241 < (↑(Arr.n v240) : Int)) then
     bif Arr.f v239 (Int.toNat v241) != Arr.f v240 (Int.toNat v241) then
      kr false
     else
      rc v239 v240 (w64 (v241 + (1 : Int)))
    else
     Option.none
   else
    Option.none
  else
   k0 ()
def newellaw01_sameInts_l4 {R : Type} (N : Nat) : Nat → Arr Int → Arr Int → Int → (Bool → Option R) → (Unit → Option R) → Option R
  | 0, _, _, _, _, _ => Option.none
  | n + 1, v239, v240, v241, kr, k0 => newellaw01_sameInts_b4 N (fun v239 v240 v241 => newellaw01_sameInts_l4 N n v239 v240 v241 kr k0) v239 v240 v241 kr k0


def newellaw01_sameInts_m {R : Type} (N : Nat) (a237 : Arr Int) (a238 : Arr Int) (k : Bool → Option R) : Option R :=
  bif (↑(Arr.n a237) : Int) != (↑(Arr.n a238) : Int) then
   k false
  else
   newellaw01_sameInts_l4 N N a237 a238 (0 : Int) (fun r242 =>
    k r242) (fun (_ : Unit) =>
    k true)
noncomputable def newellaw01_sameInts {R : Type} : Nat → Arr Int → Arr Int → (Bool → Option R) → Option R := lock (@newellaw01_sameInts_m R)
theorem newellaw01_sameInts_def {R : Type} (N : Nat) (a237 : Arr Int) (a238 : Arr Int) (k : Bool → Option R) : newellaw01_sameInts N a237 a238 k = newellaw01_sameInts_m N a237 a238 k := by unfold newellaw01_sameInts; rw [lock_eq]
def newellaw01_sameInts_sp : Sp := ⟨[rSl intC, rSl intC], []⟩
theorem newellaw01_sameInts_sp_ok : newellaw01_sameInts_sp.Ok := ⟨(allCons (rSl_ok intC_ok) (allCons (rSl_ok intC_ok) allNil)), eNil⟩
def newellaw01_sameInts_rs : Sp := ⟨[rBool], []⟩
theorem newellaw01_sameInts_rs_ok : newellaw01_sameInts_rs.Ok := ⟨(allCons rBool_ok allNil), eNil⟩
def newellaw01_sameInts_run {R : Type} (N : Nat) (args : List SV) (T : Tab) (kf : SV × Tab → Option R) : Option R :=
  newellaw01_sameInts_m N (lstC intC (lget args 0)) (lstC intC (lget args 1)) (fun q0 => kf (lget [.bool q0] 0, []))
def newellaw01_sameInts_d4 {R : Type} (N : Nat) (S0 : St) (k : Exit → St → Option R) : Option R :=
  newellaw01_sameInts_l4 N N (lstC intC (lget S0.tmps 0)) (lstC intC (lget S0.tmps 1)) (toI (lget S0.tmps 5)) (fun q0 => k .ret (newellaw01_sameInts_x4_r q0)) (fun (_ : Unit) => k (.exit 0) (newellaw01_sameInts_x4_0 ))
def newellaw01_sameInts_lp {R : Type} (N : Nat) : Lp R := fun body S k => bif (Go.Sx.keyOf body).getD 0 == 4 then newellaw01_sameInts_L4.head.raw 0 S (fun S0 => newellaw01_sameInts_d4 N S0 k) else Option.none
theorem newellaw01_sameInts_l4_eq {R : Type} (N : Nat) (k : Exit → St → Option R) (n : Nat) : ∀ (v0 : Arr Int) (v1 : Arr Int) (v2 : Int), loopM E.Θ (newelref01_Witness_cal N) (newellaw01_sameInts_lp N) (noJn) 0 newellaw01_sameInts_L4 (bodyAt E 22 4) n (newellaw01_sameInts_h4 v0 v1 v2) k = newellaw01_sameInts_l4 N n v0 v1 v2 (fun q0 => k .ret (newellaw01_sameInts_x4_r q0)) (fun (_ : Unit) => k (.exit 0) (newellaw01_sameInts_x4_0 )) := by
  induction n with
  | zero => intro v0 v1 v2; rfl
  | succ n ih =>
    intro v0 v1 v2
    refine Eq.trans (b := newellaw01_sameInts_b4 N (fun v0 v1 v2 => loopM E.Θ (newelref01_Witness_cal N) (newellaw01_sameInts_lp N) (noJn) 0 newellaw01_sameInts_L4 (bodyAt E 22 4) n (newellaw01_sameInts_h4 v0 v1 v2) k) v0 v1 v2 (fun q0 => k .ret (newellaw01_sameInts_x4_r q0)) (fun (_ : Unit) => k (.exit 0) (newellaw01_sameInts_x4_0 ))) (by kernel_rfl) ?_
    have h : (fun (v0 : Arr Int) (v1 : Arr Int) (v2 : Int) => loopM E.Θ (newelref01_Witness_cal N) (newellaw01_sameInts_lp N) (noJn) 0 newellaw01_sameInts_L4 (bodyAt E 22 4) n (newellaw01_sameInts_h4 v0 v1 v2) k) = (fun (v0 : Arr Int) (v1 : Arr Int) (v2 : Int) => newellaw01_sameInts_l4 N n v0 v1 v2 (fun q0 => k .ret (newellaw01_sameInts_x4_r q0)) (fun (_ : Unit) => k (.exit 0) (newellaw01_sameInts_x4_0 ))) := funext fun v0 => funext fun v1 => funext fun v2 => ih v0 v1 v2
    rw [h]
    rfl
theorem newellaw01_sameInts_k4 {R : Type} (N : Nat) : LpKey (R := R) E 22 0 (newellaw01_sameInts_lp N) 4 :=
  lpKey_of hE (newelref01_Witness_cal_ok N) (jn := noJn) newellaw01_sameInts_L4_ok [] kNil (by kernel_rfl) [] jNil (by kernel_rfl) N fun S k =>
    Eq.trans (b := newellaw01_sameInts_L4.head.raw 0 S (fun S0 => newellaw01_sameInts_d4 N S0 k)) (by kernel_rfl) (congrArg (newellaw01_sameInts_L4.head.raw 0 S) (funext fun S0 => Eq.trans (newellaw01_sameInts_l4_eq N k N (lstC intC (lget S0.tmps 0)) (lstC intC (lget S0.tmps 1)) (toI (lget S0.tmps 5))).symm (by kernel_rfl)))
noncomputable def newellaw01_sameInts_go {R : Type} (N : Nat) (args : List SV) (T : Tab) (kf : SV × Tab → Option R) : Option R :=
  newellaw01_sameInts N (lstC intC (lget args 0)) (lstC intC (lget args 1)) (fun q0 => kf (lget [.bool q0] 0, []))
noncomputable def newellaw01_sameInts_cal {R : Type} (N : Nat) : Cal R := callM (newelref01_Witness_cal N) 22 0 newellaw01_sameInts_sp (newellaw01_sameInts_go N)
theorem newellaw01_sameInts_cal_ok {R : Type} (N : Nat) : CalOk E.P (newellaw01_sameInts_cal (R := R) N) :=
  callM_ok hE (newelref01_Witness_cal_ok N) (lp := newellaw01_sameInts_lp N) (jn := noJn) (keys := [4]) (kCons (newellaw01_sameInts_k4 N) kNil) (by kernel_rfl) (js := []) jNil (by kernel_rfl) newellaw01_sameInts_sp_ok newellaw01_sameInts_rs_ok (fun args T kf => Eq.trans (newellaw01_sameInts_def N (lstC intC (lget args 0)) (lstC intC (lget args 1)) (fun q0 => kf (lget [.bool q0] 0, []))) (by kernel_rfl : newellaw01_sameInts_run N args T kf = fnM E (newelref01_Witness_cal N) (newellaw01_sameInts_lp N) (noJn) 22 (newellaw01_sameInts_sp.vs args) (newellaw01_sameInts_sp.tab T) 0 (resK newellaw01_sameInts_rs kf)))

def newelref01_Behind_L3 : LoopSp := ⟨⟨[0, 3, 4], ⟨((rSl intC) :: (dr 2 ((rInt .i64) :: (rInt .i64) :: (dr 15 [])))), []⟩, 0⟩, [(some 0, ⟨[3], ⟨(dr 3 ((rInt .i64) :: (dr 16 []))), []⟩, 0⟩)]⟩
theorem newelref01_Behind_L3_ok : newelref01_Behind_L3.Ok := ⟨⟨(allCons (rSl_ok intC_ok) (drCons 2 (allCons (rInt_ok .i64) (allCons (rInt_ok .i64) (drCons 15 allNil))))), eNil⟩, (xCons ⟨(drCons 3 (allCons (rInt_ok .i64) (drCons 16 allNil))), eNil⟩ xNil)⟩
def newelref01_Behind_h3 (v251 : Arr Int) (v252 : Int) (v253 : Int) : St := ⟨((slC intC v251) :: (un 2 ((.int .i64 v252) :: (.int .i64 v253) :: (un 15 [])))), [], 0⟩
def newelref01_Behind_x3_0 (q0 : Int) : St := ⟨(un 3 ((.int .i64 q0) :: (un 16 []))), [], 0⟩
def newelref01_Behind_b3 {R : Type} (N : Nat) (rc : Arr Int → Int → Int → Option R) (v251 : Arr Int) (v252 : Int) (v253 : Int) (k0 : Int → Option R) : Option R :=
  bif decide (v253 < (↑(Arr.n v251) : Int)) then
   bif decide ((0 : Int) ≤ v253) && decide (v253 < (↑(Arr.n v251) : Int)) then
    rc v251 (w64 (v252 + if w64 ((0 : Int) - Arr.f v251 (Int.toNat v253)) > (0 : Int) then w64 ((0 : Int) - Arr.f v251 (Int.toNat v253)) else (0 : Int))) (w64 (v253 + (1 : Int)))
   else
    Option.none
  else
   k0 v252
def newelref01_Behind_l3 {R : Type} (N : Nat) : Nat → Arr Int → Int → Int → (Int → Option R) → Option R
  | 0, _, _, _, _ => Option.none
  | n + 1, v251, v252, v253, k0 => newelref01_Behind_b3 N (fun v251 v252 v253 => newelref01_Behind_l3 N n v251 v252 v253 k0) v251 v252 v253 k0


def newelref01_Behind_m {R : Type} (N : Nat) (a250 : Arr Int) (k : Int → Option R) : Option R :=
  newelref01_Behind_l3 N N a250 (0 : Int) (0 : Int) (fun r254 =>
   k r254)
noncomputable def newelref01_Behind {R : Type} : Nat → Arr Int → (Int → Option R) → Option R := lock (@newelref01_Behind_m R)
theorem newelref01_Behind_def {R : Type} (N : Nat) (a250 : Arr Int) (k : Int → Option R) : newelref01_Behind N a250 k = newelref01_Behind_m N a250 k := by unfold newelref01_Behind; rw [lock_eq]
def newelref01_Behind_sp : Sp := ⟨[rSl intC], []⟩
theorem newelref01_Behind_sp_ok : newelref01_Behind_sp.Ok := ⟨(allCons (rSl_ok intC_ok) allNil), eNil⟩
def newelref01_Behind_rs : Sp := ⟨[rInt .i64], []⟩
theorem newelref01_Behind_rs_ok : newelref01_Behind_rs.Ok := ⟨(allCons (rInt_ok .i64) allNil), eNil⟩
def newelref01_Behind_run {R : Type} (N : Nat) (args : List SV) (T : Tab) (kf : SV × Tab → Option R) : Option R :=
  newelref01_Behind_m N (lstC intC (lget args 0)) (fun q0 => kf (lget [.int .i64 q0] 0, []))
def newelref01_Behind_d3 {R : Type} (N : Nat) (S0 : St) (k : Exit → St → Option R) : Option R :=
  newelref01_Behind_l3 N N (lstC intC (lget S0.tmps 0)) (toI (lget S0.tmps 3)) (toI (lget S0.tmps 4)) (fun q0 => k (.exit 0) (newelref01_Behind_x3_0 q0))
def newelref01_Behind_lp {R : Type} (N : Nat) : Lp R := fun body S k => bif (Go.Sx.keyOf body).getD 0 == 3 then newelref01_Behind_L3.head.raw 0 S (fun S0 => newelref01_Behind_d3 N S0 k) else Option.none
theorem newelref01_Behind_l3_eq {R : Type} (N : Nat) (k : Exit → St → Option R) (n : Nat) : ∀ (v0 : Arr Int) (v1 : Int) (v2 : Int), loopM E.Θ (newellaw01_sameInts_cal N) (newelref01_Behind_lp N) (noJn) 0 newelref01_Behind_L3 (bodyAt E 40 3) n (newelref01_Behind_h3 v0 v1 v2) k = newelref01_Behind_l3 N n v0 v1 v2 (fun q0 => k (.exit 0) (newelref01_Behind_x3_0 q0)) := by
  induction n with
  | zero => intro v0 v1 v2; rfl
  | succ n ih =>
    intro v0 v1 v2
    refine Eq.trans (b := newelref01_Behind_b3 N (fun v0 v1 v2 => loopM E.Θ (newellaw01_sameInts_cal N) (newelref01_Behind_lp N) (noJn) 0 newelref01_Behind_L3 (bodyAt E 40 3) n (newelref01_Behind_h3 v0 v1 v2) k) v0 v1 v2 (fun q0 => k (.exit 0) (newelref01_Behind_x3_0 q0))) (by kernel_rfl) ?_
    have h : (fun (v0 : Arr Int) (v1 : Int) (v2 : Int) => loopM E.Θ (newellaw01_sameInts_cal N) (newelref01_Behind_lp N) (noJn) 0 newelref01_Behind_L3 (bodyAt E 40 3) n (newelref01_Behind_h3 v0 v1 v2) k) = (fun (v0 : Arr Int) (v1 : Int) (v2 : Int) => newelref01_Behind_l3 N n v0 v1 v2 (fun q0 => k (.exit 0) (newelref01_Behind_x3_0 q0))) := funext fun v0 => funext fun v1 => funext fun v2 => ih v0 v1 v2
    rw [h]
    rfl
theorem newelref01_Behind_k3 {R : Type} (N : Nat) : LpKey (R := R) E 40 0 (newelref01_Behind_lp N) 3 :=
  lpKey_of hE (newellaw01_sameInts_cal_ok N) (jn := noJn) newelref01_Behind_L3_ok [] kNil (by kernel_rfl) [] jNil (by kernel_rfl) N fun S k =>
    Eq.trans (b := newelref01_Behind_L3.head.raw 0 S (fun S0 => newelref01_Behind_d3 N S0 k)) (by kernel_rfl) (congrArg (newelref01_Behind_L3.head.raw 0 S) (funext fun S0 => Eq.trans (newelref01_Behind_l3_eq N k N (lstC intC (lget S0.tmps 0)) (toI (lget S0.tmps 3)) (toI (lget S0.tmps 4))).symm (by kernel_rfl)))
noncomputable def newelref01_Behind_go {R : Type} (N : Nat) (args : List SV) (T : Tab) (kf : SV × Tab → Option R) : Option R :=
  newelref01_Behind N (lstC intC (lget args 0)) (fun q0 => kf (lget [.int .i64 q0] 0, []))
noncomputable def newelref01_Behind_cal {R : Type} (N : Nat) : Cal R := callM (newellaw01_sameInts_cal N) 40 0 newelref01_Behind_sp (newelref01_Behind_go N)
theorem newelref01_Behind_cal_ok {R : Type} (N : Nat) : CalOk E.P (newelref01_Behind_cal (R := R) N) :=
  callM_ok hE (newellaw01_sameInts_cal_ok N) (lp := newelref01_Behind_lp N) (jn := noJn) (keys := [3]) (kCons (newelref01_Behind_k3 N) kNil) (by kernel_rfl) (js := []) jNil (by kernel_rfl) newelref01_Behind_sp_ok newelref01_Behind_rs_ok (fun args T kf => Eq.trans (newelref01_Behind_def N (lstC intC (lget args 0)) (fun q0 => kf (lget [.int .i64 q0] 0, []))) (by kernel_rfl : newelref01_Behind_run N args T kf = fnM E (newellaw01_sameInts_cal N) (newelref01_Behind_lp N) (noJn) 40 (newelref01_Behind_sp.vs args) (newelref01_Behind_sp.tab T) 0 (resK newelref01_Behind_rs kf)))


def newelref01_Back_m {R : Type} (N : Nat) (a243 : api_Escalator) (a244 : api_Stop) (k : Int → Int → Option R) : Option R :=
  newelref01_CheckStop N a243 a244 (fun r245 =>
  bif r245 != (0 : Int) then
   k (0 : Int) r245
  else
   newelref01_Path N a243 a244 false (fun r246 r247 r248 r249 =>
   bif decide ((0 : Int) ≤ w64 ((↑(Arr.n r247) : Int) - (1 : Int))) && decide (w64 ((↑(Arr.n r247) : Int) - (1 : Int)) < (↑(Arr.n r247) : Int)) then
    bif decide (Arr.f r247 (Int.toNat (w64 ((↑(Arr.n r247) : Int) - (1 : Int)))) < (0 : Int)) then
     k (0 : Int) (12 : Int)
    else
     newelref01_Behind N r247 (fun r255 =>
     k r255 (0 : Int))
   else
    Option.none))
noncomputable def newelref01_Back {R : Type} : Nat → api_Escalator → api_Stop → (Int → Int → Option R) → Option R := lock (@newelref01_Back_m R)
theorem newelref01_Back_def {R : Type} (N : Nat) (a243 : api_Escalator) (a244 : api_Stop) (k : Int → Int → Option R) : newelref01_Back N a243 a244 k = newelref01_Back_m N a243 a244 k := by unfold newelref01_Back; rw [lock_eq]
def newelref01_Back_sp : Sp := ⟨[rAgg api_EscalatorC, rAgg api_StopC], []⟩
theorem newelref01_Back_sp_ok : newelref01_Back_sp.Ok := ⟨(allCons (rAgg_ok api_EscalatorC_ok api_EscalatorC_len) (allCons (rAgg_ok api_StopC_ok api_StopC_len) allNil)), eNil⟩
def newelref01_Back_rs : Sp := ⟨[rTup [rInt .i64, rInt .i64]], []⟩
theorem newelref01_Back_rs_ok : newelref01_Back_rs.Ok := ⟨(allCons (rTup_ok (allCons (rInt_ok .i64) (allCons (rInt_ok .i64) allNil))) allNil), eNil⟩
def newelref01_Back_run {R : Type} (N : Nat) (args : List SV) (T : Tab) (kf : SV × Tab → Option R) : Option R :=
  newelref01_Back_m N (Cod.dec api_EscalatorC (lget (toCs (lget args 0)))) (Cod.dec api_StopC (lget (toCs (lget args 1)))) (fun q0 q1 => kf (lget [.tup [.int .i64 q0, .int .i64 q1]] 0, []))
def newelref01_Back_lp {R : Type} (N : Nat) : Lp R := fun body S k => Option.none
noncomputable def newelref01_Back_go {R : Type} (N : Nat) (args : List SV) (T : Tab) (kf : SV × Tab → Option R) : Option R :=
  newelref01_Back N (Cod.dec api_EscalatorC (lget (toCs (lget args 0)))) (Cod.dec api_StopC (lget (toCs (lget args 1)))) (fun q0 q1 => kf (lget [.tup [.int .i64 q0, .int .i64 q1]] 0, []))
noncomputable def newelref01_Back_cal {R : Type} (N : Nat) : Cal R := callM (newelref01_Behind_cal N) 24 0 newelref01_Back_sp (newelref01_Back_go N)
theorem newelref01_Back_cal_ok {R : Type} (N : Nat) : CalOk E.P (newelref01_Back_cal (R := R) N) :=
  callM_ok hE (newelref01_Behind_cal_ok N) (lp := newelref01_Back_lp N) (jn := noJn) (keys := []) kNil (by kernel_rfl) (js := []) jNil (by kernel_rfl) newelref01_Back_sp_ok newelref01_Back_rs_ok (fun args T kf => Eq.trans (newelref01_Back_def N (Cod.dec api_EscalatorC (lget (toCs (lget args 0)))) (Cod.dec api_StopC (lget (toCs (lget args 1)))) (fun q0 q1 => kf (lget [.tup [.int .i64 q0, .int .i64 q1]] 0, []))) (by kernel_rfl : newelref01_Back_run N args T kf = fnM E (newelref01_Behind_cal N) (newelref01_Back_lp N) (noJn) 24 (newelref01_Back_sp.vs args) (newelref01_Back_sp.tab T) 0 (resK newelref01_Back_rs kf)))


def drive_Holds_m {R : Type} (N : Nat) (a256 : api_Escalator) (a257 : api_Stop) (k : Bool → Int → Option R) : Option R :=
  drive_checkStop N a256 a257 (fun r258 =>
  bif r258 != (0 : Int) then
   k false r258
  else
   drive_motion_grip N (drive_motion.mk a256 a257 (0 : Int) (20 : Int)) (fun r259 =>
   k (decide (w64 (api_Escalator.Pull a256 * api_Span.High (api_Stop.Loads a257)) ≤ w64 (api_Escalator.Drag a256 + r259))) (0 : Int)))
noncomputable def drive_Holds {R : Type} : Nat → api_Escalator → api_Stop → (Bool → Int → Option R) → Option R := lock (@drive_Holds_m R)
theorem drive_Holds_def {R : Type} (N : Nat) (a256 : api_Escalator) (a257 : api_Stop) (k : Bool → Int → Option R) : drive_Holds N a256 a257 k = drive_Holds_m N a256 a257 k := by unfold drive_Holds; rw [lock_eq]
def drive_Holds_sp : Sp := ⟨[rAgg api_EscalatorC, rAgg api_StopC], []⟩
theorem drive_Holds_sp_ok : drive_Holds_sp.Ok := ⟨(allCons (rAgg_ok api_EscalatorC_ok api_EscalatorC_len) (allCons (rAgg_ok api_StopC_ok api_StopC_len) allNil)), eNil⟩
def drive_Holds_rs : Sp := ⟨[rTup [rBool, rInt .i64]], []⟩
theorem drive_Holds_rs_ok : drive_Holds_rs.Ok := ⟨(allCons (rTup_ok (allCons rBool_ok (allCons (rInt_ok .i64) allNil))) allNil), eNil⟩
def drive_Holds_run {R : Type} (N : Nat) (args : List SV) (T : Tab) (kf : SV × Tab → Option R) : Option R :=
  drive_Holds_m N (Cod.dec api_EscalatorC (lget (toCs (lget args 0)))) (Cod.dec api_StopC (lget (toCs (lget args 1)))) (fun q0 q1 => kf (lget [.tup [.bool q0, .int .i64 q1]] 0, []))
def drive_Holds_lp {R : Type} (N : Nat) : Lp R := fun body S k => Option.none
noncomputable def drive_Holds_go {R : Type} (N : Nat) (args : List SV) (T : Tab) (kf : SV × Tab → Option R) : Option R :=
  drive_Holds N (Cod.dec api_EscalatorC (lget (toCs (lget args 0)))) (Cod.dec api_StopC (lget (toCs (lget args 1)))) (fun q0 q1 => kf (lget [.tup [.bool q0, .int .i64 q1]] 0, []))
noncomputable def drive_Holds_cal {R : Type} (N : Nat) : Cal R := callM (newelref01_Back_cal N) 25 0 drive_Holds_sp (drive_Holds_go N)
theorem drive_Holds_cal_ok {R : Type} (N : Nat) : CalOk E.P (drive_Holds_cal (R := R) N) :=
  callM_ok hE (newelref01_Back_cal_ok N) (lp := drive_Holds_lp N) (jn := noJn) (keys := []) kNil (by kernel_rfl) (js := []) jNil (by kernel_rfl) drive_Holds_sp_ok drive_Holds_rs_ok (fun args T kf => Eq.trans (drive_Holds_def N (Cod.dec api_EscalatorC (lget (toCs (lget args 0)))) (Cod.dec api_StopC (lget (toCs (lget args 1)))) (fun q0 q1 => kf (lget [.tup [.bool q0, .int .i64 q1]] 0, []))) (by kernel_rfl : drive_Holds_run N args T kf = fnM E (newelref01_Back_cal N) (drive_Holds_lp N) (noJn) 25 (drive_Holds_sp.vs args) (drive_Holds_sp.tab T) 0 (resK drive_Holds_rs kf)))


def newelref01_Holds_m {R : Type} (N : Nat) (a260 : api_Escalator) (a261 : api_Stop) (k : Bool → Int → Option R) : Option R :=
  newelref01_CheckStop N a260 a261 (fun r262 =>
  bif r262 != (0 : Int) then
   k false r262
  else
   newelref01_Grip N a260 a261 (20 : Int) (fun r263 =>
   k (decide (w64 (api_Escalator.Pull a260 * api_Span.High (api_Stop.Loads a261)) ≤ w64 (api_Escalator.Drag a260 + r263))) (0 : Int)))
noncomputable def newelref01_Holds {R : Type} : Nat → api_Escalator → api_Stop → (Bool → Int → Option R) → Option R := lock (@newelref01_Holds_m R)
theorem newelref01_Holds_def {R : Type} (N : Nat) (a260 : api_Escalator) (a261 : api_Stop) (k : Bool → Int → Option R) : newelref01_Holds N a260 a261 k = newelref01_Holds_m N a260 a261 k := by unfold newelref01_Holds; rw [lock_eq]
def newelref01_Holds_sp : Sp := ⟨[rAgg api_EscalatorC, rAgg api_StopC], []⟩
theorem newelref01_Holds_sp_ok : newelref01_Holds_sp.Ok := ⟨(allCons (rAgg_ok api_EscalatorC_ok api_EscalatorC_len) (allCons (rAgg_ok api_StopC_ok api_StopC_len) allNil)), eNil⟩
def newelref01_Holds_rs : Sp := ⟨[rTup [rBool, rInt .i64]], []⟩
theorem newelref01_Holds_rs_ok : newelref01_Holds_rs.Ok := ⟨(allCons (rTup_ok (allCons rBool_ok (allCons (rInt_ok .i64) allNil))) allNil), eNil⟩
def newelref01_Holds_run {R : Type} (N : Nat) (args : List SV) (T : Tab) (kf : SV × Tab → Option R) : Option R :=
  newelref01_Holds_m N (Cod.dec api_EscalatorC (lget (toCs (lget args 0)))) (Cod.dec api_StopC (lget (toCs (lget args 1)))) (fun q0 q1 => kf (lget [.tup [.bool q0, .int .i64 q1]] 0, []))
def newelref01_Holds_lp {R : Type} (N : Nat) : Lp R := fun body S k => Option.none
noncomputable def newelref01_Holds_go {R : Type} (N : Nat) (args : List SV) (T : Tab) (kf : SV × Tab → Option R) : Option R :=
  newelref01_Holds N (Cod.dec api_EscalatorC (lget (toCs (lget args 0)))) (Cod.dec api_StopC (lget (toCs (lget args 1)))) (fun q0 q1 => kf (lget [.tup [.bool q0, .int .i64 q1]] 0, []))
noncomputable def newelref01_Holds_cal {R : Type} (N : Nat) : Cal R := callM (drive_Holds_cal N) 26 0 newelref01_Holds_sp (newelref01_Holds_go N)
theorem newelref01_Holds_cal_ok {R : Type} (N : Nat) : CalOk E.P (newelref01_Holds_cal (R := R) N) :=
  callM_ok hE (drive_Holds_cal_ok N) (lp := newelref01_Holds_lp N) (jn := noJn) (keys := []) kNil (by kernel_rfl) (js := []) jNil (by kernel_rfl) newelref01_Holds_sp_ok newelref01_Holds_rs_ok (fun args T kf => Eq.trans (newelref01_Holds_def N (Cod.dec api_EscalatorC (lget (toCs (lget args 0)))) (Cod.dec api_StopC (lget (toCs (lget args 1)))) (fun q0 q1 => kf (lget [.tup [.bool q0, .int .i64 q1]] 0, []))) (by kernel_rfl : newelref01_Holds_run N args T kf = fnM E (drive_Holds_cal N) (newelref01_Holds_lp N) (noJn) 26 (newelref01_Holds_sp.vs args) (newelref01_Holds_sp.tab T) 0 (resK newelref01_Holds_rs kf)))


def drive_Step_m {R : Type} (N : Nat) (a264 : api_Escalator) (a265 : Int) (a266 : Int) (a267 : Int) (k : Int → Int → Option R) : Option R :=
  drive_Check N a264 (fun r268 =>
  bif r268 != (0 : Int) then
   k (0 : Int) r268
  else
   drive_in N a265 (api_Span.mk (-10000000 : Int) (10000000 : Int)) (fun r269 =>
   bif !r269 then
    k (0 : Int) (1 : Int)
   else
    drive_to N (100000 : Int) (fun r270 =>
    drive_in N a266 r270 (fun r271 =>
    bif !r271 then
     k (0 : Int) (1 : Int)
    else
     drive_to N (30000000 : Int) (fun r272 =>
     drive_in N a267 r272 (fun r273 =>
     bif !r273 then
      k (0 : Int) (1 : Int)
     else
      drive_tick N a264 a265 a266 a267 (fun r274 =>
      k r274 (0 : Int))))))))
noncomputable def drive_Step {R : Type} : Nat → api_Escalator → Int → Int → Int → (Int → Int → Option R) → Option R := lock (@drive_Step_m R)
theorem drive_Step_def {R : Type} (N : Nat) (a264 : api_Escalator) (a265 : Int) (a266 : Int) (a267 : Int) (k : Int → Int → Option R) : drive_Step N a264 a265 a266 a267 k = drive_Step_m N a264 a265 a266 a267 k := by unfold drive_Step; rw [lock_eq]
def drive_Step_sp : Sp := ⟨[rAgg api_EscalatorC, rInt .i64, rInt .i64, rInt .i64], []⟩
theorem drive_Step_sp_ok : drive_Step_sp.Ok := ⟨(allCons (rAgg_ok api_EscalatorC_ok api_EscalatorC_len) (allCons (rInt_ok .i64) (allCons (rInt_ok .i64) (allCons (rInt_ok .i64) allNil)))), eNil⟩
def drive_Step_rs : Sp := ⟨[rTup [rInt .i64, rInt .i64]], []⟩
theorem drive_Step_rs_ok : drive_Step_rs.Ok := ⟨(allCons (rTup_ok (allCons (rInt_ok .i64) (allCons (rInt_ok .i64) allNil))) allNil), eNil⟩
def drive_Step_run {R : Type} (N : Nat) (args : List SV) (T : Tab) (kf : SV × Tab → Option R) : Option R :=
  drive_Step_m N (Cod.dec api_EscalatorC (lget (toCs (lget args 0)))) (toI (lget args 1)) (toI (lget args 2)) (toI (lget args 3)) (fun q0 q1 => kf (lget [.tup [.int .i64 q0, .int .i64 q1]] 0, []))
def drive_Step_lp {R : Type} (N : Nat) : Lp R := fun body S k => Option.none
noncomputable def drive_Step_go {R : Type} (N : Nat) (args : List SV) (T : Tab) (kf : SV × Tab → Option R) : Option R :=
  drive_Step N (Cod.dec api_EscalatorC (lget (toCs (lget args 0)))) (toI (lget args 1)) (toI (lget args 2)) (toI (lget args 3)) (fun q0 q1 => kf (lget [.tup [.int .i64 q0, .int .i64 q1]] 0, []))
noncomputable def drive_Step_cal {R : Type} (N : Nat) : Cal R := callM (newelref01_Holds_cal N) 28 0 drive_Step_sp (drive_Step_go N)
theorem drive_Step_cal_ok {R : Type} (N : Nat) : CalOk E.P (drive_Step_cal (R := R) N) :=
  callM_ok hE (newelref01_Holds_cal_ok N) (lp := drive_Step_lp N) (jn := noJn) (keys := []) kNil (by kernel_rfl) (js := []) jNil (by kernel_rfl) drive_Step_sp_ok drive_Step_rs_ok (fun args T kf => Eq.trans (drive_Step_def N (Cod.dec api_EscalatorC (lget (toCs (lget args 0)))) (toI (lget args 1)) (toI (lget args 2)) (toI (lget args 3)) (fun q0 q1 => kf (lget [.tup [.int .i64 q0, .int .i64 q1]] 0, []))) (by kernel_rfl : drive_Step_run N args T kf = fnM E (newelref01_Holds_cal N) (drive_Step_lp N) (noJn) 28 (drive_Step_sp.vs args) (drive_Step_sp.tab T) 0 (resK drive_Step_rs kf)))

def drive_Fastest_L7 : LoopSp := ⟨⟨[2, 3, 4, 9, 10], ⟨(dr 2 ((rInt .i64) :: (rPtr 0 0) :: (rPtr 1 0) :: (dr 4 ((rInt .i64) :: (rInt .i64) :: (dr 37 []))))), [(0, eBlkC api_EscalatorC), (1, eBlkC api_StopC)]⟩, 2⟩, [(some 0, ⟨[9], ⟨(dr 9 ((rInt .i64) :: (dr 38 []))), []⟩, 0⟩)]⟩
theorem drive_Fastest_L7_ok : drive_Fastest_L7.Ok := ⟨⟨(drCons 2 (allCons (rInt_ok .i64) (allCons (rPtr_ok 0 0) (allCons (rPtr_ok 1 0) (drCons 4 (allCons (rInt_ok .i64) (allCons (rInt_ok .i64) (drCons 37 allNil)))))))), (eCons (eBlkC_ok api_EscalatorC_ok api_EscalatorC_len) (eCons (eBlkC_ok api_StopC_ok api_StopC_len) eNil))⟩, (xCons ⟨(drCons 9 (allCons (rInt_ok .i64) (drCons 38 allNil))), eNil⟩ xNil)⟩
def drive_Fastest_h7 (v281 : Int) (v282 : Int) (v283 : Int) (v284 : api_Escalator) (v285 : api_Stop) : St := ⟨(un 2 ((.int .i64 v281) :: (.ptr 0 0) :: (.ptr 1 0) :: (un 4 ((.int .i64 v282) :: (.int .i64 v283) :: (un 37 []))))), [(0, .blk (Cod.enc api_EscalatorC v284)), (1, .blk (Cod.enc api_StopC v285))], 2⟩
def drive_Fastest_x7_0 (q0 : Int) : St := ⟨(un 9 ((.int .i64 q0) :: (un 38 []))), [], 0⟩
def drive_Fastest_b7 {R : Type} (N : Nat) (rc : Int → Int → Int → api_Escalator → api_Stop → Option R) (v281 : Int) (v282 : Int) (v283 : Int) (v284 : api_Escalator) (v285 : api_Stop) (k0 : Int → Option R) : Option R :=
  bif decide (v282 < v283) then
   drive_run N v284 (api_Stop.mk (w64 (Int.tdiv (w64 (w64 (v282 + v283) + (1 : Int))) (2 : Int))) (api_Stop.Loads v285) (api_Stop.Fail v285)) true (fun r286 r287 r288 r289 =>
   bif r287 then
    bif decide (r286 ≤ v281) then
     rc v281 (w64 (Int.tdiv (w64 (w64 (v282 + v283) + (1 : Int))) (2 : Int))) v283 v284 (api_Stop.mk (w64 (Int.tdiv (w64 (w64 (v282 + v283) + (1 : Int))) (2 : Int))) (api_Stop.Loads v285) (api_Stop.Fail v285))
    else
     rc v281 v282 (w64 (w64 (Int.tdiv (w64 (w64 (v282 + v283) + (1 : Int))) (2 : Int)) - (1 : Int))) v284 (api_Stop.mk (w64 (Int.tdiv (w64 (w64 (v282 + v283) + (1 : Int))) (2 : Int))) (api_Stop.Loads v285) (api_Stop.Fail v285))
   else
    rc v281 v282 (w64 (w64 (Int.tdiv (w64 (w64 (v282 + v283) + (1 : Int))) (2 : Int)) - (1 : Int))) v284 (api_Stop.mk (w64 (Int.tdiv (w64 (w64 (v282 + v283) + (1 : Int))) (2 : Int))) (api_Stop.Loads v285) (api_Stop.Fail v285)))
  else
   k0 v282
def drive_Fastest_l7 {R : Type} (N : Nat) : Nat → Int → Int → Int → api_Escalator → api_Stop → (Int → Option R) → Option R
  | 0, _, _, _, _, _, _ => Option.none
  | n + 1, v281, v282, v283, v284, v285, k0 => drive_Fastest_b7 N (fun v281 v282 v283 v284 v285 => drive_Fastest_l7 N n v281 v282 v283 v284 v285 k0) v281 v282 v283 v284 v285 k0


def drive_Fastest_m {R : Type} (N : Nat) (a275 : api_Escalator) (a276 : api_Stop) (a277 : Int) (k : Int → Int → Option R) : Option R :=
  drive_checkStop N a275 a276 (fun r278 =>
  bif r278 != (0 : Int) then
   k (0 : Int) r278
  else
   drive_to N (10000000 : Int) (fun r279 =>
   drive_in N a277 r279 (fun r280 =>
   bif !r280 then
    k (0 : Int) (1 : Int)
   else
    drive_Fastest_l7 N N a277 (0 : Int) (1000 : Int) a275 a276 (fun r290 =>
     k r290 (0 : Int)))))
noncomputable def drive_Fastest {R : Type} : Nat → api_Escalator → api_Stop → Int → (Int → Int → Option R) → Option R := lock (@drive_Fastest_m R)
theorem drive_Fastest_def {R : Type} (N : Nat) (a275 : api_Escalator) (a276 : api_Stop) (a277 : Int) (k : Int → Int → Option R) : drive_Fastest N a275 a276 a277 k = drive_Fastest_m N a275 a276 a277 k := by unfold drive_Fastest; rw [lock_eq]
def drive_Fastest_sp : Sp := ⟨[rAgg api_EscalatorC, rAgg api_StopC, rInt .i64], []⟩
theorem drive_Fastest_sp_ok : drive_Fastest_sp.Ok := ⟨(allCons (rAgg_ok api_EscalatorC_ok api_EscalatorC_len) (allCons (rAgg_ok api_StopC_ok api_StopC_len) (allCons (rInt_ok .i64) allNil))), eNil⟩
def drive_Fastest_rs : Sp := ⟨[rTup [rInt .i64, rInt .i64]], []⟩
theorem drive_Fastest_rs_ok : drive_Fastest_rs.Ok := ⟨(allCons (rTup_ok (allCons (rInt_ok .i64) (allCons (rInt_ok .i64) allNil))) allNil), eNil⟩
def drive_Fastest_run {R : Type} (N : Nat) (args : List SV) (T : Tab) (kf : SV × Tab → Option R) : Option R :=
  drive_Fastest_m N (Cod.dec api_EscalatorC (lget (toCs (lget args 0)))) (Cod.dec api_StopC (lget (toCs (lget args 1)))) (toI (lget args 2)) (fun q0 q1 => kf (lget [.tup [.int .i64 q0, .int .i64 q1]] 0, []))
def drive_Fastest_d7 {R : Type} (N : Nat) (S0 : St) (k : Exit → St → Option R) : Option R :=
  drive_Fastest_l7 N N (toI (lget S0.tmps 2)) (toI (lget S0.tmps 9)) (toI (lget S0.tmps 10)) (Cod.dec api_EscalatorC (lget (entCs (entAt S0.tab 0)))) (Cod.dec api_StopC (lget (entCs (entAt S0.tab 1)))) (fun q0 => k (.exit 0) (drive_Fastest_x7_0 q0))
def drive_Fastest_lp {R : Type} (N : Nat) : Lp R := fun body S k => bif (Go.Sx.keyOf body).getD 0 == 7 then drive_Fastest_L7.head.raw 0 S (fun S0 => drive_Fastest_d7 N S0 k) else Option.none
theorem drive_Fastest_l7_eq {R : Type} (N : Nat) (k : Exit → St → Option R) (n : Nat) : ∀ (v0 : Int) (v1 : Int) (v2 : Int) (v3 : api_Escalator) (v4 : api_Stop), loopM E.Θ (drive_Step_cal N) (drive_Fastest_lp N) (noJn) 0 drive_Fastest_L7 (bodyAt E 29 7) n (drive_Fastest_h7 v0 v1 v2 v3 v4) k = drive_Fastest_l7 N n v0 v1 v2 v3 v4 (fun q0 => k (.exit 0) (drive_Fastest_x7_0 q0)) := by
  induction n with
  | zero => intro v0 v1 v2 v3 v4; rfl
  | succ n ih =>
    intro v0 v1 v2 v3 v4
    refine Eq.trans (b := drive_Fastest_b7 N (fun v0 v1 v2 v3 v4 => loopM E.Θ (drive_Step_cal N) (drive_Fastest_lp N) (noJn) 0 drive_Fastest_L7 (bodyAt E 29 7) n (drive_Fastest_h7 v0 v1 v2 v3 v4) k) v0 v1 v2 v3 v4 (fun q0 => k (.exit 0) (drive_Fastest_x7_0 q0))) (by kernel_rfl) ?_
    have h : (fun (v0 : Int) (v1 : Int) (v2 : Int) (v3 : api_Escalator) (v4 : api_Stop) => loopM E.Θ (drive_Step_cal N) (drive_Fastest_lp N) (noJn) 0 drive_Fastest_L7 (bodyAt E 29 7) n (drive_Fastest_h7 v0 v1 v2 v3 v4) k) = (fun (v0 : Int) (v1 : Int) (v2 : Int) (v3 : api_Escalator) (v4 : api_Stop) => drive_Fastest_l7 N n v0 v1 v2 v3 v4 (fun q0 => k (.exit 0) (drive_Fastest_x7_0 q0))) := funext fun v0 => funext fun v1 => funext fun v2 => funext fun v3 => funext fun v4 => ih v0 v1 v2 v3 v4
    rw [h]
    rfl
theorem drive_Fastest_k7 {R : Type} (N : Nat) : LpKey (R := R) E 29 0 (drive_Fastest_lp N) 7 :=
  lpKey_of hE (drive_Step_cal_ok N) (jn := noJn) drive_Fastest_L7_ok [] kNil (by kernel_rfl) [] jNil (by kernel_rfl) N fun S k =>
    Eq.trans (b := drive_Fastest_L7.head.raw 0 S (fun S0 => drive_Fastest_d7 N S0 k)) (by kernel_rfl) (congrArg (drive_Fastest_L7.head.raw 0 S) (funext fun S0 => Eq.trans (drive_Fastest_l7_eq N k N (toI (lget S0.tmps 2)) (toI (lget S0.tmps 9)) (toI (lget S0.tmps 10)) (Cod.dec api_EscalatorC (lget (entCs (entAt S0.tab 0)))) (Cod.dec api_StopC (lget (entCs (entAt S0.tab 1))))).symm (by kernel_rfl)))
noncomputable def drive_Fastest_go {R : Type} (N : Nat) (args : List SV) (T : Tab) (kf : SV × Tab → Option R) : Option R :=
  drive_Fastest N (Cod.dec api_EscalatorC (lget (toCs (lget args 0)))) (Cod.dec api_StopC (lget (toCs (lget args 1)))) (toI (lget args 2)) (fun q0 q1 => kf (lget [.tup [.int .i64 q0, .int .i64 q1]] 0, []))
noncomputable def drive_Fastest_cal {R : Type} (N : Nat) : Cal R := callM (drive_Step_cal N) 29 0 drive_Fastest_sp (drive_Fastest_go N)
theorem drive_Fastest_cal_ok {R : Type} (N : Nat) : CalOk E.P (drive_Fastest_cal (R := R) N) :=
  callM_ok hE (drive_Step_cal_ok N) (lp := drive_Fastest_lp N) (jn := noJn) (keys := [7]) (kCons (drive_Fastest_k7 N) kNil) (by kernel_rfl) (js := []) jNil (by kernel_rfl) drive_Fastest_sp_ok drive_Fastest_rs_ok (fun args T kf => Eq.trans (drive_Fastest_def N (Cod.dec api_EscalatorC (lget (toCs (lget args 0)))) (Cod.dec api_StopC (lget (toCs (lget args 1)))) (toI (lget args 2)) (fun q0 q1 => kf (lget [.tup [.int .i64 q0, .int .i64 q1]] 0, []))) (by kernel_rfl : drive_Fastest_run N args T kf = fnM E (drive_Step_cal N) (drive_Fastest_lp N) (noJn) 29 (drive_Fastest_sp.vs args) (drive_Fastest_sp.tab T) 0 (resK drive_Fastest_rs kf)))


def drive_Play_1_m {R : Type} (N : Nat) (a312 : Int) (a313 : Int) (a314 : Int) (a315 : Int) (a316 : Int) (k : Bool → Option R) : Option R :=
  drive_in N a312 (api_Span.mk a314 a315) (fun r317 =>
  k !r317)
noncomputable def drive_Play_1 {R : Type} : Nat → Int → Int → Int → Int → Int → (Bool → Option R) → Option R := lock (@drive_Play_1_m R)
theorem drive_Play_1_def {R : Type} (N : Nat) (a312 : Int) (a313 : Int) (a314 : Int) (a315 : Int) (a316 : Int) (k : Bool → Option R) : drive_Play_1 N a312 a313 a314 a315 a316 k = drive_Play_1_m N a312 a313 a314 a315 a316 k := by unfold drive_Play_1; rw [lock_eq]
def drive_Play_1_sp : Sp := ⟨[rInt .i64, rPtr 0 0], [(0, eBlk [rInt .i64, rInt .i64, rInt .i64, rInt .i64])]⟩
theorem drive_Play_1_sp_ok : drive_Play_1_sp.Ok := ⟨(allCons (rInt_ok .i64) (allCons (rPtr_ok 0 0) allNil)), (eCons (eBlk_ok (allCons (rInt_ok .i64) (allCons (rInt_ok .i64) (allCons (rInt_ok .i64) (allCons (rInt_ok .i64) allNil))))) eNil)⟩
def drive_Play_1_rs : Sp := ⟨[rBool], [(0, eBlk [rInt .i64, rInt .i64, rInt .i64, rInt .i64])]⟩
theorem drive_Play_1_rs_ok : drive_Play_1_rs.Ok := ⟨(allCons rBool_ok allNil), (eCons (eBlk_ok (allCons (rInt_ok .i64) (allCons (rInt_ok .i64) (allCons (rInt_ok .i64) (allCons (rInt_ok .i64) allNil))))) eNil)⟩
def drive_Play_1_run {R : Type} (N : Nat) (args : List SV) (T : Tab) (kf : SV × Tab → Option R) : Option R :=
  drive_Play_1_m N (toI (lget args 0)) (toI (lget (entCs (entAt T 0)) 0)) (toI (lget (entCs (entAt T 0)) 1)) (toI (lget (entCs (entAt T 0)) 2)) (toI (lget (entCs (entAt T 0)) 3)) (fun q0 => kf (lget [.bool q0] 0, [(0, .blk [.int .i64 (toI (lget (entCs (entAt T 0)) 0)), .int .i64 (toI (lget (entCs (entAt T 0)) 1)), .int .i64 (toI (lget (entCs (entAt T 0)) 2)), .int .i64 (toI (lget (entCs (entAt T 0)) 3))])]))
def drive_Play_1_lp {R : Type} (N : Nat) : Lp R := fun body S k => Option.none
noncomputable def drive_Play_1_go {R : Type} (N : Nat) (args : List SV) (T : Tab) (kf : SV × Tab → Option R) : Option R :=
  drive_Play_1 N (toI (lget args 0)) (toI (lget (entCs (entAt T 0)) 0)) (toI (lget (entCs (entAt T 0)) 1)) (toI (lget (entCs (entAt T 0)) 2)) (toI (lget (entCs (entAt T 0)) 3)) (fun q0 => kf (lget [.bool q0] 0, [(0, .blk [.int .i64 (toI (lget (entCs (entAt T 0)) 0)), .int .i64 (toI (lget (entCs (entAt T 0)) 1)), .int .i64 (toI (lget (entCs (entAt T 0)) 2)), .int .i64 (toI (lget (entCs (entAt T 0)) 3))])]))
noncomputable def drive_Play_1_cal {R : Type} (N : Nat) : Cal R := callM (drive_Fastest_cal N) 56 1 drive_Play_1_sp (drive_Play_1_go N)
theorem drive_Play_1_cal_ok {R : Type} (N : Nat) : CalOk E.P (drive_Play_1_cal (R := R) N) :=
  callM_ok hE (drive_Fastest_cal_ok N) (lp := drive_Play_1_lp N) (jn := noJn) (keys := []) kNil (by kernel_rfl) (js := []) jNil (by kernel_rfl) drive_Play_1_sp_ok drive_Play_1_rs_ok (fun args T kf => Eq.trans (drive_Play_1_def N (toI (lget args 0)) (toI (lget (entCs (entAt T 0)) 0)) (toI (lget (entCs (entAt T 0)) 1)) (toI (lget (entCs (entAt T 0)) 2)) (toI (lget (entCs (entAt T 0)) 3)) (fun q0 => kf (lget [.bool q0] 0, [(0, .blk [.int .i64 (toI (lget (entCs (entAt T 0)) 0)), .int .i64 (toI (lget (entCs (entAt T 0)) 1)), .int .i64 (toI (lget (entCs (entAt T 0)) 2)), .int .i64 (toI (lget (entCs (entAt T 0)) 3))])]))) (by kernel_rfl : drive_Play_1_run N args T kf = fnM E (drive_Fastest_cal N) (drive_Play_1_lp N) (noJn) 56 (drive_Play_1_sp.vs args) (drive_Play_1_sp.tab T) 1 (resK drive_Play_1_rs kf)))

def slices_IndexFunc___int_int__L2 : LoopSp := ⟨⟨[0, 1, 7, 8], ⟨((rSl intC) :: (rFunc 56 0 [rPtr 0 0]) :: (dr 5 ((rInt .i64) :: (rInt .i64) :: (dr 10 [])))), [(0, eBlk [rInt .i64, rInt .i64, rInt .i64, rInt .i64])]⟩, 1⟩, [(Option.none, ⟨[4], ⟨(dr 4 ((rInt .i64) :: (dr 14 []))), [(0, eBlk [rInt .i64, rInt .i64, rInt .i64, rInt .i64])]⟩, 1⟩), (some 0, ⟨[], ⟨(dr 19 []), [(0, eBlk [rInt .i64, rInt .i64, rInt .i64, rInt .i64])]⟩, 1⟩)]⟩
theorem slices_IndexFunc___int_int__L2_ok : slices_IndexFunc___int_int__L2.Ok := ⟨⟨(allCons (rSl_ok intC_ok) (allCons (rFunc_ok 56 0 (allCons (rPtr_ok 0 0) allNil)) (drCons 5 (allCons (rInt_ok .i64) (allCons (rInt_ok .i64) (drCons 10 allNil)))))), (eCons (eBlk_ok (allCons (rInt_ok .i64) (allCons (rInt_ok .i64) (allCons (rInt_ok .i64) (allCons (rInt_ok .i64) allNil))))) eNil)⟩, (xCons ⟨(drCons 4 (allCons (rInt_ok .i64) (drCons 14 allNil))), (eCons (eBlk_ok (allCons (rInt_ok .i64) (allCons (rInt_ok .i64) (allCons (rInt_ok .i64) (allCons (rInt_ok .i64) allNil))))) eNil)⟩ (xCons ⟨(drCons 19 allNil), (eCons (eBlk_ok (allCons (rInt_ok .i64) (allCons (rInt_ok .i64) (allCons (rInt_ok .i64) (allCons (rInt_ok .i64) allNil))))) eNil)⟩ xNil))⟩
def slices_IndexFunc___int_int__h2 (v305 : Arr Int) (v306 : Int) (v307 : Int) (v308 : Int) (v309 : Int) (v310 : Int) (v311 : Int) : St := ⟨((slC intC v305) :: (.func 56 0 [.ptr 0 0]) :: (un 5 ((.int .i64 v306) :: (.int .i64 v307) :: (un 10 [])))), [(0, .blk [.int .i64 v308, .int .i64 v309, .int .i64 v310, .int .i64 v311])], 1⟩
def slices_IndexFunc___int_int__x2_r (v308 : Int) (v309 : Int) (v310 : Int) (v311 : Int) (q0 : Int) : St := ⟨(un 4 ((.int .i64 q0) :: (un 14 []))), [(0, .blk [.int .i64 v308, .int .i64 v309, .int .i64 v310, .int .i64 v311])], 1⟩
def slices_IndexFunc___int_int__x2_0 (v308 : Int) (v309 : Int) (v310 : Int) (v311 : Int) : St := ⟨(un 19 []), [(0, .blk [.int .i64 v308, .int .i64 v309, .int .i64 v310, .int .i64 v311])], 1⟩
def slices_IndexFunc___int_int__b2 {R : Type} (N : Nat) (rc : Arr Int → Int → Int → Int → Int → Int → Int → Option R) (v305 : Arr Int) (v306 : Int) (v307 : Int) (v308 : Int) (v309 : Int) (v310 : Int) (v311 : Int) (kr : Int → Option R) (k0 : Unit → Option R) : Option R :=
  bif decide (v307 < v306) then
   bif decide ((0 : Int) ≤ v307) && decide (v307 < (↑(Arr.n v305) : Int)) then
    drive_Play_1 N (Arr.f v305 (Int.toNat v307)) v308 v309 v310 v311 (fun r318 =>
    bif r318 then
     kr v307
    else
     rc v305 v306 (w64 (v307 + (1 : Int))) v308 v309 v310 v311)
   else
    Option.none
  else
   k0 ()
def slices_IndexFunc___int_int__l2 {R : Type} (N : Nat) : Nat → Arr Int → Int → Int → Int → Int → Int → Int → (Int → Option R) → (Unit → Option R) → Option R
  | 0, _, _, _, _, _, _, _, _, _ => Option.none
  | n + 1, v305, v306, v307, v308, v309, v310, v311, kr, k0 => slices_IndexFunc___int_int__b2 N (fun v305 v306 v307 v308 v309 v310 v311 => slices_IndexFunc___int_int__l2 N n v305 v306 v307 v308 v309 v310 v311 kr k0) v305 v306 v307 v308 v309 v310 v311 kr k0


def slices_IndexFunc___int_int__m {R : Type} (N : Nat) (a300 : Arr Int) (a301 : Int) (a302 : Int) (a303 : Int) (a304 : Int) (k : Int → Option R) : Option R :=
  slices_IndexFunc___int_int__l2 N N a300 ((↑(Arr.n a300) : Int)) (0 : Int) a301 a302 a303 a304 (fun r319 =>
   k r319) (fun (_ : Unit) =>
   k (-1 : Int))
noncomputable def slices_IndexFunc___int_int_ {R : Type} : Nat → Arr Int → Int → Int → Int → Int → (Int → Option R) → Option R := lock (@slices_IndexFunc___int_int__m R)
theorem slices_IndexFunc___int_int__def {R : Type} (N : Nat) (a300 : Arr Int) (a301 : Int) (a302 : Int) (a303 : Int) (a304 : Int) (k : Int → Option R) : slices_IndexFunc___int_int_ N a300 a301 a302 a303 a304 k = slices_IndexFunc___int_int__m N a300 a301 a302 a303 a304 k := by unfold slices_IndexFunc___int_int_; rw [lock_eq]
def slices_IndexFunc___int_int__sp : Sp := ⟨[rSl intC, rFunc 56 0 [rPtr 0 0]], [(0, eBlk [rInt .i64, rInt .i64, rInt .i64, rInt .i64])]⟩
theorem slices_IndexFunc___int_int__sp_ok : slices_IndexFunc___int_int__sp.Ok := ⟨(allCons (rSl_ok intC_ok) (allCons (rFunc_ok 56 0 (allCons (rPtr_ok 0 0) allNil)) allNil)), (eCons (eBlk_ok (allCons (rInt_ok .i64) (allCons (rInt_ok .i64) (allCons (rInt_ok .i64) (allCons (rInt_ok .i64) allNil))))) eNil)⟩
def slices_IndexFunc___int_int__rs : Sp := ⟨[rInt .i64], [(0, eBlk [rInt .i64, rInt .i64, rInt .i64, rInt .i64])]⟩
theorem slices_IndexFunc___int_int__rs_ok : slices_IndexFunc___int_int__rs.Ok := ⟨(allCons (rInt_ok .i64) allNil), (eCons (eBlk_ok (allCons (rInt_ok .i64) (allCons (rInt_ok .i64) (allCons (rInt_ok .i64) (allCons (rInt_ok .i64) allNil))))) eNil)⟩
def slices_IndexFunc___int_int__run {R : Type} (N : Nat) (args : List SV) (T : Tab) (kf : SV × Tab → Option R) : Option R :=
  slices_IndexFunc___int_int__m N (lstC intC (lget args 0)) (toI (lget (entCs (entAt T 0)) 0)) (toI (lget (entCs (entAt T 0)) 1)) (toI (lget (entCs (entAt T 0)) 2)) (toI (lget (entCs (entAt T 0)) 3)) (fun q0 => kf (lget [.int .i64 q0] 0, [(0, .blk [.int .i64 (toI (lget (entCs (entAt T 0)) 0)), .int .i64 (toI (lget (entCs (entAt T 0)) 1)), .int .i64 (toI (lget (entCs (entAt T 0)) 2)), .int .i64 (toI (lget (entCs (entAt T 0)) 3))])]))
def slices_IndexFunc___int_int__d2 {R : Type} (N : Nat) (S0 : St) (k : Exit → St → Option R) : Option R :=
  slices_IndexFunc___int_int__l2 N N (lstC intC (lget S0.tmps 0)) (toI (lget S0.tmps 7)) (toI (lget S0.tmps 8)) (toI (lget (entCs (entAt S0.tab 0)) 0)) (toI (lget (entCs (entAt S0.tab 0)) 1)) (toI (lget (entCs (entAt S0.tab 0)) 2)) (toI (lget (entCs (entAt S0.tab 0)) 3)) (fun q0 => k .ret (slices_IndexFunc___int_int__x2_r (toI (lget (entCs (entAt S0.tab 0)) 0)) (toI (lget (entCs (entAt S0.tab 0)) 1)) (toI (lget (entCs (entAt S0.tab 0)) 2)) (toI (lget (entCs (entAt S0.tab 0)) 3)) q0)) (fun (_ : Unit) => k (.exit 0) (slices_IndexFunc___int_int__x2_0 (toI (lget (entCs (entAt S0.tab 0)) 0)) (toI (lget (entCs (entAt S0.tab 0)) 1)) (toI (lget (entCs (entAt S0.tab 0)) 2)) (toI (lget (entCs (entAt S0.tab 0)) 3))))
def slices_IndexFunc___int_int__lp {R : Type} (N : Nat) : Lp R := fun body S k => bif (Go.Sx.keyOf body).getD 0 == 2 then slices_IndexFunc___int_int__L2.head.raw 1 S (fun S0 => slices_IndexFunc___int_int__d2 N S0 k) else Option.none
theorem slices_IndexFunc___int_int__l2_eq {R : Type} (N : Nat) (k : Exit → St → Option R) (n : Nat) : ∀ (v0 : Arr Int) (v1 : Int) (v2 : Int) (v3 : Int) (v4 : Int) (v5 : Int) (v6 : Int), loopM E.Θ (drive_Play_1_cal N) (slices_IndexFunc___int_int__lp N) (noJn) 1 slices_IndexFunc___int_int__L2 (bodyAt E 65 2) n (slices_IndexFunc___int_int__h2 v0 v1 v2 v3 v4 v5 v6) k = slices_IndexFunc___int_int__l2 N n v0 v1 v2 v3 v4 v5 v6 (fun q0 => k .ret (slices_IndexFunc___int_int__x2_r v3 v4 v5 v6 q0)) (fun (_ : Unit) => k (.exit 0) (slices_IndexFunc___int_int__x2_0 v3 v4 v5 v6)) := by
  induction n with
  | zero => intro v0 v1 v2 v3 v4 v5 v6; rfl
  | succ n ih =>
    intro v0 v1 v2 v3 v4 v5 v6
    refine Eq.trans (b := slices_IndexFunc___int_int__b2 N (fun v0 v1 v2 v3 v4 v5 v6 => loopM E.Θ (drive_Play_1_cal N) (slices_IndexFunc___int_int__lp N) (noJn) 1 slices_IndexFunc___int_int__L2 (bodyAt E 65 2) n (slices_IndexFunc___int_int__h2 v0 v1 v2 v3 v4 v5 v6) k) v0 v1 v2 v3 v4 v5 v6 (fun q0 => k .ret (slices_IndexFunc___int_int__x2_r v3 v4 v5 v6 q0)) (fun (_ : Unit) => k (.exit 0) (slices_IndexFunc___int_int__x2_0 v3 v4 v5 v6))) (by kernel_rfl) ?_
    have h : (fun (v0 : Arr Int) (v1 : Int) (v2 : Int) (v3 : Int) (v4 : Int) (v5 : Int) (v6 : Int) => loopM E.Θ (drive_Play_1_cal N) (slices_IndexFunc___int_int__lp N) (noJn) 1 slices_IndexFunc___int_int__L2 (bodyAt E 65 2) n (slices_IndexFunc___int_int__h2 v0 v1 v2 v3 v4 v5 v6) k) = (fun (v0 : Arr Int) (v1 : Int) (v2 : Int) (v3 : Int) (v4 : Int) (v5 : Int) (v6 : Int) => slices_IndexFunc___int_int__l2 N n v0 v1 v2 v3 v4 v5 v6 (fun q0 => k .ret (slices_IndexFunc___int_int__x2_r v3 v4 v5 v6 q0)) (fun (_ : Unit) => k (.exit 0) (slices_IndexFunc___int_int__x2_0 v3 v4 v5 v6))) := funext fun v0 => funext fun v1 => funext fun v2 => funext fun v3 => funext fun v4 => funext fun v5 => funext fun v6 => ih v0 v1 v2 v3 v4 v5 v6
    rw [h]
    rfl
theorem slices_IndexFunc___int_int__k2 {R : Type} (N : Nat) : LpKey (R := R) E 65 1 (slices_IndexFunc___int_int__lp N) 2 :=
  lpKey_of hE (drive_Play_1_cal_ok N) (jn := noJn) slices_IndexFunc___int_int__L2_ok [] kNil (by kernel_rfl) [] jNil (by kernel_rfl) N fun S k =>
    Eq.trans (b := slices_IndexFunc___int_int__L2.head.raw 1 S (fun S0 => slices_IndexFunc___int_int__d2 N S0 k)) (by kernel_rfl) (congrArg (slices_IndexFunc___int_int__L2.head.raw 1 S) (funext fun S0 => Eq.trans (slices_IndexFunc___int_int__l2_eq N k N (lstC intC (lget S0.tmps 0)) (toI (lget S0.tmps 7)) (toI (lget S0.tmps 8)) (toI (lget (entCs (entAt S0.tab 0)) 0)) (toI (lget (entCs (entAt S0.tab 0)) 1)) (toI (lget (entCs (entAt S0.tab 0)) 2)) (toI (lget (entCs (entAt S0.tab 0)) 3))).symm (by kernel_rfl)))
noncomputable def slices_IndexFunc___int_int__go {R : Type} (N : Nat) (args : List SV) (T : Tab) (kf : SV × Tab → Option R) : Option R :=
  slices_IndexFunc___int_int_ N (lstC intC (lget args 0)) (toI (lget (entCs (entAt T 0)) 0)) (toI (lget (entCs (entAt T 0)) 1)) (toI (lget (entCs (entAt T 0)) 2)) (toI (lget (entCs (entAt T 0)) 3)) (fun q0 => kf (lget [.int .i64 q0] 0, [(0, .blk [.int .i64 (toI (lget (entCs (entAt T 0)) 0)), .int .i64 (toI (lget (entCs (entAt T 0)) 1)), .int .i64 (toI (lget (entCs (entAt T 0)) 2)), .int .i64 (toI (lget (entCs (entAt T 0)) 3))])]))
noncomputable def slices_IndexFunc___int_int__cal {R : Type} (N : Nat) : Cal R := callM (drive_Play_1_cal N) 65 1 slices_IndexFunc___int_int__sp (slices_IndexFunc___int_int__go N)
theorem slices_IndexFunc___int_int__cal_ok {R : Type} (N : Nat) : CalOk E.P (slices_IndexFunc___int_int__cal (R := R) N) :=
  callM_ok hE (drive_Play_1_cal_ok N) (lp := slices_IndexFunc___int_int__lp N) (jn := noJn) (keys := [2]) (kCons (slices_IndexFunc___int_int__k2 N) kNil) (by kernel_rfl) (js := []) jNil (by kernel_rfl) slices_IndexFunc___int_int__sp_ok slices_IndexFunc___int_int__rs_ok (fun args T kf => Eq.trans (slices_IndexFunc___int_int__def N (lstC intC (lget args 0)) (toI (lget (entCs (entAt T 0)) 0)) (toI (lget (entCs (entAt T 0)) 1)) (toI (lget (entCs (entAt T 0)) 2)) (toI (lget (entCs (entAt T 0)) 3)) (fun q0 => kf (lget [.int .i64 q0] 0, [(0, .blk [.int .i64 (toI (lget (entCs (entAt T 0)) 0)), .int .i64 (toI (lget (entCs (entAt T 0)) 1)), .int .i64 (toI (lget (entCs (entAt T 0)) 2)), .int .i64 (toI (lget (entCs (entAt T 0)) 3))])]))) (by kernel_rfl : slices_IndexFunc___int_int__run N args T kf = fnM E (drive_Play_1_cal N) (slices_IndexFunc___int_int__lp N) (noJn) 65 (slices_IndexFunc___int_int__sp.vs args) (slices_IndexFunc___int_int__sp.tab T) 1 (resK slices_IndexFunc___int_int__rs kf)))


def slices_ContainsFunc___int_int__m {R : Type} (N : Nat) (a295 : Arr Int) (a296 : Int) (a297 : Int) (a298 : Int) (a299 : Int) (k : Bool → Option R) : Option R :=
  slices_IndexFunc___int_int_ N a295 a296 a297 a298 a299 (fun r320 =>
  k (decide (r320 ≥ (0 : Int))))
noncomputable def slices_ContainsFunc___int_int_ {R : Type} : Nat → Arr Int → Int → Int → Int → Int → (Bool → Option R) → Option R := lock (@slices_ContainsFunc___int_int__m R)
theorem slices_ContainsFunc___int_int__def {R : Type} (N : Nat) (a295 : Arr Int) (a296 : Int) (a297 : Int) (a298 : Int) (a299 : Int) (k : Bool → Option R) : slices_ContainsFunc___int_int_ N a295 a296 a297 a298 a299 k = slices_ContainsFunc___int_int__m N a295 a296 a297 a298 a299 k := by unfold slices_ContainsFunc___int_int_; rw [lock_eq]
def slices_ContainsFunc___int_int__sp : Sp := ⟨[rSl intC, rFunc 56 0 [rPtr 0 0]], [(0, eBlk [rInt .i64, rInt .i64, rInt .i64, rInt .i64])]⟩
theorem slices_ContainsFunc___int_int__sp_ok : slices_ContainsFunc___int_int__sp.Ok := ⟨(allCons (rSl_ok intC_ok) (allCons (rFunc_ok 56 0 (allCons (rPtr_ok 0 0) allNil)) allNil)), (eCons (eBlk_ok (allCons (rInt_ok .i64) (allCons (rInt_ok .i64) (allCons (rInt_ok .i64) (allCons (rInt_ok .i64) allNil))))) eNil)⟩
def slices_ContainsFunc___int_int__rs : Sp := ⟨[rBool], [(0, eBlk [rInt .i64, rInt .i64, rInt .i64, rInt .i64])]⟩
theorem slices_ContainsFunc___int_int__rs_ok : slices_ContainsFunc___int_int__rs.Ok := ⟨(allCons rBool_ok allNil), (eCons (eBlk_ok (allCons (rInt_ok .i64) (allCons (rInt_ok .i64) (allCons (rInt_ok .i64) (allCons (rInt_ok .i64) allNil))))) eNil)⟩
def slices_ContainsFunc___int_int__run {R : Type} (N : Nat) (args : List SV) (T : Tab) (kf : SV × Tab → Option R) : Option R :=
  slices_ContainsFunc___int_int__m N (lstC intC (lget args 0)) (toI (lget (entCs (entAt T 0)) 0)) (toI (lget (entCs (entAt T 0)) 1)) (toI (lget (entCs (entAt T 0)) 2)) (toI (lget (entCs (entAt T 0)) 3)) (fun q0 => kf (lget [.bool q0] 0, [(0, .blk [.int .i64 (toI (lget (entCs (entAt T 0)) 0)), .int .i64 (toI (lget (entCs (entAt T 0)) 1)), .int .i64 (toI (lget (entCs (entAt T 0)) 2)), .int .i64 (toI (lget (entCs (entAt T 0)) 3))])]))
def slices_ContainsFunc___int_int__lp {R : Type} (N : Nat) : Lp R := fun body S k => Option.none
noncomputable def slices_ContainsFunc___int_int__go {R : Type} (N : Nat) (args : List SV) (T : Tab) (kf : SV × Tab → Option R) : Option R :=
  slices_ContainsFunc___int_int_ N (lstC intC (lget args 0)) (toI (lget (entCs (entAt T 0)) 0)) (toI (lget (entCs (entAt T 0)) 1)) (toI (lget (entCs (entAt T 0)) 2)) (toI (lget (entCs (entAt T 0)) 3)) (fun q0 => kf (lget [.bool q0] 0, [(0, .blk [.int .i64 (toI (lget (entCs (entAt T 0)) 0)), .int .i64 (toI (lget (entCs (entAt T 0)) 1)), .int .i64 (toI (lget (entCs (entAt T 0)) 2)), .int .i64 (toI (lget (entCs (entAt T 0)) 3))])]))
noncomputable def slices_ContainsFunc___int_int__cal {R : Type} (N : Nat) : Cal R := callM (slices_IndexFunc___int_int__cal N) 55 1 slices_ContainsFunc___int_int__sp (slices_ContainsFunc___int_int__go N)
theorem slices_ContainsFunc___int_int__cal_ok {R : Type} (N : Nat) : CalOk E.P (slices_ContainsFunc___int_int__cal (R := R) N) :=
  callM_ok hE (slices_IndexFunc___int_int__cal_ok N) (lp := slices_ContainsFunc___int_int__lp N) (jn := noJn) (keys := []) kNil (by kernel_rfl) (js := []) jNil (by kernel_rfl) slices_ContainsFunc___int_int__sp_ok slices_ContainsFunc___int_int__rs_ok (fun args T kf => Eq.trans (slices_ContainsFunc___int_int__def N (lstC intC (lget args 0)) (toI (lget (entCs (entAt T 0)) 0)) (toI (lget (entCs (entAt T 0)) 1)) (toI (lget (entCs (entAt T 0)) 2)) (toI (lget (entCs (entAt T 0)) 3)) (fun q0 => kf (lget [.bool q0] 0, [(0, .blk [.int .i64 (toI (lget (entCs (entAt T 0)) 0)), .int .i64 (toI (lget (entCs (entAt T 0)) 1)), .int .i64 (toI (lget (entCs (entAt T 0)) 2)), .int .i64 (toI (lget (entCs (entAt T 0)) 3))])]))) (by kernel_rfl : slices_ContainsFunc___int_int__run N args T kf = fnM E (slices_IndexFunc___int_int__cal N) (slices_ContainsFunc___int_int__lp N) (noJn) 55 (slices_ContainsFunc___int_int__sp.vs args) (slices_ContainsFunc___int_int__sp.tab T) 1 (resK slices_ContainsFunc___int_int__rs kf)))

def drive_Play_L9 : LoopSp := ⟨⟨[9, 10, 32, 33, 34], ⟨(dr 9 ((rPtr 0 0) :: (rRow 1) :: (dr 21 ((rSl intC) :: (rInt .i64) :: (rInt .i64) :: (dr 10 []))))), [(0, eBlkC drive_motionC), (1, eRow intC)]⟩, 2⟩, [(some 0, ⟨[10], ⟨(dr 10 ((rRow 0) :: (dr 34 []))), [(0, eRow intC)]⟩, 1⟩)]⟩
theorem drive_Play_L9_ok : drive_Play_L9.Ok := ⟨⟨(drCons 9 (allCons (rPtr_ok 0 0) (allCons (rRow_ok 1) (drCons 21 (allCons (rSl_ok intC_ok) (allCons (rInt_ok .i64) (allCons (rInt_ok .i64) (drCons 10 allNil)))))))), (eCons (eBlkC_ok drive_motionC_ok drive_motionC_len) (eCons (eRow_ok intC_ok) eNil))⟩, (xCons ⟨(drCons 10 (allCons (rRow_ok 0) (drCons 34 allNil))), (eCons (eRow_ok intC_ok) eNil)⟩ xNil)⟩
def drive_Play_h9 (v322 : Arr Int) (v323 : Int) (v324 : Int) (v325 : drive_motion) (v326 : Bool) (v327 : Arr Int) : St := ⟨(un 9 ((.ptr 0 0) :: (.row 1) :: (un 21 ((slC intC v322) :: (.int .i64 v323) :: (.int .i64 v324) :: (un 10 []))))), [(0, .blk (Cod.enc drive_motionC v325)), (1, rowE intC v326 v327)], 2⟩
def drive_Play_x9_0 (q0 : Bool) (q1 : Arr Int) : St := ⟨(un 10 ((.row 0) :: (un 34 []))), [(0, rowE intC q0 q1)], 1⟩
def drive_Play_b9 {R : Type} (N : Nat) (rc : Arr Int → Int → Int → drive_motion → Bool → Arr Int → Option R) (v322 : Arr Int) (v323 : Int) (v324 : Int) (v325 : drive_motion) (v326 : Bool) (v327 : Arr Int) (k0 : Bool → Arr Int → Option R) : Option R :=
  bif decide (v324 < v323) then
   bif decide ((0 : Int) ≤ v324) && decide (v324 < (↑(Arr.n v322) : Int)) then
    drive_motion_with N (Arr.f v322 (Int.toNat v324)) v325 (fun r328 r329 =>
    bif room (Arr.n v327 + (1 : Nat)) then
     rc v322 v323 (w64 (v324 + (1 : Int))) r329 false (lst intC (Arr.n v327 + (1 : Nat)) (catC (Arr.n v327) (Cod.cell intC (Arr.f v327)) (litC [SV.int IntKind.i64 (0 : Int)] [[SV.int IntKind.i64 r328]])))
    else
     Option.none)
   else
    Option.none
  else
   k0 v326 v327
def drive_Play_l9 {R : Type} (N : Nat) : Nat → Arr Int → Int → Int → drive_motion → Bool → Arr Int → (Bool → Arr Int → Option R) → Option R
  | 0, _, _, _, _, _, _, _ => Option.none
  | n + 1, v322, v323, v324, v325, v326, v327, k0 => drive_Play_b9 N (fun v322 v323 v324 v325 v326 v327 => drive_Play_l9 N n v322 v323 v324 v325 v326 v327 k0) v322 v323 v324 v325 v326 v327 k0


def drive_Play_m {R : Type} (N : Nat) (a291 : api_Escalator) (a292 : api_Stop) (a293 : Arr Int) (k : Int → Bool → Arr Int → Option R) : Option R :=
  drive_checkStop N a291 a292 (fun r294 =>
  bif r294 != (0 : Int) then
   k r294 true (lst intC (0 : Nat) (zeroC [SV.int IntKind.i64 (0 : Int)]))
  else
   bif decide ((↑(Arr.n a293) : Int) > (100 : Int)) then
    k (1 : Int) true (lst intC (0 : Nat) (zeroC [SV.int IntKind.i64 (0 : Int)]))
   else
    slices_ContainsFunc___int_int_ N a293 (api_Stop.Speed a292) (api_Span.Low (api_Stop.Loads a292)) (api_Span.High (api_Stop.Loads a292)) (api_Stop.Fail a292) (fun r321 =>
    bif r321 then
     k (1 : Int) true (lst intC (0 : Nat) (zeroC [SV.int IntKind.i64 (0 : Int)]))
    else
     drive_Play_l9 N N a293 ((↑(Arr.n a293) : Int)) (0 : Int) (drive_motion.mk a291 a292 (api_Stop.Speed a292) (0 : Int)) true (lst intC (0 : Nat) (zeroC [SV.int IntKind.i64 (0 : Int)])) (fun r330 r331 =>
      k (0 : Int) r330 r331)))
noncomputable def drive_Play {R : Type} : Nat → api_Escalator → api_Stop → Arr Int → (Int → Bool → Arr Int → Option R) → Option R := lock (@drive_Play_m R)
theorem drive_Play_def {R : Type} (N : Nat) (a291 : api_Escalator) (a292 : api_Stop) (a293 : Arr Int) (k : Int → Bool → Arr Int → Option R) : drive_Play N a291 a292 a293 k = drive_Play_m N a291 a292 a293 k := by unfold drive_Play; rw [lock_eq]
def drive_Play_sp : Sp := ⟨[rAgg api_EscalatorC, rAgg api_StopC, rSl intC], []⟩
theorem drive_Play_sp_ok : drive_Play_sp.Ok := ⟨(allCons (rAgg_ok api_EscalatorC_ok api_EscalatorC_len) (allCons (rAgg_ok api_StopC_ok api_StopC_len) (allCons (rSl_ok intC_ok) allNil))), eNil⟩
def drive_Play_rs : Sp := ⟨[rTup [rRow 0, rInt .i64]], [(0, eRow intC)]⟩
theorem drive_Play_rs_ok : drive_Play_rs.Ok := ⟨(allCons (rTup_ok (allCons (rRow_ok 0) (allCons (rInt_ok .i64) allNil))) allNil), (eCons (eRow_ok intC_ok) eNil)⟩
def drive_Play_run {R : Type} (N : Nat) (args : List SV) (T : Tab) (kf : SV × Tab → Option R) : Option R :=
  drive_Play_m N (Cod.dec api_EscalatorC (lget (toCs (lget args 0)))) (Cod.dec api_StopC (lget (toCs (lget args 1)))) (lstC intC (lget args 2)) (fun q0 q1 q2 => kf (lget [.tup [.row 0, .int .i64 q0]] 0, [(0, rowE intC q1 q2)]))
def drive_Play_d9 {R : Type} (N : Nat) (S0 : St) (k : Exit → St → Option R) : Option R :=
  drive_Play_l9 N N (lstC intC (lget S0.tmps 32)) (toI (lget S0.tmps 33)) (toI (lget S0.tmps 34)) (Cod.dec drive_motionC (lget (entCs (entAt S0.tab 0)))) (entNl (entAt S0.tab 1)) (lst intC (entN (entAt S0.tab 1)) (entC (entAt S0.tab 1))) (fun q0 q1 => k (.exit 0) (drive_Play_x9_0 q0 q1))
def drive_Play_lp {R : Type} (N : Nat) : Lp R := fun body S k => bif (Go.Sx.keyOf body).getD 0 == 9 then drive_Play_L9.head.raw 0 S (fun S0 => drive_Play_d9 N S0 k) else Option.none
theorem drive_Play_l9_eq {R : Type} (N : Nat) (k : Exit → St → Option R) (n : Nat) : ∀ (v0 : Arr Int) (v1 : Int) (v2 : Int) (v3 : drive_motion) (v4 : Bool) (v5 : Arr Int), loopM E.Θ (slices_ContainsFunc___int_int__cal N) (drive_Play_lp N) (noJn) 0 drive_Play_L9 (bodyAt E 30 9) n (drive_Play_h9 v0 v1 v2 v3 v4 v5) k = drive_Play_l9 N n v0 v1 v2 v3 v4 v5 (fun q0 q1 => k (.exit 0) (drive_Play_x9_0 q0 q1)) := by
  induction n with
  | zero => intro v0 v1 v2 v3 v4 v5; rfl
  | succ n ih =>
    intro v0 v1 v2 v3 v4 v5
    refine Eq.trans (b := drive_Play_b9 N (fun v0 v1 v2 v3 v4 v5 => loopM E.Θ (slices_ContainsFunc___int_int__cal N) (drive_Play_lp N) (noJn) 0 drive_Play_L9 (bodyAt E 30 9) n (drive_Play_h9 v0 v1 v2 v3 v4 v5) k) v0 v1 v2 v3 v4 v5 (fun q0 q1 => k (.exit 0) (drive_Play_x9_0 q0 q1))) (by kernel_rfl) ?_
    have h : (fun (v0 : Arr Int) (v1 : Int) (v2 : Int) (v3 : drive_motion) (v4 : Bool) (v5 : Arr Int) => loopM E.Θ (slices_ContainsFunc___int_int__cal N) (drive_Play_lp N) (noJn) 0 drive_Play_L9 (bodyAt E 30 9) n (drive_Play_h9 v0 v1 v2 v3 v4 v5) k) = (fun (v0 : Arr Int) (v1 : Int) (v2 : Int) (v3 : drive_motion) (v4 : Bool) (v5 : Arr Int) => drive_Play_l9 N n v0 v1 v2 v3 v4 v5 (fun q0 q1 => k (.exit 0) (drive_Play_x9_0 q0 q1))) := funext fun v0 => funext fun v1 => funext fun v2 => funext fun v3 => funext fun v4 => funext fun v5 => ih v0 v1 v2 v3 v4 v5
    rw [h]
    rfl
theorem drive_Play_k9 {R : Type} (N : Nat) : LpKey (R := R) E 30 0 (drive_Play_lp N) 9 :=
  lpKey_of hE (slices_ContainsFunc___int_int__cal_ok N) (jn := noJn) drive_Play_L9_ok [] kNil (by kernel_rfl) [] jNil (by kernel_rfl) N fun S k =>
    Eq.trans (b := drive_Play_L9.head.raw 0 S (fun S0 => drive_Play_d9 N S0 k)) (by kernel_rfl) (congrArg (drive_Play_L9.head.raw 0 S) (funext fun S0 => Eq.trans (drive_Play_l9_eq N k N (lstC intC (lget S0.tmps 32)) (toI (lget S0.tmps 33)) (toI (lget S0.tmps 34)) (Cod.dec drive_motionC (lget (entCs (entAt S0.tab 0)))) (entNl (entAt S0.tab 1)) (lst intC (entN (entAt S0.tab 1)) (entC (entAt S0.tab 1)))).symm (by kernel_rfl)))
noncomputable def drive_Play_go {R : Type} (N : Nat) (args : List SV) (T : Tab) (kf : SV × Tab → Option R) : Option R :=
  drive_Play N (Cod.dec api_EscalatorC (lget (toCs (lget args 0)))) (Cod.dec api_StopC (lget (toCs (lget args 1)))) (lstC intC (lget args 2)) (fun q0 q1 q2 => kf (lget [.tup [.row 0, .int .i64 q0]] 0, [(0, rowE intC q1 q2)]))
noncomputable def drive_Play_cal {R : Type} (N : Nat) : Cal R := callM (slices_ContainsFunc___int_int__cal N) 30 0 drive_Play_sp (drive_Play_go N)
theorem drive_Play_cal_ok {R : Type} (N : Nat) : CalOk E.P (drive_Play_cal (R := R) N) :=
  callM_ok hE (slices_ContainsFunc___int_int__cal_ok N) (lp := drive_Play_lp N) (jn := noJn) (keys := [9]) (kCons (drive_Play_k9 N) kNil) (by kernel_rfl) (js := []) jNil (by kernel_rfl) drive_Play_sp_ok drive_Play_rs_ok (fun args T kf => Eq.trans (drive_Play_def N (Cod.dec api_EscalatorC (lget (toCs (lget args 0)))) (Cod.dec api_StopC (lget (toCs (lget args 1)))) (lstC intC (lget args 2)) (fun q0 q1 q2 => kf (lget [.tup [.row 0, .int .i64 q0]] 0, [(0, rowE intC q1 q2)]))) (by kernel_rfl : drive_Play_run N args T kf = fnM E (slices_ContainsFunc___int_int__cal N) (drive_Play_lp N) (noJn) 30 (drive_Play_sp.vs args) (drive_Play_sp.tab T) 0 (resK drive_Play_rs kf)))

def newelref01_History_L2 : LoopSp := ⟨⟨[1, 2, 5], ⟨(dr 1 ((rSl intC) :: (rPtr 0 0) :: (dr 2 ((rInt .i64) :: (dr 21 []))))), [(0, eBlkC api_StopC)]⟩, 1⟩, [(Option.none, ⟨[4], ⟨(dr 4 ((rBool) :: (dr 22 []))), []⟩, 0⟩), (some 0, ⟨[1], ⟨(dr 1 ((rSl intC) :: (dr 25 []))), []⟩, 0⟩)]⟩
theorem newelref01_History_L2_ok : newelref01_History_L2.Ok := ⟨⟨(drCons 1 (allCons (rSl_ok intC_ok) (allCons (rPtr_ok 0 0) (drCons 2 (allCons (rInt_ok .i64) (drCons 21 allNil)))))), (eCons (eBlkC_ok api_StopC_ok api_StopC_len) eNil)⟩, (xCons ⟨(drCons 4 (allCons rBool_ok (drCons 22 allNil))), eNil⟩ (xCons ⟨(drCons 1 (allCons (rSl_ok intC_ok) (drCons 25 allNil))), eNil⟩ xNil))⟩
def newelref01_History_h2 (v338 : Arr Int) (v339 : Int) (v340 : api_Stop) : St := ⟨(un 1 ((slC intC v338) :: (.ptr 0 0) :: (un 2 ((.int .i64 v339) :: (un 21 []))))), [(0, .blk (Cod.enc api_StopC v340))], 1⟩
def newelref01_History_x2_r (q0 : Bool) : St := ⟨(un 4 ((.bool q0) :: (un 22 []))), [], 0⟩
def newelref01_History_x2_0 (v338 : Arr Int) : St := ⟨(un 1 ((slC intC v338) :: (un 25 []))), [], 0⟩
def newelref01_History_b2 {R : Type} (N : Nat) (rc : Arr Int → Int → api_Stop → Option R) (v338 : Arr Int) (v339 : Int) (v340 : api_Stop) (kr : Bool → Option R) (k0 : Unit → Option R) : Option R :=
  bif decide (v339 < (↑(Arr.n v338) : Int)) then
   bif decide ((0 : Int) ≤ v339) && decide (v339 < (↑(Arr.n v338) : Int)) then
    newelref01_within N (Arr.f v338 (Int.toNat v339)) (api_Span.Low (api_Stop.Loads v340)) (api_Span.High (api_Stop.Loads v340)) (fun r341 =>
    bif !r341 then
     kr false
    else
     rc v338 (w64 (v339 + (1 : Int))) v340)
   else
    Option.none
  else
   k0 ()
def newelref01_History_l2 {R : Type} (N : Nat) : Nat → Arr Int → Int → api_Stop → (Bool → Option R) → (Unit → Option R) → Option R
  | 0, _, _, _, _, _ => Option.none
  | n + 1, v338, v339, v340, kr, k0 => newelref01_History_b2 N (fun v338 v339 v340 => newelref01_History_l2 N n v338 v339 v340 kr k0) v338 v339 v340 kr k0


def newelref01_History_m {R : Type} (N : Nat) (a336 : api_Stop) (a337 : Arr Int) (k : Bool → Option R) : Option R :=
  newelref01_History_l2 N N a337 (0 : Int) a336 (fun r342 =>
   k r342) (fun (_ : Unit) =>
   k (decide ((↑(Arr.n a337) : Int) ≤ (100 : Int))))
noncomputable def newelref01_History {R : Type} : Nat → api_Stop → Arr Int → (Bool → Option R) → Option R := lock (@newelref01_History_m R)
theorem newelref01_History_def {R : Type} (N : Nat) (a336 : api_Stop) (a337 : Arr Int) (k : Bool → Option R) : newelref01_History N a336 a337 k = newelref01_History_m N a336 a337 k := by unfold newelref01_History; rw [lock_eq]
def newelref01_History_sp : Sp := ⟨[rAgg api_StopC, rSl intC], []⟩
theorem newelref01_History_sp_ok : newelref01_History_sp.Ok := ⟨(allCons (rAgg_ok api_StopC_ok api_StopC_len) (allCons (rSl_ok intC_ok) allNil)), eNil⟩
def newelref01_History_rs : Sp := ⟨[rBool], []⟩
theorem newelref01_History_rs_ok : newelref01_History_rs.Ok := ⟨(allCons rBool_ok allNil), eNil⟩
def newelref01_History_run {R : Type} (N : Nat) (args : List SV) (T : Tab) (kf : SV × Tab → Option R) : Option R :=
  newelref01_History_m N (Cod.dec api_StopC (lget (toCs (lget args 0)))) (lstC intC (lget args 1)) (fun q0 => kf (lget [.bool q0] 0, []))
def newelref01_History_d2 {R : Type} (N : Nat) (S0 : St) (k : Exit → St → Option R) : Option R :=
  newelref01_History_l2 N N (lstC intC (lget S0.tmps 1)) (toI (lget S0.tmps 5)) (Cod.dec api_StopC (lget (entCs (entAt S0.tab 0)))) (fun q0 => k .ret (newelref01_History_x2_r q0)) (fun (_ : Unit) => k (.exit 0) (newelref01_History_x2_0 (lstC intC (lget S0.tmps 1))))
def newelref01_History_lp {R : Type} (N : Nat) : Lp R := fun body S k => bif (Go.Sx.keyOf body).getD 0 == 2 then newelref01_History_L2.head.raw 0 S (fun S0 => newelref01_History_d2 N S0 k) else Option.none
theorem newelref01_History_l2_eq {R : Type} (N : Nat) (k : Exit → St → Option R) (n : Nat) : ∀ (v0 : Arr Int) (v1 : Int) (v2 : api_Stop), loopM E.Θ (drive_Play_cal N) (newelref01_History_lp N) (noJn) 0 newelref01_History_L2 (bodyAt E 34 2) n (newelref01_History_h2 v0 v1 v2) k = newelref01_History_l2 N n v0 v1 v2 (fun q0 => k .ret (newelref01_History_x2_r q0)) (fun (_ : Unit) => k (.exit 0) (newelref01_History_x2_0 v0)) := by
  induction n with
  | zero => intro v0 v1 v2; rfl
  | succ n ih =>
    intro v0 v1 v2
    refine Eq.trans (b := newelref01_History_b2 N (fun v0 v1 v2 => loopM E.Θ (drive_Play_cal N) (newelref01_History_lp N) (noJn) 0 newelref01_History_L2 (bodyAt E 34 2) n (newelref01_History_h2 v0 v1 v2) k) v0 v1 v2 (fun q0 => k .ret (newelref01_History_x2_r q0)) (fun (_ : Unit) => k (.exit 0) (newelref01_History_x2_0 v0))) (by kernel_rfl) ?_
    have h : (fun (v0 : Arr Int) (v1 : Int) (v2 : api_Stop) => loopM E.Θ (drive_Play_cal N) (newelref01_History_lp N) (noJn) 0 newelref01_History_L2 (bodyAt E 34 2) n (newelref01_History_h2 v0 v1 v2) k) = (fun (v0 : Arr Int) (v1 : Int) (v2 : api_Stop) => newelref01_History_l2 N n v0 v1 v2 (fun q0 => k .ret (newelref01_History_x2_r q0)) (fun (_ : Unit) => k (.exit 0) (newelref01_History_x2_0 v0))) := funext fun v0 => funext fun v1 => funext fun v2 => ih v0 v1 v2
    rw [h]
    rfl
theorem newelref01_History_k2 {R : Type} (N : Nat) : LpKey (R := R) E 34 0 (newelref01_History_lp N) 2 :=
  lpKey_of hE (drive_Play_cal_ok N) (jn := noJn) newelref01_History_L2_ok [] kNil (by kernel_rfl) [] jNil (by kernel_rfl) N fun S k =>
    Eq.trans (b := newelref01_History_L2.head.raw 0 S (fun S0 => newelref01_History_d2 N S0 k)) (by kernel_rfl) (congrArg (newelref01_History_L2.head.raw 0 S) (funext fun S0 => Eq.trans (newelref01_History_l2_eq N k N (lstC intC (lget S0.tmps 1)) (toI (lget S0.tmps 5)) (Cod.dec api_StopC (lget (entCs (entAt S0.tab 0))))).symm (by kernel_rfl)))
noncomputable def newelref01_History_go {R : Type} (N : Nat) (args : List SV) (T : Tab) (kf : SV × Tab → Option R) : Option R :=
  newelref01_History N (Cod.dec api_StopC (lget (toCs (lget args 0)))) (lstC intC (lget args 1)) (fun q0 => kf (lget [.bool q0] 0, []))
noncomputable def newelref01_History_cal {R : Type} (N : Nat) : Cal R := callM (drive_Play_cal N) 34 0 newelref01_History_sp (newelref01_History_go N)
theorem newelref01_History_cal_ok {R : Type} (N : Nat) : CalOk E.P (newelref01_History_cal (R := R) N) :=
  callM_ok hE (drive_Play_cal_ok N) (lp := newelref01_History_lp N) (jn := noJn) (keys := [2]) (kCons (newelref01_History_k2 N) kNil) (by kernel_rfl) (js := []) jNil (by kernel_rfl) newelref01_History_sp_ok newelref01_History_rs_ok (fun args T kf => Eq.trans (newelref01_History_def N (Cod.dec api_StopC (lget (toCs (lget args 0)))) (lstC intC (lget args 1)) (fun q0 => kf (lget [.bool q0] 0, []))) (by kernel_rfl : newelref01_History_run N args T kf = fnM E (drive_Play_cal N) (newelref01_History_lp N) (noJn) 34 (newelref01_History_sp.vs args) (newelref01_History_sp.tab T) 0 (resK newelref01_History_rs kf)))

def newelref01_Play_L9 : LoopSp := ⟨⟨[2, 3, 4, 9, 10, 11], ⟨(dr 2 ((rSl intC) :: (rPtr 0 0) :: (rPtr 1 0) :: (dr 4 ((rRow 2) :: (rInt .i64) :: (rInt .i64) :: (dr 34 []))))), [(0, eBlkC api_EscalatorC), (1, eBlkC api_StopC), (2, eRow intC)]⟩, 3⟩, [(some 0, ⟨[9], ⟨(dr 9 ((rRow 0) :: (dr 36 []))), [(0, eRow intC)]⟩, 1⟩)]⟩
theorem newelref01_Play_L9_ok : newelref01_Play_L9.Ok := ⟨⟨(drCons 2 (allCons (rSl_ok intC_ok) (allCons (rPtr_ok 0 0) (allCons (rPtr_ok 1 0) (drCons 4 (allCons (rRow_ok 2) (allCons (rInt_ok .i64) (allCons (rInt_ok .i64) (drCons 34 allNil))))))))), (eCons (eBlkC_ok api_EscalatorC_ok api_EscalatorC_len) (eCons (eBlkC_ok api_StopC_ok api_StopC_len) (eCons (eRow_ok intC_ok) eNil)))⟩, (xCons ⟨(drCons 9 (allCons (rRow_ok 0) (drCons 36 allNil))), (eCons (eRow_ok intC_ok) eNil)⟩ xNil)⟩
def newelref01_Play_h9 (v344 : Arr Int) (v345 : Int) (v346 : Int) (v347 : api_Escalator) (v348 : api_Stop) (v349 : Bool) (v350 : Arr Int) : St := ⟨(un 2 ((slC intC v344) :: (.ptr 0 0) :: (.ptr 1 0) :: (un 4 ((.row 2) :: (.int .i64 v345) :: (.int .i64 v346) :: (un 34 []))))), [(0, .blk (Cod.enc api_EscalatorC v347)), (1, .blk (Cod.enc api_StopC v348)), (2, rowE intC v349 v350)], 3⟩
def newelref01_Play_x9_0 (q0 : Bool) (q1 : Arr Int) : St := ⟨(un 9 ((.row 0) :: (un 36 []))), [(0, rowE intC q0 q1)], 1⟩
def newelref01_Play_b9 {R : Type} (N : Nat) (rc : Arr Int → Int → Int → api_Escalator → api_Stop → Bool → Arr Int → Option R) (v344 : Arr Int) (v345 : Int) (v346 : Int) (v347 : api_Escalator) (v348 : api_Stop) (v349 : Bool) (v350 : Arr Int) (k0 : Bool → Arr Int → Option R) : Option R :=
  bif decide (v346 < (↑(Arr.n v344) : Int)) then
   bif decide ((0 : Int) ≤ v346) && decide (v346 < (↑(Arr.n v344) : Int)) then
    newelref01_Grip N v347 v348 v346 (fun r351 =>
    newelref01_next N v347 v345 (Arr.f v344 (Int.toNat v346)) r351 (fun r352 =>
    bif room (Arr.n v350 + (1 : Nat)) then
     rc v344 r352 (w64 (v346 + (1 : Int))) v347 v348 false (lst intC (Arr.n v350 + (1 : Nat)) (catC (Arr.n v350) (Cod.cell intC (Arr.f v350)) (litC [SV.int IntKind.i64 (0 : Int)] [[SV.int IntKind.i64 r352]])))
    else
     Option.none))
   else
    Option.none
  else
   k0 v349 v350
def newelref01_Play_l9 {R : Type} (N : Nat) : Nat → Arr Int → Int → Int → api_Escalator → api_Stop → Bool → Arr Int → (Bool → Arr Int → Option R) → Option R
  | 0, _, _, _, _, _, _, _, _ => Option.none
  | n + 1, v344, v345, v346, v347, v348, v349, v350, k0 => newelref01_Play_b9 N (fun v344 v345 v346 v347 v348 v349 v350 => newelref01_Play_l9 N n v344 v345 v346 v347 v348 v349 v350 k0) v344 v345 v346 v347 v348 v349 v350 k0


def newelref01_Play_m {R : Type} (N : Nat) (a332 : api_Escalator) (a333 : api_Stop) (a334 : Arr Int) (k : Int → Bool → Arr Int → Option R) : Option R :=
  newelref01_CheckStop N a332 a333 (fun r335 =>
  bif r335 != (0 : Int) then
   k r335 true (lst intC (0 : Nat) (zeroC [SV.int IntKind.i64 (0 : Int)]))
  else
   newelref01_History N a333 a334 (fun r343 =>
   bif !r343 then
    k (1 : Int) true (lst intC (0 : Nat) (zeroC [SV.int IntKind.i64 (0 : Int)]))
   else
    newelref01_Play_l9 N N a334 (api_Stop.Speed a333) (0 : Int) a332 a333 true (lst intC (0 : Nat) (zeroC [SV.int IntKind.i64 (0 : Int)])) (fun r353 r354 =>
     k (0 : Int) r353 r354)))
noncomputable def newelref01_Play {R : Type} : Nat → api_Escalator → api_Stop → Arr Int → (Int → Bool → Arr Int → Option R) → Option R := lock (@newelref01_Play_m R)
theorem newelref01_Play_def {R : Type} (N : Nat) (a332 : api_Escalator) (a333 : api_Stop) (a334 : Arr Int) (k : Int → Bool → Arr Int → Option R) : newelref01_Play N a332 a333 a334 k = newelref01_Play_m N a332 a333 a334 k := by unfold newelref01_Play; rw [lock_eq]
def newelref01_Play_sp : Sp := ⟨[rAgg api_EscalatorC, rAgg api_StopC, rSl intC], []⟩
theorem newelref01_Play_sp_ok : newelref01_Play_sp.Ok := ⟨(allCons (rAgg_ok api_EscalatorC_ok api_EscalatorC_len) (allCons (rAgg_ok api_StopC_ok api_StopC_len) (allCons (rSl_ok intC_ok) allNil))), eNil⟩
def newelref01_Play_rs : Sp := ⟨[rTup [rRow 0, rInt .i64]], [(0, eRow intC)]⟩
theorem newelref01_Play_rs_ok : newelref01_Play_rs.Ok := ⟨(allCons (rTup_ok (allCons (rRow_ok 0) (allCons (rInt_ok .i64) allNil))) allNil), (eCons (eRow_ok intC_ok) eNil)⟩
def newelref01_Play_run {R : Type} (N : Nat) (args : List SV) (T : Tab) (kf : SV × Tab → Option R) : Option R :=
  newelref01_Play_m N (Cod.dec api_EscalatorC (lget (toCs (lget args 0)))) (Cod.dec api_StopC (lget (toCs (lget args 1)))) (lstC intC (lget args 2)) (fun q0 q1 q2 => kf (lget [.tup [.row 0, .int .i64 q0]] 0, [(0, rowE intC q1 q2)]))
def newelref01_Play_d9 {R : Type} (N : Nat) (S0 : St) (k : Exit → St → Option R) : Option R :=
  newelref01_Play_l9 N N (lstC intC (lget S0.tmps 2)) (toI (lget S0.tmps 10)) (toI (lget S0.tmps 11)) (Cod.dec api_EscalatorC (lget (entCs (entAt S0.tab 0)))) (Cod.dec api_StopC (lget (entCs (entAt S0.tab 1)))) (entNl (entAt S0.tab 2)) (lst intC (entN (entAt S0.tab 2)) (entC (entAt S0.tab 2))) (fun q0 q1 => k (.exit 0) (newelref01_Play_x9_0 q0 q1))
def newelref01_Play_lp {R : Type} (N : Nat) : Lp R := fun body S k => bif (Go.Sx.keyOf body).getD 0 == 9 then newelref01_Play_L9.head.raw 0 S (fun S0 => newelref01_Play_d9 N S0 k) else Option.none
theorem newelref01_Play_l9_eq {R : Type} (N : Nat) (k : Exit → St → Option R) (n : Nat) : ∀ (v0 : Arr Int) (v1 : Int) (v2 : Int) (v3 : api_Escalator) (v4 : api_Stop) (v5 : Bool) (v6 : Arr Int), loopM E.Θ (newelref01_History_cal N) (newelref01_Play_lp N) (noJn) 0 newelref01_Play_L9 (bodyAt E 31 9) n (newelref01_Play_h9 v0 v1 v2 v3 v4 v5 v6) k = newelref01_Play_l9 N n v0 v1 v2 v3 v4 v5 v6 (fun q0 q1 => k (.exit 0) (newelref01_Play_x9_0 q0 q1)) := by
  induction n with
  | zero => intro v0 v1 v2 v3 v4 v5 v6; rfl
  | succ n ih =>
    intro v0 v1 v2 v3 v4 v5 v6
    refine Eq.trans (b := newelref01_Play_b9 N (fun v0 v1 v2 v3 v4 v5 v6 => loopM E.Θ (newelref01_History_cal N) (newelref01_Play_lp N) (noJn) 0 newelref01_Play_L9 (bodyAt E 31 9) n (newelref01_Play_h9 v0 v1 v2 v3 v4 v5 v6) k) v0 v1 v2 v3 v4 v5 v6 (fun q0 q1 => k (.exit 0) (newelref01_Play_x9_0 q0 q1))) (by kernel_rfl) ?_
    have h : (fun (v0 : Arr Int) (v1 : Int) (v2 : Int) (v3 : api_Escalator) (v4 : api_Stop) (v5 : Bool) (v6 : Arr Int) => loopM E.Θ (newelref01_History_cal N) (newelref01_Play_lp N) (noJn) 0 newelref01_Play_L9 (bodyAt E 31 9) n (newelref01_Play_h9 v0 v1 v2 v3 v4 v5 v6) k) = (fun (v0 : Arr Int) (v1 : Int) (v2 : Int) (v3 : api_Escalator) (v4 : api_Stop) (v5 : Bool) (v6 : Arr Int) => newelref01_Play_l9 N n v0 v1 v2 v3 v4 v5 v6 (fun q0 q1 => k (.exit 0) (newelref01_Play_x9_0 q0 q1))) := funext fun v0 => funext fun v1 => funext fun v2 => funext fun v3 => funext fun v4 => funext fun v5 => funext fun v6 => ih v0 v1 v2 v3 v4 v5 v6
    rw [h]
    rfl
theorem newelref01_Play_k9 {R : Type} (N : Nat) : LpKey (R := R) E 31 0 (newelref01_Play_lp N) 9 :=
  lpKey_of hE (newelref01_History_cal_ok N) (jn := noJn) newelref01_Play_L9_ok [] kNil (by kernel_rfl) [] jNil (by kernel_rfl) N fun S k =>
    Eq.trans (b := newelref01_Play_L9.head.raw 0 S (fun S0 => newelref01_Play_d9 N S0 k)) (by kernel_rfl) (congrArg (newelref01_Play_L9.head.raw 0 S) (funext fun S0 => Eq.trans (newelref01_Play_l9_eq N k N (lstC intC (lget S0.tmps 2)) (toI (lget S0.tmps 10)) (toI (lget S0.tmps 11)) (Cod.dec api_EscalatorC (lget (entCs (entAt S0.tab 0)))) (Cod.dec api_StopC (lget (entCs (entAt S0.tab 1)))) (entNl (entAt S0.tab 2)) (lst intC (entN (entAt S0.tab 2)) (entC (entAt S0.tab 2)))).symm (by kernel_rfl)))
noncomputable def newelref01_Play_go {R : Type} (N : Nat) (args : List SV) (T : Tab) (kf : SV × Tab → Option R) : Option R :=
  newelref01_Play N (Cod.dec api_EscalatorC (lget (toCs (lget args 0)))) (Cod.dec api_StopC (lget (toCs (lget args 1)))) (lstC intC (lget args 2)) (fun q0 q1 q2 => kf (lget [.tup [.row 0, .int .i64 q0]] 0, [(0, rowE intC q1 q2)]))
noncomputable def newelref01_Play_cal {R : Type} (N : Nat) : Cal R := callM (newelref01_History_cal N) 31 0 newelref01_Play_sp (newelref01_Play_go N)
theorem newelref01_Play_cal_ok {R : Type} (N : Nat) : CalOk E.P (newelref01_Play_cal (R := R) N) :=
  callM_ok hE (newelref01_History_cal_ok N) (lp := newelref01_Play_lp N) (jn := noJn) (keys := [9]) (kCons (newelref01_Play_k9 N) kNil) (by kernel_rfl) (js := []) jNil (by kernel_rfl) newelref01_Play_sp_ok newelref01_Play_rs_ok (fun args T kf => Eq.trans (newelref01_Play_def N (Cod.dec api_EscalatorC (lget (toCs (lget args 0)))) (Cod.dec api_StopC (lget (toCs (lget args 1)))) (lstC intC (lget args 2)) (fun q0 q1 q2 => kf (lget [.tup [.row 0, .int .i64 q0]] 0, [(0, rowE intC q1 q2)]))) (by kernel_rfl : newelref01_Play_run N args T kf = fnM E (newelref01_History_cal N) (newelref01_Play_lp N) (noJn) 31 (newelref01_Play_sp.vs args) (newelref01_Play_sp.tab T) 0 (resK newelref01_Play_rs kf)))

def drive_Critical_L8 : LoopSp := ⟨⟨[2, 3, 4, 5, 11, 37, 38], ⟨(dr 2 ((rInt .i64) :: (rInt .i64) :: (rPtr 0 0) :: (rPtr 1 0) :: (dr 5 ((rRow 2) :: (dr 25 ((rInt .i64) :: (rInt .i64) :: (dr 57 []))))))), [(0, eBlkC api_EscalatorC), (1, eBlkC api_StopC), (2, eRow intC)]⟩, 3⟩, [(some 0, ⟨[11], ⟨(dr 11 ((rRow 0) :: (dr 84 []))), [(0, eRow intC)]⟩, 1⟩)]⟩
theorem drive_Critical_L8_ok : drive_Critical_L8.Ok := ⟨⟨(drCons 2 (allCons (rInt_ok .i64) (allCons (rInt_ok .i64) (allCons (rPtr_ok 0 0) (allCons (rPtr_ok 1 0) (drCons 5 (allCons (rRow_ok 2) (drCons 25 (allCons (rInt_ok .i64) (allCons (rInt_ok .i64) (drCons 57 allNil))))))))))), (eCons (eBlkC_ok api_EscalatorC_ok api_EscalatorC_len) (eCons (eBlkC_ok api_StopC_ok api_StopC_len) (eCons (eRow_ok intC_ok) eNil)))⟩, (xCons ⟨(drCons 11 (allCons (rRow_ok 0) (drCons 84 allNil))), (eCons (eRow_ok intC_ok) eNil)⟩ xNil)⟩
def drive_Critical_h8 (v364 : Int) (v365 : Int) (v366 : Int) (v367 : Int) (v368 : api_Escalator) (v369 : api_Stop) (v370 : Bool) (v371 : Arr Int) : St := ⟨(un 2 ((.int .i64 v364) :: (.int .i64 v365) :: (.ptr 0 0) :: (.ptr 1 0) :: (un 5 ((.row 2) :: (un 25 ((.int .i64 v366) :: (.int .i64 v367) :: (un 57 []))))))), [(0, .blk (Cod.enc api_EscalatorC v368)), (1, .blk (Cod.enc api_StopC v369)), (2, rowE intC v370 v371)], 3⟩
def drive_Critical_x8_0 (q0 : Bool) (q1 : Arr Int) : St := ⟨(un 11 ((.row 0) :: (un 84 []))), [(0, rowE intC q0 q1)], 1⟩
def drive_Critical_b8 {R : Type} (N : Nat) (rc : Int → Int → Int → Int → api_Escalator → api_Stop → Bool → Arr Int → Option R) (v364 : Int) (v365 : Int) (v366 : Int) (v367 : Int) (v368 : api_Escalator) (v369 : api_Stop) (v370 : Bool) (v371 : Arr Int) (k0 : Bool → Arr Int → Option R) : Option R :=
  bif decide (v367 < v366) then
   bif decide (v367 < (0 : Int)) then
    Option.none
   else
    bif w64 (↑(BitVec.toNat (BitVec.ofInt (IntKind.bits IntKind.i64) (api_Stop.Fail v369) ||| BitVec.ofInt (IntKind.bits IntKind.i64) (w64 ((1 : Int) * (2 : Int) ^ min (Int.toNat v367) (IntKind.bits IntKind.i64))))) : Int) == api_Stop.Fail v369 then
     rc v364 v365 v366 (w64 (v367 + (1 : Int))) v368 v369 v370 v371
    else
     drive_run N v368 (api_Stop.mk (api_Stop.Speed v369) (api_Stop.Loads v369) (w64 (↑(BitVec.toNat (BitVec.ofInt (IntKind.bits IntKind.i64) (api_Stop.Fail v369) ||| BitVec.ofInt (IntKind.bits IntKind.i64) (w64 ((1 : Int) * (2 : Int) ^ min (Int.toNat v367) (IntKind.bits IntKind.i64))))) : Int))) true (fun r372 r373 r374 r375 =>
     drive_Back N v368 (api_Stop.mk (api_Stop.Speed v369) (api_Stop.Loads v369) (w64 (↑(BitVec.toNat (BitVec.ofInt (IntKind.bits IntKind.i64) (api_Stop.Fail v369) ||| BitVec.ofInt (IntKind.bits IntKind.i64) (w64 ((1 : Int) * (2 : Int) ^ min (Int.toNat v367) (IntKind.bits IntKind.i64))))) : Int))) (fun r376 r377 =>
     drive_Holds N v368 (api_Stop.mk (api_Stop.Speed v369) (api_Stop.Loads v369) (w64 (↑(BitVec.toNat (BitVec.ofInt (IntKind.bits IntKind.i64) (api_Stop.Fail v369) ||| BitVec.ofInt (IntKind.bits IntKind.i64) (w64 ((1 : Int) * (2 : Int) ^ min (Int.toNat v367) (IntKind.bits IntKind.i64))))) : Int))) (fun r378 r379 =>
     bif !r373 then
      bif room (Arr.n v371 + (1 : Nat)) then
       rc v364 v365 v366 (w64 (v367 + (1 : Int))) v368 v369 false (lst intC (Arr.n v371 + (1 : Nat)) (catC (Arr.n v371) (Cod.cell intC (Arr.f v371)) (litC [SV.int IntKind.i64 (0 : Int)] [[SV.int IntKind.i64 v367]])))
      else
       Option.none
     else
      bif decide (r372 > v364) then
       bif room (Arr.n v371 + (1 : Nat)) then
        rc v364 v365 v366 (w64 (v367 + (1 : Int))) v368 v369 false (lst intC (Arr.n v371 + (1 : Nat)) (catC (Arr.n v371) (Cod.cell intC (Arr.f v371)) (litC [SV.int IntKind.i64 (0 : Int)] [[SV.int IntKind.i64 v367]])))
       else
        Option.none
      else
       bif r377 != (0 : Int) then
        bif room (Arr.n v371 + (1 : Nat)) then
         rc v364 v365 v366 (w64 (v367 + (1 : Int))) v368 v369 false (lst intC (Arr.n v371 + (1 : Nat)) (catC (Arr.n v371) (Cod.cell intC (Arr.f v371)) (litC [SV.int IntKind.i64 (0 : Int)] [[SV.int IntKind.i64 v367]])))
        else
         Option.none
       else
        bif decide (r376 > v365) then
         bif room (Arr.n v371 + (1 : Nat)) then
          rc v364 v365 v366 (w64 (v367 + (1 : Int))) v368 v369 false (lst intC (Arr.n v371 + (1 : Nat)) (catC (Arr.n v371) (Cod.cell intC (Arr.f v371)) (litC [SV.int IntKind.i64 (0 : Int)] [[SV.int IntKind.i64 v367]])))
         else
          Option.none
        else
         bif !r378 then
          bif room (Arr.n v371 + (1 : Nat)) then
           rc v364 v365 v366 (w64 (v367 + (1 : Int))) v368 v369 false (lst intC (Arr.n v371 + (1 : Nat)) (catC (Arr.n v371) (Cod.cell intC (Arr.f v371)) (litC [SV.int IntKind.i64 (0 : Int)] [[SV.int IntKind.i64 v367]])))
          else
           Option.none
         else
          rc v364 v365 v366 (w64 (v367 + (1 : Int))) v368 v369 v370 v371)))
  else
   k0 v370 v371
def drive_Critical_l8 {R : Type} (N : Nat) : Nat → Int → Int → Int → Int → api_Escalator → api_Stop → Bool → Arr Int → (Bool → Arr Int → Option R) → Option R
  | 0, _, _, _, _, _, _, _, _, _ => Option.none
  | n + 1, v364, v365, v366, v367, v368, v369, v370, v371, k0 => drive_Critical_b8 N (fun v364 v365 v366 v367 v368 v369 v370 v371 => drive_Critical_l8 N n v364 v365 v366 v367 v368 v369 v370 v371 k0) v364 v365 v366 v367 v368 v369 v370 v371 k0


def drive_Critical_m {R : Type} (N : Nat) (a355 : api_Escalator) (a356 : api_Stop) (a357 : Int) (a358 : Int) (k : Int → Bool → Arr Int → Option R) : Option R :=
  drive_checkStop N a355 a356 (fun r359 =>
  bif r359 != (0 : Int) then
   k r359 true (lst intC (0 : Nat) (zeroC [SV.int IntKind.i64 (0 : Int)]))
  else
   drive_to N (10000000 : Int) (fun r360 =>
   drive_in N a357 r360 (fun r361 =>
   bif !r361 then
    k (1 : Int) true (lst intC (0 : Nat) (zeroC [SV.int IntKind.i64 (0 : Int)]))
   else
    drive_to N (10000000 : Int) (fun r362 =>
    drive_in N a358 r362 (fun r363 =>
    bif !r363 then
     k (1 : Int) true (lst intC (0 : Nat) (zeroC [SV.int IntKind.i64 (0 : Int)]))
    else
     drive_Critical_l8 N N a357 a358 ((↑(Arr.n (api_Escalator.Brakes a355)) : Int)) (0 : Int) a355 a356 true (lst intC (0 : Nat) (zeroC [SV.int IntKind.i64 (0 : Int)])) (fun r380 r381 =>
      k (0 : Int) r380 r381))))))
noncomputable def drive_Critical {R : Type} : Nat → api_Escalator → api_Stop → Int → Int → (Int → Bool → Arr Int → Option R) → Option R := lock (@drive_Critical_m R)
theorem drive_Critical_def {R : Type} (N : Nat) (a355 : api_Escalator) (a356 : api_Stop) (a357 : Int) (a358 : Int) (k : Int → Bool → Arr Int → Option R) : drive_Critical N a355 a356 a357 a358 k = drive_Critical_m N a355 a356 a357 a358 k := by unfold drive_Critical; rw [lock_eq]
def drive_Critical_sp : Sp := ⟨[rAgg api_EscalatorC, rAgg api_StopC, rInt .i64, rInt .i64], []⟩
theorem drive_Critical_sp_ok : drive_Critical_sp.Ok := ⟨(allCons (rAgg_ok api_EscalatorC_ok api_EscalatorC_len) (allCons (rAgg_ok api_StopC_ok api_StopC_len) (allCons (rInt_ok .i64) (allCons (rInt_ok .i64) allNil)))), eNil⟩
def drive_Critical_rs : Sp := ⟨[rTup [rRow 0, rInt .i64]], [(0, eRow intC)]⟩
theorem drive_Critical_rs_ok : drive_Critical_rs.Ok := ⟨(allCons (rTup_ok (allCons (rRow_ok 0) (allCons (rInt_ok .i64) allNil))) allNil), (eCons (eRow_ok intC_ok) eNil)⟩
def drive_Critical_run {R : Type} (N : Nat) (args : List SV) (T : Tab) (kf : SV × Tab → Option R) : Option R :=
  drive_Critical_m N (Cod.dec api_EscalatorC (lget (toCs (lget args 0)))) (Cod.dec api_StopC (lget (toCs (lget args 1)))) (toI (lget args 2)) (toI (lget args 3)) (fun q0 q1 q2 => kf (lget [.tup [.row 0, .int .i64 q0]] 0, [(0, rowE intC q1 q2)]))
def drive_Critical_d8 {R : Type} (N : Nat) (S0 : St) (k : Exit → St → Option R) : Option R :=
  drive_Critical_l8 N N (toI (lget S0.tmps 2)) (toI (lget S0.tmps 3)) (toI (lget S0.tmps 37)) (toI (lget S0.tmps 38)) (Cod.dec api_EscalatorC (lget (entCs (entAt S0.tab 0)))) (Cod.dec api_StopC (lget (entCs (entAt S0.tab 1)))) (entNl (entAt S0.tab 2)) (lst intC (entN (entAt S0.tab 2)) (entC (entAt S0.tab 2))) (fun q0 q1 => k (.exit 0) (drive_Critical_x8_0 q0 q1))
def drive_Critical_lp {R : Type} (N : Nat) : Lp R := fun body S k => bif (Go.Sx.keyOf body).getD 0 == 8 then drive_Critical_L8.head.raw 0 S (fun S0 => drive_Critical_d8 N S0 k) else Option.none
theorem drive_Critical_l8_eq {R : Type} (N : Nat) (k : Exit → St → Option R) (n : Nat) : ∀ (v0 : Int) (v1 : Int) (v2 : Int) (v3 : Int) (v4 : api_Escalator) (v5 : api_Stop) (v6 : Bool) (v7 : Arr Int), loopM E.Θ (newelref01_Play_cal N) (drive_Critical_lp N) (noJn) 0 drive_Critical_L8 (bodyAt E 32 8) n (drive_Critical_h8 v0 v1 v2 v3 v4 v5 v6 v7) k = drive_Critical_l8 N n v0 v1 v2 v3 v4 v5 v6 v7 (fun q0 q1 => k (.exit 0) (drive_Critical_x8_0 q0 q1)) := by
  induction n with
  | zero => intro v0 v1 v2 v3 v4 v5 v6 v7; rfl
  | succ n ih =>
    intro v0 v1 v2 v3 v4 v5 v6 v7
    refine Eq.trans (b := drive_Critical_b8 N (fun v0 v1 v2 v3 v4 v5 v6 v7 => loopM E.Θ (newelref01_Play_cal N) (drive_Critical_lp N) (noJn) 0 drive_Critical_L8 (bodyAt E 32 8) n (drive_Critical_h8 v0 v1 v2 v3 v4 v5 v6 v7) k) v0 v1 v2 v3 v4 v5 v6 v7 (fun q0 q1 => k (.exit 0) (drive_Critical_x8_0 q0 q1))) (by kernel_rfl) ?_
    have h : (fun (v0 : Int) (v1 : Int) (v2 : Int) (v3 : Int) (v4 : api_Escalator) (v5 : api_Stop) (v6 : Bool) (v7 : Arr Int) => loopM E.Θ (newelref01_Play_cal N) (drive_Critical_lp N) (noJn) 0 drive_Critical_L8 (bodyAt E 32 8) n (drive_Critical_h8 v0 v1 v2 v3 v4 v5 v6 v7) k) = (fun (v0 : Int) (v1 : Int) (v2 : Int) (v3 : Int) (v4 : api_Escalator) (v5 : api_Stop) (v6 : Bool) (v7 : Arr Int) => drive_Critical_l8 N n v0 v1 v2 v3 v4 v5 v6 v7 (fun q0 q1 => k (.exit 0) (drive_Critical_x8_0 q0 q1))) := funext fun v0 => funext fun v1 => funext fun v2 => funext fun v3 => funext fun v4 => funext fun v5 => funext fun v6 => funext fun v7 => ih v0 v1 v2 v3 v4 v5 v6 v7
    rw [h]
    rfl
theorem drive_Critical_k8 {R : Type} (N : Nat) : LpKey (R := R) E 32 0 (drive_Critical_lp N) 8 :=
  lpKey_of hE (newelref01_Play_cal_ok N) (jn := noJn) drive_Critical_L8_ok [] kNil (by kernel_rfl) [] jNil (by kernel_rfl) N fun S k =>
    Eq.trans (b := drive_Critical_L8.head.raw 0 S (fun S0 => drive_Critical_d8 N S0 k)) (by kernel_rfl) (congrArg (drive_Critical_L8.head.raw 0 S) (funext fun S0 => Eq.trans (drive_Critical_l8_eq N k N (toI (lget S0.tmps 2)) (toI (lget S0.tmps 3)) (toI (lget S0.tmps 37)) (toI (lget S0.tmps 38)) (Cod.dec api_EscalatorC (lget (entCs (entAt S0.tab 0)))) (Cod.dec api_StopC (lget (entCs (entAt S0.tab 1)))) (entNl (entAt S0.tab 2)) (lst intC (entN (entAt S0.tab 2)) (entC (entAt S0.tab 2)))).symm (by kernel_rfl)))
noncomputable def drive_Critical_go {R : Type} (N : Nat) (args : List SV) (T : Tab) (kf : SV × Tab → Option R) : Option R :=
  drive_Critical N (Cod.dec api_EscalatorC (lget (toCs (lget args 0)))) (Cod.dec api_StopC (lget (toCs (lget args 1)))) (toI (lget args 2)) (toI (lget args 3)) (fun q0 q1 q2 => kf (lget [.tup [.row 0, .int .i64 q0]] 0, [(0, rowE intC q1 q2)]))
noncomputable def drive_Critical_cal {R : Type} (N : Nat) : Cal R := callM (newelref01_Play_cal N) 32 0 drive_Critical_sp (drive_Critical_go N)
theorem drive_Critical_cal_ok {R : Type} (N : Nat) : CalOk E.P (drive_Critical_cal (R := R) N) :=
  callM_ok hE (newelref01_Play_cal_ok N) (lp := drive_Critical_lp N) (jn := noJn) (keys := [8]) (kCons (drive_Critical_k8 N) kNil) (by kernel_rfl) (js := []) jNil (by kernel_rfl) drive_Critical_sp_ok drive_Critical_rs_ok (fun args T kf => Eq.trans (drive_Critical_def N (Cod.dec api_EscalatorC (lget (toCs (lget args 0)))) (Cod.dec api_StopC (lget (toCs (lget args 1)))) (toI (lget args 2)) (toI (lget args 3)) (fun q0 q1 q2 => kf (lget [.tup [.row 0, .int .i64 q0]] 0, [(0, rowE intC q1 q2)]))) (by kernel_rfl : drive_Critical_run N args T kf = fnM E (newelref01_Play_cal N) (drive_Critical_lp N) (noJn) 32 (drive_Critical_sp.vs args) (drive_Critical_sp.tab T) 0 (resK drive_Critical_rs kf)))


def newelref01_Safe_m {R : Type} (N : Nat) (a396 : api_Escalator) (a397 : api_Stop) (a398 : Int) (a399 : Int) (k : Bool → Option R) : Option R :=
  newelref01_Distance N a396 a397 (fun r400 r401 r402 =>
  newelref01_Back N a396 a397 (fun r403 r404 =>
  newelref01_Holds N a396 a397 (fun r405 r406 =>
  bif r402 == (0 : Int) then
   bif r404 == (0 : Int) then
    bif decide (api_Span.High r400 ≤ a398) then
     bif decide (r403 ≤ a399) then
      k r405
     else
      k false
    else
     k false
   else
    k false
  else
   k false)))
noncomputable def newelref01_Safe {R : Type} : Nat → api_Escalator → api_Stop → Int → Int → (Bool → Option R) → Option R := lock (@newelref01_Safe_m R)
theorem newelref01_Safe_def {R : Type} (N : Nat) (a396 : api_Escalator) (a397 : api_Stop) (a398 : Int) (a399 : Int) (k : Bool → Option R) : newelref01_Safe N a396 a397 a398 a399 k = newelref01_Safe_m N a396 a397 a398 a399 k := by unfold newelref01_Safe; rw [lock_eq]
def newelref01_Safe_sp : Sp := ⟨[rAgg api_EscalatorC, rAgg api_StopC, rInt .i64, rInt .i64], []⟩
theorem newelref01_Safe_sp_ok : newelref01_Safe_sp.Ok := ⟨(allCons (rAgg_ok api_EscalatorC_ok api_EscalatorC_len) (allCons (rAgg_ok api_StopC_ok api_StopC_len) (allCons (rInt_ok .i64) (allCons (rInt_ok .i64) allNil)))), eNil⟩
def newelref01_Safe_rs : Sp := ⟨[rBool], []⟩
theorem newelref01_Safe_rs_ok : newelref01_Safe_rs.Ok := ⟨(allCons rBool_ok allNil), eNil⟩
def newelref01_Safe_run {R : Type} (N : Nat) (args : List SV) (T : Tab) (kf : SV × Tab → Option R) : Option R :=
  newelref01_Safe_m N (Cod.dec api_EscalatorC (lget (toCs (lget args 0)))) (Cod.dec api_StopC (lget (toCs (lget args 1)))) (toI (lget args 2)) (toI (lget args 3)) (fun q0 => kf (lget [.bool q0] 0, []))
def newelref01_Safe_lp {R : Type} (N : Nat) : Lp R := fun body S k => Option.none
noncomputable def newelref01_Safe_go {R : Type} (N : Nat) (args : List SV) (T : Tab) (kf : SV × Tab → Option R) : Option R :=
  newelref01_Safe N (Cod.dec api_EscalatorC (lget (toCs (lget args 0)))) (Cod.dec api_StopC (lget (toCs (lget args 1)))) (toI (lget args 2)) (toI (lget args 3)) (fun q0 => kf (lget [.bool q0] 0, []))
noncomputable def newelref01_Safe_cal {R : Type} (N : Nat) : Cal R := callM (drive_Critical_cal N) 59 0 newelref01_Safe_sp (newelref01_Safe_go N)
theorem newelref01_Safe_cal_ok {R : Type} (N : Nat) : CalOk E.P (newelref01_Safe_cal (R := R) N) :=
  callM_ok hE (drive_Critical_cal_ok N) (lp := newelref01_Safe_lp N) (jn := noJn) (keys := []) kNil (by kernel_rfl) (js := []) jNil (by kernel_rfl) newelref01_Safe_sp_ok newelref01_Safe_rs_ok (fun args T kf => Eq.trans (newelref01_Safe_def N (Cod.dec api_EscalatorC (lget (toCs (lget args 0)))) (Cod.dec api_StopC (lget (toCs (lget args 1)))) (toI (lget args 2)) (toI (lget args 3)) (fun q0 => kf (lget [.bool q0] 0, []))) (by kernel_rfl : newelref01_Safe_run N args T kf = fnM E (drive_Critical_cal N) (newelref01_Safe_lp N) (noJn) 59 (newelref01_Safe_sp.vs args) (newelref01_Safe_sp.tab T) 0 (resK newelref01_Safe_rs kf)))

def newelref01_Critical_L8 : LoopSp := ⟨⟨[2, 3, 4, 5, 11, 12], ⟨(dr 2 ((rInt .i64) :: (rInt .i64) :: (rPtr 0 0) :: (rPtr 1 0) :: (dr 5 ((rRow 2) :: (rInt .i64) :: (dr 48 []))))), [(0, eBlkC api_EscalatorC), (1, eBlkC api_StopC), (2, eRow intC)]⟩, 3⟩, [(some 0, ⟨[11], ⟨(dr 11 ((rRow 0) :: (dr 49 []))), [(0, eRow intC)]⟩, 1⟩)]⟩
theorem newelref01_Critical_L8_ok : newelref01_Critical_L8.Ok := ⟨⟨(drCons 2 (allCons (rInt_ok .i64) (allCons (rInt_ok .i64) (allCons (rPtr_ok 0 0) (allCons (rPtr_ok 1 0) (drCons 5 (allCons (rRow_ok 2) (allCons (rInt_ok .i64) (drCons 48 allNil))))))))), (eCons (eBlkC_ok api_EscalatorC_ok api_EscalatorC_len) (eCons (eBlkC_ok api_StopC_ok api_StopC_len) (eCons (eRow_ok intC_ok) eNil)))⟩, (xCons ⟨(drCons 11 (allCons (rRow_ok 0) (drCons 49 allNil))), (eCons (eRow_ok intC_ok) eNil)⟩ xNil)⟩
def newelref01_Critical_h8 (v389 : Int) (v390 : Int) (v391 : Int) (v392 : api_Escalator) (v393 : api_Stop) (v394 : Bool) (v395 : Arr Int) : St := ⟨(un 2 ((.int .i64 v389) :: (.int .i64 v390) :: (.ptr 0 0) :: (.ptr 1 0) :: (un 5 ((.row 2) :: (.int .i64 v391) :: (un 48 []))))), [(0, .blk (Cod.enc api_EscalatorC v392)), (1, .blk (Cod.enc api_StopC v393)), (2, rowE intC v394 v395)], 3⟩
def newelref01_Critical_x8_0 (q0 : Bool) (q1 : Arr Int) : St := ⟨(un 11 ((.row 0) :: (un 49 []))), [(0, rowE intC q0 q1)], 1⟩
def newelref01_Critical_b8 {R : Type} (N : Nat) (rc : Int → Int → Int → api_Escalator → api_Stop → Bool → Arr Int → Option R) (v389 : Int) (v390 : Int) (v391 : Int) (v392 : api_Escalator) (v393 : api_Stop) (v394 : Bool) (v395 : Arr Int) (k0 : Bool → Arr Int → Option R) : Option R :=
  bif decide (v391 < (↑(Arr.n (api_Escalator.Brakes v392)) : Int)) then
   bif decide (IntKind.wrap IntKind.u64 v391 < (0 : Int)) then
    Option.none
   else
    bif w64 (↑(BitVec.toNat (BitVec.ofInt (IntKind.bits IntKind.i64) (api_Stop.Fail v393) ||| BitVec.ofInt (IntKind.bits IntKind.i64) (w64 ((1 : Int) * (2 : Int) ^ min (Int.toNat (IntKind.wrap IntKind.u64 v391)) (IntKind.bits IntKind.i64))))) : Int) != api_Stop.Fail v393 then
     newelref01_Safe N v392 (api_Stop.mk (api_Stop.Speed v393) (api_Stop.Loads v393) (w64 (↑(BitVec.toNat (BitVec.ofInt (IntKind.bits IntKind.i64) (api_Stop.Fail v393) ||| BitVec.ofInt (IntKind.bits IntKind.i64) (w64 ((1 : Int) * (2 : Int) ^ min (Int.toNat (IntKind.wrap IntKind.u64 v391)) (IntKind.bits IntKind.i64))))) : Int))) v389 v390 (fun r407 =>
     bif !r407 then
      bif room (Arr.n v395 + (1 : Nat)) then
       rc v389 v390 (w64 (v391 + (1 : Int))) v392 v393 false (lst intC (Arr.n v395 + (1 : Nat)) (catC (Arr.n v395) (Cod.cell intC (Arr.f v395)) (litC [SV.int IntKind.i64 (0 : Int)] [[SV.int IntKind.i64 v391]])))
      else
       Option.none
     else
      rc v389 v390 (w64 (v391 + (1 : Int))) v392 v393 v394 v395)
    else
     rc v389 v390 (w64 (v391 + (1 : Int))) v392 v393 v394 v395
  else
   k0 v394 v395
def newelref01_Critical_l8 {R : Type} (N : Nat) : Nat → Int → Int → Int → api_Escalator → api_Stop → Bool → Arr Int → (Bool → Arr Int → Option R) → Option R
  | 0, _, _, _, _, _, _, _, _ => Option.none
  | n + 1, v389, v390, v391, v392, v393, v394, v395, k0 => newelref01_Critical_b8 N (fun v389 v390 v391 v392 v393 v394 v395 => newelref01_Critical_l8 N n v389 v390 v391 v392 v393 v394 v395 k0) v389 v390 v391 v392 v393 v394 v395 k0


def newelref01_Critical_m {R : Type} (N : Nat) (a382 : api_Escalator) (a383 : api_Stop) (a384 : Int) (a385 : Int) (k : Int → Bool → Arr Int → Option R) : Option R :=
  newelref01_CheckStop N a382 a383 (fun r386 =>
  bif r386 != (0 : Int) then
   k r386 true (lst intC (0 : Nat) (zeroC [SV.int IntKind.i64 (0 : Int)]))
  else
   newelref01_within N a384 (0 : Int) (10000000 : Int) (fun r387 =>
   bif !r387 then
    k (1 : Int) true (lst intC (0 : Nat) (zeroC [SV.int IntKind.i64 (0 : Int)]))
   else
    newelref01_within N a385 (0 : Int) (10000000 : Int) (fun r388 =>
    bif !r388 then
     k (1 : Int) true (lst intC (0 : Nat) (zeroC [SV.int IntKind.i64 (0 : Int)]))
    else
     newelref01_Critical_l8 N N a384 a385 (0 : Int) a382 a383 true (lst intC (0 : Nat) (zeroC [SV.int IntKind.i64 (0 : Int)])) (fun r408 r409 =>
      k (0 : Int) r408 r409))))
noncomputable def newelref01_Critical {R : Type} : Nat → api_Escalator → api_Stop → Int → Int → (Int → Bool → Arr Int → Option R) → Option R := lock (@newelref01_Critical_m R)
theorem newelref01_Critical_def {R : Type} (N : Nat) (a382 : api_Escalator) (a383 : api_Stop) (a384 : Int) (a385 : Int) (k : Int → Bool → Arr Int → Option R) : newelref01_Critical N a382 a383 a384 a385 k = newelref01_Critical_m N a382 a383 a384 a385 k := by unfold newelref01_Critical; rw [lock_eq]
def newelref01_Critical_sp : Sp := ⟨[rAgg api_EscalatorC, rAgg api_StopC, rInt .i64, rInt .i64], []⟩
theorem newelref01_Critical_sp_ok : newelref01_Critical_sp.Ok := ⟨(allCons (rAgg_ok api_EscalatorC_ok api_EscalatorC_len) (allCons (rAgg_ok api_StopC_ok api_StopC_len) (allCons (rInt_ok .i64) (allCons (rInt_ok .i64) allNil)))), eNil⟩
def newelref01_Critical_rs : Sp := ⟨[rTup [rRow 0, rInt .i64]], [(0, eRow intC)]⟩
theorem newelref01_Critical_rs_ok : newelref01_Critical_rs.Ok := ⟨(allCons (rTup_ok (allCons (rRow_ok 0) (allCons (rInt_ok .i64) allNil))) allNil), (eCons (eRow_ok intC_ok) eNil)⟩
def newelref01_Critical_run {R : Type} (N : Nat) (args : List SV) (T : Tab) (kf : SV × Tab → Option R) : Option R :=
  newelref01_Critical_m N (Cod.dec api_EscalatorC (lget (toCs (lget args 0)))) (Cod.dec api_StopC (lget (toCs (lget args 1)))) (toI (lget args 2)) (toI (lget args 3)) (fun q0 q1 q2 => kf (lget [.tup [.row 0, .int .i64 q0]] 0, [(0, rowE intC q1 q2)]))
def newelref01_Critical_d8 {R : Type} (N : Nat) (S0 : St) (k : Exit → St → Option R) : Option R :=
  newelref01_Critical_l8 N N (toI (lget S0.tmps 2)) (toI (lget S0.tmps 3)) (toI (lget S0.tmps 12)) (Cod.dec api_EscalatorC (lget (entCs (entAt S0.tab 0)))) (Cod.dec api_StopC (lget (entCs (entAt S0.tab 1)))) (entNl (entAt S0.tab 2)) (lst intC (entN (entAt S0.tab 2)) (entC (entAt S0.tab 2))) (fun q0 q1 => k (.exit 0) (newelref01_Critical_x8_0 q0 q1))
def newelref01_Critical_lp {R : Type} (N : Nat) : Lp R := fun body S k => bif (Go.Sx.keyOf body).getD 0 == 8 then newelref01_Critical_L8.head.raw 0 S (fun S0 => newelref01_Critical_d8 N S0 k) else Option.none
theorem newelref01_Critical_l8_eq {R : Type} (N : Nat) (k : Exit → St → Option R) (n : Nat) : ∀ (v0 : Int) (v1 : Int) (v2 : Int) (v3 : api_Escalator) (v4 : api_Stop) (v5 : Bool) (v6 : Arr Int), loopM E.Θ (newelref01_Safe_cal N) (newelref01_Critical_lp N) (noJn) 0 newelref01_Critical_L8 (bodyAt E 33 8) n (newelref01_Critical_h8 v0 v1 v2 v3 v4 v5 v6) k = newelref01_Critical_l8 N n v0 v1 v2 v3 v4 v5 v6 (fun q0 q1 => k (.exit 0) (newelref01_Critical_x8_0 q0 q1)) := by
  induction n with
  | zero => intro v0 v1 v2 v3 v4 v5 v6; rfl
  | succ n ih =>
    intro v0 v1 v2 v3 v4 v5 v6
    refine Eq.trans (b := newelref01_Critical_b8 N (fun v0 v1 v2 v3 v4 v5 v6 => loopM E.Θ (newelref01_Safe_cal N) (newelref01_Critical_lp N) (noJn) 0 newelref01_Critical_L8 (bodyAt E 33 8) n (newelref01_Critical_h8 v0 v1 v2 v3 v4 v5 v6) k) v0 v1 v2 v3 v4 v5 v6 (fun q0 q1 => k (.exit 0) (newelref01_Critical_x8_0 q0 q1))) (by kernel_rfl) ?_
    have h : (fun (v0 : Int) (v1 : Int) (v2 : Int) (v3 : api_Escalator) (v4 : api_Stop) (v5 : Bool) (v6 : Arr Int) => loopM E.Θ (newelref01_Safe_cal N) (newelref01_Critical_lp N) (noJn) 0 newelref01_Critical_L8 (bodyAt E 33 8) n (newelref01_Critical_h8 v0 v1 v2 v3 v4 v5 v6) k) = (fun (v0 : Int) (v1 : Int) (v2 : Int) (v3 : api_Escalator) (v4 : api_Stop) (v5 : Bool) (v6 : Arr Int) => newelref01_Critical_l8 N n v0 v1 v2 v3 v4 v5 v6 (fun q0 q1 => k (.exit 0) (newelref01_Critical_x8_0 q0 q1))) := funext fun v0 => funext fun v1 => funext fun v2 => funext fun v3 => funext fun v4 => funext fun v5 => funext fun v6 => ih v0 v1 v2 v3 v4 v5 v6
    rw [h]
    rfl
theorem newelref01_Critical_k8 {R : Type} (N : Nat) : LpKey (R := R) E 33 0 (newelref01_Critical_lp N) 8 :=
  lpKey_of hE (newelref01_Safe_cal_ok N) (jn := noJn) newelref01_Critical_L8_ok [] kNil (by kernel_rfl) [] jNil (by kernel_rfl) N fun S k =>
    Eq.trans (b := newelref01_Critical_L8.head.raw 0 S (fun S0 => newelref01_Critical_d8 N S0 k)) (by kernel_rfl) (congrArg (newelref01_Critical_L8.head.raw 0 S) (funext fun S0 => Eq.trans (newelref01_Critical_l8_eq N k N (toI (lget S0.tmps 2)) (toI (lget S0.tmps 3)) (toI (lget S0.tmps 12)) (Cod.dec api_EscalatorC (lget (entCs (entAt S0.tab 0)))) (Cod.dec api_StopC (lget (entCs (entAt S0.tab 1)))) (entNl (entAt S0.tab 2)) (lst intC (entN (entAt S0.tab 2)) (entC (entAt S0.tab 2)))).symm (by kernel_rfl)))
noncomputable def newelref01_Critical_go {R : Type} (N : Nat) (args : List SV) (T : Tab) (kf : SV × Tab → Option R) : Option R :=
  newelref01_Critical N (Cod.dec api_EscalatorC (lget (toCs (lget args 0)))) (Cod.dec api_StopC (lget (toCs (lget args 1)))) (toI (lget args 2)) (toI (lget args 3)) (fun q0 q1 q2 => kf (lget [.tup [.row 0, .int .i64 q0]] 0, [(0, rowE intC q1 q2)]))
noncomputable def newelref01_Critical_cal {R : Type} (N : Nat) : Cal R := callM (newelref01_Safe_cal N) 33 0 newelref01_Critical_sp (newelref01_Critical_go N)
theorem newelref01_Critical_cal_ok {R : Type} (N : Nat) : CalOk E.P (newelref01_Critical_cal (R := R) N) :=
  callM_ok hE (newelref01_Safe_cal_ok N) (lp := newelref01_Critical_lp N) (jn := noJn) (keys := [8]) (kCons (newelref01_Critical_k8 N) kNil) (by kernel_rfl) (js := []) jNil (by kernel_rfl) newelref01_Critical_sp_ok newelref01_Critical_rs_ok (fun args T kf => Eq.trans (newelref01_Critical_def N (Cod.dec api_EscalatorC (lget (toCs (lget args 0)))) (Cod.dec api_StopC (lget (toCs (lget args 1)))) (toI (lget args 2)) (toI (lget args 3)) (fun q0 q1 q2 => kf (lget [.tup [.row 0, .int .i64 q0]] 0, [(0, rowE intC q1 q2)]))) (by kernel_rfl : newelref01_Critical_run N args T kf = fnM E (newelref01_Safe_cal N) (newelref01_Critical_lp N) (noJn) 33 (newelref01_Critical_sp.vs args) (newelref01_Critical_sp.tab T) 0 (resK newelref01_Critical_rs kf)))


def newelref01_Step_m {R : Type} (N : Nat) (a410 : api_Escalator) (a411 : Int) (a412 : Int) (a413 : Int) (k : Int → Int → Option R) : Option R :=
  newelref01_Check N a410 (fun r414 =>
  bif r414 != (0 : Int) then
   k (0 : Int) (10 : Int)
  else
   newelref01_within N a411 (-10000000 : Int) (10000000 : Int) (fun r415 =>
   bif !r415 then
    k (0 : Int) (1 : Int)
   else
    newelref01_within N a412 (0 : Int) (100000 : Int) (fun r416 =>
    bif !r416 then
     k (0 : Int) (1 : Int)
    else
     newelref01_within N a413 (0 : Int) (30000000 : Int) (fun r417 =>
     bif !r417 then
      k (0 : Int) (1 : Int)
     else
      newelref01_next N a410 a411 a412 a413 (fun r418 =>
      k r418 (0 : Int))))))
noncomputable def newelref01_Step {R : Type} : Nat → api_Escalator → Int → Int → Int → (Int → Int → Option R) → Option R := lock (@newelref01_Step_m R)
theorem newelref01_Step_def {R : Type} (N : Nat) (a410 : api_Escalator) (a411 : Int) (a412 : Int) (a413 : Int) (k : Int → Int → Option R) : newelref01_Step N a410 a411 a412 a413 k = newelref01_Step_m N a410 a411 a412 a413 k := by unfold newelref01_Step; rw [lock_eq]
def newelref01_Step_sp : Sp := ⟨[rAgg api_EscalatorC, rInt .i64, rInt .i64, rInt .i64], []⟩
theorem newelref01_Step_sp_ok : newelref01_Step_sp.Ok := ⟨(allCons (rAgg_ok api_EscalatorC_ok api_EscalatorC_len) (allCons (rInt_ok .i64) (allCons (rInt_ok .i64) (allCons (rInt_ok .i64) allNil)))), eNil⟩
def newelref01_Step_rs : Sp := ⟨[rTup [rInt .i64, rInt .i64]], []⟩
theorem newelref01_Step_rs_ok : newelref01_Step_rs.Ok := ⟨(allCons (rTup_ok (allCons (rInt_ok .i64) (allCons (rInt_ok .i64) allNil))) allNil), eNil⟩
def newelref01_Step_run {R : Type} (N : Nat) (args : List SV) (T : Tab) (kf : SV × Tab → Option R) : Option R :=
  newelref01_Step_m N (Cod.dec api_EscalatorC (lget (toCs (lget args 0)))) (toI (lget args 1)) (toI (lget args 2)) (toI (lget args 3)) (fun q0 q1 => kf (lget [.tup [.int .i64 q0, .int .i64 q1]] 0, []))
def newelref01_Step_lp {R : Type} (N : Nat) : Lp R := fun body S k => Option.none
noncomputable def newelref01_Step_go {R : Type} (N : Nat) (args : List SV) (T : Tab) (kf : SV × Tab → Option R) : Option R :=
  newelref01_Step N (Cod.dec api_EscalatorC (lget (toCs (lget args 0)))) (toI (lget args 1)) (toI (lget args 2)) (toI (lget args 3)) (fun q0 q1 => kf (lget [.tup [.int .i64 q0, .int .i64 q1]] 0, []))
noncomputable def newelref01_Step_cal {R : Type} (N : Nat) : Cal R := callM (newelref01_Critical_cal N) 36 0 newelref01_Step_sp (newelref01_Step_go N)
theorem newelref01_Step_cal_ok {R : Type} (N : Nat) : CalOk E.P (newelref01_Step_cal (R := R) N) :=
  callM_ok hE (newelref01_Critical_cal_ok N) (lp := newelref01_Step_lp N) (jn := noJn) (keys := []) kNil (by kernel_rfl) (js := []) jNil (by kernel_rfl) newelref01_Step_sp_ok newelref01_Step_rs_ok (fun args T kf => Eq.trans (newelref01_Step_def N (Cod.dec api_EscalatorC (lget (toCs (lget args 0)))) (toI (lget args 1)) (toI (lget args 2)) (toI (lget args 3)) (fun q0 q1 => kf (lget [.tup [.int .i64 q0, .int .i64 q1]] 0, []))) (by kernel_rfl : newelref01_Step_run N args T kf = fnM E (newelref01_Critical_cal N) (newelref01_Step_lp N) (noJn) 36 (newelref01_Step_sp.vs args) (newelref01_Step_sp.tab T) 0 (resK newelref01_Step_rs kf)))


def drive_Capacity_1_m {R : Type} (N : Nat) (a421 : Int) (a422 : Bool) (a423 : Int) (a424 : Int) (a425 : Int) (a426 : Int) (a427 : Arr api_Brake) (k : Bool → Option R) : Option R :=
  bif a422 then
   k (decide (w64 (w64 (a424 * a421) + a425) ≤ a426))
  else
   k (decide (w64 (w64 (a424 * a421) - a425) ≤ a426))
noncomputable def drive_Capacity_1 {R : Type} : Nat → Int → Bool → Int → Int → Int → Int → Arr api_Brake → (Bool → Option R) → Option R := lock (@drive_Capacity_1_m R)
theorem drive_Capacity_1_def {R : Type} (N : Nat) (a421 : Int) (a422 : Bool) (a423 : Int) (a424 : Int) (a425 : Int) (a426 : Int) (a427 : Arr api_Brake) (k : Bool → Option R) : drive_Capacity_1 N a421 a422 a423 a424 a425 a426 a427 k = drive_Capacity_1_m N a421 a422 a423 a424 a425 a426 a427 k := by unfold drive_Capacity_1; rw [lock_eq]
def drive_Capacity_1_sp : Sp := ⟨[rInt .i64, rPtr 0 0], [(0, eBlk [rBool, rInt .i64, rInt .i64, rInt .i64, rInt .i64, rSl api_BrakeC])]⟩
theorem drive_Capacity_1_sp_ok : drive_Capacity_1_sp.Ok := ⟨(allCons (rInt_ok .i64) (allCons (rPtr_ok 0 0) allNil)), (eCons (eBlk_ok (allCons rBool_ok (allCons (rInt_ok .i64) (allCons (rInt_ok .i64) (allCons (rInt_ok .i64) (allCons (rInt_ok .i64) (allCons (rSl_ok api_BrakeC_ok) allNil))))))) eNil)⟩
def drive_Capacity_1_rs : Sp := ⟨[rBool], [(0, eBlk [rBool, rInt .i64, rInt .i64, rInt .i64, rInt .i64, rSl api_BrakeC])]⟩
theorem drive_Capacity_1_rs_ok : drive_Capacity_1_rs.Ok := ⟨(allCons rBool_ok allNil), (eCons (eBlk_ok (allCons rBool_ok (allCons (rInt_ok .i64) (allCons (rInt_ok .i64) (allCons (rInt_ok .i64) (allCons (rInt_ok .i64) (allCons (rSl_ok api_BrakeC_ok) allNil))))))) eNil)⟩
def drive_Capacity_1_run {R : Type} (N : Nat) (args : List SV) (T : Tab) (kf : SV × Tab → Option R) : Option R :=
  drive_Capacity_1_m N (toI (lget args 0)) (toB (lget (entCs (entAt T 0)) 0)) (toI (lget (entCs (entAt T 0)) 1)) (toI (lget (entCs (entAt T 0)) 2)) (toI (lget (entCs (entAt T 0)) 3)) (toI (lget (entCs (entAt T 0)) 4)) (lstC api_BrakeC (lget (entCs (entAt T 0)) 5)) (fun q0 => kf (lget [.bool q0] 0, [(0, .blk [.bool (toB (lget (entCs (entAt T 0)) 0)), .int .i64 (toI (lget (entCs (entAt T 0)) 1)), .int .i64 (toI (lget (entCs (entAt T 0)) 2)), .int .i64 (toI (lget (entCs (entAt T 0)) 3)), .int .i64 (toI (lget (entCs (entAt T 0)) 4)), slC api_BrakeC (lstC api_BrakeC (lget (entCs (entAt T 0)) 5))])]))
def drive_Capacity_1_lp {R : Type} (N : Nat) : Lp R := fun body S k => Option.none
noncomputable def drive_Capacity_1_go {R : Type} (N : Nat) (args : List SV) (T : Tab) (kf : SV × Tab → Option R) : Option R :=
  drive_Capacity_1 N (toI (lget args 0)) (toB (lget (entCs (entAt T 0)) 0)) (toI (lget (entCs (entAt T 0)) 1)) (toI (lget (entCs (entAt T 0)) 2)) (toI (lget (entCs (entAt T 0)) 3)) (toI (lget (entCs (entAt T 0)) 4)) (lstC api_BrakeC (lget (entCs (entAt T 0)) 5)) (fun q0 => kf (lget [.bool q0] 0, [(0, .blk [.bool (toB (lget (entCs (entAt T 0)) 0)), .int .i64 (toI (lget (entCs (entAt T 0)) 1)), .int .i64 (toI (lget (entCs (entAt T 0)) 2)), .int .i64 (toI (lget (entCs (entAt T 0)) 3)), .int .i64 (toI (lget (entCs (entAt T 0)) 4)), slC api_BrakeC (lstC api_BrakeC (lget (entCs (entAt T 0)) 5))])]))
noncomputable def drive_Capacity_1_cal {R : Type} (N : Nat) : Cal R := callM (newelref01_Step_cal N) 60 1 drive_Capacity_1_sp (drive_Capacity_1_go N)
theorem drive_Capacity_1_cal_ok {R : Type} (N : Nat) : CalOk E.P (drive_Capacity_1_cal (R := R) N) :=
  callM_ok hE (newelref01_Step_cal_ok N) (lp := drive_Capacity_1_lp N) (jn := noJn) (keys := []) kNil (by kernel_rfl) (js := []) jNil (by kernel_rfl) drive_Capacity_1_sp_ok drive_Capacity_1_rs_ok (fun args T kf => Eq.trans (drive_Capacity_1_def N (toI (lget args 0)) (toB (lget (entCs (entAt T 0)) 0)) (toI (lget (entCs (entAt T 0)) 1)) (toI (lget (entCs (entAt T 0)) 2)) (toI (lget (entCs (entAt T 0)) 3)) (toI (lget (entCs (entAt T 0)) 4)) (lstC api_BrakeC (lget (entCs (entAt T 0)) 5)) (fun q0 => kf (lget [.bool q0] 0, [(0, .blk [.bool (toB (lget (entCs (entAt T 0)) 0)), .int .i64 (toI (lget (entCs (entAt T 0)) 1)), .int .i64 (toI (lget (entCs (entAt T 0)) 2)), .int .i64 (toI (lget (entCs (entAt T 0)) 3)), .int .i64 (toI (lget (entCs (entAt T 0)) 4)), slC api_BrakeC (lstC api_BrakeC (lget (entCs (entAt T 0)) 5))])]))) (by kernel_rfl : drive_Capacity_1_run N args T kf = fnM E (newelref01_Step_cal N) (drive_Capacity_1_lp N) (noJn) 60 (drive_Capacity_1_sp.vs args) (drive_Capacity_1_sp.tab T) 1 (resK drive_Capacity_1_rs kf)))


end
end Go.Proofs.Ytpcmpbellmiijaa
