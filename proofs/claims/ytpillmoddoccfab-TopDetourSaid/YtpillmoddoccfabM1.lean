/-
  Models of the functions, and that they are what the code does. Written by a program.
-/
import Derived.Test.YtpillmoddoccfabCod
set_option maxRecDepth 100000
set_option maxHeartbeats 0
set_option linter.unusedVariables false
namespace Go.Proofs.Ytpillmoddoccfab
open Go.Sx
noncomputable section
def newellaw09_FarWorks_L5 : LoopSp := ⟨⟨[1, 3, 4], ⟨(dr 1 ((rPtr 0 0) :: (dr 1 ((rInt .i64) :: (rInt .i64) :: (dr 47 []))))), [(0, eBlkC api_WorksC)]⟩, 1⟩, [(Option.none, ⟨[2], ⟨(dr 2 ((rBool) :: (dr 49 []))), []⟩, 0⟩), (some 0, ⟨[3], ⟨(dr 3 ((rInt .i64) :: (dr 48 []))), []⟩, 0⟩)]⟩
theorem newellaw09_FarWorks_L5_ok : newellaw09_FarWorks_L5.Ok := ⟨⟨(drCons 1 (allCons (rPtr_ok 0 0) (drCons 1 (allCons (rInt_ok .i64) (allCons (rInt_ok .i64) (drCons 47 allNil)))))), (eCons (eBlkC_ok api_WorksC_ok api_WorksC_len) eNil)⟩, (xCons ⟨(drCons 2 (allCons rBool_ok (drCons 49 allNil))), eNil⟩ (xCons ⟨(drCons 3 (allCons (rInt_ok .i64) (drCons 48 allNil))), eNil⟩ xNil))⟩
def newellaw09_FarWorks_h5 (v1 : Int) (v2 : Int) (v3 : api_Works) : St := ⟨(un 1 ((.ptr 0 0) :: (un 1 ((.int .i64 v1) :: (.int .i64 v2) :: (un 47 []))))), [(0, .blk (Cod.enc api_WorksC v3))], 1⟩
def newellaw09_FarWorks_x5_r (q0 : Bool) : St := ⟨(un 2 ((.bool q0) :: (un 49 []))), [], 0⟩
def newellaw09_FarWorks_x5_0 (q0 : Int) : St := ⟨(un 3 ((.int .i64 q0) :: (un 48 []))), [], 0⟩
def newellaw09_FarWorks_b5 {R : Type} (N : Nat) (rc : Int → Int → api_Works → Option R) (v1 : Int) (v2 : Int) (v3 : api_Works) (kr : Bool → Option R) (k0 : Int → Option R) : Option R :=
  bif decide (v2 < (↑(Arr.n (api_Works.Jobs v3)) : Int)) then
   bif decide ((0 : Int) ≤ v2) && decide (v2 < (↑(Arr.n (api_Works.Jobs v3)) : Int)) then
    bif decide ((↑(Arr.n (api_Job.After (Arr.f (api_Works.Jobs v3) (Int.toNat v2)))) : Int) > (10 : Int)) then
     kr true
    else
     bif decide (api_Works.Until v3 > (0 : Int)) then
      bif decide (api_Works.Until v3 ≤ (24 : Int)) then
       bif decide (v1 ≤ (20000 : Int)) then
        rc (w64 (v1 * api_Works.Until v3)) (w64 (v2 + (1 : Int))) v3
       else
        rc v1 (w64 (v2 + (1 : Int))) v3
      else
       rc v1 (w64 (v2 + (1 : Int))) v3
     else
      rc v1 (w64 (v2 + (1 : Int))) v3
   else
    Option.none
  else
   k0 v1
def newellaw09_FarWorks_l5 {R : Type} (N : Nat) : Nat → Int → Int → api_Works → (Bool → Option R) → (Int → Option R) → Option R
  | 0, _, _, _, _, _ => Option.none
  | n + 1, v1, v2, v3, kr, k0 => newellaw09_FarWorks_b5 N (fun v1 v2 v3 => newellaw09_FarWorks_l5 N n v1 v2 v3 kr k0) v1 v2 v3 kr k0


def newellaw09_FarWorks_m {R : Type} (N : Nat) (a0 : api_Works) (k : Bool → Option R) : Option R :=
  bif decide ((↑(Arr.n (api_Works.Jobs a0)) : Int) > (10 : Int)) then
   k true
  else
   bif decide ((↑(Arr.n (api_Works.Never a0)) : Int) > (30 : Int)) then
    k true
   else
    newellaw09_FarWorks_l5 N N (1 : Int) (0 : Int) a0 (fun r4 =>
     k r4) (fun r5 =>
     bif decide (r5 > (20000 : Int)) then
      k (decide (r5 ≤ (200000 : Int)))
     else
      k false)
noncomputable def newellaw09_FarWorks {R : Type} : Nat → api_Works → (Bool → Option R) → Option R := lock (@newellaw09_FarWorks_m R)
theorem newellaw09_FarWorks_def {R : Type} (N : Nat) (a0 : api_Works) (k : Bool → Option R) : newellaw09_FarWorks N a0 k = newellaw09_FarWorks_m N a0 k := by unfold newellaw09_FarWorks; rw [lock_eq]
def newellaw09_FarWorks_sp : Sp := ⟨[rAgg api_WorksC], []⟩
theorem newellaw09_FarWorks_sp_ok : newellaw09_FarWorks_sp.Ok := ⟨(allCons (rAgg_ok api_WorksC_ok api_WorksC_len) allNil), eNil⟩
def newellaw09_FarWorks_rs : Sp := ⟨[rBool], []⟩
theorem newellaw09_FarWorks_rs_ok : newellaw09_FarWorks_rs.Ok := ⟨(allCons rBool_ok allNil), eNil⟩
def newellaw09_FarWorks_run {R : Type} (N : Nat) (args : List SV) (T : Tab) (kf : SV × Tab → Option R) : Option R :=
  newellaw09_FarWorks_m N (Cod.dec api_WorksC (lget (toCs (lget args 0)))) (fun q0 => kf (lget [.bool q0] 0, []))
def newellaw09_FarWorks_d5 {R : Type} (N : Nat) (S0 : St) (k : Exit → St → Option R) : Option R :=
  newellaw09_FarWorks_l5 N N (toI (lget S0.tmps 3)) (toI (lget S0.tmps 4)) (Cod.dec api_WorksC (lget (entCs (entAt S0.tab 0)))) (fun q0 => k .ret (newellaw09_FarWorks_x5_r q0)) (fun q0 => k (.exit 0) (newellaw09_FarWorks_x5_0 q0))
def newellaw09_FarWorks_lp {R : Type} (N : Nat) : Lp R := fun body S k => bif (Go.Sx.keyOf body).getD 0 == 5 then (newellaw09_FarWorks_L5.head.raw 0 S (fun S0 => newellaw09_FarWorks_d5 N S0 k)) else Option.none
theorem newellaw09_FarWorks_l5_eq {R : Type} (N : Nat) (k : Exit → St → Option R) (n : Nat) : ∀ (v0 : Int) (v1 : Int) (v2 : api_Works), loopM E.Θ (noCal E) (newellaw09_FarWorks_lp N) (noJn) 0 newellaw09_FarWorks_L5 (bodyAt E 20 5) n (newellaw09_FarWorks_h5 v0 v1 v2) k = newellaw09_FarWorks_l5 N n v0 v1 v2 (fun q0 => k .ret (newellaw09_FarWorks_x5_r q0)) (fun q0 => k (.exit 0) (newellaw09_FarWorks_x5_0 q0)) := by
  induction n with
  | zero => intro v0 v1 v2; rfl
  | succ n ih =>
    intro v0 v1 v2
    refine Eq.trans (b := newellaw09_FarWorks_b5 N (fun v0 v1 v2 => loopM E.Θ (noCal E) (newellaw09_FarWorks_lp N) (noJn) 0 newellaw09_FarWorks_L5 (bodyAt E 20 5) n (newellaw09_FarWorks_h5 v0 v1 v2) k) v0 v1 v2 (fun q0 => k .ret (newellaw09_FarWorks_x5_r q0)) (fun q0 => k (.exit 0) (newellaw09_FarWorks_x5_0 q0))) (by kernel_rfl) ?_
    have h : (fun (v0 : Int) (v1 : Int) (v2 : api_Works) => loopM E.Θ (noCal E) (newellaw09_FarWorks_lp N) (noJn) 0 newellaw09_FarWorks_L5 (bodyAt E 20 5) n (newellaw09_FarWorks_h5 v0 v1 v2) k) = (fun (v0 : Int) (v1 : Int) (v2 : api_Works) => newellaw09_FarWorks_l5 N n v0 v1 v2 (fun q0 => k .ret (newellaw09_FarWorks_x5_r q0)) (fun q0 => k (.exit 0) (newellaw09_FarWorks_x5_0 q0))) := funext fun v0 => funext fun v1 => funext fun v2 => ih v0 v1 v2
    rw [h]
    rfl
theorem newellaw09_FarWorks_k5 {R : Type} (N : Nat) : LpKey (R := R) E 20 0 (newellaw09_FarWorks_lp N) 5 :=
  lpKey_of hE (noCal_ok E) (lp := newellaw09_FarWorks_lp N) (jn := noJn) newellaw09_FarWorks_L5_ok [] kNil (by kernel_rfl) [] jNil (by kernel_rfl) N fun S k =>
    Eq.trans (b := newellaw09_FarWorks_L5.head.raw 0 S (fun S0 => newellaw09_FarWorks_d5 N S0 k)) (by kernel_rfl) (congrArg (newellaw09_FarWorks_L5.head.raw 0 S) (funext fun S0 => Eq.trans (newellaw09_FarWorks_l5_eq N k N (toI (lget S0.tmps 3)) (toI (lget S0.tmps 4)) (Cod.dec api_WorksC (lget (entCs (entAt S0.tab 0))))).symm (by kernel_rfl)))
noncomputable def newellaw09_FarWorks_go {R : Type} (N : Nat) (args : List SV) (T : Tab) (kf : SV × Tab → Option R) : Option R :=
  newellaw09_FarWorks N (Cod.dec api_WorksC (lget (toCs (lget args 0)))) (fun q0 => kf (lget [.bool q0] 0, []))
noncomputable def newellaw09_FarWorks_cal {R : Type} (N : Nat) : Cal R := callM (noCal E) 20 0 newellaw09_FarWorks_sp (newellaw09_FarWorks_go N)
theorem newellaw09_FarWorks_cal_ok {R : Type} (N : Nat) : CalOk E.P (newellaw09_FarWorks_cal (R := R) N) :=
  callM_ok hE (noCal_ok E) (lp := newellaw09_FarWorks_lp N) (jn := noJn) (keys := [5]) (kCons (newellaw09_FarWorks_k5 N) kNil) (by kernel_rfl) (js := []) jNil (by kernel_rfl) newellaw09_FarWorks_sp_ok newellaw09_FarWorks_rs_ok (fun args T kf => Eq.trans (newellaw09_FarWorks_def N (Cod.dec api_WorksC (lget (toCs (lget args 0)))) (fun q0 => kf (lget [.bool q0] 0, []))) (by kernel_rfl : newellaw09_FarWorks_run N args T kf = fnM E (noCal E) (newellaw09_FarWorks_lp N) (noJn) 20 (newellaw09_FarWorks_sp.vs args) (newellaw09_FarWorks_sp.tab T) 0 (resK newellaw09_FarWorks_rs kf)))


def newelref08_from_m {R : Type} (N : Nat) (a7 : Int) (a8 : Int) (a9 : Int) (k : Bool → Option R) : Option R :=
  bif decide (a7 ≥ a8) then
   k (decide (a7 ≤ a9))
  else
   k false
noncomputable def newelref08_from {R : Type} : Nat → Int → Int → Int → (Bool → Option R) → Option R := lock (@newelref08_from_m R)
theorem newelref08_from_def {R : Type} (N : Nat) (a7 : Int) (a8 : Int) (a9 : Int) (k : Bool → Option R) : newelref08_from N a7 a8 a9 k = newelref08_from_m N a7 a8 a9 k := by unfold newelref08_from; rw [lock_eq]
def newelref08_from_sp : Sp := ⟨[rInt .i64, rInt .i64, rInt .i64], []⟩
theorem newelref08_from_sp_ok : newelref08_from_sp.Ok := ⟨(allCons (rInt_ok .i64) (allCons (rInt_ok .i64) (allCons (rInt_ok .i64) allNil))), eNil⟩
def newelref08_from_rs : Sp := ⟨[rBool], []⟩
theorem newelref08_from_rs_ok : newelref08_from_rs.Ok := ⟨(allCons rBool_ok allNil), eNil⟩
def newelref08_from_run {R : Type} (N : Nat) (args : List SV) (T : Tab) (kf : SV × Tab → Option R) : Option R :=
  newelref08_from_m N (toI (lget args 0)) (toI (lget args 1)) (toI (lget args 2)) (fun q0 => kf (lget [.bool q0] 0, []))
def newelref08_from_lp {R : Type} (N : Nat) : Lp R := fun body S k => Option.none
noncomputable def newelref08_from_go {R : Type} (N : Nat) (args : List SV) (T : Tab) (kf : SV × Tab → Option R) : Option R :=
  newelref08_from N (toI (lget args 0)) (toI (lget args 1)) (toI (lget args 2)) (fun q0 => kf (lget [.bool q0] 0, []))
noncomputable def newelref08_from_cal {R : Type} (N : Nat) : Cal R := callM (newellaw09_FarWorks_cal N) 55 0 newelref08_from_sp (newelref08_from_go N)
theorem newelref08_from_cal_ok {R : Type} (N : Nat) : CalOk E.P (newelref08_from_cal (R := R) N) :=
  callM_ok hE (newellaw09_FarWorks_cal_ok N) (lp := newelref08_from_lp N) (jn := noJn) (keys := []) kNil (by kernel_rfl) (js := []) jNil (by kernel_rfl) newelref08_from_sp_ok newelref08_from_rs_ok (fun args T kf => Eq.trans (newelref08_from_def N (toI (lget args 0)) (toI (lget args 1)) (toI (lget args 2)) (fun q0 => kf (lget [.bool q0] 0, []))) (by kernel_rfl : newelref08_from_run N args T kf = fnM E (newellaw09_FarWorks_cal N) (newelref08_from_lp N) (noJn) 55 (newelref08_from_sp.vs args) (newelref08_from_sp.tab T) 0 (resK newelref08_from_rs kf)))

def newelref08_has_L2 : LoopSp := ⟨⟨[0, 1, 5], ⟨((rSl intC) :: (rInt .i64) :: (dr 3 ((rInt .i64) :: (dr 12 [])))), []⟩, 0⟩, [(Option.none, ⟨[4], ⟨(dr 4 ((rBool) :: (dr 13 []))), []⟩, 0⟩), (some 0, ⟨[], ⟨(dr 18 []), []⟩, 0⟩)]⟩
theorem newelref08_has_L2_ok : newelref08_has_L2.Ok := ⟨⟨(allCons (rSl_ok intC_ok) (allCons (rInt_ok .i64) (drCons 3 (allCons (rInt_ok .i64) (drCons 12 allNil))))), eNil⟩, (xCons ⟨(drCons 4 (allCons rBool_ok (drCons 13 allNil))), eNil⟩ (xCons ⟨(drCons 18 allNil), eNil⟩ xNil))⟩
def newelref08_has_h2 (v23 : Arr Int) (v24 : Int) (v25 : Int) : St := ⟨((slC intC v23) :: (.int .i64 v24) :: (un 3 ((.int .i64 v25) :: (un 12 [])))), [], 0⟩
def newelref08_has_x2_r (q0 : Bool) : St := ⟨(un 4 ((.bool q0) :: (un 13 []))), [], 0⟩
def newelref08_has_x2_0  : St := ⟨(un 18 []), [], 0⟩
def newelref08_has_b2 {R : Type} (N : Nat) (rc : Arr Int → Int → Int → Option R) (v23 : Arr Int) (v24 : Int) (v25 : Int) (kr : Bool → Option R) (k0 : Unit → Option R) : Option R :=
  bif decide (v25 < (↑(Arr.n v23) : Int)) then
   bif decide ((0 : Int) ≤ v25) && decide (v25 < (↑(Arr.n v23) : Int)) then
    bif Arr.f v23 (Int.toNat v25) == v24 then
     kr true
    else
     rc v23 v24 (w64 (v25 + (1 : Int)))
   else
    Option.none
  else
   k0 ()
def newelref08_has_l2 {R : Type} (N : Nat) : Nat → Arr Int → Int → Int → (Bool → Option R) → (Unit → Option R) → Option R
  | 0, _, _, _, _, _ => Option.none
  | n + 1, v23, v24, v25, kr, k0 => newelref08_has_b2 N (fun v23 v24 v25 => newelref08_has_l2 N n v23 v24 v25 kr k0) v23 v24 v25 kr k0


def newelref08_has_m {R : Type} (N : Nat) (a21 : Arr Int) (a22 : Int) (k : Bool → Option R) : Option R :=
  newelref08_has_l2 N N a21 a22 (0 : Int) (fun r26 =>
   k r26) (fun (_ : Unit) =>
   k false)
noncomputable def newelref08_has {R : Type} : Nat → Arr Int → Int → (Bool → Option R) → Option R := lock (@newelref08_has_m R)
theorem newelref08_has_def {R : Type} (N : Nat) (a21 : Arr Int) (a22 : Int) (k : Bool → Option R) : newelref08_has N a21 a22 k = newelref08_has_m N a21 a22 k := by unfold newelref08_has; rw [lock_eq]
def newelref08_has_sp : Sp := ⟨[rSl intC, rInt .i64], []⟩
theorem newelref08_has_sp_ok : newelref08_has_sp.Ok := ⟨(allCons (rSl_ok intC_ok) (allCons (rInt_ok .i64) allNil)), eNil⟩
def newelref08_has_rs : Sp := ⟨[rBool], []⟩
theorem newelref08_has_rs_ok : newelref08_has_rs.Ok := ⟨(allCons rBool_ok allNil), eNil⟩
def newelref08_has_run {R : Type} (N : Nat) (args : List SV) (T : Tab) (kf : SV × Tab → Option R) : Option R :=
  newelref08_has_m N (lstC intC (lget args 0)) (toI (lget args 1)) (fun q0 => kf (lget [.bool q0] 0, []))
def newelref08_has_d2 {R : Type} (N : Nat) (S0 : St) (k : Exit → St → Option R) : Option R :=
  newelref08_has_l2 N N (lstC intC (lget S0.tmps 0)) (toI (lget S0.tmps 1)) (toI (lget S0.tmps 5)) (fun q0 => k .ret (newelref08_has_x2_r q0)) (fun (_ : Unit) => k (.exit 0) (newelref08_has_x2_0 ))
def newelref08_has_lp {R : Type} (N : Nat) : Lp R := fun body S k => bif (Go.Sx.keyOf body).getD 0 == 2 then (newelref08_has_L2.head.raw 0 S (fun S0 => newelref08_has_d2 N S0 k)) else Option.none
theorem newelref08_has_l2_eq {R : Type} (N : Nat) (k : Exit → St → Option R) (n : Nat) : ∀ (v0 : Arr Int) (v1 : Int) (v2 : Int), loopM E.Θ (newelref08_from_cal N) (newelref08_has_lp N) (noJn) 0 newelref08_has_L2 (bodyAt E 56 2) n (newelref08_has_h2 v0 v1 v2) k = newelref08_has_l2 N n v0 v1 v2 (fun q0 => k .ret (newelref08_has_x2_r q0)) (fun (_ : Unit) => k (.exit 0) (newelref08_has_x2_0 )) := by
  induction n with
  | zero => intro v0 v1 v2; rfl
  | succ n ih =>
    intro v0 v1 v2
    refine Eq.trans (b := newelref08_has_b2 N (fun v0 v1 v2 => loopM E.Θ (newelref08_from_cal N) (newelref08_has_lp N) (noJn) 0 newelref08_has_L2 (bodyAt E 56 2) n (newelref08_has_h2 v0 v1 v2) k) v0 v1 v2 (fun q0 => k .ret (newelref08_has_x2_r q0)) (fun (_ : Unit) => k (.exit 0) (newelref08_has_x2_0 ))) (by kernel_rfl) ?_
    have h : (fun (v0 : Arr Int) (v1 : Int) (v2 : Int) => loopM E.Θ (newelref08_from_cal N) (newelref08_has_lp N) (noJn) 0 newelref08_has_L2 (bodyAt E 56 2) n (newelref08_has_h2 v0 v1 v2) k) = (fun (v0 : Arr Int) (v1 : Int) (v2 : Int) => newelref08_has_l2 N n v0 v1 v2 (fun q0 => k .ret (newelref08_has_x2_r q0)) (fun (_ : Unit) => k (.exit 0) (newelref08_has_x2_0 ))) := funext fun v0 => funext fun v1 => funext fun v2 => ih v0 v1 v2
    rw [h]
    rfl
theorem newelref08_has_k2 {R : Type} (N : Nat) : LpKey (R := R) E 56 0 (newelref08_has_lp N) 2 :=
  lpKey_of hE (newelref08_from_cal_ok N) (lp := newelref08_has_lp N) (jn := noJn) newelref08_has_L2_ok [] kNil (by kernel_rfl) [] jNil (by kernel_rfl) N fun S k =>
    Eq.trans (b := newelref08_has_L2.head.raw 0 S (fun S0 => newelref08_has_d2 N S0 k)) (by kernel_rfl) (congrArg (newelref08_has_L2.head.raw 0 S) (funext fun S0 => Eq.trans (newelref08_has_l2_eq N k N (lstC intC (lget S0.tmps 0)) (toI (lget S0.tmps 1)) (toI (lget S0.tmps 5))).symm (by kernel_rfl)))
noncomputable def newelref08_has_go {R : Type} (N : Nat) (args : List SV) (T : Tab) (kf : SV × Tab → Option R) : Option R :=
  newelref08_has N (lstC intC (lget args 0)) (toI (lget args 1)) (fun q0 => kf (lget [.bool q0] 0, []))
noncomputable def newelref08_has_cal {R : Type} (N : Nat) : Cal R := callM (newelref08_from_cal N) 56 0 newelref08_has_sp (newelref08_has_go N)
theorem newelref08_has_cal_ok {R : Type} (N : Nat) : CalOk E.P (newelref08_has_cal (R := R) N) :=
  callM_ok hE (newelref08_from_cal_ok N) (lp := newelref08_has_lp N) (jn := noJn) (keys := [2]) (kCons (newelref08_has_k2 N) kNil) (by kernel_rfl) (js := []) jNil (by kernel_rfl) newelref08_has_sp_ok newelref08_has_rs_ok (fun args T kf => Eq.trans (newelref08_has_def N (lstC intC (lget args 0)) (toI (lget args 1)) (fun q0 => kf (lget [.bool q0] 0, []))) (by kernel_rfl : newelref08_has_run N args T kf = fnM E (newelref08_from_cal N) (newelref08_has_lp N) (noJn) 56 (newelref08_has_sp.vs args) (newelref08_has_sp.tab T) 0 (resK newelref08_has_rs kf)))

def newelref08_Check_L5 : LoopSp := ⟨⟨[1, 3, 4], ⟨(dr 1 ((rPtr 0 0) :: (dr 1 ((rRow 1) :: (rInt .i64) :: (dr 136 []))))), [(0, eBlkC api_StationC), (1, eRow intC)]⟩, 2⟩, [(Option.none, ⟨[2], ⟨(dr 2 ((rInt .i64) :: (dr 138 []))), []⟩, 0⟩), (some 0, ⟨[1], ⟨(dr 1 ((rPtr 0 0) :: (dr 139 []))), [(0, eBlkC api_StationC)]⟩, 1⟩)]⟩
theorem newelref08_Check_L5_ok : newelref08_Check_L5.Ok := ⟨⟨(drCons 1 (allCons (rPtr_ok 0 0) (drCons 1 (allCons (rRow_ok 1) (allCons (rInt_ok .i64) (drCons 136 allNil)))))), (eCons (eBlkC_ok api_StationC_ok api_StationC_len) (eCons (eRow_ok intC_ok) eNil))⟩, (xCons ⟨(drCons 2 (allCons (rInt_ok .i64) (drCons 138 allNil))), eNil⟩ (xCons ⟨(drCons 1 (allCons (rPtr_ok 0 0) (drCons 139 allNil))), (eCons (eBlkC_ok api_StationC_ok api_StationC_len) eNil)⟩ xNil))⟩
def newelref08_Check_h5 (v11 : Int) (v12 : api_Station) (v13 : Bool) (v14 : Arr Int) : St := ⟨(un 1 ((.ptr 0 0) :: (un 1 ((.row 1) :: (.int .i64 v11) :: (un 136 []))))), [(0, .blk (Cod.enc api_StationC v12)), (1, rowE intC v13 v14)], 2⟩
def newelref08_Check_x5_r (q0 : Int) : St := ⟨(un 2 ((.int .i64 q0) :: (un 138 []))), [], 0⟩
def newelref08_Check_x5_0 (v12 : api_Station) : St := ⟨(un 1 ((.ptr 0 0) :: (un 139 []))), [(0, .blk (Cod.enc api_StationC v12))], 1⟩
def newelref08_Check_b5 {R : Type} (N : Nat) (rc : Int → api_Station → Bool → Arr Int → Option R) (v11 : Int) (v12 : api_Station) (v13 : Bool) (v14 : Arr Int) (kr : Int → Option R) (k0 : Unit → Option R) : Option R :=
  bif decide (v11 < (↑(Arr.n (api_Station.Passages v12)) : Int)) then
   bif decide ((0 : Int) ≤ v11) && decide (v11 < (↑(Arr.n (api_Station.Passages v12)) : Int)) then
    newelref08_from N (api_Passage.A (Arr.f (api_Station.Passages v12) (Int.toNat v11))) (0 : Int) (w64 (api_Station.Places v12 - (1 : Int))) (fun r15 =>
    bif !r15 then
     kr (80 : Int)
    else
     newelref08_from N (api_Passage.B (Arr.f (api_Station.Passages v12) (Int.toNat v11))) (0 : Int) (w64 (api_Station.Places v12 - (1 : Int))) (fun r16 =>
     bif !r16 then
      kr (80 : Int)
     else
      bif api_Passage.A (Arr.f (api_Station.Passages v12) (Int.toNat v11)) == api_Passage.B (Arr.f (api_Station.Passages v12) (Int.toNat v11)) then
       kr (80 : Int)
      else
       newelref08_from N (api_Passage.Ticks (Arr.f (api_Station.Passages v12) (Int.toNat v11))) (1 : Int) (20 : Int) (fun r17 =>
       bif !r17 then
        kr (80 : Int)
       else
        newelref08_from N (api_Passage.Wide (Arr.f (api_Station.Passages v12) (Int.toNat v11))) (1 : Int) (50 : Int) (fun r18 =>
        bif !r18 then
         kr (80 : Int)
        else
         newelref08_from N (api_Passage.Kind (Arr.f (api_Station.Passages v12) (Int.toNat v11))) (1 : Int) (5 : Int) (fun r19 =>
         bif !r19 then
          kr (80 : Int)
         else
          bif api_Passage.Kind (Arr.f (api_Station.Passages v12) (Int.toNat v11)) == (3 : Int) then
           newelref08_from N (api_Passage.Machine (Arr.f (api_Station.Passages v12) (Int.toNat v11))) (0 : Int) (11 : Int) (fun r20 =>
           bif !r20 then
            kr (80 : Int)
           else
            newelref08_has N v14 (api_Passage.Machine (Arr.f (api_Station.Passages v12) (Int.toNat v11))) (fun r27 =>
            bif r27 then
             kr (80 : Int)
            else
             bif room (Arr.n v14 + (1 : Nat)) then
              bif api_Passage.Kind (Arr.f (api_Station.Passages v12) (Int.toNat v11)) == (3 : Int) then
               newelref08_from N (api_Passage.Still (Arr.f (api_Station.Passages v12) (Int.toNat v11))) (1 : Int) (20 : Int) (fun r28 =>
               bif !r28 then
                kr (80 : Int)
               else
                rc (w64 (v11 + (1 : Int))) v12 false (lst intC (Arr.n v14 + (1 : Nat)) (catC (Arr.n v14) (Cod.cell intC (Arr.f v14)) (litC [SV.int IntKind.i64 (0 : Int)] [[SV.int IntKind.i64 (api_Passage.Machine (Arr.f (api_Station.Passages v12) (Int.toNat v11)))]]))))
              else
               bif api_Passage.Still (Arr.f (api_Station.Passages v12) (Int.toNat v11)) != (0 : Int) then
                kr (80 : Int)
               else
                rc (w64 (v11 + (1 : Int))) v12 false (lst intC (Arr.n v14 + (1 : Nat)) (catC (Arr.n v14) (Cod.cell intC (Arr.f v14)) (litC [SV.int IntKind.i64 (0 : Int)] [[SV.int IntKind.i64 (api_Passage.Machine (Arr.f (api_Station.Passages v12) (Int.toNat v11)))]])))
             else
              Option.none))
          else
           bif api_Passage.Kind (Arr.f (api_Station.Passages v12) (Int.toNat v11)) == (4 : Int) then
            newelref08_from N (api_Passage.Machine (Arr.f (api_Station.Passages v12) (Int.toNat v11))) (0 : Int) (11 : Int) (fun r29 =>
            bif !r29 then
             kr (80 : Int)
            else
             newelref08_has N v14 (api_Passage.Machine (Arr.f (api_Station.Passages v12) (Int.toNat v11))) (fun r30 =>
             bif r30 then
              kr (80 : Int)
             else
              bif room (Arr.n v14 + (1 : Nat)) then
               bif api_Passage.Kind (Arr.f (api_Station.Passages v12) (Int.toNat v11)) == (3 : Int) then
                newelref08_from N (api_Passage.Still (Arr.f (api_Station.Passages v12) (Int.toNat v11))) (1 : Int) (20 : Int) (fun r31 =>
                bif !r31 then
                 kr (80 : Int)
                else
                 rc (w64 (v11 + (1 : Int))) v12 false (lst intC (Arr.n v14 + (1 : Nat)) (catC (Arr.n v14) (Cod.cell intC (Arr.f v14)) (litC [SV.int IntKind.i64 (0 : Int)] [[SV.int IntKind.i64 (api_Passage.Machine (Arr.f (api_Station.Passages v12) (Int.toNat v11)))]]))))
               else
                bif api_Passage.Still (Arr.f (api_Station.Passages v12) (Int.toNat v11)) != (0 : Int) then
                 kr (80 : Int)
                else
                 rc (w64 (v11 + (1 : Int))) v12 false (lst intC (Arr.n v14 + (1 : Nat)) (catC (Arr.n v14) (Cod.cell intC (Arr.f v14)) (litC [SV.int IntKind.i64 (0 : Int)] [[SV.int IntKind.i64 (api_Passage.Machine (Arr.f (api_Station.Passages v12) (Int.toNat v11)))]])))
              else
               Option.none))
           else
            bif api_Passage.Machine (Arr.f (api_Station.Passages v12) (Int.toNat v11)) != (-1 : Int) then
             kr (80 : Int)
            else
             bif api_Passage.Kind (Arr.f (api_Station.Passages v12) (Int.toNat v11)) == (3 : Int) then
              newelref08_from N (api_Passage.Still (Arr.f (api_Station.Passages v12) (Int.toNat v11))) (1 : Int) (20 : Int) (fun r32 =>
              bif !r32 then
               kr (80 : Int)
              else
               rc (w64 (v11 + (1 : Int))) v12 v13 v14)
             else
              bif api_Passage.Still (Arr.f (api_Station.Passages v12) (Int.toNat v11)) != (0 : Int) then
               kr (80 : Int)
              else
               rc (w64 (v11 + (1 : Int))) v12 v13 v14)))))
   else
    Option.none
  else
   k0 ()
def newelref08_Check_l5 {R : Type} (N : Nat) : Nat → Int → api_Station → Bool → Arr Int → (Int → Option R) → (Unit → Option R) → Option R
  | 0, _, _, _, _, _, _ => Option.none
  | n + 1, v11, v12, v13, v14, kr, k0 => newelref08_Check_b5 N (fun v11 v12 v13 v14 => newelref08_Check_l5 N n v11 v12 v13 v14 kr k0) v11 v12 v13 v14 kr k0

def newelref08_Check_L22 : LoopSp := ⟨⟨[1, 6], ⟨(dr 1 ((rPtr 0 0) :: (dr 4 ((rInt .i64) :: (dr 134 []))))), [(0, eBlkC api_StationC)]⟩, 1⟩, [(Option.none, ⟨[2], ⟨(dr 2 ((rInt .i64) :: (dr 138 []))), []⟩, 0⟩), (some 2, ⟨[], ⟨(dr 141 []), []⟩, 0⟩)]⟩
theorem newelref08_Check_L22_ok : newelref08_Check_L22.Ok := ⟨⟨(drCons 1 (allCons (rPtr_ok 0 0) (drCons 4 (allCons (rInt_ok .i64) (drCons 134 allNil))))), (eCons (eBlkC_ok api_StationC_ok api_StationC_len) eNil)⟩, (xCons ⟨(drCons 2 (allCons (rInt_ok .i64) (drCons 138 allNil))), eNil⟩ (xCons ⟨(drCons 141 allNil), eNil⟩ xNil))⟩
def newelref08_Check_h22 (v34 : Int) (v35 : api_Station) : St := ⟨(un 1 ((.ptr 0 0) :: (un 4 ((.int .i64 v34) :: (un 134 []))))), [(0, .blk (Cod.enc api_StationC v35))], 1⟩
def newelref08_Check_x22_r (q0 : Int) : St := ⟨(un 2 ((.int .i64 q0) :: (un 138 []))), [], 0⟩
def newelref08_Check_x22_2  : St := ⟨(un 141 []), [], 0⟩
def newelref08_Check_b22 {R : Type} (N : Nat) (rc : Int → api_Station → Option R) (v34 : Int) (v35 : api_Station) (kr : Int → Option R) (k2 : Unit → Option R) : Option R :=
  bif decide (v34 < (↑(Arr.n (api_Station.Exits v35)) : Int)) then
   bif decide ((0 : Int) ≤ v34) && decide (v34 < (↑(Arr.n (api_Station.Exits v35)) : Int)) then
    newelref08_from N (Arr.f (api_Station.Exits v35) (Int.toNat v34)) (0 : Int) (w64 (api_Station.Places v35 - (1 : Int))) (fun r36 =>
    bif !r36 then
     kr (80 : Int)
    else
     bif decide (v34 > (0 : Int)) then
      bif decide ((0 : Int) ≤ v34) && decide (v34 < (↑(Arr.n (api_Station.Exits v35)) : Int)) then
       bif decide ((0 : Int) ≤ w64 (v34 - (1 : Int))) && decide (w64 (v34 - (1 : Int)) < (↑(Arr.n (api_Station.Exits v35)) : Int)) then
        bif decide (Arr.f (api_Station.Exits v35) (Int.toNat v34) ≤ Arr.f (api_Station.Exits v35) (Int.toNat (w64 (v34 - (1 : Int))))) then
         kr (80 : Int)
        else
         rc (w64 (v34 + (1 : Int))) v35
       else
        Option.none
      else
       Option.none
     else
      rc (w64 (v34 + (1 : Int))) v35)
   else
    Option.none
  else
   k2 ()
def newelref08_Check_l22 {R : Type} (N : Nat) : Nat → Int → api_Station → (Int → Option R) → (Unit → Option R) → Option R
  | 0, _, _, _, _ => Option.none
  | n + 1, v34, v35, kr, k2 => newelref08_Check_b22 N (fun v34 v35 => newelref08_Check_l22 N n v34 v35 kr k2) v34 v35 kr k2


def newelref08_Check_m {R : Type} (N : Nat) (a6 : api_Station) (k : Int → Option R) : Option R :=
  newelref08_from N (api_Station.Places a6) (1 : Int) (10 : Int) (fun r10 =>
  bif !r10 then
   k (80 : Int)
  else
   bif decide ((↑(Arr.n (api_Station.Passages a6)) : Int) > (24 : Int)) then
    k (80 : Int)
   else
    newelref08_Check_l5 N N (0 : Int) a6 true (lst intC (0 : Nat) (zeroC [SV.int IntKind.i64 (0 : Int)])) (fun r33 =>
     k r33) (fun (_ : Unit) =>
     newelref08_Check_l22 N N (0 : Int) a6 (fun r37 =>
      k r37) (fun (_ : Unit) =>
      k (0 : Int))))
noncomputable def newelref08_Check {R : Type} : Nat → api_Station → (Int → Option R) → Option R := lock (@newelref08_Check_m R)
theorem newelref08_Check_def {R : Type} (N : Nat) (a6 : api_Station) (k : Int → Option R) : newelref08_Check N a6 k = newelref08_Check_m N a6 k := by unfold newelref08_Check; rw [lock_eq]
def newelref08_Check_sp : Sp := ⟨[rAgg api_StationC], []⟩
theorem newelref08_Check_sp_ok : newelref08_Check_sp.Ok := ⟨(allCons (rAgg_ok api_StationC_ok api_StationC_len) allNil), eNil⟩
def newelref08_Check_rs : Sp := ⟨[rInt .i64], []⟩
theorem newelref08_Check_rs_ok : newelref08_Check_rs.Ok := ⟨(allCons (rInt_ok .i64) allNil), eNil⟩
def newelref08_Check_run {R : Type} (N : Nat) (args : List SV) (T : Tab) (kf : SV × Tab → Option R) : Option R :=
  newelref08_Check_m N (Cod.dec api_StationC (lget (toCs (lget args 0)))) (fun q0 => kf (lget [.int .i64 q0] 0, []))
def newelref08_Check_d22 {R : Type} (N : Nat) (S0 : St) (k : Exit → St → Option R) : Option R :=
  newelref08_Check_l22 N N (toI (lget S0.tmps 6)) (Cod.dec api_StationC (lget (entCs (entAt S0.tab 0)))) (fun q0 => k .ret (newelref08_Check_x22_r q0)) (fun (_ : Unit) => k (.exit 2) (newelref08_Check_x22_2 ))
def newelref08_Check_d5 {R : Type} (N : Nat) (S0 : St) (k : Exit → St → Option R) : Option R :=
  newelref08_Check_l5 N N (toI (lget S0.tmps 4)) (Cod.dec api_StationC (lget (entCs (entAt S0.tab 0)))) (entNl (entAt S0.tab 1)) (lst intC (entN (entAt S0.tab 1)) (entC (entAt S0.tab 1))) (fun q0 => k .ret (newelref08_Check_x5_r q0)) (fun (_ : Unit) => k (.exit 0) (newelref08_Check_x5_0 (Cod.dec api_StationC (lget (entCs (entAt S0.tab 0))))))
def newelref08_Check_lp {R : Type} (N : Nat) : Lp R := fun body S k => bif (Go.Sx.keyOf body).getD 0 == 5 then (newelref08_Check_L5.head.raw 0 S (fun S0 => newelref08_Check_d5 N S0 k)) else bif (Go.Sx.keyOf body).getD 0 == 22 then (newelref08_Check_L22.head.raw 0 S (fun S0 => newelref08_Check_d22 N S0 k)) else Option.none
theorem newelref08_Check_l5_eq {R : Type} (N : Nat) (k : Exit → St → Option R) (n : Nat) : ∀ (v0 : Int) (v1 : api_Station) (v2 : Bool) (v3 : Arr Int), loopM E.Θ (newelref08_has_cal N) (newelref08_Check_lp N) (noJn) 0 newelref08_Check_L5 (bodyAt E 21 5) n (newelref08_Check_h5 v0 v1 v2 v3) k = newelref08_Check_l5 N n v0 v1 v2 v3 (fun q0 => k .ret (newelref08_Check_x5_r q0)) (fun (_ : Unit) => k (.exit 0) (newelref08_Check_x5_0 v1)) := by
  induction n with
  | zero => intro v0 v1 v2 v3; rfl
  | succ n ih =>
    intro v0 v1 v2 v3
    refine Eq.trans (b := newelref08_Check_b5 N (fun v0 v1 v2 v3 => loopM E.Θ (newelref08_has_cal N) (newelref08_Check_lp N) (noJn) 0 newelref08_Check_L5 (bodyAt E 21 5) n (newelref08_Check_h5 v0 v1 v2 v3) k) v0 v1 v2 v3 (fun q0 => k .ret (newelref08_Check_x5_r q0)) (fun (_ : Unit) => k (.exit 0) (newelref08_Check_x5_0 v1))) (by kernel_rfl) ?_
    have h : (fun (v0 : Int) (v1 : api_Station) (v2 : Bool) (v3 : Arr Int) => loopM E.Θ (newelref08_has_cal N) (newelref08_Check_lp N) (noJn) 0 newelref08_Check_L5 (bodyAt E 21 5) n (newelref08_Check_h5 v0 v1 v2 v3) k) = (fun (v0 : Int) (v1 : api_Station) (v2 : Bool) (v3 : Arr Int) => newelref08_Check_l5 N n v0 v1 v2 v3 (fun q0 => k .ret (newelref08_Check_x5_r q0)) (fun (_ : Unit) => k (.exit 0) (newelref08_Check_x5_0 v1))) := funext fun v0 => funext fun v1 => funext fun v2 => funext fun v3 => ih v0 v1 v2 v3
    rw [h]
    rfl
theorem newelref08_Check_l22_eq {R : Type} (N : Nat) (k : Exit → St → Option R) (n : Nat) : ∀ (v0 : Int) (v1 : api_Station), loopM E.Θ (newelref08_has_cal N) (newelref08_Check_lp N) (noJn) 0 newelref08_Check_L22 (bodyAt E 21 22) n (newelref08_Check_h22 v0 v1) k = newelref08_Check_l22 N n v0 v1 (fun q0 => k .ret (newelref08_Check_x22_r q0)) (fun (_ : Unit) => k (.exit 2) (newelref08_Check_x22_2 )) := by
  induction n with
  | zero => intro v0 v1; rfl
  | succ n ih =>
    intro v0 v1
    refine Eq.trans (b := newelref08_Check_b22 N (fun v0 v1 => loopM E.Θ (newelref08_has_cal N) (newelref08_Check_lp N) (noJn) 0 newelref08_Check_L22 (bodyAt E 21 22) n (newelref08_Check_h22 v0 v1) k) v0 v1 (fun q0 => k .ret (newelref08_Check_x22_r q0)) (fun (_ : Unit) => k (.exit 2) (newelref08_Check_x22_2 ))) (by kernel_rfl) ?_
    have h : (fun (v0 : Int) (v1 : api_Station) => loopM E.Θ (newelref08_has_cal N) (newelref08_Check_lp N) (noJn) 0 newelref08_Check_L22 (bodyAt E 21 22) n (newelref08_Check_h22 v0 v1) k) = (fun (v0 : Int) (v1 : api_Station) => newelref08_Check_l22 N n v0 v1 (fun q0 => k .ret (newelref08_Check_x22_r q0)) (fun (_ : Unit) => k (.exit 2) (newelref08_Check_x22_2 ))) := funext fun v0 => funext fun v1 => ih v0 v1
    rw [h]
    rfl
theorem newelref08_Check_k22 {R : Type} (N : Nat) : LpKey (R := R) E 21 0 (newelref08_Check_lp N) 22 :=
  lpKey_of hE (newelref08_has_cal_ok N) (lp := newelref08_Check_lp N) (jn := noJn) newelref08_Check_L22_ok [] kNil (by kernel_rfl) [] jNil (by kernel_rfl) N fun S k =>
    Eq.trans (b := newelref08_Check_L22.head.raw 0 S (fun S0 => newelref08_Check_d22 N S0 k)) (by kernel_rfl) (congrArg (newelref08_Check_L22.head.raw 0 S) (funext fun S0 => Eq.trans (newelref08_Check_l22_eq N k N (toI (lget S0.tmps 6)) (Cod.dec api_StationC (lget (entCs (entAt S0.tab 0))))).symm (by kernel_rfl)))
theorem newelref08_Check_k5 {R : Type} (N : Nat) : LpKey (R := R) E 21 0 (newelref08_Check_lp N) 5 :=
  lpKey_of hE (newelref08_has_cal_ok N) (lp := newelref08_Check_lp N) (jn := noJn) newelref08_Check_L5_ok [] kNil (by kernel_rfl) [] jNil (by kernel_rfl) N fun S k =>
    Eq.trans (b := newelref08_Check_L5.head.raw 0 S (fun S0 => newelref08_Check_d5 N S0 k)) (by kernel_rfl) (congrArg (newelref08_Check_L5.head.raw 0 S) (funext fun S0 => Eq.trans (newelref08_Check_l5_eq N k N (toI (lget S0.tmps 4)) (Cod.dec api_StationC (lget (entCs (entAt S0.tab 0)))) (entNl (entAt S0.tab 1)) (lst intC (entN (entAt S0.tab 1)) (entC (entAt S0.tab 1)))).symm (by kernel_rfl)))
noncomputable def newelref08_Check_go {R : Type} (N : Nat) (args : List SV) (T : Tab) (kf : SV × Tab → Option R) : Option R :=
  newelref08_Check N (Cod.dec api_StationC (lget (toCs (lget args 0)))) (fun q0 => kf (lget [.int .i64 q0] 0, []))
noncomputable def newelref08_Check_cal {R : Type} (N : Nat) : Cal R := callM (newelref08_has_cal N) 21 0 newelref08_Check_sp (newelref08_Check_go N)
theorem newelref08_Check_cal_ok {R : Type} (N : Nat) : CalOk E.P (newelref08_Check_cal (R := R) N) :=
  callM_ok hE (newelref08_has_cal_ok N) (lp := newelref08_Check_lp N) (jn := noJn) (keys := [5, 22]) (kCons (newelref08_Check_k5 N) (kCons (newelref08_Check_k22 N) kNil)) (by kernel_rfl) (js := []) jNil (by kernel_rfl) newelref08_Check_sp_ok newelref08_Check_rs_ok (fun args T kf => Eq.trans (newelref08_Check_def N (Cod.dec api_StationC (lget (toCs (lget args 0)))) (fun q0 => kf (lget [.int .i64 q0] 0, []))) (by kernel_rfl : newelref08_Check_run N args T kf = fnM E (newelref08_has_cal N) (newelref08_Check_lp N) (noJn) 21 (newelref08_Check_sp.vs args) (newelref08_Check_sp.tab T) 0 (resK newelref08_Check_rs kf)))


def newelref09_within_m {R : Type} (N : Nat) (a41 : Int) (a42 : Int) (a43 : Int) (k : Bool → Option R) : Option R :=
  bif decide (a41 ≥ a42) then
   k (decide (a41 ≤ a43))
  else
   k false
noncomputable def newelref09_within {R : Type} : Nat → Int → Int → Int → (Bool → Option R) → Option R := lock (@newelref09_within_m R)
theorem newelref09_within_def {R : Type} (N : Nat) (a41 : Int) (a42 : Int) (a43 : Int) (k : Bool → Option R) : newelref09_within N a41 a42 a43 k = newelref09_within_m N a41 a42 a43 k := by unfold newelref09_within; rw [lock_eq]
def newelref09_within_sp : Sp := ⟨[rInt .i64, rInt .i64, rInt .i64], []⟩
theorem newelref09_within_sp_ok : newelref09_within_sp.Ok := ⟨(allCons (rInt_ok .i64) (allCons (rInt_ok .i64) (allCons (rInt_ok .i64) allNil))), eNil⟩
def newelref09_within_rs : Sp := ⟨[rBool], []⟩
theorem newelref09_within_rs_ok : newelref09_within_rs.Ok := ⟨(allCons rBool_ok allNil), eNil⟩
def newelref09_within_run {R : Type} (N : Nat) (args : List SV) (T : Tab) (kf : SV × Tab → Option R) : Option R :=
  newelref09_within_m N (toI (lget args 0)) (toI (lget args 1)) (toI (lget args 2)) (fun q0 => kf (lget [.bool q0] 0, []))
def newelref09_within_lp {R : Type} (N : Nat) : Lp R := fun body S k => Option.none
noncomputable def newelref09_within_go {R : Type} (N : Nat) (args : List SV) (T : Tab) (kf : SV × Tab → Option R) : Option R :=
  newelref09_within N (toI (lget args 0)) (toI (lget args 1)) (toI (lget args 2)) (fun q0 => kf (lget [.bool q0] 0, []))
noncomputable def newelref09_within_cal {R : Type} (N : Nat) : Cal R := callM (newelref08_Check_cal N) 101 0 newelref09_within_sp (newelref09_within_go N)
theorem newelref09_within_cal_ok {R : Type} (N : Nat) : CalOk E.P (newelref09_within_cal (R := R) N) :=
  callM_ok hE (newelref08_Check_cal_ok N) (lp := newelref09_within_lp N) (jn := noJn) (keys := []) kNil (by kernel_rfl) (js := []) jNil (by kernel_rfl) newelref09_within_sp_ok newelref09_within_rs_ok (fun args T kf => Eq.trans (newelref09_within_def N (toI (lget args 0)) (toI (lget args 1)) (toI (lget args 2)) (fun q0 => kf (lget [.bool q0] 0, []))) (by kernel_rfl : newelref09_within_run N args T kf = fnM E (newelref08_Check_cal N) (newelref09_within_lp N) (noJn) 101 (newelref09_within_sp.vs args) (newelref09_within_sp.tab T) 0 (resK newelref09_within_rs kf)))

def newelref09_CheckWorks_L11 : LoopSp := ⟨⟨[1, 3, 4, 5, 6], ⟨(dr 1 ((rPtr 0 0) :: (dr 1 ((rInt .i64) :: (rPtr 1 0) :: (rInt .i64) :: (rInt .i64) :: (dr 97 []))))), [(0, eBlkC api_WorksC), (1, eBlkC api_JobC)]⟩, 2⟩, [(Option.none, ⟨[2], ⟨(dr 2 ((rInt .i64) :: (dr 101 []))), []⟩, 0⟩), (some 2, ⟨[1, 3], ⟨(dr 1 ((rPtr 0 0) :: (dr 1 ((rInt .i64) :: (dr 100 []))))), [(0, eBlkC api_WorksC)]⟩, 1⟩)]⟩
theorem newelref09_CheckWorks_L11_ok : newelref09_CheckWorks_L11.Ok := ⟨⟨(drCons 1 (allCons (rPtr_ok 0 0) (drCons 1 (allCons (rInt_ok .i64) (allCons (rPtr_ok 1 0) (allCons (rInt_ok .i64) (allCons (rInt_ok .i64) (drCons 97 allNil)))))))), (eCons (eBlkC_ok api_WorksC_ok api_WorksC_len) (eCons (eBlkC_ok api_JobC_ok api_JobC_len) eNil))⟩, (xCons ⟨(drCons 2 (allCons (rInt_ok .i64) (drCons 101 allNil))), eNil⟩ (xCons ⟨(drCons 1 (allCons (rPtr_ok 0 0) (drCons 1 (allCons (rInt_ok .i64) (drCons 100 allNil))))), (eCons (eBlkC_ok api_WorksC_ok api_WorksC_len) eNil)⟩ xNil))⟩
def newelref09_CheckWorks_h11 (v52 : Int) (v53 : Int) (v54 : Int) (v55 : api_Works) (v56 : api_Job) : St := ⟨(un 1 ((.ptr 0 0) :: (un 1 ((.int .i64 v52) :: (.ptr 1 0) :: (.int .i64 v53) :: (.int .i64 v54) :: (un 97 []))))), [(0, .blk (Cod.enc api_WorksC v55)), (1, .blk (Cod.enc api_JobC v56))], 2⟩
def newelref09_CheckWorks_x11_r (q0 : Int) : St := ⟨(un 2 ((.int .i64 q0) :: (un 101 []))), [], 0⟩
def newelref09_CheckWorks_x11_2 (v52 : Int) (v55 : api_Works) : St := ⟨(un 1 ((.ptr 0 0) :: (un 1 ((.int .i64 v52) :: (un 100 []))))), [(0, .blk (Cod.enc api_WorksC v55))], 1⟩
def newelref09_CheckWorks_b11 {R : Type} (N : Nat) (rc : Int → Int → Int → api_Works → api_Job → Option R) (v52 : Int) (v53 : Int) (v54 : Int) (v55 : api_Works) (v56 : api_Job) (kr : Int → Option R) (k2 : Unit → Option R) : Option R :=
  bif decide (v54 < (↑(Arr.n (api_Job.After v56)) : Int)) then
   bif decide ((0 : Int) ≤ v54) && decide (v54 < (↑(Arr.n (api_Job.After v56)) : Int)) then
    newelref09_within N (Arr.f (api_Job.After v56) (Int.toNat v54)) (w64 (v53 + (1 : Int))) (w64 (v52 - (1 : Int))) (fun r57 =>
    bif !r57 then
     kr (92 : Int)
    else
     bif decide ((0 : Int) ≤ v54) && decide (v54 < (↑(Arr.n (api_Job.After v56)) : Int)) then
      rc v52 (Arr.f (api_Job.After v56) (Int.toNat v54)) (w64 (v54 + (1 : Int))) v55 v56
     else
      Option.none)
   else
    Option.none
  else
   k2 ()
def newelref09_CheckWorks_l11 {R : Type} (N : Nat) : Nat → Int → Int → Int → api_Works → api_Job → (Int → Option R) → (Unit → Option R) → Option R
  | 0, _, _, _, _, _, _, _ => Option.none
  | n + 1, v52, v53, v54, v55, v56, kr, k2 => newelref09_CheckWorks_b11 N (fun v52 v53 v54 v55 v56 => newelref09_CheckWorks_l11 N n v52 v53 v54 v55 v56 kr k2) v52 v53 v54 v55 v56 kr k2

def newelref09_CheckWorks_L4 : LoopSp := ⟨⟨[1, 3], ⟨(dr 1 ((rPtr 0 0) :: (dr 1 ((rInt .i64) :: (dr 100 []))))), [(0, eBlkC api_WorksC)]⟩, 1⟩, [(Option.none, ⟨[2], ⟨(dr 2 ((rInt .i64) :: (dr 101 []))), []⟩, 0⟩), (some 0, ⟨[1], ⟨(dr 1 ((rPtr 0 0) :: (dr 102 []))), [(0, eBlkC api_WorksC)]⟩, 1⟩)]⟩
theorem newelref09_CheckWorks_L4_ok : newelref09_CheckWorks_L4.Ok := ⟨⟨(drCons 1 (allCons (rPtr_ok 0 0) (drCons 1 (allCons (rInt_ok .i64) (drCons 100 allNil))))), (eCons (eBlkC_ok api_WorksC_ok api_WorksC_len) eNil)⟩, (xCons ⟨(drCons 2 (allCons (rInt_ok .i64) (drCons 101 allNil))), eNil⟩ (xCons ⟨(drCons 1 (allCons (rPtr_ok 0 0) (drCons 102 allNil))), (eCons (eBlkC_ok api_WorksC_ok api_WorksC_len) eNil)⟩ xNil))⟩
def newelref09_CheckWorks_h4 (v48 : Int) (v49 : api_Works) : St := ⟨(un 1 ((.ptr 0 0) :: (un 1 ((.int .i64 v48) :: (un 100 []))))), [(0, .blk (Cod.enc api_WorksC v49))], 1⟩
def newelref09_CheckWorks_x4_r (q0 : Int) : St := ⟨(un 2 ((.int .i64 q0) :: (un 101 []))), [], 0⟩
def newelref09_CheckWorks_x4_0 (v49 : api_Works) : St := ⟨(un 1 ((.ptr 0 0) :: (un 102 []))), [(0, .blk (Cod.enc api_WorksC v49))], 1⟩
def newelref09_CheckWorks_b4 {R : Type} (N : Nat) (rc : Int → api_Works → Option R) (v48 : Int) (v49 : api_Works) (kr : Int → Option R) (k0 : Unit → Option R) : Option R :=
  bif decide (v48 < (↑(Arr.n (api_Works.Jobs v49)) : Int)) then
   bif decide ((0 : Int) ≤ v48) && decide (v48 < (↑(Arr.n (api_Works.Jobs v49)) : Int)) then
    newelref09_within N (api_Job.Machine (Arr.f (api_Works.Jobs v49) (Int.toNat v48))) (0 : Int) (w64 (api_Works.Machines v49 - (1 : Int))) (fun r50 =>
    bif !r50 then
     kr (92 : Int)
    else
     newelref09_within N (api_Job.Nights (Arr.f (api_Works.Jobs v49) (Int.toNat v48))) (1 : Int) (24 : Int) (fun r51 =>
     bif !r51 then
      kr (92 : Int)
     else
      newelref09_CheckWorks_l11 N N v48 (-1 : Int) (0 : Int) v49 (Arr.f (api_Works.Jobs v49) (Int.toNat v48)) (fun r58 =>
       kr r58) (fun (_ : Unit) =>
       rc (w64 (v48 + (1 : Int))) v49)))
   else
    Option.none
  else
   k0 ()
def newelref09_CheckWorks_l4 {R : Type} (N : Nat) : Nat → Int → api_Works → (Int → Option R) → (Unit → Option R) → Option R
  | 0, _, _, _, _ => Option.none
  | n + 1, v48, v49, kr, k0 => newelref09_CheckWorks_b4 N (fun v48 v49 => newelref09_CheckWorks_l4 N n v48 v49 kr k0) v48 v49 kr k0

def newelref09_CheckWorks_L17 : LoopSp := ⟨⟨[1, 7], ⟨(dr 1 ((rPtr 0 0) :: (dr 5 ((rInt .i64) :: (dr 96 []))))), [(0, eBlkC api_WorksC)]⟩, 1⟩, [(Option.none, ⟨[2], ⟨(dr 2 ((rInt .i64) :: (dr 101 []))), []⟩, 0⟩), (some 4, ⟨[], ⟨(dr 104 []), []⟩, 0⟩)]⟩
theorem newelref09_CheckWorks_L17_ok : newelref09_CheckWorks_L17.Ok := ⟨⟨(drCons 1 (allCons (rPtr_ok 0 0) (drCons 5 (allCons (rInt_ok .i64) (drCons 96 allNil))))), (eCons (eBlkC_ok api_WorksC_ok api_WorksC_len) eNil)⟩, (xCons ⟨(drCons 2 (allCons (rInt_ok .i64) (drCons 101 allNil))), eNil⟩ (xCons ⟨(drCons 104 allNil), eNil⟩ xNil))⟩
def newelref09_CheckWorks_h17 (v60 : Int) (v61 : api_Works) : St := ⟨(un 1 ((.ptr 0 0) :: (un 5 ((.int .i64 v60) :: (un 96 []))))), [(0, .blk (Cod.enc api_WorksC v61))], 1⟩
def newelref09_CheckWorks_x17_r (q0 : Int) : St := ⟨(un 2 ((.int .i64 q0) :: (un 101 []))), [], 0⟩
def newelref09_CheckWorks_x17_4  : St := ⟨(un 104 []), [], 0⟩
def newelref09_CheckWorks_b17 {R : Type} (N : Nat) (rc : Int → api_Works → Option R) (v60 : Int) (v61 : api_Works) (kr : Int → Option R) (k4 : Unit → Option R) : Option R :=
  bif decide (v60 < (↑(Arr.n (api_Works.Never v61)) : Int)) then
   bif decide ((0 : Int) ≤ v60) && decide (v60 < (↑(Arr.n (api_Works.Never v61)) : Int)) then
    bif decide (IntKind.wrap IntKind.u64 (api_Works.Machines v61) < (0 : Int)) then
     Option.none
    else
     newelref09_within N (Arr.f (api_Works.Never v61) (Int.toNat v60)) (1 : Int) (w64 (w64 ((1 : Int) * (2 : Int) ^ min (Int.toNat (IntKind.wrap IntKind.u64 (api_Works.Machines v61))) (IntKind.bits IntKind.i64)) - (1 : Int))) (fun r62 =>
     bif !r62 then
      kr (92 : Int)
     else
      rc (w64 (v60 + (1 : Int))) v61)
   else
    Option.none
  else
   k4 ()
def newelref09_CheckWorks_l17 {R : Type} (N : Nat) : Nat → Int → api_Works → (Int → Option R) → (Unit → Option R) → Option R
  | 0, _, _, _, _ => Option.none
  | n + 1, v60, v61, kr, k4 => newelref09_CheckWorks_b17 N (fun v60 v61 => newelref09_CheckWorks_l17 N n v60 v61 kr k4) v60 v61 kr k4


def newelref09_CheckWorks_m {R : Type} (N : Nat) (a40 : api_Works) (k : Int → Option R) : Option R :=
  newelref09_within N (api_Works.Machines a40) (1 : Int) (12 : Int) (fun r44 =>
  bif !r44 then
   k (92 : Int)
  else
   newelref09_within N ((↑(Arr.n (api_Works.Jobs a40)) : Int)) (1 : Int) (6 : Int) (fun r45 =>
   bif !r45 then
    k (92 : Int)
   else
    bif decide ((↑(Arr.n (api_Works.Never a40)) : Int) > (20 : Int)) then
     k (92 : Int)
    else
     newelref09_within N (api_Works.Crews a40) (1 : Int) (6 : Int) (fun r46 =>
     bif !r46 then
      k (92 : Int)
     else
      newelref09_within N (api_Works.Until a40) (1 : Int) (24 : Int) (fun r47 =>
      bif !r47 then
       k (92 : Int)
      else
       newelref09_CheckWorks_l4 N N (0 : Int) a40 (fun r59 =>
        k r59) (fun (_ : Unit) =>
        newelref09_CheckWorks_l17 N N (0 : Int) a40 (fun r63 =>
         k r63) (fun (_ : Unit) =>
         k (0 : Int)))))))
noncomputable def newelref09_CheckWorks {R : Type} : Nat → api_Works → (Int → Option R) → Option R := lock (@newelref09_CheckWorks_m R)
theorem newelref09_CheckWorks_def {R : Type} (N : Nat) (a40 : api_Works) (k : Int → Option R) : newelref09_CheckWorks N a40 k = newelref09_CheckWorks_m N a40 k := by unfold newelref09_CheckWorks; rw [lock_eq]
def newelref09_CheckWorks_sp : Sp := ⟨[rAgg api_WorksC], []⟩
theorem newelref09_CheckWorks_sp_ok : newelref09_CheckWorks_sp.Ok := ⟨(allCons (rAgg_ok api_WorksC_ok api_WorksC_len) allNil), eNil⟩
def newelref09_CheckWorks_rs : Sp := ⟨[rInt .i64], []⟩
theorem newelref09_CheckWorks_rs_ok : newelref09_CheckWorks_rs.Ok := ⟨(allCons (rInt_ok .i64) allNil), eNil⟩
def newelref09_CheckWorks_run {R : Type} (N : Nat) (args : List SV) (T : Tab) (kf : SV × Tab → Option R) : Option R :=
  newelref09_CheckWorks_m N (Cod.dec api_WorksC (lget (toCs (lget args 0)))) (fun q0 => kf (lget [.int .i64 q0] 0, []))
def newelref09_CheckWorks_d17 {R : Type} (N : Nat) (S0 : St) (k : Exit → St → Option R) : Option R :=
  newelref09_CheckWorks_l17 N N (toI (lget S0.tmps 7)) (Cod.dec api_WorksC (lget (entCs (entAt S0.tab 0)))) (fun q0 => k .ret (newelref09_CheckWorks_x17_r q0)) (fun (_ : Unit) => k (.exit 4) (newelref09_CheckWorks_x17_4 ))
def newelref09_CheckWorks_d11 {R : Type} (N : Nat) (S0 : St) (k : Exit → St → Option R) : Option R :=
  newelref09_CheckWorks_l11 N N (toI (lget S0.tmps 3)) (toI (lget S0.tmps 5)) (toI (lget S0.tmps 6)) (Cod.dec api_WorksC (lget (entCs (entAt S0.tab 0)))) (Cod.dec api_JobC (lget (entCs (entAt S0.tab 1)))) (fun q0 => k .ret (newelref09_CheckWorks_x11_r q0)) (fun (_ : Unit) => k (.exit 2) (newelref09_CheckWorks_x11_2 (toI (lget S0.tmps 3)) (Cod.dec api_WorksC (lget (entCs (entAt S0.tab 0))))))
def newelref09_CheckWorks_d4 {R : Type} (N : Nat) (S0 : St) (k : Exit → St → Option R) : Option R :=
  newelref09_CheckWorks_l4 N N (toI (lget S0.tmps 3)) (Cod.dec api_WorksC (lget (entCs (entAt S0.tab 0)))) (fun q0 => k .ret (newelref09_CheckWorks_x4_r q0)) (fun (_ : Unit) => k (.exit 0) (newelref09_CheckWorks_x4_0 (Cod.dec api_WorksC (lget (entCs (entAt S0.tab 0))))))
def newelref09_CheckWorks_lp {R : Type} (N : Nat) : Lp R := fun body S k => bif (Go.Sx.keyOf body).getD 0 == 4 then (newelref09_CheckWorks_L4.head.raw 0 S (fun S0 => newelref09_CheckWorks_d4 N S0 k)) else bif (Go.Sx.keyOf body).getD 0 == 11 then (newelref09_CheckWorks_L11.head.raw 0 S (fun S0 => newelref09_CheckWorks_d11 N S0 k)) else bif (Go.Sx.keyOf body).getD 0 == 17 then (newelref09_CheckWorks_L17.head.raw 0 S (fun S0 => newelref09_CheckWorks_d17 N S0 k)) else Option.none
theorem newelref09_CheckWorks_l4_eq {R : Type} (N : Nat) (k : Exit → St → Option R) (n : Nat) : ∀ (v0 : Int) (v1 : api_Works), loopM E.Θ (newelref09_within_cal N) (newelref09_CheckWorks_lp N) (noJn) 0 newelref09_CheckWorks_L4 (bodyAt E 57 4) n (newelref09_CheckWorks_h4 v0 v1) k = newelref09_CheckWorks_l4 N n v0 v1 (fun q0 => k .ret (newelref09_CheckWorks_x4_r q0)) (fun (_ : Unit) => k (.exit 0) (newelref09_CheckWorks_x4_0 v1)) := by
  induction n with
  | zero => intro v0 v1; rfl
  | succ n ih =>
    intro v0 v1
    refine Eq.trans (b := newelref09_CheckWorks_b4 N (fun v0 v1 => loopM E.Θ (newelref09_within_cal N) (newelref09_CheckWorks_lp N) (noJn) 0 newelref09_CheckWorks_L4 (bodyAt E 57 4) n (newelref09_CheckWorks_h4 v0 v1) k) v0 v1 (fun q0 => k .ret (newelref09_CheckWorks_x4_r q0)) (fun (_ : Unit) => k (.exit 0) (newelref09_CheckWorks_x4_0 v1))) (by kernel_rfl) ?_
    have h : (fun (v0 : Int) (v1 : api_Works) => loopM E.Θ (newelref09_within_cal N) (newelref09_CheckWorks_lp N) (noJn) 0 newelref09_CheckWorks_L4 (bodyAt E 57 4) n (newelref09_CheckWorks_h4 v0 v1) k) = (fun (v0 : Int) (v1 : api_Works) => newelref09_CheckWorks_l4 N n v0 v1 (fun q0 => k .ret (newelref09_CheckWorks_x4_r q0)) (fun (_ : Unit) => k (.exit 0) (newelref09_CheckWorks_x4_0 v1))) := funext fun v0 => funext fun v1 => ih v0 v1
    rw [h]
    rfl
theorem newelref09_CheckWorks_l11_eq {R : Type} (N : Nat) (k : Exit → St → Option R) (n : Nat) : ∀ (v0 : Int) (v1 : Int) (v2 : Int) (v3 : api_Works) (v4 : api_Job), loopM E.Θ (newelref09_within_cal N) (newelref09_CheckWorks_lp N) (noJn) 0 newelref09_CheckWorks_L11 (bodyAt E 57 11) n (newelref09_CheckWorks_h11 v0 v1 v2 v3 v4) k = newelref09_CheckWorks_l11 N n v0 v1 v2 v3 v4 (fun q0 => k .ret (newelref09_CheckWorks_x11_r q0)) (fun (_ : Unit) => k (.exit 2) (newelref09_CheckWorks_x11_2 v0 v3)) := by
  induction n with
  | zero => intro v0 v1 v2 v3 v4; rfl
  | succ n ih =>
    intro v0 v1 v2 v3 v4
    refine Eq.trans (b := newelref09_CheckWorks_b11 N (fun v0 v1 v2 v3 v4 => loopM E.Θ (newelref09_within_cal N) (newelref09_CheckWorks_lp N) (noJn) 0 newelref09_CheckWorks_L11 (bodyAt E 57 11) n (newelref09_CheckWorks_h11 v0 v1 v2 v3 v4) k) v0 v1 v2 v3 v4 (fun q0 => k .ret (newelref09_CheckWorks_x11_r q0)) (fun (_ : Unit) => k (.exit 2) (newelref09_CheckWorks_x11_2 v0 v3))) (by kernel_rfl) ?_
    have h : (fun (v0 : Int) (v1 : Int) (v2 : Int) (v3 : api_Works) (v4 : api_Job) => loopM E.Θ (newelref09_within_cal N) (newelref09_CheckWorks_lp N) (noJn) 0 newelref09_CheckWorks_L11 (bodyAt E 57 11) n (newelref09_CheckWorks_h11 v0 v1 v2 v3 v4) k) = (fun (v0 : Int) (v1 : Int) (v2 : Int) (v3 : api_Works) (v4 : api_Job) => newelref09_CheckWorks_l11 N n v0 v1 v2 v3 v4 (fun q0 => k .ret (newelref09_CheckWorks_x11_r q0)) (fun (_ : Unit) => k (.exit 2) (newelref09_CheckWorks_x11_2 v0 v3))) := funext fun v0 => funext fun v1 => funext fun v2 => funext fun v3 => funext fun v4 => ih v0 v1 v2 v3 v4
    rw [h]
    rfl
theorem newelref09_CheckWorks_l17_eq {R : Type} (N : Nat) (k : Exit → St → Option R) (n : Nat) : ∀ (v0 : Int) (v1 : api_Works), loopM E.Θ (newelref09_within_cal N) (newelref09_CheckWorks_lp N) (noJn) 0 newelref09_CheckWorks_L17 (bodyAt E 57 17) n (newelref09_CheckWorks_h17 v0 v1) k = newelref09_CheckWorks_l17 N n v0 v1 (fun q0 => k .ret (newelref09_CheckWorks_x17_r q0)) (fun (_ : Unit) => k (.exit 4) (newelref09_CheckWorks_x17_4 )) := by
  induction n with
  | zero => intro v0 v1; rfl
  | succ n ih =>
    intro v0 v1
    refine Eq.trans (b := newelref09_CheckWorks_b17 N (fun v0 v1 => loopM E.Θ (newelref09_within_cal N) (newelref09_CheckWorks_lp N) (noJn) 0 newelref09_CheckWorks_L17 (bodyAt E 57 17) n (newelref09_CheckWorks_h17 v0 v1) k) v0 v1 (fun q0 => k .ret (newelref09_CheckWorks_x17_r q0)) (fun (_ : Unit) => k (.exit 4) (newelref09_CheckWorks_x17_4 ))) (by kernel_rfl) ?_
    have h : (fun (v0 : Int) (v1 : api_Works) => loopM E.Θ (newelref09_within_cal N) (newelref09_CheckWorks_lp N) (noJn) 0 newelref09_CheckWorks_L17 (bodyAt E 57 17) n (newelref09_CheckWorks_h17 v0 v1) k) = (fun (v0 : Int) (v1 : api_Works) => newelref09_CheckWorks_l17 N n v0 v1 (fun q0 => k .ret (newelref09_CheckWorks_x17_r q0)) (fun (_ : Unit) => k (.exit 4) (newelref09_CheckWorks_x17_4 ))) := funext fun v0 => funext fun v1 => ih v0 v1
    rw [h]
    rfl
theorem newelref09_CheckWorks_k17 {R : Type} (N : Nat) : LpKey (R := R) E 57 0 (newelref09_CheckWorks_lp N) 17 :=
  lpKey_of hE (newelref09_within_cal_ok N) (lp := newelref09_CheckWorks_lp N) (jn := noJn) newelref09_CheckWorks_L17_ok [] kNil (by kernel_rfl) [] jNil (by kernel_rfl) N fun S k =>
    Eq.trans (b := newelref09_CheckWorks_L17.head.raw 0 S (fun S0 => newelref09_CheckWorks_d17 N S0 k)) (by kernel_rfl) (congrArg (newelref09_CheckWorks_L17.head.raw 0 S) (funext fun S0 => Eq.trans (newelref09_CheckWorks_l17_eq N k N (toI (lget S0.tmps 7)) (Cod.dec api_WorksC (lget (entCs (entAt S0.tab 0))))).symm (by kernel_rfl)))
theorem newelref09_CheckWorks_k11 {R : Type} (N : Nat) : LpKey (R := R) E 57 0 (newelref09_CheckWorks_lp N) 11 :=
  lpKey_of hE (newelref09_within_cal_ok N) (lp := newelref09_CheckWorks_lp N) (jn := noJn) newelref09_CheckWorks_L11_ok [] kNil (by kernel_rfl) [] jNil (by kernel_rfl) N fun S k =>
    Eq.trans (b := newelref09_CheckWorks_L11.head.raw 0 S (fun S0 => newelref09_CheckWorks_d11 N S0 k)) (by kernel_rfl) (congrArg (newelref09_CheckWorks_L11.head.raw 0 S) (funext fun S0 => Eq.trans (newelref09_CheckWorks_l11_eq N k N (toI (lget S0.tmps 3)) (toI (lget S0.tmps 5)) (toI (lget S0.tmps 6)) (Cod.dec api_WorksC (lget (entCs (entAt S0.tab 0)))) (Cod.dec api_JobC (lget (entCs (entAt S0.tab 1))))).symm (by kernel_rfl)))
theorem newelref09_CheckWorks_k4 {R : Type} (N : Nat) : LpKey (R := R) E 57 0 (newelref09_CheckWorks_lp N) 4 :=
  lpKey_of hE (newelref09_within_cal_ok N) (lp := newelref09_CheckWorks_lp N) (jn := noJn) newelref09_CheckWorks_L4_ok [11] (kCons (newelref09_CheckWorks_k11 N) kNil) (by kernel_rfl) [] jNil (by kernel_rfl) N fun S k =>
    Eq.trans (b := newelref09_CheckWorks_L4.head.raw 0 S (fun S0 => newelref09_CheckWorks_d4 N S0 k)) (by kernel_rfl) (congrArg (newelref09_CheckWorks_L4.head.raw 0 S) (funext fun S0 => Eq.trans (newelref09_CheckWorks_l4_eq N k N (toI (lget S0.tmps 3)) (Cod.dec api_WorksC (lget (entCs (entAt S0.tab 0))))).symm (by kernel_rfl)))
noncomputable def newelref09_CheckWorks_go {R : Type} (N : Nat) (args : List SV) (T : Tab) (kf : SV × Tab → Option R) : Option R :=
  newelref09_CheckWorks N (Cod.dec api_WorksC (lget (toCs (lget args 0)))) (fun q0 => kf (lget [.int .i64 q0] 0, []))
noncomputable def newelref09_CheckWorks_cal {R : Type} (N : Nat) : Cal R := callM (newelref09_within_cal N) 57 0 newelref09_CheckWorks_sp (newelref09_CheckWorks_go N)
theorem newelref09_CheckWorks_cal_ok {R : Type} (N : Nat) : CalOk E.P (newelref09_CheckWorks_cal (R := R) N) :=
  callM_ok hE (newelref09_within_cal_ok N) (lp := newelref09_CheckWorks_lp N) (jn := noJn) (keys := [4, 11, 17]) (kCons (newelref09_CheckWorks_k4 N) (kCons (newelref09_CheckWorks_k11 N) (kCons (newelref09_CheckWorks_k17 N) kNil))) (by kernel_rfl) (js := []) jNil (by kernel_rfl) newelref09_CheckWorks_sp_ok newelref09_CheckWorks_rs_ok (fun args T kf => Eq.trans (newelref09_CheckWorks_def N (Cod.dec api_WorksC (lget (toCs (lget args 0)))) (fun q0 => kf (lget [.int .i64 q0] 0, []))) (by kernel_rfl : newelref09_CheckWorks_run N args T kf = fnM E (newelref09_within_cal N) (newelref09_CheckWorks_lp N) (noJn) 57 (newelref09_CheckWorks_sp.vs args) (newelref09_CheckWorks_sp.tab T) 0 (resK newelref09_CheckWorks_rs kf)))


def newelref09_at_m {R : Type} (N : Nat) (a99 : api_Works) (a100 : Arr Int) (a101 : Int) (a102 : Int) (k : Bool → Option R) : Option R :=
  bif decide ((0 : Int) ≤ a101) && decide (a101 < (↑(Arr.n a100) : Int)) then
   bif decide (Arr.f a100 (Int.toNat a101) ≤ a102) then
    bif decide ((0 : Int) ≤ a101) && decide (a101 < (↑(Arr.n a100) : Int)) then
     bif decide ((0 : Int) ≤ a101) && decide (a101 < (↑(Arr.n (api_Works.Jobs a99)) : Int)) then
      k (decide (w64 (a102 - Arr.f a100 (Int.toNat a101)) < api_Job.Nights (Arr.f (api_Works.Jobs a99) (Int.toNat a101))))
     else
      Option.none
    else
     Option.none
   else
    k false
  else
   Option.none
noncomputable def newelref09_at {R : Type} : Nat → api_Works → Arr Int → Int → Int → (Bool → Option R) → Option R := lock (@newelref09_at_m R)
theorem newelref09_at_def {R : Type} (N : Nat) (a99 : api_Works) (a100 : Arr Int) (a101 : Int) (a102 : Int) (k : Bool → Option R) : newelref09_at N a99 a100 a101 a102 k = newelref09_at_m N a99 a100 a101 a102 k := by unfold newelref09_at; rw [lock_eq]
def newelref09_at_sp : Sp := ⟨[rAgg api_WorksC, rSl intC, rInt .i64, rInt .i64], []⟩
theorem newelref09_at_sp_ok : newelref09_at_sp.Ok := ⟨(allCons (rAgg_ok api_WorksC_ok api_WorksC_len) (allCons (rSl_ok intC_ok) (allCons (rInt_ok .i64) (allCons (rInt_ok .i64) allNil)))), eNil⟩
def newelref09_at_rs : Sp := ⟨[rBool], []⟩
theorem newelref09_at_rs_ok : newelref09_at_rs.Ok := ⟨(allCons rBool_ok allNil), eNil⟩
def newelref09_at_run {R : Type} (N : Nat) (args : List SV) (T : Tab) (kf : SV × Tab → Option R) : Option R :=
  newelref09_at_m N (Cod.dec api_WorksC (lget (toCs (lget args 0)))) (lstC intC (lget args 1)) (toI (lget args 2)) (toI (lget args 3)) (fun q0 => kf (lget [.bool q0] 0, []))
def newelref09_at_lp {R : Type} (N : Nat) : Lp R := fun body S k => Option.none
noncomputable def newelref09_at_go {R : Type} (N : Nat) (args : List SV) (T : Tab) (kf : SV × Tab → Option R) : Option R :=
  newelref09_at N (Cod.dec api_WorksC (lget (toCs (lget args 0)))) (lstC intC (lget args 1)) (toI (lget args 2)) (toI (lget args 3)) (fun q0 => kf (lget [.bool q0] 0, []))
noncomputable def newelref09_at_cal {R : Type} (N : Nat) : Cal R := callM (newelref09_CheckWorks_cal N) 130 0 newelref09_at_sp (newelref09_at_go N)
theorem newelref09_at_cal_ok {R : Type} (N : Nat) : CalOk E.P (newelref09_at_cal (R := R) N) :=
  callM_ok hE (newelref09_CheckWorks_cal_ok N) (lp := newelref09_at_lp N) (jn := noJn) (keys := []) kNil (by kernel_rfl) (js := []) jNil (by kernel_rfl) newelref09_at_sp_ok newelref09_at_rs_ok (fun args T kf => Eq.trans (newelref09_at_def N (Cod.dec api_WorksC (lget (toCs (lget args 0)))) (lstC intC (lget args 1)) (toI (lget args 2)) (toI (lget args 3)) (fun q0 => kf (lget [.bool q0] 0, []))) (by kernel_rfl : newelref09_at_run N args T kf = fnM E (newelref09_CheckWorks_cal N) (newelref09_at_lp N) (noJn) 130 (newelref09_at_sp.vs args) (newelref09_at_sp.tab T) 0 (resK newelref09_at_rs kf)))

def newelref09_out_L2 : LoopSp := ⟨⟨[1, 2, 3, 6, 7, 8, 9], ⟨(dr 1 ((rSl intC) :: (rInt .i64) :: (rPtr 0 0) :: (dr 2 ((rInt .i64) :: (rInt .i64) :: (rBool) :: (rInt .i64) :: (dr 36 []))))), [(0, eBlkC api_WorksC)]⟩, 1⟩, [(some 0, ⟨[6, 7, 8], ⟨(dr 6 ((rInt .i64) :: (rInt .i64) :: (rBool) :: (dr 37 []))), []⟩, 0⟩)]⟩
theorem newelref09_out_L2_ok : newelref09_out_L2.Ok := ⟨⟨(drCons 1 (allCons (rSl_ok intC_ok) (allCons (rInt_ok .i64) (allCons (rPtr_ok 0 0) (drCons 2 (allCons (rInt_ok .i64) (allCons (rInt_ok .i64) (allCons rBool_ok (allCons (rInt_ok .i64) (drCons 36 allNil)))))))))), (eCons (eBlkC_ok api_WorksC_ok api_WorksC_len) eNil)⟩, (xCons ⟨(drCons 6 (allCons (rInt_ok .i64) (allCons (rInt_ok .i64) (allCons rBool_ok (drCons 37 allNil))))), eNil⟩ xNil)⟩
def newelref09_out_h2 (v92 : Arr Int) (v93 : Int) (v94 : Int) (v95 : Int) (v96 : Bool) (v97 : Int) (v98 : api_Works) : St := ⟨(un 1 ((slC intC v92) :: (.int .i64 v93) :: (.ptr 0 0) :: (un 2 ((.int .i64 v94) :: (.int .i64 v95) :: (.bool v96) :: (.int .i64 v97) :: (un 36 []))))), [(0, .blk (Cod.enc api_WorksC v98))], 1⟩
def newelref09_out_x2_0 (q0 : Int) (q1 : Int) (q2 : Bool) : St := ⟨(un 6 ((.int .i64 q0) :: (.int .i64 q1) :: (.bool q2) :: (un 37 []))), [], 0⟩
def newelref09_out_b2 {R : Type} (N : Nat) (rc : Arr Int → Int → Int → Int → Bool → Int → api_Works → Option R) (v92 : Arr Int) (v93 : Int) (v94 : Int) (v95 : Int) (v96 : Bool) (v97 : Int) (v98 : api_Works) (k0 : Int → Int → Bool → Option R) : Option R :=
  bif decide (v97 < (↑(Arr.n (api_Works.Jobs v98)) : Int)) then
   newelref09_at N v98 v92 v97 v93 (fun r103 =>
   bif r103 then
    bif decide ((0 : Int) ≤ v97) && decide (v97 < (↑(Arr.n (api_Works.Jobs v98)) : Int)) then
     bif decide (IntKind.wrap IntKind.u64 (api_Job.Machine (Arr.f (api_Works.Jobs v98) (Int.toNat v97))) < (0 : Int)) then
      Option.none
     else
      bif v96 then
       rc v92 v93 (w64 (↑(BitVec.toNat (BitVec.ofInt (IntKind.bits IntKind.i64) v94 ||| BitVec.ofInt (IntKind.bits IntKind.i64) (w64 ((1 : Int) * (2 : Int) ^ min (Int.toNat (IntKind.wrap IntKind.u64 (api_Job.Machine (Arr.f (api_Works.Jobs v98) (Int.toNat v97))))) (IntKind.bits IntKind.i64))))) : Int)) (w64 (v95 + (1 : Int))) true (w64 (v97 + (1 : Int))) v98
      else
       rc v92 v93 (w64 (↑(BitVec.toNat (BitVec.ofInt (IntKind.bits IntKind.i64) v94 ||| BitVec.ofInt (IntKind.bits IntKind.i64) (w64 ((1 : Int) * (2 : Int) ^ min (Int.toNat (IntKind.wrap IntKind.u64 (api_Job.Machine (Arr.f (api_Works.Jobs v98) (Int.toNat v97))))) (IntKind.bits IntKind.i64))))) : Int)) (w64 (v95 + (1 : Int))) (w64 (↑(BitVec.toNat (BitVec.ofInt (IntKind.bits IntKind.i64) v94 &&& BitVec.ofInt (IntKind.bits IntKind.i64) (w64 ((1 : Int) * (2 : Int) ^ min (Int.toNat (IntKind.wrap IntKind.u64 (api_Job.Machine (Arr.f (api_Works.Jobs v98) (Int.toNat v97))))) (IntKind.bits IntKind.i64))))) : Int) != (0 : Int)) (w64 (v97 + (1 : Int))) v98
    else
     Option.none
   else
    rc v92 v93 v94 v95 v96 (w64 (v97 + (1 : Int))) v98)
  else
   k0 v94 v95 v96
def newelref09_out_l2 {R : Type} (N : Nat) : Nat → Arr Int → Int → Int → Int → Bool → Int → api_Works → (Int → Int → Bool → Option R) → Option R
  | 0, _, _, _, _, _, _, _, _ => Option.none
  | n + 1, v92, v93, v94, v95, v96, v97, v98, k0 => newelref09_out_b2 N (fun v92 v93 v94 v95 v96 v97 v98 => newelref09_out_l2 N n v92 v93 v94 v95 v96 v97 v98 k0) v92 v93 v94 v95 v96 v97 v98 k0


def newelref09_out_m {R : Type} (N : Nat) (a89 : api_Works) (a90 : Arr Int) (a91 : Int) (k : Int → Int → Bool → Option R) : Option R :=
  newelref09_out_l2 N N a90 a91 (0 : Int) (0 : Int) false (0 : Int) a89 (fun r104 r105 r106 =>
   k r104 r105 r106)
noncomputable def newelref09_out {R : Type} : Nat → api_Works → Arr Int → Int → (Int → Int → Bool → Option R) → Option R := lock (@newelref09_out_m R)
theorem newelref09_out_def {R : Type} (N : Nat) (a89 : api_Works) (a90 : Arr Int) (a91 : Int) (k : Int → Int → Bool → Option R) : newelref09_out N a89 a90 a91 k = newelref09_out_m N a89 a90 a91 k := by unfold newelref09_out; rw [lock_eq]
def newelref09_out_sp : Sp := ⟨[rAgg api_WorksC, rSl intC, rInt .i64], []⟩
theorem newelref09_out_sp_ok : newelref09_out_sp.Ok := ⟨(allCons (rAgg_ok api_WorksC_ok api_WorksC_len) (allCons (rSl_ok intC_ok) (allCons (rInt_ok .i64) allNil))), eNil⟩
def newelref09_out_rs : Sp := ⟨[rTup [rInt .i64, rInt .i64, rBool]], []⟩
theorem newelref09_out_rs_ok : newelref09_out_rs.Ok := ⟨(allCons (rTup_ok (allCons (rInt_ok .i64) (allCons (rInt_ok .i64) (allCons rBool_ok allNil)))) allNil), eNil⟩
def newelref09_out_run {R : Type} (N : Nat) (args : List SV) (T : Tab) (kf : SV × Tab → Option R) : Option R :=
  newelref09_out_m N (Cod.dec api_WorksC (lget (toCs (lget args 0)))) (lstC intC (lget args 1)) (toI (lget args 2)) (fun q0 q1 q2 => kf (lget [.tup [.int .i64 q0, .int .i64 q1, .bool q2]] 0, []))
def newelref09_out_d2 {R : Type} (N : Nat) (S0 : St) (k : Exit → St → Option R) : Option R :=
  newelref09_out_l2 N N (lstC intC (lget S0.tmps 1)) (toI (lget S0.tmps 2)) (toI (lget S0.tmps 6)) (toI (lget S0.tmps 7)) (toB (lget S0.tmps 8)) (toI (lget S0.tmps 9)) (Cod.dec api_WorksC (lget (entCs (entAt S0.tab 0)))) (fun q0 q1 q2 => k (.exit 0) (newelref09_out_x2_0 q0 q1 q2))
def newelref09_out_lp {R : Type} (N : Nat) : Lp R := fun body S k => bif (Go.Sx.keyOf body).getD 0 == 2 then (newelref09_out_L2.head.raw 0 S (fun S0 => newelref09_out_d2 N S0 k)) else Option.none
theorem newelref09_out_l2_eq {R : Type} (N : Nat) (k : Exit → St → Option R) (n : Nat) : ∀ (v0 : Arr Int) (v1 : Int) (v2 : Int) (v3 : Int) (v4 : Bool) (v5 : Int) (v6 : api_Works), loopM E.Θ (newelref09_at_cal N) (newelref09_out_lp N) (noJn) 0 newelref09_out_L2 (bodyAt E 102 2) n (newelref09_out_h2 v0 v1 v2 v3 v4 v5 v6) k = newelref09_out_l2 N n v0 v1 v2 v3 v4 v5 v6 (fun q0 q1 q2 => k (.exit 0) (newelref09_out_x2_0 q0 q1 q2)) := by
  induction n with
  | zero => intro v0 v1 v2 v3 v4 v5 v6; rfl
  | succ n ih =>
    intro v0 v1 v2 v3 v4 v5 v6
    refine Eq.trans (b := newelref09_out_b2 N (fun v0 v1 v2 v3 v4 v5 v6 => loopM E.Θ (newelref09_at_cal N) (newelref09_out_lp N) (noJn) 0 newelref09_out_L2 (bodyAt E 102 2) n (newelref09_out_h2 v0 v1 v2 v3 v4 v5 v6) k) v0 v1 v2 v3 v4 v5 v6 (fun q0 q1 q2 => k (.exit 0) (newelref09_out_x2_0 q0 q1 q2))) (by kernel_rfl) ?_
    have h : (fun (v0 : Arr Int) (v1 : Int) (v2 : Int) (v3 : Int) (v4 : Bool) (v5 : Int) (v6 : api_Works) => loopM E.Θ (newelref09_at_cal N) (newelref09_out_lp N) (noJn) 0 newelref09_out_L2 (bodyAt E 102 2) n (newelref09_out_h2 v0 v1 v2 v3 v4 v5 v6) k) = (fun (v0 : Arr Int) (v1 : Int) (v2 : Int) (v3 : Int) (v4 : Bool) (v5 : Int) (v6 : api_Works) => newelref09_out_l2 N n v0 v1 v2 v3 v4 v5 v6 (fun q0 q1 q2 => k (.exit 0) (newelref09_out_x2_0 q0 q1 q2))) := funext fun v0 => funext fun v1 => funext fun v2 => funext fun v3 => funext fun v4 => funext fun v5 => funext fun v6 => ih v0 v1 v2 v3 v4 v5 v6
    rw [h]
    rfl
theorem newelref09_out_k2 {R : Type} (N : Nat) : LpKey (R := R) E 102 0 (newelref09_out_lp N) 2 :=
  lpKey_of hE (newelref09_at_cal_ok N) (lp := newelref09_out_lp N) (jn := noJn) newelref09_out_L2_ok [] kNil (by kernel_rfl) [] jNil (by kernel_rfl) N fun S k =>
    Eq.trans (b := newelref09_out_L2.head.raw 0 S (fun S0 => newelref09_out_d2 N S0 k)) (by kernel_rfl) (congrArg (newelref09_out_L2.head.raw 0 S) (funext fun S0 => Eq.trans (newelref09_out_l2_eq N k N (lstC intC (lget S0.tmps 1)) (toI (lget S0.tmps 2)) (toI (lget S0.tmps 6)) (toI (lget S0.tmps 7)) (toB (lget S0.tmps 8)) (toI (lget S0.tmps 9)) (Cod.dec api_WorksC (lget (entCs (entAt S0.tab 0))))).symm (by kernel_rfl)))
noncomputable def newelref09_out_go {R : Type} (N : Nat) (args : List SV) (T : Tab) (kf : SV × Tab → Option R) : Option R :=
  newelref09_out N (Cod.dec api_WorksC (lget (toCs (lget args 0)))) (lstC intC (lget args 1)) (toI (lget args 2)) (fun q0 q1 q2 => kf (lget [.tup [.int .i64 q0, .int .i64 q1, .bool q2]] 0, []))
noncomputable def newelref09_out_cal {R : Type} (N : Nat) : Cal R := callM (newelref09_at_cal N) 102 0 newelref09_out_sp (newelref09_out_go N)
theorem newelref09_out_cal_ok {R : Type} (N : Nat) : CalOk E.P (newelref09_out_cal (R := R) N) :=
  callM_ok hE (newelref09_at_cal_ok N) (lp := newelref09_out_lp N) (jn := noJn) (keys := [2]) (kCons (newelref09_out_k2 N) kNil) (by kernel_rfl) (js := []) jNil (by kernel_rfl) newelref09_out_sp_ok newelref09_out_rs_ok (fun args T kf => Eq.trans (newelref09_out_def N (Cod.dec api_WorksC (lget (toCs (lget args 0)))) (lstC intC (lget args 1)) (toI (lget args 2)) (fun q0 q1 q2 => kf (lget [.tup [.int .i64 q0, .int .i64 q1, .bool q2]] 0, []))) (by kernel_rfl : newelref09_out_run N args T kf = fnM E (newelref09_at_cal N) (newelref09_out_lp N) (noJn) 102 (newelref09_out_sp.vs args) (newelref09_out_sp.tab T) 0 (resK newelref09_out_rs kf)))

def newelref09_reason_L2 : LoopSp := ⟨⟨[1, 2, 6], ⟨(dr 1 ((rSl intC) :: (rPtr 0 0) :: (dr 3 ((rInt .i64) :: (dr 148 []))))), [(0, eBlkC api_WorksC)]⟩, 1⟩, [(Option.none, ⟨[4, 5], ⟨(dr 4 ((rInt .i64) :: (rInt .i64) :: (dr 149 []))), []⟩, 0⟩), (some 0, ⟨[1, 2], ⟨(dr 1 ((rSl intC) :: (rPtr 0 0) :: (dr 152 []))), [(0, eBlkC api_WorksC)]⟩, 1⟩)]⟩
theorem newelref09_reason_L2_ok : newelref09_reason_L2.Ok := ⟨⟨(drCons 1 (allCons (rSl_ok intC_ok) (allCons (rPtr_ok 0 0) (drCons 3 (allCons (rInt_ok .i64) (drCons 148 allNil)))))), (eCons (eBlkC_ok api_WorksC_ok api_WorksC_len) eNil)⟩, (xCons ⟨(drCons 4 (allCons (rInt_ok .i64) (allCons (rInt_ok .i64) (drCons 149 allNil)))), eNil⟩ (xCons ⟨(drCons 1 (allCons (rSl_ok intC_ok) (allCons (rPtr_ok 0 0) (drCons 152 allNil)))), (eCons (eBlkC_ok api_WorksC_ok api_WorksC_len) eNil)⟩ xNil))⟩
def newelref09_reason_h2 (v67 : Arr Int) (v68 : Int) (v69 : api_Works) : St := ⟨(un 1 ((slC intC v67) :: (.ptr 0 0) :: (un 3 ((.int .i64 v68) :: (un 148 []))))), [(0, .blk (Cod.enc api_WorksC v69))], 1⟩
def newelref09_reason_x2_r (q0 : Int) (q1 : Int) : St := ⟨(un 4 ((.int .i64 q0) :: (.int .i64 q1) :: (un 149 []))), [], 0⟩
def newelref09_reason_x2_0 (v67 : Arr Int) (v69 : api_Works) : St := ⟨(un 1 ((slC intC v67) :: (.ptr 0 0) :: (un 152 []))), [(0, .blk (Cod.enc api_WorksC v69))], 1⟩
def newelref09_reason_b2 {R : Type} (N : Nat) (rc : Arr Int → Int → api_Works → Option R) (v67 : Arr Int) (v68 : Int) (v69 : api_Works) (kr : Int → Int → Option R) (k0 : Unit → Option R) : Option R :=
  bif decide (v68 < (↑(Arr.n (api_Works.Jobs v69)) : Int)) then
   bif decide ((0 : Int) ≤ v68) && decide (v68 < (↑(Arr.n v67) : Int)) then
    bif decide (Arr.f v67 (Int.toNat v68) < (0 : Int)) then
     kr (1 : Int) v68
    else
     bif decide ((0 : Int) ≤ v68) && decide (v68 < (↑(Arr.n v67) : Int)) then
      bif decide ((0 : Int) ≤ v68) && decide (v68 < (↑(Arr.n (api_Works.Jobs v69)) : Int)) then
       bif decide (Arr.f v67 (Int.toNat v68) > w64 (api_Works.Until v69 - api_Job.Nights (Arr.f (api_Works.Jobs v69) (Int.toNat v68)))) then
        kr (1 : Int) v68
       else
        rc v67 (w64 (v68 + (1 : Int))) v69
      else
       Option.none
     else
      Option.none
   else
    Option.none
  else
   k0 ()
def newelref09_reason_l2 {R : Type} (N : Nat) : Nat → Arr Int → Int → api_Works → (Int → Int → Option R) → (Unit → Option R) → Option R
  | 0, _, _, _, _, _ => Option.none
  | n + 1, v67, v68, v69, kr, k0 => newelref09_reason_b2 N (fun v67 v68 v69 => newelref09_reason_l2 N n v67 v68 v69 kr k0) v67 v68 v69 kr k0

def newelref09_reason_L10 : LoopSp := ⟨⟨[1, 2, 7, 8], ⟨(dr 1 ((rSl intC) :: (rPtr 0 0) :: (dr 4 ((rInt .i64) :: (rInt .i64) :: (dr 146 []))))), [(0, eBlkC api_WorksC)]⟩, 1⟩, [(Option.none, ⟨[4, 5], ⟨(dr 4 ((rInt .i64) :: (rInt .i64) :: (dr 149 []))), []⟩, 0⟩), (some 4, ⟨[1, 2, 7], ⟨(dr 1 ((rSl intC) :: (rPtr 0 0) :: (dr 4 ((rInt .i64) :: (dr 147 []))))), [(0, eBlkC api_WorksC)]⟩, 1⟩)]⟩
theorem newelref09_reason_L10_ok : newelref09_reason_L10.Ok := ⟨⟨(drCons 1 (allCons (rSl_ok intC_ok) (allCons (rPtr_ok 0 0) (drCons 4 (allCons (rInt_ok .i64) (allCons (rInt_ok .i64) (drCons 146 allNil))))))), (eCons (eBlkC_ok api_WorksC_ok api_WorksC_len) eNil)⟩, (xCons ⟨(drCons 4 (allCons (rInt_ok .i64) (allCons (rInt_ok .i64) (drCons 149 allNil)))), eNil⟩ (xCons ⟨(drCons 1 (allCons (rSl_ok intC_ok) (allCons (rPtr_ok 0 0) (drCons 4 (allCons (rInt_ok .i64) (drCons 147 allNil)))))), (eCons (eBlkC_ok api_WorksC_ok api_WorksC_len) eNil)⟩ xNil))⟩
def newelref09_reason_h10 (v75 : Arr Int) (v76 : Int) (v77 : Int) (v78 : api_Works) : St := ⟨(un 1 ((slC intC v75) :: (.ptr 0 0) :: (un 4 ((.int .i64 v76) :: (.int .i64 v77) :: (un 146 []))))), [(0, .blk (Cod.enc api_WorksC v78))], 1⟩
def newelref09_reason_x10_r (v76 : Int) (q0 : Int) : St := ⟨(un 4 ((.int .i64 q0) :: (.int .i64 v76) :: (un 149 []))), [], 0⟩
def newelref09_reason_x10_4 (v75 : Arr Int) (v76 : Int) (v78 : api_Works) : St := ⟨(un 1 ((slC intC v75) :: (.ptr 0 0) :: (un 4 ((.int .i64 v76) :: (un 147 []))))), [(0, .blk (Cod.enc api_WorksC v78))], 1⟩
def newelref09_reason_b10 {R : Type} (N : Nat) (rc : Arr Int → Int → Int → api_Works → Option R) (v75 : Arr Int) (v76 : Int) (v77 : Int) (v78 : api_Works) (kr : Int → Option R) (k4 : Unit → Option R) : Option R :=
  bif decide ((0 : Int) ≤ v76) && decide (v76 < (↑(Arr.n (api_Works.Jobs v78)) : Int)) then
   bif decide (v77 < (↑(Arr.n (api_Job.After (Arr.f (api_Works.Jobs v78) (Int.toNat v76)))) : Int)) then
    bif decide ((0 : Int) ≤ v76) && decide (v76 < (↑(Arr.n (api_Works.Jobs v78)) : Int)) then
     bif decide ((0 : Int) ≤ v77) && decide (v77 < (↑(Arr.n (api_Job.After (Arr.f (api_Works.Jobs v78) (Int.toNat v76)))) : Int)) then
      bif decide ((0 : Int) ≤ v76) && decide (v76 < (↑(Arr.n v75) : Int)) then
       bif decide ((0 : Int) ≤ Arr.f (api_Job.After (Arr.f (api_Works.Jobs v78) (Int.toNat v76))) (Int.toNat v77)) && decide (Arr.f (api_Job.After (Arr.f (api_Works.Jobs v78) (Int.toNat v76))) (Int.toNat v77) < (↑(Arr.n v75) : Int)) then
        bif decide ((0 : Int) ≤ Arr.f (api_Job.After (Arr.f (api_Works.Jobs v78) (Int.toNat v76))) (Int.toNat v77)) && decide (Arr.f (api_Job.After (Arr.f (api_Works.Jobs v78) (Int.toNat v76))) (Int.toNat v77) < (↑(Arr.n (api_Works.Jobs v78)) : Int)) then
         bif decide (Arr.f v75 (Int.toNat v76) < w64 (Arr.f v75 (Int.toNat (Arr.f (api_Job.After (Arr.f (api_Works.Jobs v78) (Int.toNat v76))) (Int.toNat v77))) + api_Job.Nights (Arr.f (api_Works.Jobs v78) (Int.toNat (Arr.f (api_Job.After (Arr.f (api_Works.Jobs v78) (Int.toNat v76))) (Int.toNat v77)))))) then
          kr (2 : Int)
         else
          rc v75 v76 (w64 (v77 + (1 : Int))) v78
        else
         Option.none
       else
        Option.none
      else
       Option.none
     else
      Option.none
    else
     Option.none
   else
    k4 ()
  else
   Option.none
def newelref09_reason_l10 {R : Type} (N : Nat) : Nat → Arr Int → Int → Int → api_Works → (Int → Option R) → (Unit → Option R) → Option R
  | 0, _, _, _, _, _, _ => Option.none
  | n + 1, v75, v76, v77, v78, kr, k4 => newelref09_reason_b10 N (fun v75 v76 v77 v78 => newelref09_reason_l10 N n v75 v76 v77 v78 kr k4) v75 v76 v77 v78 kr k4

def newelref09_reason_L7 : LoopSp := ⟨⟨[1, 2, 7], ⟨(dr 1 ((rSl intC) :: (rPtr 0 0) :: (dr 4 ((rInt .i64) :: (dr 147 []))))), [(0, eBlkC api_WorksC)]⟩, 1⟩, [(Option.none, ⟨[4, 5], ⟨(dr 4 ((rInt .i64) :: (rInt .i64) :: (dr 149 []))), []⟩, 0⟩), (some 2, ⟨[1, 2], ⟨(dr 1 ((rSl intC) :: (rPtr 0 0) :: (dr 152 []))), [(0, eBlkC api_WorksC)]⟩, 1⟩)]⟩
theorem newelref09_reason_L7_ok : newelref09_reason_L7.Ok := ⟨⟨(drCons 1 (allCons (rSl_ok intC_ok) (allCons (rPtr_ok 0 0) (drCons 4 (allCons (rInt_ok .i64) (drCons 147 allNil)))))), (eCons (eBlkC_ok api_WorksC_ok api_WorksC_len) eNil)⟩, (xCons ⟨(drCons 4 (allCons (rInt_ok .i64) (allCons (rInt_ok .i64) (drCons 149 allNil)))), eNil⟩ (xCons ⟨(drCons 1 (allCons (rSl_ok intC_ok) (allCons (rPtr_ok 0 0) (drCons 152 allNil)))), (eCons (eBlkC_ok api_WorksC_ok api_WorksC_len) eNil)⟩ xNil))⟩
def newelref09_reason_h7 (v72 : Arr Int) (v73 : Int) (v74 : api_Works) : St := ⟨(un 1 ((slC intC v72) :: (.ptr 0 0) :: (un 4 ((.int .i64 v73) :: (un 147 []))))), [(0, .blk (Cod.enc api_WorksC v74))], 1⟩
def newelref09_reason_x7_r (q0 : Int) (q1 : Int) : St := ⟨(un 4 ((.int .i64 q0) :: (.int .i64 q1) :: (un 149 []))), [], 0⟩
def newelref09_reason_x7_2 (v72 : Arr Int) (v74 : api_Works) : St := ⟨(un 1 ((slC intC v72) :: (.ptr 0 0) :: (un 152 []))), [(0, .blk (Cod.enc api_WorksC v74))], 1⟩
def newelref09_reason_b7 {R : Type} (N : Nat) (rc : Arr Int → Int → api_Works → Option R) (v72 : Arr Int) (v73 : Int) (v74 : api_Works) (kr : Int → Int → Option R) (k2 : Unit → Option R) : Option R :=
  bif decide (v73 < (↑(Arr.n (api_Works.Jobs v74)) : Int)) then
   newelref09_reason_l10 N N v72 v73 (0 : Int) v74 (fun r79 =>
    kr r79 v73) (fun (_ : Unit) =>
    rc v72 (w64 (v73 + (1 : Int))) v74)
  else
   k2 ()
def newelref09_reason_l7 {R : Type} (N : Nat) : Nat → Arr Int → Int → api_Works → (Int → Int → Option R) → (Unit → Option R) → Option R
  | 0, _, _, _, _, _ => Option.none
  | n + 1, v72, v73, v74, kr, k2 => newelref09_reason_b7 N (fun v72 v73 v74 => newelref09_reason_l7 N n v72 v73 v74 kr k2) v72 v73 v74 kr k2

def newelref09_reason_L24 : LoopSp := ⟨⟨[1, 2, 10, 11, 12, 13, 14, 15, 16], ⟨(dr 1 ((rSl intC) :: (rPtr 0 0) :: (dr 7 ((rInt .i64) :: (rInt .i64) :: (rInt .i64) :: (rInt .i64) :: (rBool) :: (rBool) :: (rInt .i64) :: (dr 138 []))))), [(0, eBlkC api_WorksC)]⟩, 1⟩, [(some 10, ⟨[1, 2, 10, 11, 13, 14, 15], ⟨(dr 1 ((rSl intC) :: (rPtr 0 0) :: (dr 7 ((rInt .i64) :: (rInt .i64) :: (dr 1 ((rInt .i64) :: (rBool) :: (rBool) :: (dr 139 []))))))), [(0, eBlkC api_WorksC)]⟩, 1⟩)]⟩
theorem newelref09_reason_L24_ok : newelref09_reason_L24.Ok := ⟨⟨(drCons 1 (allCons (rSl_ok intC_ok) (allCons (rPtr_ok 0 0) (drCons 7 (allCons (rInt_ok .i64) (allCons (rInt_ok .i64) (allCons (rInt_ok .i64) (allCons (rInt_ok .i64) (allCons rBool_ok (allCons rBool_ok (allCons (rInt_ok .i64) (drCons 138 allNil)))))))))))), (eCons (eBlkC_ok api_WorksC_ok api_WorksC_len) eNil)⟩, (xCons ⟨(drCons 1 (allCons (rSl_ok intC_ok) (allCons (rPtr_ok 0 0) (drCons 7 (allCons (rInt_ok .i64) (allCons (rInt_ok .i64) (drCons 1 (allCons (rInt_ok .i64) (allCons rBool_ok (allCons rBool_ok (drCons 139 allNil))))))))))), (eCons (eBlkC_ok api_WorksC_ok api_WorksC_len) eNil)⟩ xNil)⟩
def newelref09_reason_h24 (v110 : Arr Int) (v111 : Int) (v112 : Int) (v113 : Int) (v114 : Int) (v115 : Bool) (v116 : Bool) (v117 : Int) (v118 : api_Works) : St := ⟨(un 1 ((slC intC v110) :: (.ptr 0 0) :: (un 7 ((.int .i64 v111) :: (.int .i64 v112) :: (.int .i64 v113) :: (.int .i64 v114) :: (.bool v115) :: (.bool v116) :: (.int .i64 v117) :: (un 138 []))))), [(0, .blk (Cod.enc api_WorksC v118))], 1⟩
def newelref09_reason_x24_10 (v110 : Arr Int) (v111 : Int) (v112 : Int) (v114 : Int) (v115 : Bool) (v118 : api_Works) (q5 : Bool) : St := ⟨(un 1 ((slC intC v110) :: (.ptr 0 0) :: (un 7 ((.int .i64 v111) :: (.int .i64 v112) :: (un 1 ((.int .i64 v114) :: (.bool v115) :: (.bool q5) :: (un 139 []))))))), [(0, .blk (Cod.enc api_WorksC v118))], 1⟩
def newelref09_reason_b24 {R : Type} (N : Nat) (rc : Arr Int → Int → Int → Int → Int → Bool → Bool → Int → api_Works → Option R) (v110 : Arr Int) (v111 : Int) (v112 : Int) (v113 : Int) (v114 : Int) (v115 : Bool) (v116 : Bool) (v117 : Int) (v118 : api_Works) (k10 : Bool → Option R) : Option R :=
  bif decide (v117 < (↑(Arr.n (api_Works.Never v118)) : Int)) then
   bif v116 then
    rc v110 v111 v112 v113 v114 v115 true (w64 (v117 + (1 : Int))) v118
   else
    bif decide ((0 : Int) ≤ v117) && decide (v117 < (↑(Arr.n (api_Works.Never v118)) : Int)) then
     bif decide ((0 : Int) ≤ v117) && decide (v117 < (↑(Arr.n (api_Works.Never v118)) : Int)) then
      rc v110 v111 v112 v113 v114 v115 (w64 (↑(BitVec.toNat (BitVec.ofInt (IntKind.bits IntKind.i64) v113 &&& BitVec.ofInt (IntKind.bits IntKind.i64) (Arr.f (api_Works.Never v118) (Int.toNat v117)))) : Int) == Arr.f (api_Works.Never v118) (Int.toNat v117)) (w64 (v117 + (1 : Int))) v118
     else
      Option.none
    else
     Option.none
  else
   k10 v116
def newelref09_reason_l24 {R : Type} (N : Nat) : Nat → Arr Int → Int → Int → Int → Int → Bool → Bool → Int → api_Works → (Bool → Option R) → Option R
  | 0, _, _, _, _, _, _, _, _, _, _ => Option.none
  | n + 1, v110, v111, v112, v113, v114, v115, v116, v117, v118, k10 => newelref09_reason_b24 N (fun v110 v111 v112 v113 v114 v115 v116 v117 v118 => newelref09_reason_l24 N n v110 v111 v112 v113 v114 v115 v116 v117 v118 k10) v110 v111 v112 v113 v114 v115 v116 v117 v118 k10

def newelref09_reason_L19 : LoopSp := ⟨⟨[1, 2, 10, 11], ⟨(dr 1 ((rSl intC) :: (rPtr 0 0) :: (dr 7 ((rInt .i64) :: (rInt .i64) :: (dr 143 []))))), [(0, eBlkC api_WorksC)]⟩, 1⟩, [(Option.none, ⟨[4, 5], ⟨(dr 4 ((rInt .i64) :: (rInt .i64) :: (dr 149 []))), []⟩, 0⟩), (some 8, ⟨[1, 2, 10], ⟨(dr 1 ((rSl intC) :: (rPtr 0 0) :: (dr 7 ((rInt .i64) :: (dr 144 []))))), [(0, eBlkC api_WorksC)]⟩, 1⟩)]⟩
theorem newelref09_reason_L19_ok : newelref09_reason_L19.Ok := ⟨⟨(drCons 1 (allCons (rSl_ok intC_ok) (allCons (rPtr_ok 0 0) (drCons 7 (allCons (rInt_ok .i64) (allCons (rInt_ok .i64) (drCons 143 allNil))))))), (eCons (eBlkC_ok api_WorksC_ok api_WorksC_len) eNil)⟩, (xCons ⟨(drCons 4 (allCons (rInt_ok .i64) (allCons (rInt_ok .i64) (drCons 149 allNil)))), eNil⟩ (xCons ⟨(drCons 1 (allCons (rSl_ok intC_ok) (allCons (rPtr_ok 0 0) (drCons 7 (allCons (rInt_ok .i64) (drCons 144 allNil)))))), (eCons (eBlkC_ok api_WorksC_ok api_WorksC_len) eNil)⟩ xNil))⟩
def newelref09_reason_h19 (v85 : Arr Int) (v86 : Int) (v87 : Int) (v88 : api_Works) : St := ⟨(un 1 ((slC intC v85) :: (.ptr 0 0) :: (un 7 ((.int .i64 v86) :: (.int .i64 v87) :: (un 143 []))))), [(0, .blk (Cod.enc api_WorksC v88))], 1⟩
def newelref09_reason_x19_r (v86 : Int) (q1 : Int) : St := ⟨(un 4 ((.int .i64 v86) :: (.int .i64 q1) :: (un 149 []))), [], 0⟩
def newelref09_reason_x19_8 (v85 : Arr Int) (v86 : Int) (v88 : api_Works) : St := ⟨(un 1 ((slC intC v85) :: (.ptr 0 0) :: (un 7 ((.int .i64 v86) :: (un 144 []))))), [(0, .blk (Cod.enc api_WorksC v88))], 1⟩
def newelref09_reason_b19 {R : Type} (N : Nat) (rc : Arr Int → Int → Int → api_Works → Option R) (v85 : Arr Int) (v86 : Int) (v87 : Int) (v88 : api_Works) (kr : Int → Option R) (k8 : Unit → Option R) : Option R :=
  bif decide (v87 < api_Works.Until v88) then
   newelref09_out N v88 v85 v87 (fun r107 r108 r109 =>
   newelref09_reason_l24 N N v85 v86 v87 r107 r108 r109 false (0 : Int) v88 (fun r119 =>
    bif v86 == (3 : Int) then
     bif r109 then
      kr v87
     else
      bif v86 == (4 : Int) then
       bif decide (r108 > api_Works.Crews v88) then
        kr v87
       else
        bif v86 == (5 : Int) then
         bif r119 then
          kr v87
         else
          rc v85 v86 (w64 (v87 + (1 : Int))) v88
        else
         rc v85 v86 (w64 (v87 + (1 : Int))) v88
      else
       bif v86 == (5 : Int) then
        bif r119 then
         kr v87
        else
         rc v85 v86 (w64 (v87 + (1 : Int))) v88
       else
        rc v85 v86 (w64 (v87 + (1 : Int))) v88
    else
     bif v86 == (4 : Int) then
      bif decide (r108 > api_Works.Crews v88) then
       kr v87
      else
       bif v86 == (5 : Int) then
        bif r119 then
         kr v87
        else
         rc v85 v86 (w64 (v87 + (1 : Int))) v88
       else
        rc v85 v86 (w64 (v87 + (1 : Int))) v88
     else
      bif v86 == (5 : Int) then
       bif r119 then
        kr v87
       else
        rc v85 v86 (w64 (v87 + (1 : Int))) v88
      else
       rc v85 v86 (w64 (v87 + (1 : Int))) v88))
  else
   k8 ()
def newelref09_reason_l19 {R : Type} (N : Nat) : Nat → Arr Int → Int → Int → api_Works → (Int → Option R) → (Unit → Option R) → Option R
  | 0, _, _, _, _, _, _ => Option.none
  | n + 1, v85, v86, v87, v88, kr, k8 => newelref09_reason_b19 N (fun v85 v86 v87 v88 => newelref09_reason_l19 N n v85 v86 v87 v88 kr k8) v85 v86 v87 v88 kr k8

def newelref09_reason_L16 : LoopSp := ⟨⟨[1, 2, 10], ⟨(dr 1 ((rSl intC) :: (rPtr 0 0) :: (dr 7 ((rInt .i64) :: (dr 144 []))))), [(0, eBlkC api_WorksC)]⟩, 1⟩, [(Option.none, ⟨[4, 5], ⟨(dr 4 ((rInt .i64) :: (rInt .i64) :: (dr 149 []))), []⟩, 0⟩), (some 6, ⟨[], ⟨(dr 155 []), []⟩, 0⟩)]⟩
theorem newelref09_reason_L16_ok : newelref09_reason_L16.Ok := ⟨⟨(drCons 1 (allCons (rSl_ok intC_ok) (allCons (rPtr_ok 0 0) (drCons 7 (allCons (rInt_ok .i64) (drCons 144 allNil)))))), (eCons (eBlkC_ok api_WorksC_ok api_WorksC_len) eNil)⟩, (xCons ⟨(drCons 4 (allCons (rInt_ok .i64) (allCons (rInt_ok .i64) (drCons 149 allNil)))), eNil⟩ (xCons ⟨(drCons 155 allNil), eNil⟩ xNil))⟩
def newelref09_reason_h16 (v82 : Arr Int) (v83 : Int) (v84 : api_Works) : St := ⟨(un 1 ((slC intC v82) :: (.ptr 0 0) :: (un 7 ((.int .i64 v83) :: (un 144 []))))), [(0, .blk (Cod.enc api_WorksC v84))], 1⟩
def newelref09_reason_x16_r (q0 : Int) (q1 : Int) : St := ⟨(un 4 ((.int .i64 q0) :: (.int .i64 q1) :: (un 149 []))), [], 0⟩
def newelref09_reason_x16_6  : St := ⟨(un 155 []), [], 0⟩
def newelref09_reason_b16 {R : Type} (N : Nat) (rc : Arr Int → Int → api_Works → Option R) (v82 : Arr Int) (v83 : Int) (v84 : api_Works) (kr : Int → Int → Option R) (k6 : Unit → Option R) : Option R :=
  bif decide (v83 ≤ (5 : Int)) then
   newelref09_reason_l19 N N v82 v83 (0 : Int) v84 (fun r120 =>
    kr v83 r120) (fun (_ : Unit) =>
    rc v82 (w64 (v83 + (1 : Int))) v84)
  else
   k6 ()
def newelref09_reason_l16 {R : Type} (N : Nat) : Nat → Arr Int → Int → api_Works → (Int → Int → Option R) → (Unit → Option R) → Option R
  | 0, _, _, _, _, _ => Option.none
  | n + 1, v82, v83, v84, kr, k6 => newelref09_reason_b16 N (fun v82 v83 v84 => newelref09_reason_l16 N n v82 v83 v84 kr k6) v82 v83 v84 kr k6


def newelref09_reason_m {R : Type} (N : Nat) (a65 : api_Works) (a66 : Arr Int) (k : Int → Int → Option R) : Option R :=
  newelref09_reason_l2 N N a66 (0 : Int) a65 (fun r70 r71 =>
   k r70 r71) (fun (_ : Unit) =>
   newelref09_reason_l7 N N a66 (0 : Int) a65 (fun r80 r81 =>
    k r80 r81) (fun (_ : Unit) =>
    newelref09_reason_l16 N N a66 (3 : Int) a65 (fun r121 r122 =>
     k r121 r122) (fun (_ : Unit) =>
     k (0 : Int) (0 : Int))))
noncomputable def newelref09_reason {R : Type} : Nat → api_Works → Arr Int → (Int → Int → Option R) → Option R := lock (@newelref09_reason_m R)
theorem newelref09_reason_def {R : Type} (N : Nat) (a65 : api_Works) (a66 : Arr Int) (k : Int → Int → Option R) : newelref09_reason N a65 a66 k = newelref09_reason_m N a65 a66 k := by unfold newelref09_reason; rw [lock_eq]
def newelref09_reason_sp : Sp := ⟨[rAgg api_WorksC, rSl intC], []⟩
theorem newelref09_reason_sp_ok : newelref09_reason_sp.Ok := ⟨(allCons (rAgg_ok api_WorksC_ok api_WorksC_len) (allCons (rSl_ok intC_ok) allNil)), eNil⟩
def newelref09_reason_rs : Sp := ⟨[rTup [rInt .i64, rInt .i64]], []⟩
theorem newelref09_reason_rs_ok : newelref09_reason_rs.Ok := ⟨(allCons (rTup_ok (allCons (rInt_ok .i64) (allCons (rInt_ok .i64) allNil))) allNil), eNil⟩
def newelref09_reason_run {R : Type} (N : Nat) (args : List SV) (T : Tab) (kf : SV × Tab → Option R) : Option R :=
  newelref09_reason_m N (Cod.dec api_WorksC (lget (toCs (lget args 0)))) (lstC intC (lget args 1)) (fun q0 q1 => kf (lget [.tup [.int .i64 q0, .int .i64 q1]] 0, []))
def newelref09_reason_d24 {R : Type} (N : Nat) (S0 : St) (k : Exit → St → Option R) : Option R :=
  newelref09_reason_l24 N N (lstC intC (lget S0.tmps 1)) (toI (lget S0.tmps 10)) (toI (lget S0.tmps 11)) (toI (lget S0.tmps 12)) (toI (lget S0.tmps 13)) (toB (lget S0.tmps 14)) (toB (lget S0.tmps 15)) (toI (lget S0.tmps 16)) (Cod.dec api_WorksC (lget (entCs (entAt S0.tab 0)))) (fun q5 => k (.exit 10) (newelref09_reason_x24_10 (lstC intC (lget S0.tmps 1)) (toI (lget S0.tmps 10)) (toI (lget S0.tmps 11)) (toI (lget S0.tmps 13)) (toB (lget S0.tmps 14)) (Cod.dec api_WorksC (lget (entCs (entAt S0.tab 0)))) q5))
def newelref09_reason_d19 {R : Type} (N : Nat) (S0 : St) (k : Exit → St → Option R) : Option R :=
  newelref09_reason_l19 N N (lstC intC (lget S0.tmps 1)) (toI (lget S0.tmps 10)) (toI (lget S0.tmps 11)) (Cod.dec api_WorksC (lget (entCs (entAt S0.tab 0)))) (fun q1 => k .ret (newelref09_reason_x19_r (toI (lget S0.tmps 10)) q1)) (fun (_ : Unit) => k (.exit 8) (newelref09_reason_x19_8 (lstC intC (lget S0.tmps 1)) (toI (lget S0.tmps 10)) (Cod.dec api_WorksC (lget (entCs (entAt S0.tab 0))))))
def newelref09_reason_d16 {R : Type} (N : Nat) (S0 : St) (k : Exit → St → Option R) : Option R :=
  newelref09_reason_l16 N N (lstC intC (lget S0.tmps 1)) (toI (lget S0.tmps 10)) (Cod.dec api_WorksC (lget (entCs (entAt S0.tab 0)))) (fun q0 q1 => k .ret (newelref09_reason_x16_r q0 q1)) (fun (_ : Unit) => k (.exit 6) (newelref09_reason_x16_6 ))
def newelref09_reason_d10 {R : Type} (N : Nat) (S0 : St) (k : Exit → St → Option R) : Option R :=
  newelref09_reason_l10 N N (lstC intC (lget S0.tmps 1)) (toI (lget S0.tmps 7)) (toI (lget S0.tmps 8)) (Cod.dec api_WorksC (lget (entCs (entAt S0.tab 0)))) (fun q0 => k .ret (newelref09_reason_x10_r (toI (lget S0.tmps 7)) q0)) (fun (_ : Unit) => k (.exit 4) (newelref09_reason_x10_4 (lstC intC (lget S0.tmps 1)) (toI (lget S0.tmps 7)) (Cod.dec api_WorksC (lget (entCs (entAt S0.tab 0))))))
def newelref09_reason_d7 {R : Type} (N : Nat) (S0 : St) (k : Exit → St → Option R) : Option R :=
  newelref09_reason_l7 N N (lstC intC (lget S0.tmps 1)) (toI (lget S0.tmps 7)) (Cod.dec api_WorksC (lget (entCs (entAt S0.tab 0)))) (fun q0 q1 => k .ret (newelref09_reason_x7_r q0 q1)) (fun (_ : Unit) => k (.exit 2) (newelref09_reason_x7_2 (lstC intC (lget S0.tmps 1)) (Cod.dec api_WorksC (lget (entCs (entAt S0.tab 0))))))
def newelref09_reason_d2 {R : Type} (N : Nat) (S0 : St) (k : Exit → St → Option R) : Option R :=
  newelref09_reason_l2 N N (lstC intC (lget S0.tmps 1)) (toI (lget S0.tmps 6)) (Cod.dec api_WorksC (lget (entCs (entAt S0.tab 0)))) (fun q0 q1 => k .ret (newelref09_reason_x2_r q0 q1)) (fun (_ : Unit) => k (.exit 0) (newelref09_reason_x2_0 (lstC intC (lget S0.tmps 1)) (Cod.dec api_WorksC (lget (entCs (entAt S0.tab 0))))))
def newelref09_reason_lp {R : Type} (N : Nat) : Lp R := fun body S k => bif (Go.Sx.keyOf body).getD 0 == 2 then (newelref09_reason_L2.head.raw 0 S (fun S0 => newelref09_reason_d2 N S0 k)) else bif (Go.Sx.keyOf body).getD 0 == 7 then (newelref09_reason_L7.head.raw 0 S (fun S0 => newelref09_reason_d7 N S0 k)) else bif (Go.Sx.keyOf body).getD 0 == 10 then (newelref09_reason_L10.head.raw 0 S (fun S0 => newelref09_reason_d10 N S0 k)) else bif (Go.Sx.keyOf body).getD 0 == 16 then (newelref09_reason_L16.head.raw 0 S (fun S0 => newelref09_reason_d16 N S0 k)) else bif (Go.Sx.keyOf body).getD 0 == 19 then (newelref09_reason_L19.head.raw 0 S (fun S0 => newelref09_reason_d19 N S0 k)) else bif (Go.Sx.keyOf body).getD 0 == 24 then (newelref09_reason_L24.head.raw 0 S (fun S0 => newelref09_reason_d24 N S0 k)) else Option.none
theorem newelref09_reason_l2_eq {R : Type} (N : Nat) (k : Exit → St → Option R) (n : Nat) : ∀ (v0 : Arr Int) (v1 : Int) (v2 : api_Works), loopM E.Θ (newelref09_out_cal N) (newelref09_reason_lp N) (noJn) 0 newelref09_reason_L2 (bodyAt E 58 2) n (newelref09_reason_h2 v0 v1 v2) k = newelref09_reason_l2 N n v0 v1 v2 (fun q0 q1 => k .ret (newelref09_reason_x2_r q0 q1)) (fun (_ : Unit) => k (.exit 0) (newelref09_reason_x2_0 v0 v2)) := by
  induction n with
  | zero => intro v0 v1 v2; rfl
  | succ n ih =>
    intro v0 v1 v2
    refine Eq.trans (b := newelref09_reason_b2 N (fun v0 v1 v2 => loopM E.Θ (newelref09_out_cal N) (newelref09_reason_lp N) (noJn) 0 newelref09_reason_L2 (bodyAt E 58 2) n (newelref09_reason_h2 v0 v1 v2) k) v0 v1 v2 (fun q0 q1 => k .ret (newelref09_reason_x2_r q0 q1)) (fun (_ : Unit) => k (.exit 0) (newelref09_reason_x2_0 v0 v2))) (by kernel_rfl) ?_
    have h : (fun (v0 : Arr Int) (v1 : Int) (v2 : api_Works) => loopM E.Θ (newelref09_out_cal N) (newelref09_reason_lp N) (noJn) 0 newelref09_reason_L2 (bodyAt E 58 2) n (newelref09_reason_h2 v0 v1 v2) k) = (fun (v0 : Arr Int) (v1 : Int) (v2 : api_Works) => newelref09_reason_l2 N n v0 v1 v2 (fun q0 q1 => k .ret (newelref09_reason_x2_r q0 q1)) (fun (_ : Unit) => k (.exit 0) (newelref09_reason_x2_0 v0 v2))) := funext fun v0 => funext fun v1 => funext fun v2 => ih v0 v1 v2
    rw [h]
    rfl
theorem newelref09_reason_l7_eq {R : Type} (N : Nat) (k : Exit → St → Option R) (n : Nat) : ∀ (v0 : Arr Int) (v1 : Int) (v2 : api_Works), loopM E.Θ (newelref09_out_cal N) (newelref09_reason_lp N) (noJn) 0 newelref09_reason_L7 (bodyAt E 58 7) n (newelref09_reason_h7 v0 v1 v2) k = newelref09_reason_l7 N n v0 v1 v2 (fun q0 q1 => k .ret (newelref09_reason_x7_r q0 q1)) (fun (_ : Unit) => k (.exit 2) (newelref09_reason_x7_2 v0 v2)) := by
  induction n with
  | zero => intro v0 v1 v2; rfl
  | succ n ih =>
    intro v0 v1 v2
    refine Eq.trans (b := newelref09_reason_b7 N (fun v0 v1 v2 => loopM E.Θ (newelref09_out_cal N) (newelref09_reason_lp N) (noJn) 0 newelref09_reason_L7 (bodyAt E 58 7) n (newelref09_reason_h7 v0 v1 v2) k) v0 v1 v2 (fun q0 q1 => k .ret (newelref09_reason_x7_r q0 q1)) (fun (_ : Unit) => k (.exit 2) (newelref09_reason_x7_2 v0 v2))) (by kernel_rfl) ?_
    have h : (fun (v0 : Arr Int) (v1 : Int) (v2 : api_Works) => loopM E.Θ (newelref09_out_cal N) (newelref09_reason_lp N) (noJn) 0 newelref09_reason_L7 (bodyAt E 58 7) n (newelref09_reason_h7 v0 v1 v2) k) = (fun (v0 : Arr Int) (v1 : Int) (v2 : api_Works) => newelref09_reason_l7 N n v0 v1 v2 (fun q0 q1 => k .ret (newelref09_reason_x7_r q0 q1)) (fun (_ : Unit) => k (.exit 2) (newelref09_reason_x7_2 v0 v2))) := funext fun v0 => funext fun v1 => funext fun v2 => ih v0 v1 v2
    rw [h]
    rfl
theorem newelref09_reason_l10_eq {R : Type} (N : Nat) (k : Exit → St → Option R) (n : Nat) : ∀ (v0 : Arr Int) (v1 : Int) (v2 : Int) (v3 : api_Works), loopM E.Θ (newelref09_out_cal N) (newelref09_reason_lp N) (noJn) 0 newelref09_reason_L10 (bodyAt E 58 10) n (newelref09_reason_h10 v0 v1 v2 v3) k = newelref09_reason_l10 N n v0 v1 v2 v3 (fun q0 => k .ret (newelref09_reason_x10_r v1 q0)) (fun (_ : Unit) => k (.exit 4) (newelref09_reason_x10_4 v0 v1 v3)) := by
  induction n with
  | zero => intro v0 v1 v2 v3; rfl
  | succ n ih =>
    intro v0 v1 v2 v3
    refine Eq.trans (b := newelref09_reason_b10 N (fun v0 v1 v2 v3 => loopM E.Θ (newelref09_out_cal N) (newelref09_reason_lp N) (noJn) 0 newelref09_reason_L10 (bodyAt E 58 10) n (newelref09_reason_h10 v0 v1 v2 v3) k) v0 v1 v2 v3 (fun q0 => k .ret (newelref09_reason_x10_r v1 q0)) (fun (_ : Unit) => k (.exit 4) (newelref09_reason_x10_4 v0 v1 v3))) (by kernel_rfl) ?_
    have h : (fun (v0 : Arr Int) (v1 : Int) (v2 : Int) (v3 : api_Works) => loopM E.Θ (newelref09_out_cal N) (newelref09_reason_lp N) (noJn) 0 newelref09_reason_L10 (bodyAt E 58 10) n (newelref09_reason_h10 v0 v1 v2 v3) k) = (fun (v0 : Arr Int) (v1 : Int) (v2 : Int) (v3 : api_Works) => newelref09_reason_l10 N n v0 v1 v2 v3 (fun q0 => k .ret (newelref09_reason_x10_r v1 q0)) (fun (_ : Unit) => k (.exit 4) (newelref09_reason_x10_4 v0 v1 v3))) := funext fun v0 => funext fun v1 => funext fun v2 => funext fun v3 => ih v0 v1 v2 v3
    rw [h]
    rfl
theorem newelref09_reason_l16_eq {R : Type} (N : Nat) (k : Exit → St → Option R) (n : Nat) : ∀ (v0 : Arr Int) (v1 : Int) (v2 : api_Works), loopM E.Θ (newelref09_out_cal N) (newelref09_reason_lp N) (noJn) 0 newelref09_reason_L16 (bodyAt E 58 16) n (newelref09_reason_h16 v0 v1 v2) k = newelref09_reason_l16 N n v0 v1 v2 (fun q0 q1 => k .ret (newelref09_reason_x16_r q0 q1)) (fun (_ : Unit) => k (.exit 6) (newelref09_reason_x16_6 )) := by
  induction n with
  | zero => intro v0 v1 v2; rfl
  | succ n ih =>
    intro v0 v1 v2
    refine Eq.trans (b := newelref09_reason_b16 N (fun v0 v1 v2 => loopM E.Θ (newelref09_out_cal N) (newelref09_reason_lp N) (noJn) 0 newelref09_reason_L16 (bodyAt E 58 16) n (newelref09_reason_h16 v0 v1 v2) k) v0 v1 v2 (fun q0 q1 => k .ret (newelref09_reason_x16_r q0 q1)) (fun (_ : Unit) => k (.exit 6) (newelref09_reason_x16_6 ))) (by kernel_rfl) ?_
    have h : (fun (v0 : Arr Int) (v1 : Int) (v2 : api_Works) => loopM E.Θ (newelref09_out_cal N) (newelref09_reason_lp N) (noJn) 0 newelref09_reason_L16 (bodyAt E 58 16) n (newelref09_reason_h16 v0 v1 v2) k) = (fun (v0 : Arr Int) (v1 : Int) (v2 : api_Works) => newelref09_reason_l16 N n v0 v1 v2 (fun q0 q1 => k .ret (newelref09_reason_x16_r q0 q1)) (fun (_ : Unit) => k (.exit 6) (newelref09_reason_x16_6 ))) := funext fun v0 => funext fun v1 => funext fun v2 => ih v0 v1 v2
    rw [h]
    rfl
theorem newelref09_reason_l19_eq {R : Type} (N : Nat) (k : Exit → St → Option R) (n : Nat) : ∀ (v0 : Arr Int) (v1 : Int) (v2 : Int) (v3 : api_Works), loopM E.Θ (newelref09_out_cal N) (newelref09_reason_lp N) (noJn) 0 newelref09_reason_L19 (bodyAt E 58 19) n (newelref09_reason_h19 v0 v1 v2 v3) k = newelref09_reason_l19 N n v0 v1 v2 v3 (fun q1 => k .ret (newelref09_reason_x19_r v1 q1)) (fun (_ : Unit) => k (.exit 8) (newelref09_reason_x19_8 v0 v1 v3)) := by
  induction n with
  | zero => intro v0 v1 v2 v3; rfl
  | succ n ih =>
    intro v0 v1 v2 v3
    refine Eq.trans (b := newelref09_reason_b19 N (fun v0 v1 v2 v3 => loopM E.Θ (newelref09_out_cal N) (newelref09_reason_lp N) (noJn) 0 newelref09_reason_L19 (bodyAt E 58 19) n (newelref09_reason_h19 v0 v1 v2 v3) k) v0 v1 v2 v3 (fun q1 => k .ret (newelref09_reason_x19_r v1 q1)) (fun (_ : Unit) => k (.exit 8) (newelref09_reason_x19_8 v0 v1 v3))) (by kernel_rfl) ?_
    have h : (fun (v0 : Arr Int) (v1 : Int) (v2 : Int) (v3 : api_Works) => loopM E.Θ (newelref09_out_cal N) (newelref09_reason_lp N) (noJn) 0 newelref09_reason_L19 (bodyAt E 58 19) n (newelref09_reason_h19 v0 v1 v2 v3) k) = (fun (v0 : Arr Int) (v1 : Int) (v2 : Int) (v3 : api_Works) => newelref09_reason_l19 N n v0 v1 v2 v3 (fun q1 => k .ret (newelref09_reason_x19_r v1 q1)) (fun (_ : Unit) => k (.exit 8) (newelref09_reason_x19_8 v0 v1 v3))) := funext fun v0 => funext fun v1 => funext fun v2 => funext fun v3 => ih v0 v1 v2 v3
    rw [h]
    rfl
theorem newelref09_reason_l24_eq {R : Type} (N : Nat) (k : Exit → St → Option R) (n : Nat) : ∀ (v0 : Arr Int) (v1 : Int) (v2 : Int) (v3 : Int) (v4 : Int) (v5 : Bool) (v6 : Bool) (v7 : Int) (v8 : api_Works), loopM E.Θ (newelref09_out_cal N) (newelref09_reason_lp N) (noJn) 0 newelref09_reason_L24 (bodyAt E 58 24) n (newelref09_reason_h24 v0 v1 v2 v3 v4 v5 v6 v7 v8) k = newelref09_reason_l24 N n v0 v1 v2 v3 v4 v5 v6 v7 v8 (fun q5 => k (.exit 10) (newelref09_reason_x24_10 v0 v1 v2 v4 v5 v8 q5)) := by
  induction n with
  | zero => intro v0 v1 v2 v3 v4 v5 v6 v7 v8; rfl
  | succ n ih =>
    intro v0 v1 v2 v3 v4 v5 v6 v7 v8
    refine Eq.trans (b := newelref09_reason_b24 N (fun v0 v1 v2 v3 v4 v5 v6 v7 v8 => loopM E.Θ (newelref09_out_cal N) (newelref09_reason_lp N) (noJn) 0 newelref09_reason_L24 (bodyAt E 58 24) n (newelref09_reason_h24 v0 v1 v2 v3 v4 v5 v6 v7 v8) k) v0 v1 v2 v3 v4 v5 v6 v7 v8 (fun q5 => k (.exit 10) (newelref09_reason_x24_10 v0 v1 v2 v4 v5 v8 q5))) (by kernel_rfl) ?_
    have h : (fun (v0 : Arr Int) (v1 : Int) (v2 : Int) (v3 : Int) (v4 : Int) (v5 : Bool) (v6 : Bool) (v7 : Int) (v8 : api_Works) => loopM E.Θ (newelref09_out_cal N) (newelref09_reason_lp N) (noJn) 0 newelref09_reason_L24 (bodyAt E 58 24) n (newelref09_reason_h24 v0 v1 v2 v3 v4 v5 v6 v7 v8) k) = (fun (v0 : Arr Int) (v1 : Int) (v2 : Int) (v3 : Int) (v4 : Int) (v5 : Bool) (v6 : Bool) (v7 : Int) (v8 : api_Works) => newelref09_reason_l24 N n v0 v1 v2 v3 v4 v5 v6 v7 v8 (fun q5 => k (.exit 10) (newelref09_reason_x24_10 v0 v1 v2 v4 v5 v8 q5))) := funext fun v0 => funext fun v1 => funext fun v2 => funext fun v3 => funext fun v4 => funext fun v5 => funext fun v6 => funext fun v7 => funext fun v8 => ih v0 v1 v2 v3 v4 v5 v6 v7 v8
    rw [h]
    rfl
theorem newelref09_reason_k24 {R : Type} (N : Nat) : LpKey (R := R) E 58 0 (newelref09_reason_lp N) 24 :=
  lpKey_of hE (newelref09_out_cal_ok N) (lp := newelref09_reason_lp N) (jn := noJn) newelref09_reason_L24_ok [] kNil (by kernel_rfl) [] jNil (by kernel_rfl) N fun S k =>
    Eq.trans (b := newelref09_reason_L24.head.raw 0 S (fun S0 => newelref09_reason_d24 N S0 k)) (by kernel_rfl) (congrArg (newelref09_reason_L24.head.raw 0 S) (funext fun S0 => Eq.trans (newelref09_reason_l24_eq N k N (lstC intC (lget S0.tmps 1)) (toI (lget S0.tmps 10)) (toI (lget S0.tmps 11)) (toI (lget S0.tmps 12)) (toI (lget S0.tmps 13)) (toB (lget S0.tmps 14)) (toB (lget S0.tmps 15)) (toI (lget S0.tmps 16)) (Cod.dec api_WorksC (lget (entCs (entAt S0.tab 0))))).symm (by kernel_rfl)))
theorem newelref09_reason_k2 {R : Type} (N : Nat) : LpKey (R := R) E 58 0 (newelref09_reason_lp N) 2 :=
  lpKey_of hE (newelref09_out_cal_ok N) (lp := newelref09_reason_lp N) (jn := noJn) newelref09_reason_L2_ok [] kNil (by kernel_rfl) [] jNil (by kernel_rfl) N fun S k =>
    Eq.trans (b := newelref09_reason_L2.head.raw 0 S (fun S0 => newelref09_reason_d2 N S0 k)) (by kernel_rfl) (congrArg (newelref09_reason_L2.head.raw 0 S) (funext fun S0 => Eq.trans (newelref09_reason_l2_eq N k N (lstC intC (lget S0.tmps 1)) (toI (lget S0.tmps 6)) (Cod.dec api_WorksC (lget (entCs (entAt S0.tab 0))))).symm (by kernel_rfl)))
theorem newelref09_reason_k10 {R : Type} (N : Nat) : LpKey (R := R) E 58 0 (newelref09_reason_lp N) 10 :=
  lpKey_of hE (newelref09_out_cal_ok N) (lp := newelref09_reason_lp N) (jn := noJn) newelref09_reason_L10_ok [] kNil (by kernel_rfl) [] jNil (by kernel_rfl) N fun S k =>
    Eq.trans (b := newelref09_reason_L10.head.raw 0 S (fun S0 => newelref09_reason_d10 N S0 k)) (by kernel_rfl) (congrArg (newelref09_reason_L10.head.raw 0 S) (funext fun S0 => Eq.trans (newelref09_reason_l10_eq N k N (lstC intC (lget S0.tmps 1)) (toI (lget S0.tmps 7)) (toI (lget S0.tmps 8)) (Cod.dec api_WorksC (lget (entCs (entAt S0.tab 0))))).symm (by kernel_rfl)))
theorem newelref09_reason_k7 {R : Type} (N : Nat) : LpKey (R := R) E 58 0 (newelref09_reason_lp N) 7 :=
  lpKey_of hE (newelref09_out_cal_ok N) (lp := newelref09_reason_lp N) (jn := noJn) newelref09_reason_L7_ok [10] (kCons (newelref09_reason_k10 N) kNil) (by kernel_rfl) [] jNil (by kernel_rfl) N fun S k =>
    Eq.trans (b := newelref09_reason_L7.head.raw 0 S (fun S0 => newelref09_reason_d7 N S0 k)) (by kernel_rfl) (congrArg (newelref09_reason_L7.head.raw 0 S) (funext fun S0 => Eq.trans (newelref09_reason_l7_eq N k N (lstC intC (lget S0.tmps 1)) (toI (lget S0.tmps 7)) (Cod.dec api_WorksC (lget (entCs (entAt S0.tab 0))))).symm (by kernel_rfl)))
theorem newelref09_reason_k19 {R : Type} (N : Nat) : LpKey (R := R) E 58 0 (newelref09_reason_lp N) 19 :=
  lpKey_of hE (newelref09_out_cal_ok N) (lp := newelref09_reason_lp N) (jn := noJn) newelref09_reason_L19_ok [24] (kCons (newelref09_reason_k24 N) kNil) (by kernel_rfl) [] jNil (by kernel_rfl) N fun S k =>
    Eq.trans (b := newelref09_reason_L19.head.raw 0 S (fun S0 => newelref09_reason_d19 N S0 k)) (by kernel_rfl) (congrArg (newelref09_reason_L19.head.raw 0 S) (funext fun S0 => Eq.trans (newelref09_reason_l19_eq N k N (lstC intC (lget S0.tmps 1)) (toI (lget S0.tmps 10)) (toI (lget S0.tmps 11)) (Cod.dec api_WorksC (lget (entCs (entAt S0.tab 0))))).symm (by kernel_rfl)))
theorem newelref09_reason_k16 {R : Type} (N : Nat) : LpKey (R := R) E 58 0 (newelref09_reason_lp N) 16 :=
  lpKey_of hE (newelref09_out_cal_ok N) (lp := newelref09_reason_lp N) (jn := noJn) newelref09_reason_L16_ok [19, 24] (kCons (newelref09_reason_k19 N) (kCons (newelref09_reason_k24 N) kNil)) (by kernel_rfl) [] jNil (by kernel_rfl) N fun S k =>
    Eq.trans (b := newelref09_reason_L16.head.raw 0 S (fun S0 => newelref09_reason_d16 N S0 k)) (by kernel_rfl) (congrArg (newelref09_reason_L16.head.raw 0 S) (funext fun S0 => Eq.trans (newelref09_reason_l16_eq N k N (lstC intC (lget S0.tmps 1)) (toI (lget S0.tmps 10)) (Cod.dec api_WorksC (lget (entCs (entAt S0.tab 0))))).symm (by kernel_rfl)))
noncomputable def newelref09_reason_go {R : Type} (N : Nat) (args : List SV) (T : Tab) (kf : SV × Tab → Option R) : Option R :=
  newelref09_reason N (Cod.dec api_WorksC (lget (toCs (lget args 0)))) (lstC intC (lget args 1)) (fun q0 q1 => kf (lget [.tup [.int .i64 q0, .int .i64 q1]] 0, []))
noncomputable def newelref09_reason_cal {R : Type} (N : Nat) : Cal R := callM (newelref09_out_cal N) 58 0 newelref09_reason_sp (newelref09_reason_go N)
theorem newelref09_reason_cal_ok {R : Type} (N : Nat) : CalOk E.P (newelref09_reason_cal (R := R) N) :=
  callM_ok hE (newelref09_out_cal_ok N) (lp := newelref09_reason_lp N) (jn := noJn) (keys := [2, 7, 10, 16, 19, 24]) (kCons (newelref09_reason_k2 N) (kCons (newelref09_reason_k7 N) (kCons (newelref09_reason_k10 N) (kCons (newelref09_reason_k16 N) (kCons (newelref09_reason_k19 N) (kCons (newelref09_reason_k24 N) kNil)))))) (by kernel_rfl) (js := []) jNil (by kernel_rfl) newelref09_reason_sp_ok newelref09_reason_rs_ok (fun args T kf => Eq.trans (newelref09_reason_def N (Cod.dec api_WorksC (lget (toCs (lget args 0)))) (lstC intC (lget args 1)) (fun q0 q1 => kf (lget [.tup [.int .i64 q0, .int .i64 q1]] 0, []))) (by kernel_rfl : newelref09_reason_run N args T kf = fnM E (newelref09_out_cal N) (newelref09_reason_lp N) (noJn) 58 (newelref09_reason_sp.vs args) (newelref09_reason_sp.tab T) 0 (resK newelref09_reason_rs kf)))


def newelref09_CheckPlan_m {R : Type} (N : Nat) (a38 : api_Works) (a39 : Arr Int) (k : Int → Int → Int → Option R) : Option R :=
  newelref09_CheckWorks N a38 (fun r64 =>
  bif r64 != (0 : Int) then
   k (0 : Int) (0 : Int) (92 : Int)
  else
   bif (↑(Arr.n a39) : Int) != (↑(Arr.n (api_Works.Jobs a38)) : Int) then
    k (0 : Int) (0 : Int) (1 : Int)
   else
    newelref09_reason N a38 a39 (fun r123 r124 =>
    bif r123 != (0 : Int) then
     k r123 r124 (93 : Int)
    else
     k (0 : Int) (0 : Int) (0 : Int)))
noncomputable def newelref09_CheckPlan {R : Type} : Nat → api_Works → Arr Int → (Int → Int → Int → Option R) → Option R := lock (@newelref09_CheckPlan_m R)
theorem newelref09_CheckPlan_def {R : Type} (N : Nat) (a38 : api_Works) (a39 : Arr Int) (k : Int → Int → Int → Option R) : newelref09_CheckPlan N a38 a39 k = newelref09_CheckPlan_m N a38 a39 k := by unfold newelref09_CheckPlan; rw [lock_eq]
def newelref09_CheckPlan_sp : Sp := ⟨[rAgg api_WorksC, rSl intC], []⟩
theorem newelref09_CheckPlan_sp_ok : newelref09_CheckPlan_sp.Ok := ⟨(allCons (rAgg_ok api_WorksC_ok api_WorksC_len) (allCons (rSl_ok intC_ok) allNil)), eNil⟩
def newelref09_CheckPlan_rs : Sp := ⟨[rTup [rInt .i64, rInt .i64, rInt .i64]], []⟩
theorem newelref09_CheckPlan_rs_ok : newelref09_CheckPlan_rs.Ok := ⟨(allCons (rTup_ok (allCons (rInt_ok .i64) (allCons (rInt_ok .i64) (allCons (rInt_ok .i64) allNil)))) allNil), eNil⟩
def newelref09_CheckPlan_run {R : Type} (N : Nat) (args : List SV) (T : Tab) (kf : SV × Tab → Option R) : Option R :=
  newelref09_CheckPlan_m N (Cod.dec api_WorksC (lget (toCs (lget args 0)))) (lstC intC (lget args 1)) (fun q0 q1 q2 => kf (lget [.tup [.int .i64 q0, .int .i64 q1, .int .i64 q2]] 0, []))
def newelref09_CheckPlan_lp {R : Type} (N : Nat) : Lp R := fun body S k => Option.none
noncomputable def newelref09_CheckPlan_go {R : Type} (N : Nat) (args : List SV) (T : Tab) (kf : SV × Tab → Option R) : Option R :=
  newelref09_CheckPlan N (Cod.dec api_WorksC (lget (toCs (lget args 0)))) (lstC intC (lget args 1)) (fun q0 q1 q2 => kf (lget [.tup [.int .i64 q0, .int .i64 q1, .int .i64 q2]] 0, []))
noncomputable def newelref09_CheckPlan_cal {R : Type} (N : Nat) : Cal R := callM (newelref09_reason_cal N) 22 0 newelref09_CheckPlan_sp (newelref09_CheckPlan_go N)
theorem newelref09_CheckPlan_cal_ok {R : Type} (N : Nat) : CalOk E.P (newelref09_CheckPlan_cal (R := R) N) :=
  callM_ok hE (newelref09_reason_cal_ok N) (lp := newelref09_CheckPlan_lp N) (jn := noJn) (keys := []) kNil (by kernel_rfl) (js := []) jNil (by kernel_rfl) newelref09_CheckPlan_sp_ok newelref09_CheckPlan_rs_ok (fun args T kf => Eq.trans (newelref09_CheckPlan_def N (Cod.dec api_WorksC (lget (toCs (lget args 0)))) (lstC intC (lget args 1)) (fun q0 q1 q2 => kf (lget [.tup [.int .i64 q0, .int .i64 q1, .int .i64 q2]] 0, []))) (by kernel_rfl : newelref09_CheckPlan_run N args T kf = fnM E (newelref09_reason_cal N) (newelref09_CheckPlan_lp N) (noJn) 22 (newelref09_CheckPlan_sp.vs args) (newelref09_CheckPlan_sp.tab T) 0 (resK newelref09_CheckPlan_rs kf)))


def ways_within_m {R : Type} (N : Nat) (a134 : Int) (a135 : Int) (a136 : Int) (k : Bool → Option R) : Option R :=
  bif decide (a134 ≥ a135) then
   k (decide (a134 ≤ a136))
  else
   k false
noncomputable def ways_within {R : Type} : Nat → Int → Int → Int → (Bool → Option R) → Option R := lock (@ways_within_m R)
theorem ways_within_def {R : Type} (N : Nat) (a134 : Int) (a135 : Int) (a136 : Int) (k : Bool → Option R) : ways_within N a134 a135 a136 k = ways_within_m N a134 a135 a136 k := by unfold ways_within; rw [lock_eq]
def ways_within_sp : Sp := ⟨[rInt .i64, rInt .i64, rInt .i64], []⟩
theorem ways_within_sp_ok : ways_within_sp.Ok := ⟨(allCons (rInt_ok .i64) (allCons (rInt_ok .i64) (allCons (rInt_ok .i64) allNil))), eNil⟩
def ways_within_rs : Sp := ⟨[rBool], []⟩
theorem ways_within_rs_ok : ways_within_rs.Ok := ⟨(allCons rBool_ok allNil), eNil⟩
def ways_within_run {R : Type} (N : Nat) (args : List SV) (T : Tab) (kf : SV × Tab → Option R) : Option R :=
  ways_within_m N (toI (lget args 0)) (toI (lget args 1)) (toI (lget args 2)) (fun q0 => kf (lget [.bool q0] 0, []))
def ways_within_lp {R : Type} (N : Nat) : Lp R := fun body S k => Option.none
noncomputable def ways_within_go {R : Type} (N : Nat) (args : List SV) (T : Tab) (kf : SV × Tab → Option R) : Option R :=
  ways_within N (toI (lget args 0)) (toI (lget args 1)) (toI (lget args 2)) (fun q0 => kf (lget [.bool q0] 0, []))
noncomputable def ways_within_cal {R : Type} (N : Nat) : Cal R := callM (newelref09_CheckPlan_cal N) 104 0 ways_within_sp (ways_within_go N)
theorem ways_within_cal_ok {R : Type} (N : Nat) : CalOk E.P (ways_within_cal (R := R) N) :=
  callM_ok hE (newelref09_CheckPlan_cal_ok N) (lp := ways_within_lp N) (jn := noJn) (keys := []) kNil (by kernel_rfl) (js := []) jNil (by kernel_rfl) ways_within_sp_ok ways_within_rs_ok (fun args T kf => Eq.trans (ways_within_def N (toI (lget args 0)) (toI (lget args 1)) (toI (lget args 2)) (fun q0 => kf (lget [.bool q0] 0, []))) (by kernel_rfl : ways_within_run N args T kf = fnM E (newelref09_CheckPlan_cal N) (ways_within_lp N) (noJn) 104 (ways_within_sp.vs args) (ways_within_sp.tab T) 0 (resK ways_within_rs kf)))


def ways_passage_m {R : Type} (N : Nat) (a143 : api_Passage) (a144 : Int) (k : Bool → Option R) : Option R :=
  ways_within N (api_Passage.A a143) (0 : Int) (w64 (a144 - (1 : Int))) (fun r145 =>
  bif !r145 then
   k false
  else
   ways_within N (api_Passage.B a143) (0 : Int) (w64 (a144 - (1 : Int))) (fun r146 =>
   bif !r146 then
    k false
   else
    bif api_Passage.A a143 == api_Passage.B a143 then
     k false
    else
     ways_within N (api_Passage.Ticks a143) (1 : Int) (20 : Int) (fun r147 =>
     bif !r147 then
      k false
     else
      ways_within N (api_Passage.Wide a143) (1 : Int) (50 : Int) (fun r148 =>
      bif !r148 then
       k false
      else
       bif api_Passage.Kind a143 == (1 : Int) then
        bif api_Passage.Machine a143 == (-1 : Int) then
         k (api_Passage.Still a143 == (0 : Int))
        else
         k false
       else
        bif api_Passage.Kind a143 == (2 : Int) then
         bif api_Passage.Machine a143 == (-1 : Int) then
          k (api_Passage.Still a143 == (0 : Int))
         else
          k false
        else
         bif api_Passage.Kind a143 == (5 : Int) then
          bif api_Passage.Machine a143 == (-1 : Int) then
           k (api_Passage.Still a143 == (0 : Int))
          else
           k false
         else
          bif api_Passage.Kind a143 == (3 : Int) then
           ways_within N (api_Passage.Machine a143) (0 : Int) (11 : Int) (fun r149 =>
           bif r149 then
            ways_within N (api_Passage.Still a143) (1 : Int) (20 : Int) (fun r150 =>
            k r150)
           else
            k false)
          else
           bif api_Passage.Kind a143 == (4 : Int) then
            ways_within N (api_Passage.Machine a143) (0 : Int) (11 : Int) (fun r151 =>
            bif r151 then
             k (api_Passage.Still a143 == (0 : Int))
            else
             k false)
           else
            k false))))
noncomputable def ways_passage {R : Type} : Nat → api_Passage → Int → (Bool → Option R) → Option R := lock (@ways_passage_m R)
theorem ways_passage_def {R : Type} (N : Nat) (a143 : api_Passage) (a144 : Int) (k : Bool → Option R) : ways_passage N a143 a144 k = ways_passage_m N a143 a144 k := by unfold ways_passage; rw [lock_eq]
def ways_passage_sp : Sp := ⟨[rAgg api_PassageC, rInt .i64], []⟩
theorem ways_passage_sp_ok : ways_passage_sp.Ok := ⟨(allCons (rAgg_ok api_PassageC_ok api_PassageC_len) (allCons (rInt_ok .i64) allNil)), eNil⟩
def ways_passage_rs : Sp := ⟨[rBool], []⟩
theorem ways_passage_rs_ok : ways_passage_rs.Ok := ⟨(allCons rBool_ok allNil), eNil⟩
def ways_passage_run {R : Type} (N : Nat) (args : List SV) (T : Tab) (kf : SV × Tab → Option R) : Option R :=
  ways_passage_m N (Cod.dec api_PassageC (lget (toCs (lget args 0)))) (toI (lget args 1)) (fun q0 => kf (lget [.bool q0] 0, []))
def ways_passage_lp {R : Type} (N : Nat) : Lp R := fun body S k => Option.none
noncomputable def ways_passage_go {R : Type} (N : Nat) (args : List SV) (T : Tab) (kf : SV × Tab → Option R) : Option R :=
  ways_passage N (Cod.dec api_PassageC (lget (toCs (lget args 0)))) (toI (lget args 1)) (fun q0 => kf (lget [.bool q0] 0, []))
noncomputable def ways_passage_cal {R : Type} (N : Nat) : Cal R := callM (ways_within_cal N) 131 0 ways_passage_sp (ways_passage_go N)
theorem ways_passage_cal_ok {R : Type} (N : Nat) : CalOk E.P (ways_passage_cal (R := R) N) :=
  callM_ok hE (ways_within_cal_ok N) (lp := ways_passage_lp N) (jn := noJn) (keys := []) kNil (by kernel_rfl) (js := []) jNil (by kernel_rfl) ways_passage_sp_ok ways_passage_rs_ok (fun args T kf => Eq.trans (ways_passage_def N (Cod.dec api_PassageC (lget (toCs (lget args 0)))) (toI (lget args 1)) (fun q0 => kf (lget [.bool q0] 0, []))) (by kernel_rfl : ways_passage_run N args T kf = fnM E (ways_within_cal N) (ways_passage_lp N) (noJn) 131 (ways_passage_sp.vs args) (ways_passage_sp.tab T) 0 (resK ways_passage_rs kf)))

def ways_Check_L5 : LoopSp := ⟨⟨[1, 3, 21, 22, 23], ⟨(dr 1 ((rPtr 0 0) :: (dr 1 ((rRow 1) :: (dr 17 ((rSl api_PassageC) :: (rInt .i64) :: (rInt .i64) :: (dr 41 []))))))), [(0, eBlkC api_StationC), (1, eMp false false intC intC)]⟩, 2⟩, [(Option.none, ⟨[2], ⟨(dr 2 ((rInt .i64) :: (dr 62 []))), []⟩, 0⟩), (some 0, ⟨[1], ⟨(dr 1 ((rPtr 0 0) :: (dr 63 []))), [(0, eBlkC api_StationC)]⟩, 1⟩)]⟩
theorem ways_Check_L5_ok : ways_Check_L5.Ok := ⟨⟨(drCons 1 (allCons (rPtr_ok 0 0) (drCons 1 (allCons (rRow_ok 1) (drCons 17 (allCons (rSl_ok api_PassageC_ok) (allCons (rInt_ok .i64) (allCons (rInt_ok .i64) (drCons 41 allNil))))))))), (eCons (eBlkC_ok api_StationC_ok api_StationC_len) (eCons (eMp_ok intC_flat intC_flat) eNil))⟩, (xCons ⟨(drCons 2 (allCons (rInt_ok .i64) (drCons 62 allNil))), eNil⟩ (xCons ⟨(drCons 1 (allCons (rPtr_ok 0 0) (drCons 63 allNil))), (eCons (eBlkC_ok api_StationC_ok api_StationC_len) eNil)⟩ xNil))⟩
def ways_Check_h5 (v138 : Arr api_Passage) (v139 : Int) (v140 : Int) (v141 : api_Station) (v142 : Mp Int Int) : St := ⟨(un 1 ((.ptr 0 0) :: (un 1 ((.row 1) :: (un 17 ((slC api_PassageC v138) :: (.int .i64 v139) :: (.int .i64 v140) :: (un 41 []))))))), [(0, .blk (Cod.enc api_StationC v141)), (1, mpE false false intC intC v142)], 2⟩
def ways_Check_x5_r (q0 : Int) : St := ⟨(un 2 ((.int .i64 q0) :: (un 62 []))), [], 0⟩
def ways_Check_x5_0 (v141 : api_Station) : St := ⟨(un 1 ((.ptr 0 0) :: (un 63 []))), [(0, .blk (Cod.enc api_StationC v141))], 1⟩
def ways_Check_b5 {R : Type} (N : Nat) (rc : Arr api_Passage → Int → Int → api_Station → Mp Int Int → Option R) (v138 : Arr api_Passage) (v139 : Int) (v140 : Int) (v141 : api_Station) (v142 : Mp Int Int) (kr : Int → Option R) (k0 : Unit → Option R) : Option R :=
  bif decide (v140 < v139) then
   bif decide ((0 : Int) ≤ v140) && decide (v140 < (↑(Arr.n v138) : Int)) then
    ways_passage N (Arr.f v138 (Int.toNat v140)) (api_Station.Places v141) (fun r152 =>
    bif !r152 then
     kr (80 : Int)
    else
     bif decide (api_Passage.Machine (Arr.f v138 (Int.toNat v140)) ≥ (0 : Int)) then
      bif decide (toI (putG [SV.int IntKind.i64 (api_Passage.Machine (Arr.f v138 (Int.toNat v140)))] [SV.int IntKind.i64 (w64 (Mp.get v142 (api_Passage.Machine (Arr.f v138 (Int.toNat v140))) + (1 : Int)))] (mpG intC intC v142) [SV.int IntKind.i64 (api_Passage.Machine (Arr.f v138 (Int.toNat v140)))] (0 : Nat)) > (1 : Int)) then
       kr (80 : Int)
      else
       rc v138 v139 (w64 (v140 + (1 : Int))) v141 (mpD intC intC (putH [SV.int IntKind.i64 (api_Passage.Machine (Arr.f v138 (Int.toNat v140)))] (mpH intC v142)) (putG [SV.int IntKind.i64 (api_Passage.Machine (Arr.f v138 (Int.toNat v140)))] [SV.int IntKind.i64 (w64 (Mp.get v142 (api_Passage.Machine (Arr.f v138 (Int.toNat v140))) + (1 : Int)))] (mpG intC intC v142)))
     else
      rc v138 v139 (w64 (v140 + (1 : Int))) v141 (mpD intC intC (putH [SV.int IntKind.i64 (api_Passage.Machine (Arr.f v138 (Int.toNat v140)))] (mpH intC v142)) (putG [SV.int IntKind.i64 (api_Passage.Machine (Arr.f v138 (Int.toNat v140)))] [SV.int IntKind.i64 (w64 (Mp.get v142 (api_Passage.Machine (Arr.f v138 (Int.toNat v140))) + (1 : Int)))] (mpG intC intC v142))))
   else
    Option.none
  else
   k0 ()
def ways_Check_l5 {R : Type} (N : Nat) : Nat → Arr api_Passage → Int → Int → api_Station → Mp Int Int → (Int → Option R) → (Unit → Option R) → Option R
  | 0, _, _, _, _, _, _, _ => Option.none
  | n + 1, v138, v139, v140, v141, v142, kr, k0 => ways_Check_b5 N (fun v138 v139 v140 v141 v142 => ways_Check_l5 N n v138 v139 v140 v141 v142 kr k0) v138 v139 v140 v141 v142 kr k0

def ways_Check_L15 : LoopSp := ⟨⟨[1, 6, 49, 50, 51], ⟨(dr 1 ((rPtr 0 0) :: (dr 4 ((rInt .i64) :: (dr 42 ((rSl intC) :: (rInt .i64) :: (rInt .i64) :: (dr 13 []))))))), [(0, eBlkC api_StationC)]⟩, 1⟩, [(Option.none, ⟨[2], ⟨(dr 2 ((rInt .i64) :: (dr 62 []))), []⟩, 0⟩), (some 2, ⟨[], ⟨(dr 65 []), []⟩, 0⟩)]⟩
theorem ways_Check_L15_ok : ways_Check_L15.Ok := ⟨⟨(drCons 1 (allCons (rPtr_ok 0 0) (drCons 4 (allCons (rInt_ok .i64) (drCons 42 (allCons (rSl_ok intC_ok) (allCons (rInt_ok .i64) (allCons (rInt_ok .i64) (drCons 13 allNil))))))))), (eCons (eBlkC_ok api_StationC_ok api_StationC_len) eNil)⟩, (xCons ⟨(drCons 2 (allCons (rInt_ok .i64) (drCons 62 allNil))), eNil⟩ (xCons ⟨(drCons 65 allNil), eNil⟩ xNil))⟩
def ways_Check_h15 (v154 : Int) (v155 : Arr Int) (v156 : Int) (v157 : Int) (v158 : api_Station) : St := ⟨(un 1 ((.ptr 0 0) :: (un 4 ((.int .i64 v154) :: (un 42 ((slC intC v155) :: (.int .i64 v156) :: (.int .i64 v157) :: (un 13 []))))))), [(0, .blk (Cod.enc api_StationC v158))], 1⟩
def ways_Check_x15_r (q0 : Int) : St := ⟨(un 2 ((.int .i64 q0) :: (un 62 []))), [], 0⟩
def ways_Check_x15_2  : St := ⟨(un 65 []), [], 0⟩
def ways_Check_b15 {R : Type} (N : Nat) (rc : Int → Arr Int → Int → Int → api_Station → Option R) (v154 : Int) (v155 : Arr Int) (v156 : Int) (v157 : Int) (v158 : api_Station) (kr : Int → Option R) (k2 : Unit → Option R) : Option R :=
  bif decide (v157 < v156) then
   bif decide ((0 : Int) ≤ v157) && decide (v157 < (↑(Arr.n v155) : Int)) then
    ways_within N (Arr.f v155 (Int.toNat v157)) (w64 (v154 + (1 : Int))) (w64 (api_Station.Places v158 - (1 : Int))) (fun r159 =>
    bif !r159 then
     kr (80 : Int)
    else
     rc (Arr.f v155 (Int.toNat v157)) v155 v156 (w64 (v157 + (1 : Int))) v158)
   else
    Option.none
  else
   k2 ()
def ways_Check_l15 {R : Type} (N : Nat) : Nat → Int → Arr Int → Int → Int → api_Station → (Int → Option R) → (Unit → Option R) → Option R
  | 0, _, _, _, _, _, _, _ => Option.none
  | n + 1, v154, v155, v156, v157, v158, kr, k2 => ways_Check_b15 N (fun v154 v155 v156 v157 v158 => ways_Check_l15 N n v154 v155 v156 v157 v158 kr k2) v154 v155 v156 v157 v158 kr k2


def ways_Check_m {R : Type} (N : Nat) (a133 : api_Station) (k : Int → Option R) : Option R :=
  ways_within N (api_Station.Places a133) (1 : Int) (10 : Int) (fun r137 =>
  bif !r137 then
   k (80 : Int)
  else
   bif decide ((↑(Arr.n (api_Station.Passages a133)) : Int) > (24 : Int)) then
    k (80 : Int)
   else
    ways_Check_l5 N N (api_Station.Passages a133) ((↑(Arr.n (api_Station.Passages a133)) : Int)) (0 : Int) a133 (mpD intC intC noH (noG (CK.cons (CK.int IntKind.i64) CK.nil))) (fun r153 =>
     k r153) (fun (_ : Unit) =>
     ways_Check_l15 N N (-1 : Int) (api_Station.Exits a133) ((↑(Arr.n (api_Station.Exits a133)) : Int)) (0 : Int) a133 (fun r160 =>
      k r160) (fun (_ : Unit) =>
      k (0 : Int))))
noncomputable def ways_Check {R : Type} : Nat → api_Station → (Int → Option R) → Option R := lock (@ways_Check_m R)
theorem ways_Check_def {R : Type} (N : Nat) (a133 : api_Station) (k : Int → Option R) : ways_Check N a133 k = ways_Check_m N a133 k := by unfold ways_Check; rw [lock_eq]
def ways_Check_sp : Sp := ⟨[rAgg api_StationC], []⟩
theorem ways_Check_sp_ok : ways_Check_sp.Ok := ⟨(allCons (rAgg_ok api_StationC_ok api_StationC_len) allNil), eNil⟩
def ways_Check_rs : Sp := ⟨[rInt .i64], []⟩
theorem ways_Check_rs_ok : ways_Check_rs.Ok := ⟨(allCons (rInt_ok .i64) allNil), eNil⟩
def ways_Check_run {R : Type} (N : Nat) (args : List SV) (T : Tab) (kf : SV × Tab → Option R) : Option R :=
  ways_Check_m N (Cod.dec api_StationC (lget (toCs (lget args 0)))) (fun q0 => kf (lget [.int .i64 q0] 0, []))
def ways_Check_d15 {R : Type} (N : Nat) (S0 : St) (k : Exit → St → Option R) : Option R :=
  ways_Check_l15 N N (toI (lget S0.tmps 6)) (lstC intC (lget S0.tmps 49)) (toI (lget S0.tmps 50)) (toI (lget S0.tmps 51)) (Cod.dec api_StationC (lget (entCs (entAt S0.tab 0)))) (fun q0 => k .ret (ways_Check_x15_r q0)) (fun (_ : Unit) => k (.exit 2) (ways_Check_x15_2 ))
def ways_Check_d5 {R : Type} (N : Nat) (S0 : St) (k : Exit → St → Option R) : Option R :=
  ways_Check_l5 N N (lstC api_PassageC (lget S0.tmps 21)) (toI (lget S0.tmps 22)) (toI (lget S0.tmps 23)) (Cod.dec api_StationC (lget (entCs (entAt S0.tab 0)))) (mpD intC intC (entHs (entAt S0.tab 1)) (entGt (entAt S0.tab 1))) (fun q0 => k .ret (ways_Check_x5_r q0)) (fun (_ : Unit) => k (.exit 0) (ways_Check_x5_0 (Cod.dec api_StationC (lget (entCs (entAt S0.tab 0))))))
def ways_Check_lp {R : Type} (N : Nat) : Lp R := fun body S k => bif (Go.Sx.keyOf body).getD 0 == 5 then (ways_Check_L5.head.raw 0 S (fun S0 => ways_Check_d5 N S0 k)) else bif (Go.Sx.keyOf body).getD 0 == 15 then (ways_Check_L15.head.raw 0 S (fun S0 => ways_Check_d15 N S0 k)) else Option.none
theorem ways_Check_l5_eq {R : Type} (N : Nat) (k : Exit → St → Option R) (n : Nat) : ∀ (v0 : Arr api_Passage) (v1 : Int) (v2 : Int) (v3 : api_Station) (v4 : Mp Int Int), loopM E.Θ (ways_passage_cal N) (ways_Check_lp N) (noJn) 0 ways_Check_L5 (bodyAt E 103 5) n (ways_Check_h5 v0 v1 v2 v3 v4) k = ways_Check_l5 N n v0 v1 v2 v3 v4 (fun q0 => k .ret (ways_Check_x5_r q0)) (fun (_ : Unit) => k (.exit 0) (ways_Check_x5_0 v3)) := by
  induction n with
  | zero => intro v0 v1 v2 v3 v4; rfl
  | succ n ih =>
    intro v0 v1 v2 v3 v4
    refine Eq.trans (b := ways_Check_b5 N (fun v0 v1 v2 v3 v4 => loopM E.Θ (ways_passage_cal N) (ways_Check_lp N) (noJn) 0 ways_Check_L5 (bodyAt E 103 5) n (ways_Check_h5 v0 v1 v2 v3 v4) k) v0 v1 v2 v3 v4 (fun q0 => k .ret (ways_Check_x5_r q0)) (fun (_ : Unit) => k (.exit 0) (ways_Check_x5_0 v3))) (by kernel_rfl) ?_
    have h : (fun (v0 : Arr api_Passage) (v1 : Int) (v2 : Int) (v3 : api_Station) (v4 : Mp Int Int) => loopM E.Θ (ways_passage_cal N) (ways_Check_lp N) (noJn) 0 ways_Check_L5 (bodyAt E 103 5) n (ways_Check_h5 v0 v1 v2 v3 v4) k) = (fun (v0 : Arr api_Passage) (v1 : Int) (v2 : Int) (v3 : api_Station) (v4 : Mp Int Int) => ways_Check_l5 N n v0 v1 v2 v3 v4 (fun q0 => k .ret (ways_Check_x5_r q0)) (fun (_ : Unit) => k (.exit 0) (ways_Check_x5_0 v3))) := funext fun v0 => funext fun v1 => funext fun v2 => funext fun v3 => funext fun v4 => ih v0 v1 v2 v3 v4
    rw [h]
    rfl
theorem ways_Check_l15_eq {R : Type} (N : Nat) (k : Exit → St → Option R) (n : Nat) : ∀ (v0 : Int) (v1 : Arr Int) (v2 : Int) (v3 : Int) (v4 : api_Station), loopM E.Θ (ways_passage_cal N) (ways_Check_lp N) (noJn) 0 ways_Check_L15 (bodyAt E 103 15) n (ways_Check_h15 v0 v1 v2 v3 v4) k = ways_Check_l15 N n v0 v1 v2 v3 v4 (fun q0 => k .ret (ways_Check_x15_r q0)) (fun (_ : Unit) => k (.exit 2) (ways_Check_x15_2 )) := by
  induction n with
  | zero => intro v0 v1 v2 v3 v4; rfl
  | succ n ih =>
    intro v0 v1 v2 v3 v4
    refine Eq.trans (b := ways_Check_b15 N (fun v0 v1 v2 v3 v4 => loopM E.Θ (ways_passage_cal N) (ways_Check_lp N) (noJn) 0 ways_Check_L15 (bodyAt E 103 15) n (ways_Check_h15 v0 v1 v2 v3 v4) k) v0 v1 v2 v3 v4 (fun q0 => k .ret (ways_Check_x15_r q0)) (fun (_ : Unit) => k (.exit 2) (ways_Check_x15_2 ))) (by kernel_rfl) ?_
    have h : (fun (v0 : Int) (v1 : Arr Int) (v2 : Int) (v3 : Int) (v4 : api_Station) => loopM E.Θ (ways_passage_cal N) (ways_Check_lp N) (noJn) 0 ways_Check_L15 (bodyAt E 103 15) n (ways_Check_h15 v0 v1 v2 v3 v4) k) = (fun (v0 : Int) (v1 : Arr Int) (v2 : Int) (v3 : Int) (v4 : api_Station) => ways_Check_l15 N n v0 v1 v2 v3 v4 (fun q0 => k .ret (ways_Check_x15_r q0)) (fun (_ : Unit) => k (.exit 2) (ways_Check_x15_2 ))) := funext fun v0 => funext fun v1 => funext fun v2 => funext fun v3 => funext fun v4 => ih v0 v1 v2 v3 v4
    rw [h]
    rfl
theorem ways_Check_k15 {R : Type} (N : Nat) : LpKey (R := R) E 103 0 (ways_Check_lp N) 15 :=
  lpKey_of hE (ways_passage_cal_ok N) (lp := ways_Check_lp N) (jn := noJn) ways_Check_L15_ok [] kNil (by kernel_rfl) [] jNil (by kernel_rfl) N fun S k =>
    Eq.trans (b := ways_Check_L15.head.raw 0 S (fun S0 => ways_Check_d15 N S0 k)) (by kernel_rfl) (congrArg (ways_Check_L15.head.raw 0 S) (funext fun S0 => Eq.trans (ways_Check_l15_eq N k N (toI (lget S0.tmps 6)) (lstC intC (lget S0.tmps 49)) (toI (lget S0.tmps 50)) (toI (lget S0.tmps 51)) (Cod.dec api_StationC (lget (entCs (entAt S0.tab 0))))).symm (by kernel_rfl)))
theorem ways_Check_k5 {R : Type} (N : Nat) : LpKey (R := R) E 103 0 (ways_Check_lp N) 5 :=
  lpKey_of hE (ways_passage_cal_ok N) (lp := ways_Check_lp N) (jn := noJn) ways_Check_L5_ok [] kNil (by kernel_rfl) [] jNil (by kernel_rfl) N fun S k =>
    Eq.trans (b := ways_Check_L5.head.raw 0 S (fun S0 => ways_Check_d5 N S0 k)) (by kernel_rfl) (congrArg (ways_Check_L5.head.raw 0 S) (funext fun S0 => Eq.trans (ways_Check_l5_eq N k N (lstC api_PassageC (lget S0.tmps 21)) (toI (lget S0.tmps 22)) (toI (lget S0.tmps 23)) (Cod.dec api_StationC (lget (entCs (entAt S0.tab 0)))) (mpD intC intC (entHs (entAt S0.tab 1)) (entGt (entAt S0.tab 1)))).symm (by kernel_rfl)))
noncomputable def ways_Check_go {R : Type} (N : Nat) (args : List SV) (T : Tab) (kf : SV × Tab → Option R) : Option R :=
  ways_Check N (Cod.dec api_StationC (lget (toCs (lget args 0)))) (fun q0 => kf (lget [.int .i64 q0] 0, []))
noncomputable def ways_Check_cal {R : Type} (N : Nat) : Cal R := callM (ways_passage_cal N) 103 0 ways_Check_sp (ways_Check_go N)
theorem ways_Check_cal_ok {R : Type} (N : Nat) : CalOk E.P (ways_Check_cal (R := R) N) :=
  callM_ok hE (ways_passage_cal_ok N) (lp := ways_Check_lp N) (jn := noJn) (keys := [5, 15]) (kCons (ways_Check_k5 N) (kCons (ways_Check_k15 N) kNil)) (by kernel_rfl) (js := []) jNil (by kernel_rfl) ways_Check_sp_ok ways_Check_rs_ok (fun args T kf => Eq.trans (ways_Check_def N (Cod.dec api_StationC (lget (toCs (lget args 0)))) (fun q0 => kf (lget [.int .i64 q0] 0, []))) (by kernel_rfl : ways_Check_run N args T kf = fnM E (ways_passage_cal N) (ways_Check_lp N) (noJn) 103 (ways_Check_sp.vs args) (ways_Check_sp.tab T) 0 (resK ways_Check_rs kf)))

def ways_place_L2 : LoopSp := ⟨⟨[2, 7, 8, 9], ⟨(dr 2 ((rPtr 0 0) :: (dr 4 ((rSl intC) :: (rInt .i64) :: (rInt .i64) :: (dr 10 []))))), [(0, eBlkC api_StationC)]⟩, 1⟩, [(Option.none, ⟨[4], ⟨(dr 4 ((rBool) :: (dr 15 []))), []⟩, 0⟩), (some 0, ⟨[], ⟨(dr 20 []), []⟩, 0⟩)]⟩
theorem ways_place_L2_ok : ways_place_L2.Ok := ⟨⟨(drCons 2 (allCons (rPtr_ok 0 0) (drCons 4 (allCons (rSl_ok intC_ok) (allCons (rInt_ok .i64) (allCons (rInt_ok .i64) (drCons 10 allNil))))))), (eCons (eBlkC_ok api_StationC_ok api_StationC_len) eNil)⟩, (xCons ⟨(drCons 4 (allCons rBool_ok (drCons 15 allNil))), eNil⟩ (xCons ⟨(drCons 20 allNil), eNil⟩ xNil))⟩
def ways_place_h2 (v165 : Arr Int) (v166 : Int) (v167 : Int) (v168 : api_Station) : St := ⟨(un 2 ((.ptr 0 0) :: (un 4 ((slC intC v165) :: (.int .i64 v166) :: (.int .i64 v167) :: (un 10 []))))), [(0, .blk (Cod.enc api_StationC v168))], 1⟩
def ways_place_x2_r (q0 : Bool) : St := ⟨(un 4 ((.bool q0) :: (un 15 []))), [], 0⟩
def ways_place_x2_0  : St := ⟨(un 20 []), [], 0⟩
def ways_place_b2 {R : Type} (N : Nat) (rc : Arr Int → Int → Int → api_Station → Option R) (v165 : Arr Int) (v166 : Int) (v167 : Int) (v168 : api_Station) (kr : Bool → Option R) (k0 : Unit → Option R) : Option R :=
  bif decide (v167 < v166) then
   bif decide ((0 : Int) ≤ v167) && decide (v167 < (↑(Arr.n v165) : Int)) then
    ways_within N (Arr.f v165 (Int.toNat v167)) (0 : Int) (w64 (api_Station.Places v168 - (1 : Int))) (fun r169 =>
    bif !r169 then
     kr false
    else
     rc v165 v166 (w64 (v167 + (1 : Int))) v168)
   else
    Option.none
  else
   k0 ()
def ways_place_l2 {R : Type} (N : Nat) : Nat → Arr Int → Int → Int → api_Station → (Bool → Option R) → (Unit → Option R) → Option R
  | 0, _, _, _, _, _, _ => Option.none
  | n + 1, v165, v166, v167, v168, kr, k0 => ways_place_b2 N (fun v165 v166 v167 v168 => ways_place_l2 N n v165 v166 v167 v168 kr k0) v165 v166 v167 v168 kr k0


def ways_place_m {R : Type} (N : Nat) (a163 : api_Station) (a164 : Arr Int) (k : Bool → Option R) : Option R :=
  ways_place_l2 N N a164 ((↑(Arr.n a164) : Int)) (0 : Int) a163 (fun r170 =>
   k r170) (fun (_ : Unit) =>
   k true)
noncomputable def ways_place {R : Type} : Nat → api_Station → Arr Int → (Bool → Option R) → Option R := lock (@ways_place_m R)
theorem ways_place_def {R : Type} (N : Nat) (a163 : api_Station) (a164 : Arr Int) (k : Bool → Option R) : ways_place N a163 a164 k = ways_place_m N a163 a164 k := by unfold ways_place; rw [lock_eq]
def ways_place_sp : Sp := ⟨[rAgg api_StationC, rSl intC], []⟩
theorem ways_place_sp_ok : ways_place_sp.Ok := ⟨(allCons (rAgg_ok api_StationC_ok api_StationC_len) (allCons (rSl_ok intC_ok) allNil)), eNil⟩
def ways_place_rs : Sp := ⟨[rBool], []⟩
theorem ways_place_rs_ok : ways_place_rs.Ok := ⟨(allCons rBool_ok allNil), eNil⟩
def ways_place_run {R : Type} (N : Nat) (args : List SV) (T : Tab) (kf : SV × Tab → Option R) : Option R :=
  ways_place_m N (Cod.dec api_StationC (lget (toCs (lget args 0)))) (lstC intC (lget args 1)) (fun q0 => kf (lget [.bool q0] 0, []))
def ways_place_d2 {R : Type} (N : Nat) (S0 : St) (k : Exit → St → Option R) : Option R :=
  ways_place_l2 N N (lstC intC (lget S0.tmps 7)) (toI (lget S0.tmps 8)) (toI (lget S0.tmps 9)) (Cod.dec api_StationC (lget (entCs (entAt S0.tab 0)))) (fun q0 => k .ret (ways_place_x2_r q0)) (fun (_ : Unit) => k (.exit 0) (ways_place_x2_0 ))
def ways_place_lp {R : Type} (N : Nat) : Lp R := fun body S k => bif (Go.Sx.keyOf body).getD 0 == 2 then (ways_place_L2.head.raw 0 S (fun S0 => ways_place_d2 N S0 k)) else Option.none
theorem ways_place_l2_eq {R : Type} (N : Nat) (k : Exit → St → Option R) (n : Nat) : ∀ (v0 : Arr Int) (v1 : Int) (v2 : Int) (v3 : api_Station), loopM E.Θ (ways_Check_cal N) (ways_place_lp N) (noJn) 0 ways_place_L2 (bodyAt E 105 2) n (ways_place_h2 v0 v1 v2 v3) k = ways_place_l2 N n v0 v1 v2 v3 (fun q0 => k .ret (ways_place_x2_r q0)) (fun (_ : Unit) => k (.exit 0) (ways_place_x2_0 )) := by
  induction n with
  | zero => intro v0 v1 v2 v3; rfl
  | succ n ih =>
    intro v0 v1 v2 v3
    refine Eq.trans (b := ways_place_b2 N (fun v0 v1 v2 v3 => loopM E.Θ (ways_Check_cal N) (ways_place_lp N) (noJn) 0 ways_place_L2 (bodyAt E 105 2) n (ways_place_h2 v0 v1 v2 v3) k) v0 v1 v2 v3 (fun q0 => k .ret (ways_place_x2_r q0)) (fun (_ : Unit) => k (.exit 0) (ways_place_x2_0 ))) (by kernel_rfl) ?_
    have h : (fun (v0 : Arr Int) (v1 : Int) (v2 : Int) (v3 : api_Station) => loopM E.Θ (ways_Check_cal N) (ways_place_lp N) (noJn) 0 ways_place_L2 (bodyAt E 105 2) n (ways_place_h2 v0 v1 v2 v3) k) = (fun (v0 : Arr Int) (v1 : Int) (v2 : Int) (v3 : api_Station) => ways_place_l2 N n v0 v1 v2 v3 (fun q0 => k .ret (ways_place_x2_r q0)) (fun (_ : Unit) => k (.exit 0) (ways_place_x2_0 ))) := funext fun v0 => funext fun v1 => funext fun v2 => funext fun v3 => ih v0 v1 v2 v3
    rw [h]
    rfl
theorem ways_place_k2 {R : Type} (N : Nat) : LpKey (R := R) E 105 0 (ways_place_lp N) 2 :=
  lpKey_of hE (ways_Check_cal_ok N) (lp := ways_place_lp N) (jn := noJn) ways_place_L2_ok [] kNil (by kernel_rfl) [] jNil (by kernel_rfl) N fun S k =>
    Eq.trans (b := ways_place_L2.head.raw 0 S (fun S0 => ways_place_d2 N S0 k)) (by kernel_rfl) (congrArg (ways_place_L2.head.raw 0 S) (funext fun S0 => Eq.trans (ways_place_l2_eq N k N (lstC intC (lget S0.tmps 7)) (toI (lget S0.tmps 8)) (toI (lget S0.tmps 9)) (Cod.dec api_StationC (lget (entCs (entAt S0.tab 0))))).symm (by kernel_rfl)))
noncomputable def ways_place_go {R : Type} (N : Nat) (args : List SV) (T : Tab) (kf : SV × Tab → Option R) : Option R :=
  ways_place N (Cod.dec api_StationC (lget (toCs (lget args 0)))) (lstC intC (lget args 1)) (fun q0 => kf (lget [.bool q0] 0, []))
noncomputable def ways_place_cal {R : Type} (N : Nat) : Cal R := callM (ways_Check_cal N) 105 0 ways_place_sp (ways_place_go N)
theorem ways_place_cal_ok {R : Type} (N : Nat) : CalOk E.P (ways_place_cal (R := R) N) :=
  callM_ok hE (ways_Check_cal_ok N) (lp := ways_place_lp N) (jn := noJn) (keys := [2]) (kCons (ways_place_k2 N) kNil) (by kernel_rfl) (js := []) jNil (by kernel_rfl) ways_place_sp_ok ways_place_rs_ok (fun args T kf => Eq.trans (ways_place_def N (Cod.dec api_StationC (lget (toCs (lget args 0)))) (lstC intC (lget args 1)) (fun q0 => kf (lget [.bool q0] 0, []))) (by kernel_rfl : ways_place_run N args T kf = fnM E (ways_Check_cal N) (ways_place_lp N) (noJn) 105 (ways_place_sp.vs args) (ways_place_sp.tab T) 0 (resK ways_place_rs kf)))


def ways_asked_m {R : Type} (N : Nat) (a130 : api_Station) (a131 : Int) (a132 : Arr Int) (k : Int → Option R) : Option R :=
  ways_Check N a130 (fun r161 =>
  bif r161 != (0 : Int) then
   k r161
  else
   ways_within N a131 (0 : Int) (4095 : Int) (fun r162 =>
   bif !r162 then
    k (1 : Int)
   else
    ways_place N a130 a132 (fun r171 =>
    bif !r171 then
     k (1 : Int)
    else
     k (0 : Int))))
noncomputable def ways_asked {R : Type} : Nat → api_Station → Int → Arr Int → (Int → Option R) → Option R := lock (@ways_asked_m R)
theorem ways_asked_def {R : Type} (N : Nat) (a130 : api_Station) (a131 : Int) (a132 : Arr Int) (k : Int → Option R) : ways_asked N a130 a131 a132 k = ways_asked_m N a130 a131 a132 k := by unfold ways_asked; rw [lock_eq]
def ways_asked_sp : Sp := ⟨[rAgg api_StationC, rInt .i64, rSl intC], []⟩
theorem ways_asked_sp_ok : ways_asked_sp.Ok := ⟨(allCons (rAgg_ok api_StationC_ok api_StationC_len) (allCons (rInt_ok .i64) (allCons (rSl_ok intC_ok) allNil))), eNil⟩
def ways_asked_rs : Sp := ⟨[rInt .i64], []⟩
theorem ways_asked_rs_ok : ways_asked_rs.Ok := ⟨(allCons (rInt_ok .i64) allNil), eNil⟩
def ways_asked_run {R : Type} (N : Nat) (args : List SV) (T : Tab) (kf : SV × Tab → Option R) : Option R :=
  ways_asked_m N (Cod.dec api_StationC (lget (toCs (lget args 0)))) (toI (lget args 1)) (lstC intC (lget args 2)) (fun q0 => kf (lget [.int .i64 q0] 0, []))
def ways_asked_lp {R : Type} (N : Nat) : Lp R := fun body S k => Option.none
noncomputable def ways_asked_go {R : Type} (N : Nat) (args : List SV) (T : Tab) (kf : SV × Tab → Option R) : Option R :=
  ways_asked N (Cod.dec api_StationC (lget (toCs (lget args 0)))) (toI (lget args 1)) (lstC intC (lget args 2)) (fun q0 => kf (lget [.int .i64 q0] 0, []))
noncomputable def ways_asked_cal {R : Type} (N : Nat) : Cal R := callM (ways_place_cal N) 59 0 ways_asked_sp (ways_asked_go N)
theorem ways_asked_cal_ok {R : Type} (N : Nat) : CalOk E.P (ways_asked_cal (R := R) N) :=
  callM_ok hE (ways_place_cal_ok N) (lp := ways_asked_lp N) (jn := noJn) (keys := []) kNil (by kernel_rfl) (js := []) jNil (by kernel_rfl) ways_asked_sp_ok ways_asked_rs_ok (fun args T kf => Eq.trans (ways_asked_def N (Cod.dec api_StationC (lget (toCs (lget args 0)))) (toI (lget args 1)) (lstC intC (lget args 2)) (fun q0 => kf (lget [.int .i64 q0] 0, []))) (by kernel_rfl : ways_asked_run N args T kf = fnM E (ways_place_cal N) (ways_asked_lp N) (noJn) 59 (ways_asked_sp.vs args) (ways_asked_sp.tab T) 0 (resK ways_asked_rs kf)))


def ways_level_other_m {R : Type} (N : Nat) (a202 : ways_level) (a203 : api_Passage) (a204 : Int) (k : Int → Option R) : Option R :=
  bif api_Passage.Kind a203 == (1 : Int) then
   bif api_Passage.A a203 == a204 then
    k (api_Passage.B a203)
   else
    bif api_Passage.B a203 == a204 then
     k (api_Passage.A a203)
    else
     k (-1 : Int)
  else
   bif api_Passage.Kind a203 == (4 : Int) then
    bif decide (api_Passage.Machine a203 < (0 : Int)) then
     Option.none
    else
     bif w64 (↑(BitVec.toNat (BitVec.ofInt (IntKind.bits IntKind.i64) (Int.fdiv (ways_level.f_out a202) ((2 : Int) ^ min (Int.toNat (api_Passage.Machine a203)) (IntKind.bits IntKind.i64))) &&& BitVec.ofInt (IntKind.bits IntKind.i64) (1 : Int))) : Int) == (0 : Int) then
      bif api_Passage.A a203 == a204 then
       k (api_Passage.B a203)
      else
       bif api_Passage.B a203 == a204 then
        k (api_Passage.A a203)
       else
        k (-1 : Int)
     else
      bif api_Passage.Kind a203 == (5 : Int) then
       bif !ways_level.f_help a202 then
        k (-1 : Int)
       else
        bif api_Passage.A a203 == a204 then
         k (api_Passage.B a203)
        else
         bif api_Passage.B a203 == a204 then
          k (api_Passage.A a203)
         else
          k (-1 : Int)
      else
       k (-1 : Int)
   else
    bif api_Passage.Kind a203 == (5 : Int) then
     bif !ways_level.f_help a202 then
      k (-1 : Int)
     else
      bif api_Passage.A a203 == a204 then
       k (api_Passage.B a203)
      else
       bif api_Passage.B a203 == a204 then
        k (api_Passage.A a203)
       else
        k (-1 : Int)
    else
     k (-1 : Int)
noncomputable def ways_level_other {R : Type} : Nat → ways_level → api_Passage → Int → (Int → Option R) → Option R := lock (@ways_level_other_m R)
theorem ways_level_other_def {R : Type} (N : Nat) (a202 : ways_level) (a203 : api_Passage) (a204 : Int) (k : Int → Option R) : ways_level_other N a202 a203 a204 k = ways_level_other_m N a202 a203 a204 k := by unfold ways_level_other; rw [lock_eq]
def ways_level_other_sp : Sp := ⟨[rAgg ways_levelC, rAgg api_PassageC, rInt .i64], []⟩
theorem ways_level_other_sp_ok : ways_level_other_sp.Ok := ⟨(allCons (rAgg_ok ways_levelC_ok ways_levelC_len) (allCons (rAgg_ok api_PassageC_ok api_PassageC_len) (allCons (rInt_ok .i64) allNil))), eNil⟩
def ways_level_other_rs : Sp := ⟨[rInt .i64], []⟩
theorem ways_level_other_rs_ok : ways_level_other_rs.Ok := ⟨(allCons (rInt_ok .i64) allNil), eNil⟩
def ways_level_other_run {R : Type} (N : Nat) (args : List SV) (T : Tab) (kf : SV × Tab → Option R) : Option R :=
  ways_level_other_m N (Cod.dec ways_levelC (lget (toCs (lget args 0)))) (Cod.dec api_PassageC (lget (toCs (lget args 1)))) (toI (lget args 2)) (fun q0 => kf (lget [.int .i64 q0] 0, []))
def ways_level_other_lp {R : Type} (N : Nat) : Lp R := fun body S k => Option.none
noncomputable def ways_level_other_go {R : Type} (N : Nat) (args : List SV) (T : Tab) (kf : SV × Tab → Option R) : Option R :=
  ways_level_other N (Cod.dec ways_levelC (lget (toCs (lget args 0)))) (Cod.dec api_PassageC (lget (toCs (lget args 1)))) (toI (lget args 2)) (fun q0 => kf (lget [.int .i64 q0] 0, []))
noncomputable def ways_level_other_cal {R : Type} (N : Nat) : Cal R := callM (ways_asked_cal N) 61 0 ways_level_other_sp (ways_level_other_go N)
theorem ways_level_other_cal_ok {R : Type} (N : Nat) : CalOk E.P (ways_level_other_cal (R := R) N) :=
  callM_ok hE (ways_asked_cal_ok N) (lp := ways_level_other_lp N) (jn := noJn) (keys := []) kNil (by kernel_rfl) (js := []) jNil (by kernel_rfl) ways_level_other_sp_ok ways_level_other_rs_ok (fun args T kf => Eq.trans (ways_level_other_def N (Cod.dec ways_levelC (lget (toCs (lget args 0)))) (Cod.dec api_PassageC (lget (toCs (lget args 1)))) (toI (lget args 2)) (fun q0 => kf (lget [.int .i64 q0] 0, []))) (by kernel_rfl : ways_level_other_run N args T kf = fnM E (ways_asked_cal N) (ways_level_other_lp N) (noJn) 61 (ways_level_other_sp.vs args) (ways_level_other_sp.tab T) 0 (resK ways_level_other_rs kf)))

def ways_level_far_L3 : LoopSp := ⟨⟨[1, 2, 5, 18, 19], ⟨(dr 1 ((rInt .i64) :: (rPtr 0 0) :: (dr 2 ((rRow 1) :: (dr 12 ((rInt .i64) :: (rInt .i64) :: (dr 64 []))))))), [(0, eBlkC ways_levelC), (1, eRow intC)]⟩, 2⟩, [(some 0, ⟨[1, 2, 5], ⟨(dr 1 ((rInt .i64) :: (rPtr 0 0) :: (dr 2 ((rRow 1) :: (dr 78 []))))), [(0, eBlkC ways_levelC), (1, eRow intC)]⟩, 2⟩)]⟩
theorem ways_level_far_L3_ok : ways_level_far_L3.Ok := ⟨⟨(drCons 1 (allCons (rInt_ok .i64) (allCons (rPtr_ok 0 0) (drCons 2 (allCons (rRow_ok 1) (drCons 12 (allCons (rInt_ok .i64) (allCons (rInt_ok .i64) (drCons 64 allNil))))))))), (eCons (eBlkC_ok ways_levelC_ok ways_levelC_len) (eCons (eRow_ok intC_ok) eNil))⟩, (xCons ⟨(drCons 1 (allCons (rInt_ok .i64) (allCons (rPtr_ok 0 0) (drCons 2 (allCons (rRow_ok 1) (drCons 78 allNil)))))), (eCons (eBlkC_ok ways_levelC_ok ways_levelC_len) (eCons (eRow_ok intC_ok) eNil))⟩ xNil)⟩
def ways_level_far_h3 (v175 : Int) (v176 : Int) (v177 : Int) (v178 : ways_level) (v179 : Bool) (v180 : Arr Int) : St := ⟨(un 1 ((.int .i64 v175) :: (.ptr 0 0) :: (un 2 ((.row 1) :: (un 12 ((.int .i64 v176) :: (.int .i64 v177) :: (un 64 []))))))), [(0, .blk (Cod.enc ways_levelC v178)), (1, rowE intC v179 v180)], 2⟩
def ways_level_far_x3_0 (v175 : Int) (v178 : ways_level) (v179 : Bool) (q3 : Arr Int) : St := ⟨(un 1 ((.int .i64 v175) :: (.ptr 0 0) :: (un 2 ((.row 1) :: (un 78 []))))), [(0, .blk (Cod.enc ways_levelC v178)), (1, rowE intC v179 q3)], 2⟩
def ways_level_far_b3 {R : Type} (N : Nat) (rc : Int → Int → Int → ways_level → Bool → Arr Int → Option R) (v175 : Int) (v176 : Int) (v177 : Int) (v178 : ways_level) (v179 : Bool) (v180 : Arr Int) (k0 : Arr Int → Option R) : Option R :=
  bif decide (v177 < v176) then
   bif decide ((0 : Int) ≤ v177) && decide (v177 < (↑(Arr.n v180) : Int)) then
    rc v175 v176 (w64 (v177 + (1 : Int))) v178 v179 (lst intC (Arr.n v180) (setCs (Int.toNat v177) (0 : Nat) (Cod.cell intC (Arr.f v180)) [SV.int IntKind.i64 (-1 : Int)]))
   else
    Option.none
  else
   k0 v180
def ways_level_far_l3 {R : Type} (N : Nat) : Nat → Int → Int → Int → ways_level → Bool → Arr Int → (Arr Int → Option R) → Option R
  | 0, _, _, _, _, _, _, _ => Option.none
  | n + 1, v175, v176, v177, v178, v179, v180, k0 => ways_level_far_b3 N (fun v175 v176 v177 v178 v179 v180 => ways_level_far_l3 N n v175 v176 v177 v178 v179 v180 k0) v175 v176 v177 v178 v179 v180 k0

def ways_level_far_L15 : LoopSp := ⟨⟨[2, 5, 7, 8, 32, 33, 38, 39, 40], ⟨(dr 2 ((rPtr 0 0) :: (dr 2 ((rRow 1) :: (dr 1 ((rBool) :: (rInt .i64) :: (dr 23 ((rInt .i64) :: (rInt .i64) :: (dr 4 ((rSl api_PassageC) :: (rInt .i64) :: (rInt .i64) :: (dr 43 []))))))))))), [(0, eBlkC ways_levelC), (1, eRow intC)]⟩, 2⟩, [(some 6, ⟨[2, 5, 7, 32, 33], ⟨(dr 2 ((rPtr 0 0) :: (dr 2 ((rRow 1) :: (dr 1 ((rBool) :: (dr 24 ((rInt .i64) :: (rInt .i64) :: (dr 50 []))))))))), [(0, eBlkC ways_levelC), (1, eRow intC)]⟩, 2⟩)]⟩
theorem ways_level_far_L15_ok : ways_level_far_L15.Ok := ⟨⟨(drCons 2 (allCons (rPtr_ok 0 0) (drCons 2 (allCons (rRow_ok 1) (drCons 1 (allCons rBool_ok (allCons (rInt_ok .i64) (drCons 23 (allCons (rInt_ok .i64) (allCons (rInt_ok .i64) (drCons 4 (allCons (rSl_ok api_PassageC_ok) (allCons (rInt_ok .i64) (allCons (rInt_ok .i64) (drCons 43 allNil))))))))))))))), (eCons (eBlkC_ok ways_levelC_ok ways_levelC_len) (eCons (eRow_ok intC_ok) eNil))⟩, (xCons ⟨(drCons 2 (allCons (rPtr_ok 0 0) (drCons 2 (allCons (rRow_ok 1) (drCons 1 (allCons rBool_ok (drCons 24 (allCons (rInt_ok .i64) (allCons (rInt_ok .i64) (drCons 50 allNil)))))))))), (eCons (eBlkC_ok ways_levelC_ok ways_levelC_len) (eCons (eRow_ok intC_ok) eNil))⟩ xNil)⟩
def ways_level_far_h15 (v192 : Bool) (v193 : Int) (v194 : Int) (v195 : Int) (v196 : Arr api_Passage) (v197 : Int) (v198 : Int) (v199 : ways_level) (v200 : Bool) (v201 : Arr Int) : St := ⟨(un 2 ((.ptr 0 0) :: (un 2 ((.row 1) :: (un 1 ((.bool v192) :: (.int .i64 v193) :: (un 23 ((.int .i64 v194) :: (.int .i64 v195) :: (un 4 ((slC api_PassageC v196) :: (.int .i64 v197) :: (.int .i64 v198) :: (un 43 []))))))))))), [(0, .blk (Cod.enc ways_levelC v199)), (1, rowE intC v200 v201)], 2⟩
def ways_level_far_x15_6 (v194 : Int) (v195 : Int) (v199 : ways_level) (v200 : Bool) (q0 : Bool) (q5 : Arr Int) : St := ⟨(un 2 ((.ptr 0 0) :: (un 2 ((.row 1) :: (un 1 ((.bool q0) :: (un 24 ((.int .i64 v194) :: (.int .i64 v195) :: (un 50 []))))))))), [(0, .blk (Cod.enc ways_levelC v199)), (1, rowE intC v200 q5)], 2⟩
def ways_level_far_b15 {R : Type} (N : Nat) (rc : Bool → Int → Int → Int → Arr api_Passage → Int → Int → ways_level → Bool → Arr Int → Option R) (v192 : Bool) (v193 : Int) (v194 : Int) (v195 : Int) (v196 : Arr api_Passage) (v197 : Int) (v198 : Int) (v199 : ways_level) (v200 : Bool) (v201 : Arr Int) (k6 : Bool → Arr Int → Option R) : Option R :=
  bif decide (v198 < v197) then
   bif decide ((0 : Int) ≤ v198) && decide (v198 < (↑(Arr.n v196) : Int)) then
    ways_level_other N v199 (Arr.f v196 (Int.toNat v198)) v193 (fun r205 =>
    bif decide (r205 < (0 : Int)) then
     rc v192 v193 v194 v195 v196 v197 (w64 (v198 + (1 : Int))) v199 v200 v201
    else
     bif decide ((0 : Int) ≤ r205) && decide (r205 < (↑(Arr.n v201) : Int)) then
      bif decide (Arr.f v201 (Int.toNat r205) < (0 : Int)) then
       rc v192 v193 v194 v195 v196 v197 (w64 (v198 + (1 : Int))) v199 v200 v201
      else
       bif decide ((0 : Int) ≤ r205) && decide (r205 < (↑(Arr.n v201) : Int)) then
        bif decide ((0 : Int) ≤ v193) && decide (v193 < (↑(Arr.n v201) : Int)) then
         bif decide (Arr.f v201 (Int.toNat v193) < (0 : Int)) then
          bif decide ((0 : Int) ≤ v193) && decide (v193 < (↑(Arr.n v201) : Int)) then
           rc true v193 v194 v195 v196 v197 (w64 (v198 + (1 : Int))) v199 v200 (lst intC (Arr.n v201) (setCs (Int.toNat v193) (0 : Nat) (Cod.cell intC (Arr.f v201)) [SV.int IntKind.i64 (w64 (Arr.f v201 (Int.toNat r205) + api_Passage.Ticks (Arr.f v196 (Int.toNat v198))))]))
          else
           Option.none
         else
          bif decide ((0 : Int) ≤ v193) && decide (v193 < (↑(Arr.n v201) : Int)) then
           bif decide (w64 (Arr.f v201 (Int.toNat r205) + api_Passage.Ticks (Arr.f v196 (Int.toNat v198))) < Arr.f v201 (Int.toNat v193)) then
            bif decide ((0 : Int) ≤ v193) && decide (v193 < (↑(Arr.n v201) : Int)) then
             rc true v193 v194 v195 v196 v197 (w64 (v198 + (1 : Int))) v199 v200 (lst intC (Arr.n v201) (setCs (Int.toNat v193) (0 : Nat) (Cod.cell intC (Arr.f v201)) [SV.int IntKind.i64 (w64 (Arr.f v201 (Int.toNat r205) + api_Passage.Ticks (Arr.f v196 (Int.toNat v198))))]))
            else
             Option.none
           else
            rc v192 v193 v194 v195 v196 v197 (w64 (v198 + (1 : Int))) v199 v200 v201
          else
           Option.none
        else
         Option.none
       else
        Option.none
     else
      Option.none)
   else
    Option.none
  else
   k6 v192 v201
def ways_level_far_l15 {R : Type} (N : Nat) : Nat → Bool → Int → Int → Int → Arr api_Passage → Int → Int → ways_level → Bool → Arr Int → (Bool → Arr Int → Option R) → Option R
  | 0, _, _, _, _, _, _, _, _, _, _, _ => Option.none
  | n + 1, v192, v193, v194, v195, v196, v197, v198, v199, v200, v201, k6 => ways_level_far_b15 N (fun v192 v193 v194 v195 v196 v197 v198 v199 v200 v201 => ways_level_far_l15 N n v192 v193 v194 v195 v196 v197 v198 v199 v200 v201 k6) v192 v193 v194 v195 v196 v197 v198 v199 v200 v201 k6

def ways_level_far_L12 : LoopSp := ⟨⟨[2, 5, 7, 32, 33], ⟨(dr 2 ((rPtr 0 0) :: (dr 2 ((rRow 1) :: (dr 1 ((rBool) :: (dr 24 ((rInt .i64) :: (rInt .i64) :: (dr 50 []))))))))), [(0, eBlkC ways_levelC), (1, eRow intC)]⟩, 2⟩, [(some 4, ⟨[2, 5, 7], ⟨(dr 2 ((rPtr 0 0) :: (dr 2 ((rRow 1) :: (dr 1 ((rBool) :: (dr 76 []))))))), [(0, eBlkC ways_levelC), (1, eRow intC)]⟩, 2⟩)]⟩
theorem ways_level_far_L12_ok : ways_level_far_L12.Ok := ⟨⟨(drCons 2 (allCons (rPtr_ok 0 0) (drCons 2 (allCons (rRow_ok 1) (drCons 1 (allCons rBool_ok (drCons 24 (allCons (rInt_ok .i64) (allCons (rInt_ok .i64) (drCons 50 allNil)))))))))), (eCons (eBlkC_ok ways_levelC_ok ways_levelC_len) (eCons (eRow_ok intC_ok) eNil))⟩, (xCons ⟨(drCons 2 (allCons (rPtr_ok 0 0) (drCons 2 (allCons (rRow_ok 1) (drCons 1 (allCons rBool_ok (drCons 76 allNil))))))), (eCons (eBlkC_ok ways_levelC_ok ways_levelC_len) (eCons (eRow_ok intC_ok) eNil))⟩ xNil)⟩
def ways_level_far_h12 (v186 : Bool) (v187 : Int) (v188 : Int) (v189 : ways_level) (v190 : Bool) (v191 : Arr Int) : St := ⟨(un 2 ((.ptr 0 0) :: (un 2 ((.row 1) :: (un 1 ((.bool v186) :: (un 24 ((.int .i64 v187) :: (.int .i64 v188) :: (un 50 []))))))))), [(0, .blk (Cod.enc ways_levelC v189)), (1, rowE intC v190 v191)], 2⟩
def ways_level_far_x12_4 (v189 : ways_level) (v190 : Bool) (q0 : Bool) (q3 : Arr Int) : St := ⟨(un 2 ((.ptr 0 0) :: (un 2 ((.row 1) :: (un 1 ((.bool q0) :: (un 76 []))))))), [(0, .blk (Cod.enc ways_levelC v189)), (1, rowE intC v190 q3)], 2⟩
def ways_level_far_b12 {R : Type} (N : Nat) (rc : Bool → Int → Int → ways_level → Bool → Arr Int → Option R) (v186 : Bool) (v187 : Int) (v188 : Int) (v189 : ways_level) (v190 : Bool) (v191 : Arr Int) (k4 : Bool → Arr Int → Option R) : Option R :=
  bif decide (v188 < v187) then
   ways_level_far_l15 N N v186 v188 v187 v188 (api_Station.Passages (ways_level.Station v189)) ((↑(Arr.n (api_Station.Passages (ways_level.Station v189))) : Int)) (0 : Int) v189 v190 v191 (fun r206 r207 =>
    rc r206 v187 (w64 (v188 + (1 : Int))) v189 v190 r207)
  else
   k4 v186 v191
def ways_level_far_l12 {R : Type} (N : Nat) : Nat → Bool → Int → Int → ways_level → Bool → Arr Int → (Bool → Arr Int → Option R) → Option R
  | 0, _, _, _, _, _, _, _ => Option.none
  | n + 1, v186, v187, v188, v189, v190, v191, k4 => ways_level_far_b12 N (fun v186 v187 v188 v189 v190 v191 => ways_level_far_l12 N n v186 v187 v188 v189 v190 v191 k4) v186 v187 v188 v189 v190 v191 k4

def ways_level_far_L9 : LoopSp := ⟨⟨[2, 5, 7], ⟨(dr 2 ((rPtr 0 0) :: (dr 2 ((rRow 1) :: (dr 1 ((rBool) :: (dr 76 []))))))), [(0, eBlkC ways_levelC), (1, eRow intC)]⟩, 2⟩, [(some 2, ⟨[5], ⟨(dr 5 ((rRow 0) :: (dr 78 []))), [(0, eRow intC)]⟩, 1⟩)]⟩
theorem ways_level_far_L9_ok : ways_level_far_L9.Ok := ⟨⟨(drCons 2 (allCons (rPtr_ok 0 0) (drCons 2 (allCons (rRow_ok 1) (drCons 1 (allCons rBool_ok (drCons 76 allNil))))))), (eCons (eBlkC_ok ways_levelC_ok ways_levelC_len) (eCons (eRow_ok intC_ok) eNil))⟩, (xCons ⟨(drCons 5 (allCons (rRow_ok 0) (drCons 78 allNil))), (eCons (eRow_ok intC_ok) eNil)⟩ xNil)⟩
def ways_level_far_h9 (v182 : Bool) (v183 : ways_level) (v184 : Bool) (v185 : Arr Int) : St := ⟨(un 2 ((.ptr 0 0) :: (un 2 ((.row 1) :: (un 1 ((.bool v182) :: (un 76 []))))))), [(0, .blk (Cod.enc ways_levelC v183)), (1, rowE intC v184 v185)], 2⟩
def ways_level_far_x9_2 (v184 : Bool) (q1 : Arr Int) : St := ⟨(un 5 ((.row 0) :: (un 78 []))), [(0, rowE intC v184 q1)], 1⟩
def ways_level_far_b9 {R : Type} (N : Nat) (rc : Bool → ways_level → Bool → Arr Int → Option R) (v182 : Bool) (v183 : ways_level) (v184 : Bool) (v185 : Arr Int) (k2 : Arr Int → Option R) : Option R :=
  bif v182 then
   ways_level_far_l12 N N false (api_Station.Places (ways_level.Station v183)) (0 : Int) v183 v184 v185 (fun r208 r209 =>
    rc r208 v183 v184 r209)
  else
   k2 v185
def ways_level_far_l9 {R : Type} (N : Nat) : Nat → Bool → ways_level → Bool → Arr Int → (Arr Int → Option R) → Option R
  | 0, _, _, _, _, _ => Option.none
  | n + 1, v182, v183, v184, v185, k2 => ways_level_far_b9 N (fun v182 v183 v184 v185 => ways_level_far_l9 N n v182 v183 v184 v185 k2) v182 v183 v184 v185 k2


def ways_level_far_m {R : Type} (N : Nat) (a173 : ways_level) (a174 : Int) (k : Bool → Arr Int → Option R) : Option R :=
  bif decide ((0 : Int) ≤ api_Station.Places (ways_level.Station a173)) && decide (api_Station.Places (ways_level.Station a173) ≤ api_Station.Places (ways_level.Station a173)) && decide (api_Station.Places (ways_level.Station a173) ≤ (1073741824 : Int)) then
   ways_level_far_l3 N N a174 ((↑(Int.toNat (api_Station.Places (ways_level.Station a173))) : Int)) (0 : Int) a173 false (lst intC (Int.toNat (api_Station.Places (ways_level.Station a173))) (zeroC [SV.int IntKind.i64 (0 : Int)])) (fun r181 =>
    bif decide ((0 : Int) ≤ a174) && decide (a174 < (↑(Arr.n r181) : Int)) then
     ways_level_far_l9 N N true a173 false (lst intC (Arr.n r181) (setCs (Int.toNat a174) (0 : Nat) (Cod.cell intC (Arr.f r181)) [SV.int IntKind.i64 (0 : Int)])) (fun r210 =>
      k false r210)
    else
     Option.none)
  else
   Option.none
noncomputable def ways_level_far {R : Type} : Nat → ways_level → Int → (Bool → Arr Int → Option R) → Option R := lock (@ways_level_far_m R)
theorem ways_level_far_def {R : Type} (N : Nat) (a173 : ways_level) (a174 : Int) (k : Bool → Arr Int → Option R) : ways_level_far N a173 a174 k = ways_level_far_m N a173 a174 k := by unfold ways_level_far; rw [lock_eq]
def ways_level_far_sp : Sp := ⟨[rAgg ways_levelC, rInt .i64], []⟩
theorem ways_level_far_sp_ok : ways_level_far_sp.Ok := ⟨(allCons (rAgg_ok ways_levelC_ok ways_levelC_len) (allCons (rInt_ok .i64) allNil)), eNil⟩
def ways_level_far_rs : Sp := ⟨[rRow 0], [(0, eRow intC)]⟩
theorem ways_level_far_rs_ok : ways_level_far_rs.Ok := ⟨(allCons (rRow_ok 0) allNil), (eCons (eRow_ok intC_ok) eNil)⟩
def ways_level_far_run {R : Type} (N : Nat) (args : List SV) (T : Tab) (kf : SV × Tab → Option R) : Option R :=
  ways_level_far_m N (Cod.dec ways_levelC (lget (toCs (lget args 0)))) (toI (lget args 1)) (fun q0 q1 => kf (lget [.row 0] 0, [(0, rowE intC q0 q1)]))
def ways_level_far_d15 {R : Type} (N : Nat) (S0 : St) (k : Exit → St → Option R) : Option R :=
  ways_level_far_l15 N N (toB (lget S0.tmps 7)) (toI (lget S0.tmps 8)) (toI (lget S0.tmps 32)) (toI (lget S0.tmps 33)) (lstC api_PassageC (lget S0.tmps 38)) (toI (lget S0.tmps 39)) (toI (lget S0.tmps 40)) (Cod.dec ways_levelC (lget (entCs (entAt S0.tab 0)))) (entNl (entAt S0.tab 1)) (lst intC (entN (entAt S0.tab 1)) (entC (entAt S0.tab 1))) (fun q0 q5 => k (.exit 6) (ways_level_far_x15_6 (toI (lget S0.tmps 32)) (toI (lget S0.tmps 33)) (Cod.dec ways_levelC (lget (entCs (entAt S0.tab 0)))) (entNl (entAt S0.tab 1)) q0 q5))
def ways_level_far_d12 {R : Type} (N : Nat) (S0 : St) (k : Exit → St → Option R) : Option R :=
  ways_level_far_l12 N N (toB (lget S0.tmps 7)) (toI (lget S0.tmps 32)) (toI (lget S0.tmps 33)) (Cod.dec ways_levelC (lget (entCs (entAt S0.tab 0)))) (entNl (entAt S0.tab 1)) (lst intC (entN (entAt S0.tab 1)) (entC (entAt S0.tab 1))) (fun q0 q3 => k (.exit 4) (ways_level_far_x12_4 (Cod.dec ways_levelC (lget (entCs (entAt S0.tab 0)))) (entNl (entAt S0.tab 1)) q0 q3))
def ways_level_far_d9 {R : Type} (N : Nat) (S0 : St) (k : Exit → St → Option R) : Option R :=
  ways_level_far_l9 N N (toB (lget S0.tmps 7)) (Cod.dec ways_levelC (lget (entCs (entAt S0.tab 0)))) (entNl (entAt S0.tab 1)) (lst intC (entN (entAt S0.tab 1)) (entC (entAt S0.tab 1))) (fun q1 => k (.exit 2) (ways_level_far_x9_2 (entNl (entAt S0.tab 1)) q1))
def ways_level_far_d3 {R : Type} (N : Nat) (S0 : St) (k : Exit → St → Option R) : Option R :=
  ways_level_far_l3 N N (toI (lget S0.tmps 1)) (toI (lget S0.tmps 18)) (toI (lget S0.tmps 19)) (Cod.dec ways_levelC (lget (entCs (entAt S0.tab 0)))) (entNl (entAt S0.tab 1)) (lst intC (entN (entAt S0.tab 1)) (entC (entAt S0.tab 1))) (fun q3 => k (.exit 0) (ways_level_far_x3_0 (toI (lget S0.tmps 1)) (Cod.dec ways_levelC (lget (entCs (entAt S0.tab 0)))) (entNl (entAt S0.tab 1)) q3))
def ways_level_far_lp {R : Type} (N : Nat) : Lp R := fun body S k => bif (Go.Sx.keyOf body).getD 0 == 3 then (ways_level_far_L3.head.raw 0 S (fun S0 => ways_level_far_d3 N S0 k)) else bif (Go.Sx.keyOf body).getD 0 == 9 then (ways_level_far_L9.head.raw 0 S (fun S0 => ways_level_far_d9 N S0 k)) else bif (Go.Sx.keyOf body).getD 0 == 12 then (ways_level_far_L12.head.raw 0 S (fun S0 => ways_level_far_d12 N S0 k)) else bif (Go.Sx.keyOf body).getD 0 == 15 then (ways_level_far_L15.head.raw 0 S (fun S0 => ways_level_far_d15 N S0 k)) else Option.none
theorem ways_level_far_l3_eq {R : Type} (N : Nat) (k : Exit → St → Option R) (n : Nat) : ∀ (v0 : Int) (v1 : Int) (v2 : Int) (v3 : ways_level) (v4 : Bool) (v5 : Arr Int), loopM E.Θ (ways_level_other_cal N) (ways_level_far_lp N) (noJn) 0 ways_level_far_L3 (bodyAt E 60 3) n (ways_level_far_h3 v0 v1 v2 v3 v4 v5) k = ways_level_far_l3 N n v0 v1 v2 v3 v4 v5 (fun q3 => k (.exit 0) (ways_level_far_x3_0 v0 v3 v4 q3)) := by
  induction n with
  | zero => intro v0 v1 v2 v3 v4 v5; rfl
  | succ n ih =>
    intro v0 v1 v2 v3 v4 v5
    refine Eq.trans (b := ways_level_far_b3 N (fun v0 v1 v2 v3 v4 v5 => loopM E.Θ (ways_level_other_cal N) (ways_level_far_lp N) (noJn) 0 ways_level_far_L3 (bodyAt E 60 3) n (ways_level_far_h3 v0 v1 v2 v3 v4 v5) k) v0 v1 v2 v3 v4 v5 (fun q3 => k (.exit 0) (ways_level_far_x3_0 v0 v3 v4 q3))) (by kernel_rfl) ?_
    have h : (fun (v0 : Int) (v1 : Int) (v2 : Int) (v3 : ways_level) (v4 : Bool) (v5 : Arr Int) => loopM E.Θ (ways_level_other_cal N) (ways_level_far_lp N) (noJn) 0 ways_level_far_L3 (bodyAt E 60 3) n (ways_level_far_h3 v0 v1 v2 v3 v4 v5) k) = (fun (v0 : Int) (v1 : Int) (v2 : Int) (v3 : ways_level) (v4 : Bool) (v5 : Arr Int) => ways_level_far_l3 N n v0 v1 v2 v3 v4 v5 (fun q3 => k (.exit 0) (ways_level_far_x3_0 v0 v3 v4 q3))) := funext fun v0 => funext fun v1 => funext fun v2 => funext fun v3 => funext fun v4 => funext fun v5 => ih v0 v1 v2 v3 v4 v5
    rw [h]
    rfl
theorem ways_level_far_l9_eq {R : Type} (N : Nat) (k : Exit → St → Option R) (n : Nat) : ∀ (v0 : Bool) (v1 : ways_level) (v2 : Bool) (v3 : Arr Int), loopM E.Θ (ways_level_other_cal N) (ways_level_far_lp N) (noJn) 0 ways_level_far_L9 (bodyAt E 60 9) n (ways_level_far_h9 v0 v1 v2 v3) k = ways_level_far_l9 N n v0 v1 v2 v3 (fun q1 => k (.exit 2) (ways_level_far_x9_2 v2 q1)) := by
  induction n with
  | zero => intro v0 v1 v2 v3; rfl
  | succ n ih =>
    intro v0 v1 v2 v3
    refine Eq.trans (b := ways_level_far_b9 N (fun v0 v1 v2 v3 => loopM E.Θ (ways_level_other_cal N) (ways_level_far_lp N) (noJn) 0 ways_level_far_L9 (bodyAt E 60 9) n (ways_level_far_h9 v0 v1 v2 v3) k) v0 v1 v2 v3 (fun q1 => k (.exit 2) (ways_level_far_x9_2 v2 q1))) (by kernel_rfl) ?_
    have h : (fun (v0 : Bool) (v1 : ways_level) (v2 : Bool) (v3 : Arr Int) => loopM E.Θ (ways_level_other_cal N) (ways_level_far_lp N) (noJn) 0 ways_level_far_L9 (bodyAt E 60 9) n (ways_level_far_h9 v0 v1 v2 v3) k) = (fun (v0 : Bool) (v1 : ways_level) (v2 : Bool) (v3 : Arr Int) => ways_level_far_l9 N n v0 v1 v2 v3 (fun q1 => k (.exit 2) (ways_level_far_x9_2 v2 q1))) := funext fun v0 => funext fun v1 => funext fun v2 => funext fun v3 => ih v0 v1 v2 v3
    rw [h]
    rfl
theorem ways_level_far_l12_eq {R : Type} (N : Nat) (k : Exit → St → Option R) (n : Nat) : ∀ (v0 : Bool) (v1 : Int) (v2 : Int) (v3 : ways_level) (v4 : Bool) (v5 : Arr Int), loopM E.Θ (ways_level_other_cal N) (ways_level_far_lp N) (noJn) 0 ways_level_far_L12 (bodyAt E 60 12) n (ways_level_far_h12 v0 v1 v2 v3 v4 v5) k = ways_level_far_l12 N n v0 v1 v2 v3 v4 v5 (fun q0 q3 => k (.exit 4) (ways_level_far_x12_4 v3 v4 q0 q3)) := by
  induction n with
  | zero => intro v0 v1 v2 v3 v4 v5; rfl
  | succ n ih =>
    intro v0 v1 v2 v3 v4 v5
    refine Eq.trans (b := ways_level_far_b12 N (fun v0 v1 v2 v3 v4 v5 => loopM E.Θ (ways_level_other_cal N) (ways_level_far_lp N) (noJn) 0 ways_level_far_L12 (bodyAt E 60 12) n (ways_level_far_h12 v0 v1 v2 v3 v4 v5) k) v0 v1 v2 v3 v4 v5 (fun q0 q3 => k (.exit 4) (ways_level_far_x12_4 v3 v4 q0 q3))) (by kernel_rfl) ?_
    have h : (fun (v0 : Bool) (v1 : Int) (v2 : Int) (v3 : ways_level) (v4 : Bool) (v5 : Arr Int) => loopM E.Θ (ways_level_other_cal N) (ways_level_far_lp N) (noJn) 0 ways_level_far_L12 (bodyAt E 60 12) n (ways_level_far_h12 v0 v1 v2 v3 v4 v5) k) = (fun (v0 : Bool) (v1 : Int) (v2 : Int) (v3 : ways_level) (v4 : Bool) (v5 : Arr Int) => ways_level_far_l12 N n v0 v1 v2 v3 v4 v5 (fun q0 q3 => k (.exit 4) (ways_level_far_x12_4 v3 v4 q0 q3))) := funext fun v0 => funext fun v1 => funext fun v2 => funext fun v3 => funext fun v4 => funext fun v5 => ih v0 v1 v2 v3 v4 v5
    rw [h]
    rfl
theorem ways_level_far_l15_eq {R : Type} (N : Nat) (k : Exit → St → Option R) (n : Nat) : ∀ (v0 : Bool) (v1 : Int) (v2 : Int) (v3 : Int) (v4 : Arr api_Passage) (v5 : Int) (v6 : Int) (v7 : ways_level) (v8 : Bool) (v9 : Arr Int), loopM E.Θ (ways_level_other_cal N) (ways_level_far_lp N) (noJn) 0 ways_level_far_L15 (bodyAt E 60 15) n (ways_level_far_h15 v0 v1 v2 v3 v4 v5 v6 v7 v8 v9) k = ways_level_far_l15 N n v0 v1 v2 v3 v4 v5 v6 v7 v8 v9 (fun q0 q5 => k (.exit 6) (ways_level_far_x15_6 v2 v3 v7 v8 q0 q5)) := by
  induction n with
  | zero => intro v0 v1 v2 v3 v4 v5 v6 v7 v8 v9; rfl
  | succ n ih =>
    intro v0 v1 v2 v3 v4 v5 v6 v7 v8 v9
    refine Eq.trans (b := ways_level_far_b15 N (fun v0 v1 v2 v3 v4 v5 v6 v7 v8 v9 => loopM E.Θ (ways_level_other_cal N) (ways_level_far_lp N) (noJn) 0 ways_level_far_L15 (bodyAt E 60 15) n (ways_level_far_h15 v0 v1 v2 v3 v4 v5 v6 v7 v8 v9) k) v0 v1 v2 v3 v4 v5 v6 v7 v8 v9 (fun q0 q5 => k (.exit 6) (ways_level_far_x15_6 v2 v3 v7 v8 q0 q5))) (by kernel_rfl) ?_
    have h : (fun (v0 : Bool) (v1 : Int) (v2 : Int) (v3 : Int) (v4 : Arr api_Passage) (v5 : Int) (v6 : Int) (v7 : ways_level) (v8 : Bool) (v9 : Arr Int) => loopM E.Θ (ways_level_other_cal N) (ways_level_far_lp N) (noJn) 0 ways_level_far_L15 (bodyAt E 60 15) n (ways_level_far_h15 v0 v1 v2 v3 v4 v5 v6 v7 v8 v9) k) = (fun (v0 : Bool) (v1 : Int) (v2 : Int) (v3 : Int) (v4 : Arr api_Passage) (v5 : Int) (v6 : Int) (v7 : ways_level) (v8 : Bool) (v9 : Arr Int) => ways_level_far_l15 N n v0 v1 v2 v3 v4 v5 v6 v7 v8 v9 (fun q0 q5 => k (.exit 6) (ways_level_far_x15_6 v2 v3 v7 v8 q0 q5))) := funext fun v0 => funext fun v1 => funext fun v2 => funext fun v3 => funext fun v4 => funext fun v5 => funext fun v6 => funext fun v7 => funext fun v8 => funext fun v9 => ih v0 v1 v2 v3 v4 v5 v6 v7 v8 v9
    rw [h]
    rfl
theorem ways_level_far_k3 {R : Type} (N : Nat) : LpKey (R := R) E 60 0 (ways_level_far_lp N) 3 :=
  lpKey_of hE (ways_level_other_cal_ok N) (lp := ways_level_far_lp N) (jn := noJn) ways_level_far_L3_ok [] kNil (by kernel_rfl) [] jNil (by kernel_rfl) N fun S k =>
    Eq.trans (b := ways_level_far_L3.head.raw 0 S (fun S0 => ways_level_far_d3 N S0 k)) (by kernel_rfl) (congrArg (ways_level_far_L3.head.raw 0 S) (funext fun S0 => Eq.trans (ways_level_far_l3_eq N k N (toI (lget S0.tmps 1)) (toI (lget S0.tmps 18)) (toI (lget S0.tmps 19)) (Cod.dec ways_levelC (lget (entCs (entAt S0.tab 0)))) (entNl (entAt S0.tab 1)) (lst intC (entN (entAt S0.tab 1)) (entC (entAt S0.tab 1)))).symm (by kernel_rfl)))
theorem ways_level_far_k15 {R : Type} (N : Nat) : LpKey (R := R) E 60 0 (ways_level_far_lp N) 15 :=
  lpKey_of hE (ways_level_other_cal_ok N) (lp := ways_level_far_lp N) (jn := noJn) ways_level_far_L15_ok [] kNil (by kernel_rfl) [] jNil (by kernel_rfl) N fun S k =>
    Eq.trans (b := ways_level_far_L15.head.raw 0 S (fun S0 => ways_level_far_d15 N S0 k)) (by kernel_rfl) (congrArg (ways_level_far_L15.head.raw 0 S) (funext fun S0 => Eq.trans (ways_level_far_l15_eq N k N (toB (lget S0.tmps 7)) (toI (lget S0.tmps 8)) (toI (lget S0.tmps 32)) (toI (lget S0.tmps 33)) (lstC api_PassageC (lget S0.tmps 38)) (toI (lget S0.tmps 39)) (toI (lget S0.tmps 40)) (Cod.dec ways_levelC (lget (entCs (entAt S0.tab 0)))) (entNl (entAt S0.tab 1)) (lst intC (entN (entAt S0.tab 1)) (entC (entAt S0.tab 1)))).symm (by kernel_rfl)))
theorem ways_level_far_k12 {R : Type} (N : Nat) : LpKey (R := R) E 60 0 (ways_level_far_lp N) 12 :=
  lpKey_of hE (ways_level_other_cal_ok N) (lp := ways_level_far_lp N) (jn := noJn) ways_level_far_L12_ok [15] (kCons (ways_level_far_k15 N) kNil) (by kernel_rfl) [] jNil (by kernel_rfl) N fun S k =>
    Eq.trans (b := ways_level_far_L12.head.raw 0 S (fun S0 => ways_level_far_d12 N S0 k)) (by kernel_rfl) (congrArg (ways_level_far_L12.head.raw 0 S) (funext fun S0 => Eq.trans (ways_level_far_l12_eq N k N (toB (lget S0.tmps 7)) (toI (lget S0.tmps 32)) (toI (lget S0.tmps 33)) (Cod.dec ways_levelC (lget (entCs (entAt S0.tab 0)))) (entNl (entAt S0.tab 1)) (lst intC (entN (entAt S0.tab 1)) (entC (entAt S0.tab 1)))).symm (by kernel_rfl)))
theorem ways_level_far_k9 {R : Type} (N : Nat) : LpKey (R := R) E 60 0 (ways_level_far_lp N) 9 :=
  lpKey_of hE (ways_level_other_cal_ok N) (lp := ways_level_far_lp N) (jn := noJn) ways_level_far_L9_ok [12, 15] (kCons (ways_level_far_k12 N) (kCons (ways_level_far_k15 N) kNil)) (by kernel_rfl) [] jNil (by kernel_rfl) N fun S k =>
    Eq.trans (b := ways_level_far_L9.head.raw 0 S (fun S0 => ways_level_far_d9 N S0 k)) (by kernel_rfl) (congrArg (ways_level_far_L9.head.raw 0 S) (funext fun S0 => Eq.trans (ways_level_far_l9_eq N k N (toB (lget S0.tmps 7)) (Cod.dec ways_levelC (lget (entCs (entAt S0.tab 0)))) (entNl (entAt S0.tab 1)) (lst intC (entN (entAt S0.tab 1)) (entC (entAt S0.tab 1)))).symm (by kernel_rfl)))
noncomputable def ways_level_far_go {R : Type} (N : Nat) (args : List SV) (T : Tab) (kf : SV × Tab → Option R) : Option R :=
  ways_level_far N (Cod.dec ways_levelC (lget (toCs (lget args 0)))) (toI (lget args 1)) (fun q0 q1 => kf (lget [.row 0] 0, [(0, rowE intC q0 q1)]))
noncomputable def ways_level_far_cal {R : Type} (N : Nat) : Cal R := callM (ways_level_other_cal N) 60 0 ways_level_far_sp (ways_level_far_go N)
theorem ways_level_far_cal_ok {R : Type} (N : Nat) : CalOk E.P (ways_level_far_cal (R := R) N) :=
  callM_ok hE (ways_level_other_cal_ok N) (lp := ways_level_far_lp N) (jn := noJn) (keys := [3, 9, 12, 15]) (kCons (ways_level_far_k3 N) (kCons (ways_level_far_k9 N) (kCons (ways_level_far_k12 N) (kCons (ways_level_far_k15 N) kNil)))) (by kernel_rfl) (js := []) jNil (by kernel_rfl) ways_level_far_sp_ok ways_level_far_rs_ok (fun args T kf => Eq.trans (ways_level_far_def N (Cod.dec ways_levelC (lget (toCs (lget args 0)))) (toI (lget args 1)) (fun q0 q1 => kf (lget [.row 0] 0, [(0, rowE intC q0 q1)]))) (by kernel_rfl : ways_level_far_run N args T kf = fnM E (ways_level_other_cal N) (ways_level_far_lp N) (noJn) 60 (ways_level_far_sp.vs args) (ways_level_far_sp.tab T) 0 (resK ways_level_far_rs kf)))

def ways_Way_L11 : LoopSp := ⟨⟨[3, 4, 5, 11, 13, 14, 15, 45, 46, 47], ⟨(dr 3 ((rInt .i64) :: (rInt .i64) :: (rPtr 0 0) :: (dr 5 ((rRow 1) :: (dr 1 ((rPtr 2 0) :: (rRow 3) :: (rInt .i64) :: (dr 29 ((rSl api_PassageC) :: (rInt .i64) :: (rInt .i64) :: (dr 42 []))))))))), [(0, eBlkC api_StationC), (1, eRow intC), (2, eBlkC ways_levelC), (3, eRow intC)]⟩, 4⟩, [(some 2, ⟨[3, 4, 5, 11, 13, 14, 15], ⟨(dr 3 ((rInt .i64) :: (rInt .i64) :: (rPtr 0 0) :: (dr 5 ((rRow 1) :: (dr 1 ((rPtr 2 0) :: (rRow 3) :: (rInt .i64) :: (dr 74 []))))))), [(0, eBlkC api_StationC), (1, eRow intC), (2, eBlkC ways_levelC), (3, eRow intC)]⟩, 4⟩)]⟩
theorem ways_Way_L11_ok : ways_Way_L11.Ok := ⟨⟨(drCons 3 (allCons (rInt_ok .i64) (allCons (rInt_ok .i64) (allCons (rPtr_ok 0 0) (drCons 5 (allCons (rRow_ok 1) (drCons 1 (allCons (rPtr_ok 2 0) (allCons (rRow_ok 3) (allCons (rInt_ok .i64) (drCons 29 (allCons (rSl_ok api_PassageC_ok) (allCons (rInt_ok .i64) (allCons (rInt_ok .i64) (drCons 42 allNil))))))))))))))), (eCons (eBlkC_ok api_StationC_ok api_StationC_len) (eCons (eRow_ok intC_ok) (eCons (eBlkC_ok ways_levelC_ok ways_levelC_len) (eCons (eRow_ok intC_ok) eNil))))⟩, (xCons ⟨(drCons 3 (allCons (rInt_ok .i64) (allCons (rInt_ok .i64) (allCons (rPtr_ok 0 0) (drCons 5 (allCons (rRow_ok 1) (drCons 1 (allCons (rPtr_ok 2 0) (allCons (rRow_ok 3) (allCons (rInt_ok .i64) (drCons 74 allNil))))))))))), (eCons (eBlkC_ok api_StationC_ok api_StationC_len) (eCons (eRow_ok intC_ok) (eCons (eBlkC_ok ways_levelC_ok ways_levelC_len) (eCons (eRow_ok intC_ok) eNil))))⟩ xNil)⟩
def ways_Way_h11 (v222 : Int) (v223 : Int) (v224 : Int) (v225 : Arr api_Passage) (v226 : Int) (v227 : Int) (v228 : api_Station) (v229 : Bool) (v230 : Arr Int) (v231 : ways_level) (v232 : Bool) (v233 : Arr Int) : St := ⟨(un 3 ((.int .i64 v222) :: (.int .i64 v223) :: (.ptr 0 0) :: (un 5 ((.row 1) :: (un 1 ((.ptr 2 0) :: (.row 3) :: (.int .i64 v224) :: (un 29 ((slC api_PassageC v225) :: (.int .i64 v226) :: (.int .i64 v227) :: (un 42 []))))))))), [(0, .blk (Cod.enc api_StationC v228)), (1, rowE intC v229 v230), (2, .blk (Cod.enc ways_levelC v231)), (3, rowE intC v232 v233)], 4⟩
def ways_Way_x11_2 (v222 : Int) (v223 : Int) (v228 : api_Station) (v231 : ways_level) (v232 : Bool) (v233 : Arr Int) (q2 : Int) (q4 : Bool) (q5 : Arr Int) : St := ⟨(un 3 ((.int .i64 v222) :: (.int .i64 v223) :: (.ptr 0 0) :: (un 5 ((.row 1) :: (un 1 ((.ptr 2 0) :: (.row 3) :: (.int .i64 q2) :: (un 74 []))))))), [(0, .blk (Cod.enc api_StationC v228)), (1, rowE intC q4 q5), (2, .blk (Cod.enc ways_levelC v231)), (3, rowE intC v232 v233)], 4⟩
def ways_Way_b11 {R : Type} (N : Nat) (rc : Int → Int → Int → Arr api_Passage → Int → Int → api_Station → Bool → Arr Int → ways_level → Bool → Arr Int → Option R) (v222 : Int) (v223 : Int) (v224 : Int) (v225 : Arr api_Passage) (v226 : Int) (v227 : Int) (v228 : api_Station) (v229 : Bool) (v230 : Arr Int) (v231 : ways_level) (v232 : Bool) (v233 : Arr Int) (k2 : Int → Bool → Arr Int → Option R) : Option R :=
  bif decide (v227 < v226) then
   bif decide ((0 : Int) ≤ v227) && decide (v227 < (↑(Arr.n v225) : Int)) then
    ways_level_other N v231 (Arr.f v225 (Int.toNat v227)) v224 (fun r234 =>
    bif decide (r234 ≥ (0 : Int)) then
     bif decide ((0 : Int) ≤ r234) && decide (r234 < (↑(Arr.n v233) : Int)) then
      bif decide (Arr.f v233 (Int.toNat r234) ≥ (0 : Int)) then
       bif decide ((0 : Int) ≤ r234) && decide (r234 < (↑(Arr.n v233) : Int)) then
        bif decide ((0 : Int) ≤ v224) && decide (v224 < (↑(Arr.n v233) : Int)) then
         bif w64 (Arr.f v233 (Int.toNat r234) + api_Passage.Ticks (Arr.f v225 (Int.toNat v227))) == Arr.f v233 (Int.toNat v224) then
          bif room (Arr.n v230 + (1 : Nat)) then
           k2 r234 false (lst intC (Arr.n v230 + (1 : Nat)) (catC (Arr.n v230) (Cod.cell intC (Arr.f v230)) (litC [SV.int IntKind.i64 (0 : Int)] [[SV.int IntKind.i64 v227]])))
          else
           Option.none
         else
          rc v222 v223 v224 v225 v226 (w64 (v227 + (1 : Int))) v228 v229 v230 v231 v232 v233
        else
         Option.none
       else
        Option.none
      else
       rc v222 v223 v224 v225 v226 (w64 (v227 + (1 : Int))) v228 v229 v230 v231 v232 v233
     else
      Option.none
    else
     rc v222 v223 v224 v225 v226 (w64 (v227 + (1 : Int))) v228 v229 v230 v231 v232 v233)
   else
    Option.none
  else
   k2 v224 v229 v230
def ways_Way_l11 {R : Type} (N : Nat) : Nat → Int → Int → Int → Arr api_Passage → Int → Int → api_Station → Bool → Arr Int → ways_level → Bool → Arr Int → (Int → Bool → Arr Int → Option R) → Option R
  | 0, _, _, _, _, _, _, _, _, _, _, _, _, _ => Option.none
  | n + 1, v222, v223, v224, v225, v226, v227, v228, v229, v230, v231, v232, v233, k2 => ways_Way_b11 N (fun v222 v223 v224 v225 v226 v227 v228 v229 v230 v231 v232 v233 => ways_Way_l11 N n v222 v223 v224 v225 v226 v227 v228 v229 v230 v231 v232 v233 k2) v222 v223 v224 v225 v226 v227 v228 v229 v230 v231 v232 v233 k2

def ways_Way_L9 : LoopSp := ⟨⟨[3, 4, 5, 11, 13, 14, 15], ⟨(dr 3 ((rInt .i64) :: (rInt .i64) :: (rPtr 0 0) :: (dr 5 ((rRow 1) :: (dr 1 ((rPtr 2 0) :: (rRow 3) :: (rInt .i64) :: (dr 74 []))))))), [(0, eBlkC api_StationC), (1, eRow intC), (2, eBlkC ways_levelC), (3, eRow intC)]⟩, 4⟩, [(some 0, ⟨[3, 11, 14], ⟨(dr 3 ((rInt .i64) :: (dr 7 ((rRow 0) :: (dr 2 ((rRow 1) :: (dr 75 []))))))), [(0, eRow intC), (1, eRow intC)]⟩, 2⟩)]⟩
theorem ways_Way_L9_ok : ways_Way_L9.Ok := ⟨⟨(drCons 3 (allCons (rInt_ok .i64) (allCons (rInt_ok .i64) (allCons (rPtr_ok 0 0) (drCons 5 (allCons (rRow_ok 1) (drCons 1 (allCons (rPtr_ok 2 0) (allCons (rRow_ok 3) (allCons (rInt_ok .i64) (drCons 74 allNil))))))))))), (eCons (eBlkC_ok api_StationC_ok api_StationC_len) (eCons (eRow_ok intC_ok) (eCons (eBlkC_ok ways_levelC_ok ways_levelC_len) (eCons (eRow_ok intC_ok) eNil))))⟩, (xCons ⟨(drCons 3 (allCons (rInt_ok .i64) (drCons 7 (allCons (rRow_ok 0) (drCons 2 (allCons (rRow_ok 1) (drCons 75 allNil))))))), (eCons (eRow_ok intC_ok) (eCons (eRow_ok intC_ok) eNil))⟩ xNil)⟩
def ways_Way_h9 (v213 : Int) (v214 : Int) (v215 : Int) (v216 : api_Station) (v217 : Bool) (v218 : Arr Int) (v219 : ways_level) (v220 : Bool) (v221 : Arr Int) : St := ⟨(un 3 ((.int .i64 v213) :: (.int .i64 v214) :: (.ptr 0 0) :: (un 5 ((.row 1) :: (un 1 ((.ptr 2 0) :: (.row 3) :: (.int .i64 v215) :: (un 74 []))))))), [(0, .blk (Cod.enc api_StationC v216)), (1, rowE intC v217 v218), (2, .blk (Cod.enc ways_levelC v219)), (3, rowE intC v220 v221)], 4⟩
def ways_Way_x9_0 (v213 : Int) (v220 : Bool) (v221 : Arr Int) (q1 : Bool) (q2 : Arr Int) : St := ⟨(un 3 ((.int .i64 v213) :: (un 7 ((.row 0) :: (un 2 ((.row 1) :: (un 75 []))))))), [(0, rowE intC q1 q2), (1, rowE intC v220 v221)], 2⟩
def ways_Way_b9 {R : Type} (N : Nat) (rc : Int → Int → Int → api_Station → Bool → Arr Int → ways_level → Bool → Arr Int → Option R) (v213 : Int) (v214 : Int) (v215 : Int) (v216 : api_Station) (v217 : Bool) (v218 : Arr Int) (v219 : ways_level) (v220 : Bool) (v221 : Arr Int) (k0 : Bool → Arr Int → Option R) : Option R :=
  bif v215 != v214 then
   ways_Way_l11 N N v213 v214 v215 (api_Station.Passages v216) ((↑(Arr.n (api_Station.Passages v216)) : Int)) (0 : Int) v216 v217 v218 v219 v220 v221 (fun r235 r236 r237 =>
    rc v213 v214 r235 v216 r236 r237 v219 v220 v221)
  else
   k0 v217 v218
def ways_Way_l9 {R : Type} (N : Nat) : Nat → Int → Int → Int → api_Station → Bool → Arr Int → ways_level → Bool → Arr Int → (Bool → Arr Int → Option R) → Option R
  | 0, _, _, _, _, _, _, _, _, _, _ => Option.none
  | n + 1, v213, v214, v215, v216, v217, v218, v219, v220, v221, k0 => ways_Way_b9 N (fun v213 v214 v215 v216 v217 v218 v219 v220 v221 => ways_Way_l9 N n v213 v214 v215 v216 v217 v218 v219 v220 v221 k0) v213 v214 v215 v216 v217 v218 v219 v220 v221 k0


def ways_Way_m {R : Type} (N : Nat) (a125 : api_Station) (a126 : Int) (a127 : Bool) (a128 : Int) (a129 : Int) (k : Int → Int → Bool → Arr Int → Option R) : Option R :=
  ways_asked N a125 a126 (lst intC (2 : Nat) (litC [SV.int IntKind.i64 (0 : Int)] [[SV.int IntKind.i64 a128], [SV.int IntKind.i64 a129]])) (fun r172 =>
  bif r172 != (0 : Int) then
   k (0 : Int) r172 true (lst intC (0 : Nat) (zeroC [SV.int IntKind.i64 (0 : Int)]))
  else
   ways_level_far N (ways_level.mk a125 a126 a127) a129 (fun r211 r212 =>
   bif decide ((0 : Int) ≤ a128) && decide (a128 < (↑(Arr.n r212) : Int)) then
    bif decide (Arr.f r212 (Int.toNat a128) < (0 : Int)) then
     k (0 : Int) (3 : Int) true (lst intC (0 : Nat) (zeroC [SV.int IntKind.i64 (0 : Int)]))
    else
     ways_Way_l9 N N a128 a129 a128 a125 true (lst intC (0 : Nat) (zeroC [SV.int IntKind.i64 (0 : Int)])) (ways_level.mk a125 a126 a127) r211 r212 (fun r238 r239 =>
      bif decide ((0 : Int) ≤ a128) && decide (a128 < (↑(Arr.n r212) : Int)) then
       k (Arr.f r212 (Int.toNat a128)) (0 : Int) r238 r239
      else
       Option.none)
   else
    Option.none))
noncomputable def ways_Way {R : Type} : Nat → api_Station → Int → Bool → Int → Int → (Int → Int → Bool → Arr Int → Option R) → Option R := lock (@ways_Way_m R)
theorem ways_Way_def {R : Type} (N : Nat) (a125 : api_Station) (a126 : Int) (a127 : Bool) (a128 : Int) (a129 : Int) (k : Int → Int → Bool → Arr Int → Option R) : ways_Way N a125 a126 a127 a128 a129 k = ways_Way_m N a125 a126 a127 a128 a129 k := by unfold ways_Way; rw [lock_eq]
def ways_Way_sp : Sp := ⟨[rAgg api_StationC, rInt .i64, rBool, rInt .i64, rInt .i64], []⟩
theorem ways_Way_sp_ok : ways_Way_sp.Ok := ⟨(allCons (rAgg_ok api_StationC_ok api_StationC_len) (allCons (rInt_ok .i64) (allCons rBool_ok (allCons (rInt_ok .i64) (allCons (rInt_ok .i64) allNil))))), eNil⟩
def ways_Way_rs : Sp := ⟨[rTup [rInt .i64, rRow 0, rInt .i64]], [(0, eRow intC)]⟩
theorem ways_Way_rs_ok : ways_Way_rs.Ok := ⟨(allCons (rTup_ok (allCons (rInt_ok .i64) (allCons (rRow_ok 0) (allCons (rInt_ok .i64) allNil)))) allNil), (eCons (eRow_ok intC_ok) eNil)⟩
def ways_Way_run {R : Type} (N : Nat) (args : List SV) (T : Tab) (kf : SV × Tab → Option R) : Option R :=
  ways_Way_m N (Cod.dec api_StationC (lget (toCs (lget args 0)))) (toI (lget args 1)) (toB (lget args 2)) (toI (lget args 3)) (toI (lget args 4)) (fun q0 q1 q2 q3 => kf (lget [.tup [.int .i64 q0, .row 0, .int .i64 q1]] 0, [(0, rowE intC q2 q3)]))
def ways_Way_d11 {R : Type} (N : Nat) (S0 : St) (k : Exit → St → Option R) : Option R :=
  ways_Way_l11 N N (toI (lget S0.tmps 3)) (toI (lget S0.tmps 4)) (toI (lget S0.tmps 15)) (lstC api_PassageC (lget S0.tmps 45)) (toI (lget S0.tmps 46)) (toI (lget S0.tmps 47)) (Cod.dec api_StationC (lget (entCs (entAt S0.tab 0)))) (entNl (entAt S0.tab 1)) (lst intC (entN (entAt S0.tab 1)) (entC (entAt S0.tab 1))) (Cod.dec ways_levelC (lget (entCs (entAt S0.tab 2)))) (entNl (entAt S0.tab 3)) (lst intC (entN (entAt S0.tab 3)) (entC (entAt S0.tab 3))) (fun q2 q4 q5 => k (.exit 2) (ways_Way_x11_2 (toI (lget S0.tmps 3)) (toI (lget S0.tmps 4)) (Cod.dec api_StationC (lget (entCs (entAt S0.tab 0)))) (Cod.dec ways_levelC (lget (entCs (entAt S0.tab 2)))) (entNl (entAt S0.tab 3)) (lst intC (entN (entAt S0.tab 3)) (entC (entAt S0.tab 3))) q2 q4 q5))
def ways_Way_d9 {R : Type} (N : Nat) (S0 : St) (k : Exit → St → Option R) : Option R :=
  ways_Way_l9 N N (toI (lget S0.tmps 3)) (toI (lget S0.tmps 4)) (toI (lget S0.tmps 15)) (Cod.dec api_StationC (lget (entCs (entAt S0.tab 0)))) (entNl (entAt S0.tab 1)) (lst intC (entN (entAt S0.tab 1)) (entC (entAt S0.tab 1))) (Cod.dec ways_levelC (lget (entCs (entAt S0.tab 2)))) (entNl (entAt S0.tab 3)) (lst intC (entN (entAt S0.tab 3)) (entC (entAt S0.tab 3))) (fun q1 q2 => k (.exit 0) (ways_Way_x9_0 (toI (lget S0.tmps 3)) (entNl (entAt S0.tab 3)) (lst intC (entN (entAt S0.tab 3)) (entC (entAt S0.tab 3))) q1 q2))
def ways_Way_lp {R : Type} (N : Nat) : Lp R := fun body S k => bif (Go.Sx.keyOf body).getD 0 == 9 then (ways_Way_L9.head.raw 0 S (fun S0 => ways_Way_d9 N S0 k)) else bif (Go.Sx.keyOf body).getD 0 == 11 then (ways_Way_L11.head.raw 0 S (fun S0 => ways_Way_d11 N S0 k)) else Option.none
theorem ways_Way_l9_eq {R : Type} (N : Nat) (k : Exit → St → Option R) (n : Nat) : ∀ (v0 : Int) (v1 : Int) (v2 : Int) (v3 : api_Station) (v4 : Bool) (v5 : Arr Int) (v6 : ways_level) (v7 : Bool) (v8 : Arr Int), loopM E.Θ (ways_level_far_cal N) (ways_Way_lp N) (noJn) 0 ways_Way_L9 (bodyAt E 23 9) n (ways_Way_h9 v0 v1 v2 v3 v4 v5 v6 v7 v8) k = ways_Way_l9 N n v0 v1 v2 v3 v4 v5 v6 v7 v8 (fun q1 q2 => k (.exit 0) (ways_Way_x9_0 v0 v7 v8 q1 q2)) := by
  induction n with
  | zero => intro v0 v1 v2 v3 v4 v5 v6 v7 v8; rfl
  | succ n ih =>
    intro v0 v1 v2 v3 v4 v5 v6 v7 v8
    refine Eq.trans (b := ways_Way_b9 N (fun v0 v1 v2 v3 v4 v5 v6 v7 v8 => loopM E.Θ (ways_level_far_cal N) (ways_Way_lp N) (noJn) 0 ways_Way_L9 (bodyAt E 23 9) n (ways_Way_h9 v0 v1 v2 v3 v4 v5 v6 v7 v8) k) v0 v1 v2 v3 v4 v5 v6 v7 v8 (fun q1 q2 => k (.exit 0) (ways_Way_x9_0 v0 v7 v8 q1 q2))) (by kernel_rfl) ?_
    have h : (fun (v0 : Int) (v1 : Int) (v2 : Int) (v3 : api_Station) (v4 : Bool) (v5 : Arr Int) (v6 : ways_level) (v7 : Bool) (v8 : Arr Int) => loopM E.Θ (ways_level_far_cal N) (ways_Way_lp N) (noJn) 0 ways_Way_L9 (bodyAt E 23 9) n (ways_Way_h9 v0 v1 v2 v3 v4 v5 v6 v7 v8) k) = (fun (v0 : Int) (v1 : Int) (v2 : Int) (v3 : api_Station) (v4 : Bool) (v5 : Arr Int) (v6 : ways_level) (v7 : Bool) (v8 : Arr Int) => ways_Way_l9 N n v0 v1 v2 v3 v4 v5 v6 v7 v8 (fun q1 q2 => k (.exit 0) (ways_Way_x9_0 v0 v7 v8 q1 q2))) := funext fun v0 => funext fun v1 => funext fun v2 => funext fun v3 => funext fun v4 => funext fun v5 => funext fun v6 => funext fun v7 => funext fun v8 => ih v0 v1 v2 v3 v4 v5 v6 v7 v8
    rw [h]
    rfl
theorem ways_Way_l11_eq {R : Type} (N : Nat) (k : Exit → St → Option R) (n : Nat) : ∀ (v0 : Int) (v1 : Int) (v2 : Int) (v3 : Arr api_Passage) (v4 : Int) (v5 : Int) (v6 : api_Station) (v7 : Bool) (v8 : Arr Int) (v9 : ways_level) (v10 : Bool) (v11 : Arr Int), loopM E.Θ (ways_level_far_cal N) (ways_Way_lp N) (noJn) 0 ways_Way_L11 (bodyAt E 23 11) n (ways_Way_h11 v0 v1 v2 v3 v4 v5 v6 v7 v8 v9 v10 v11) k = ways_Way_l11 N n v0 v1 v2 v3 v4 v5 v6 v7 v8 v9 v10 v11 (fun q2 q4 q5 => k (.exit 2) (ways_Way_x11_2 v0 v1 v6 v9 v10 v11 q2 q4 q5)) := by
  induction n with
  | zero => intro v0 v1 v2 v3 v4 v5 v6 v7 v8 v9 v10 v11; rfl
  | succ n ih =>
    intro v0 v1 v2 v3 v4 v5 v6 v7 v8 v9 v10 v11
    refine Eq.trans (b := ways_Way_b11 N (fun v0 v1 v2 v3 v4 v5 v6 v7 v8 v9 v10 v11 => loopM E.Θ (ways_level_far_cal N) (ways_Way_lp N) (noJn) 0 ways_Way_L11 (bodyAt E 23 11) n (ways_Way_h11 v0 v1 v2 v3 v4 v5 v6 v7 v8 v9 v10 v11) k) v0 v1 v2 v3 v4 v5 v6 v7 v8 v9 v10 v11 (fun q2 q4 q5 => k (.exit 2) (ways_Way_x11_2 v0 v1 v6 v9 v10 v11 q2 q4 q5))) (by kernel_rfl) ?_
    have h : (fun (v0 : Int) (v1 : Int) (v2 : Int) (v3 : Arr api_Passage) (v4 : Int) (v5 : Int) (v6 : api_Station) (v7 : Bool) (v8 : Arr Int) (v9 : ways_level) (v10 : Bool) (v11 : Arr Int) => loopM E.Θ (ways_level_far_cal N) (ways_Way_lp N) (noJn) 0 ways_Way_L11 (bodyAt E 23 11) n (ways_Way_h11 v0 v1 v2 v3 v4 v5 v6 v7 v8 v9 v10 v11) k) = (fun (v0 : Int) (v1 : Int) (v2 : Int) (v3 : Arr api_Passage) (v4 : Int) (v5 : Int) (v6 : api_Station) (v7 : Bool) (v8 : Arr Int) (v9 : ways_level) (v10 : Bool) (v11 : Arr Int) => ways_Way_l11 N n v0 v1 v2 v3 v4 v5 v6 v7 v8 v9 v10 v11 (fun q2 q4 q5 => k (.exit 2) (ways_Way_x11_2 v0 v1 v6 v9 v10 v11 q2 q4 q5))) := funext fun v0 => funext fun v1 => funext fun v2 => funext fun v3 => funext fun v4 => funext fun v5 => funext fun v6 => funext fun v7 => funext fun v8 => funext fun v9 => funext fun v10 => funext fun v11 => ih v0 v1 v2 v3 v4 v5 v6 v7 v8 v9 v10 v11
    rw [h]
    rfl
theorem ways_Way_k11 {R : Type} (N : Nat) : LpKey (R := R) E 23 0 (ways_Way_lp N) 11 :=
  lpKey_of hE (ways_level_far_cal_ok N) (lp := ways_Way_lp N) (jn := noJn) ways_Way_L11_ok [] kNil (by kernel_rfl) [] jNil (by kernel_rfl) N fun S k =>
    Eq.trans (b := ways_Way_L11.head.raw 0 S (fun S0 => ways_Way_d11 N S0 k)) (by kernel_rfl) (congrArg (ways_Way_L11.head.raw 0 S) (funext fun S0 => Eq.trans (ways_Way_l11_eq N k N (toI (lget S0.tmps 3)) (toI (lget S0.tmps 4)) (toI (lget S0.tmps 15)) (lstC api_PassageC (lget S0.tmps 45)) (toI (lget S0.tmps 46)) (toI (lget S0.tmps 47)) (Cod.dec api_StationC (lget (entCs (entAt S0.tab 0)))) (entNl (entAt S0.tab 1)) (lst intC (entN (entAt S0.tab 1)) (entC (entAt S0.tab 1))) (Cod.dec ways_levelC (lget (entCs (entAt S0.tab 2)))) (entNl (entAt S0.tab 3)) (lst intC (entN (entAt S0.tab 3)) (entC (entAt S0.tab 3)))).symm (by kernel_rfl)))
theorem ways_Way_k9 {R : Type} (N : Nat) : LpKey (R := R) E 23 0 (ways_Way_lp N) 9 :=
  lpKey_of hE (ways_level_far_cal_ok N) (lp := ways_Way_lp N) (jn := noJn) ways_Way_L9_ok [11] (kCons (ways_Way_k11 N) kNil) (by kernel_rfl) [] jNil (by kernel_rfl) N fun S k =>
    Eq.trans (b := ways_Way_L9.head.raw 0 S (fun S0 => ways_Way_d9 N S0 k)) (by kernel_rfl) (congrArg (ways_Way_L9.head.raw 0 S) (funext fun S0 => Eq.trans (ways_Way_l9_eq N k N (toI (lget S0.tmps 3)) (toI (lget S0.tmps 4)) (toI (lget S0.tmps 15)) (Cod.dec api_StationC (lget (entCs (entAt S0.tab 0)))) (entNl (entAt S0.tab 1)) (lst intC (entN (entAt S0.tab 1)) (entC (entAt S0.tab 1))) (Cod.dec ways_levelC (lget (entCs (entAt S0.tab 2)))) (entNl (entAt S0.tab 3)) (lst intC (entN (entAt S0.tab 3)) (entC (entAt S0.tab 3)))).symm (by kernel_rfl)))
noncomputable def ways_Way_go {R : Type} (N : Nat) (args : List SV) (T : Tab) (kf : SV × Tab → Option R) : Option R :=
  ways_Way N (Cod.dec api_StationC (lget (toCs (lget args 0)))) (toI (lget args 1)) (toB (lget args 2)) (toI (lget args 3)) (toI (lget args 4)) (fun q0 q1 q2 q3 => kf (lget [.tup [.int .i64 q0, .row 0, .int .i64 q1]] 0, [(0, rowE intC q2 q3)]))
noncomputable def ways_Way_cal {R : Type} (N : Nat) : Cal R := callM (ways_level_far_cal N) 23 0 ways_Way_sp (ways_Way_go N)
theorem ways_Way_cal_ok {R : Type} (N : Nat) : CalOk E.P (ways_Way_cal (R := R) N) :=
  callM_ok hE (ways_level_far_cal_ok N) (lp := ways_Way_lp N) (jn := noJn) (keys := [9, 11]) (kCons (ways_Way_k9 N) (kCons (ways_Way_k11 N) kNil)) (by kernel_rfl) (js := []) jNil (by kernel_rfl) ways_Way_sp_ok ways_Way_rs_ok (fun args T kf => Eq.trans (ways_Way_def N (Cod.dec api_StationC (lget (toCs (lget args 0)))) (toI (lget args 1)) (toB (lget args 2)) (toI (lget args 3)) (toI (lget args 4)) (fun q0 q1 q2 q3 => kf (lget [.tup [.int .i64 q0, .row 0, .int .i64 q1]] 0, [(0, rowE intC q2 q3)]))) (by kernel_rfl : ways_Way_run N args T kf = fnM E (ways_level_far_cal N) (ways_Way_lp N) (noJn) 23 (ways_Way_sp.vs args) (ways_Way_sp.tab T) 0 (resK ways_Way_rs kf)))


def shaft_CheckWorks_1_m {R : Type} (N : Nat) (a246 : Int) (a247 : Int) (a248 : Int) (k : Bool → Option R) : Option R :=
  bif decide (a247 ≤ a246) then
   k (decide (a246 ≤ a248))
  else
   k false
noncomputable def shaft_CheckWorks_1 {R : Type} : Nat → Int → Int → Int → (Bool → Option R) → Option R := lock (@shaft_CheckWorks_1_m R)
theorem shaft_CheckWorks_1_def {R : Type} (N : Nat) (a246 : Int) (a247 : Int) (a248 : Int) (k : Bool → Option R) : shaft_CheckWorks_1 N a246 a247 a248 k = shaft_CheckWorks_1_m N a246 a247 a248 k := by unfold shaft_CheckWorks_1; rw [lock_eq]
def shaft_CheckWorks_1_sp : Sp := ⟨[rInt .i64, rInt .i64, rInt .i64], []⟩
theorem shaft_CheckWorks_1_sp_ok : shaft_CheckWorks_1_sp.Ok := ⟨(allCons (rInt_ok .i64) (allCons (rInt_ok .i64) (allCons (rInt_ok .i64) allNil))), eNil⟩
def shaft_CheckWorks_1_rs : Sp := ⟨[rBool], []⟩
theorem shaft_CheckWorks_1_rs_ok : shaft_CheckWorks_1_rs.Ok := ⟨(allCons rBool_ok allNil), eNil⟩
def shaft_CheckWorks_1_run {R : Type} (N : Nat) (args : List SV) (T : Tab) (kf : SV × Tab → Option R) : Option R :=
  shaft_CheckWorks_1_m N (toI (lget args 0)) (toI (lget args 1)) (toI (lget args 2)) (fun q0 => kf (lget [.bool q0] 0, []))
def shaft_CheckWorks_1_lp {R : Type} (N : Nat) : Lp R := fun body S k => Option.none
noncomputable def shaft_CheckWorks_1_go {R : Type} (N : Nat) (args : List SV) (T : Tab) (kf : SV × Tab → Option R) : Option R :=
  shaft_CheckWorks_1 N (toI (lget args 0)) (toI (lget args 1)) (toI (lget args 2)) (fun q0 => kf (lget [.bool q0] 0, []))
noncomputable def shaft_CheckWorks_1_cal {R : Type} (N : Nat) : Cal R := callM (ways_Way_cal N) 132 0 shaft_CheckWorks_1_sp (shaft_CheckWorks_1_go N)
theorem shaft_CheckWorks_1_cal_ok {R : Type} (N : Nat) : CalOk E.P (shaft_CheckWorks_1_cal (R := R) N) :=
  callM_ok hE (ways_Way_cal_ok N) (lp := shaft_CheckWorks_1_lp N) (jn := noJn) (keys := []) kNil (by kernel_rfl) (js := []) jNil (by kernel_rfl) shaft_CheckWorks_1_sp_ok shaft_CheckWorks_1_rs_ok (fun args T kf => Eq.trans (shaft_CheckWorks_1_def N (toI (lget args 0)) (toI (lget args 1)) (toI (lget args 2)) (fun q0 => kf (lget [.bool q0] 0, []))) (by kernel_rfl : shaft_CheckWorks_1_run N args T kf = fnM E (ways_Way_cal N) (shaft_CheckWorks_1_lp N) (noJn) 132 (shaft_CheckWorks_1_sp.vs args) (shaft_CheckWorks_1_sp.tab T) 0 (resK shaft_CheckWorks_1_rs kf)))


def shaft_CheckWorks_2_m {R : Type} (N : Nat) (a291 : Int) (a292 : Int) (a293 : Arr api_Job) (a294 : Arr Int) (a295 : Int) (a296 : Int) (k : Bool → Option R) : Option R :=
  bif decide (a292 < (0 : Int)) then
   Option.none
  else
   shaft_CheckWorks_1 N a291 (1 : Int) (w64 (w64 ((1 : Int) * (2 : Int) ^ min (Int.toNat a292) (IntKind.bits IntKind.i64)) - (1 : Int))) (fun r297 =>
   k !r297)
noncomputable def shaft_CheckWorks_2 {R : Type} : Nat → Int → Int → Arr api_Job → Arr Int → Int → Int → (Bool → Option R) → Option R := lock (@shaft_CheckWorks_2_m R)
theorem shaft_CheckWorks_2_def {R : Type} (N : Nat) (a291 : Int) (a292 : Int) (a293 : Arr api_Job) (a294 : Arr Int) (a295 : Int) (a296 : Int) (k : Bool → Option R) : shaft_CheckWorks_2 N a291 a292 a293 a294 a295 a296 k = shaft_CheckWorks_2_m N a291 a292 a293 a294 a295 a296 k := by unfold shaft_CheckWorks_2; rw [lock_eq]
def shaft_CheckWorks_2_sp : Sp := ⟨[rInt .i64, rPtr 0 0, rPtr 1 0], [(0, eBlk [rFunc 132 0 []]), (1, eBlk [rInt .i64, rSl api_JobC, rSl intC, rInt .i64, rInt .i64])]⟩
theorem shaft_CheckWorks_2_sp_ok : shaft_CheckWorks_2_sp.Ok := ⟨(allCons (rInt_ok .i64) (allCons (rPtr_ok 0 0) (allCons (rPtr_ok 1 0) allNil))), (eCons (eBlk_ok (allCons (rFunc_ok 132 0 allNil) allNil)) (eCons (eBlk_ok (allCons (rInt_ok .i64) (allCons (rSl_ok api_JobC_ok) (allCons (rSl_ok intC_ok) (allCons (rInt_ok .i64) (allCons (rInt_ok .i64) allNil)))))) eNil))⟩
def shaft_CheckWorks_2_rs : Sp := ⟨[rBool], [(0, eBlk [rFunc 132 0 []]), (1, eBlk [rInt .i64, rSl api_JobC, rSl intC, rInt .i64, rInt .i64])]⟩
theorem shaft_CheckWorks_2_rs_ok : shaft_CheckWorks_2_rs.Ok := ⟨(allCons rBool_ok allNil), (eCons (eBlk_ok (allCons (rFunc_ok 132 0 allNil) allNil)) (eCons (eBlk_ok (allCons (rInt_ok .i64) (allCons (rSl_ok api_JobC_ok) (allCons (rSl_ok intC_ok) (allCons (rInt_ok .i64) (allCons (rInt_ok .i64) allNil)))))) eNil))⟩
def shaft_CheckWorks_2_run {R : Type} (N : Nat) (args : List SV) (T : Tab) (kf : SV × Tab → Option R) : Option R :=
  shaft_CheckWorks_2_m N (toI (lget args 0)) (toI (lget (entCs (entAt T 1)) 0)) (lstC api_JobC (lget (entCs (entAt T 1)) 1)) (lstC intC (lget (entCs (entAt T 1)) 2)) (toI (lget (entCs (entAt T 1)) 3)) (toI (lget (entCs (entAt T 1)) 4)) (fun q0 => kf (lget [.bool q0] 0, [(0, .blk [.func 132 0 []]), (1, .blk [.int .i64 (toI (lget (entCs (entAt T 1)) 0)), slC api_JobC (lstC api_JobC (lget (entCs (entAt T 1)) 1)), slC intC (lstC intC (lget (entCs (entAt T 1)) 2)), .int .i64 (toI (lget (entCs (entAt T 1)) 3)), .int .i64 (toI (lget (entCs (entAt T 1)) 4))])]))
def shaft_CheckWorks_2_lp {R : Type} (N : Nat) : Lp R := fun body S k => Option.none
noncomputable def shaft_CheckWorks_2_go {R : Type} (N : Nat) (args : List SV) (T : Tab) (kf : SV × Tab → Option R) : Option R :=
  shaft_CheckWorks_2 N (toI (lget args 0)) (toI (lget (entCs (entAt T 1)) 0)) (lstC api_JobC (lget (entCs (entAt T 1)) 1)) (lstC intC (lget (entCs (entAt T 1)) 2)) (toI (lget (entCs (entAt T 1)) 3)) (toI (lget (entCs (entAt T 1)) 4)) (fun q0 => kf (lget [.bool q0] 0, [(0, .blk [.func 132 0 []]), (1, .blk [.int .i64 (toI (lget (entCs (entAt T 1)) 0)), slC api_JobC (lstC api_JobC (lget (entCs (entAt T 1)) 1)), slC intC (lstC intC (lget (entCs (entAt T 1)) 2)), .int .i64 (toI (lget (entCs (entAt T 1)) 3)), .int .i64 (toI (lget (entCs (entAt T 1)) 4))])]))
noncomputable def shaft_CheckWorks_2_cal {R : Type} (N : Nat) : Cal R := callM (shaft_CheckWorks_1_cal N) 133 2 shaft_CheckWorks_2_sp (shaft_CheckWorks_2_go N)
theorem shaft_CheckWorks_2_cal_ok {R : Type} (N : Nat) : CalOk E.P (shaft_CheckWorks_2_cal (R := R) N) :=
  callM_ok hE (shaft_CheckWorks_1_cal_ok N) (lp := shaft_CheckWorks_2_lp N) (jn := noJn) (keys := []) kNil (by kernel_rfl) (js := []) jNil (by kernel_rfl) shaft_CheckWorks_2_sp_ok shaft_CheckWorks_2_rs_ok (fun args T kf => Eq.trans (shaft_CheckWorks_2_def N (toI (lget args 0)) (toI (lget (entCs (entAt T 1)) 0)) (lstC api_JobC (lget (entCs (entAt T 1)) 1)) (lstC intC (lget (entCs (entAt T 1)) 2)) (toI (lget (entCs (entAt T 1)) 3)) (toI (lget (entCs (entAt T 1)) 4)) (fun q0 => kf (lget [.bool q0] 0, [(0, .blk [.func 132 0 []]), (1, .blk [.int .i64 (toI (lget (entCs (entAt T 1)) 0)), slC api_JobC (lstC api_JobC (lget (entCs (entAt T 1)) 1)), slC intC (lstC intC (lget (entCs (entAt T 1)) 2)), .int .i64 (toI (lget (entCs (entAt T 1)) 3)), .int .i64 (toI (lget (entCs (entAt T 1)) 4))])]))) (by kernel_rfl : shaft_CheckWorks_2_run N args T kf = fnM E (shaft_CheckWorks_1_cal N) (shaft_CheckWorks_2_lp N) (noJn) 133 (shaft_CheckWorks_2_sp.vs args) (shaft_CheckWorks_2_sp.tab T) 2 (resK shaft_CheckWorks_2_rs kf)))

def slices_IndexFunc___int_int__L2 : LoopSp := ⟨⟨[0, 1, 7, 8], ⟨((rSl intC) :: (rFunc 133 0 [rPtr 0 0, rPtr 1 0]) :: (dr 5 ((rInt .i64) :: (rInt .i64) :: (dr 10 [])))), [(0, eBlk [rFunc 132 0 []]), (1, eBlk [rInt .i64, rSl api_JobC, rSl intC, rInt .i64, rInt .i64])]⟩, 2⟩, [(Option.none, ⟨[4], ⟨(dr 4 ((rInt .i64) :: (dr 14 []))), [(0, eBlk [rFunc 132 0 []]), (1, eBlk [rInt .i64, rSl api_JobC, rSl intC, rInt .i64, rInt .i64])]⟩, 2⟩), (some 0, ⟨[], ⟨(dr 19 []), [(0, eBlk [rFunc 132 0 []]), (1, eBlk [rInt .i64, rSl api_JobC, rSl intC, rInt .i64, rInt .i64])]⟩, 2⟩)]⟩
theorem slices_IndexFunc___int_int__L2_ok : slices_IndexFunc___int_int__L2.Ok := ⟨⟨(allCons (rSl_ok intC_ok) (allCons (rFunc_ok 133 0 (allCons (rPtr_ok 0 0) (allCons (rPtr_ok 1 0) allNil))) (drCons 5 (allCons (rInt_ok .i64) (allCons (rInt_ok .i64) (drCons 10 allNil)))))), (eCons (eBlk_ok (allCons (rFunc_ok 132 0 allNil) allNil)) (eCons (eBlk_ok (allCons (rInt_ok .i64) (allCons (rSl_ok api_JobC_ok) (allCons (rSl_ok intC_ok) (allCons (rInt_ok .i64) (allCons (rInt_ok .i64) allNil)))))) eNil))⟩, (xCons ⟨(drCons 4 (allCons (rInt_ok .i64) (drCons 14 allNil))), (eCons (eBlk_ok (allCons (rFunc_ok 132 0 allNil) allNil)) (eCons (eBlk_ok (allCons (rInt_ok .i64) (allCons (rSl_ok api_JobC_ok) (allCons (rSl_ok intC_ok) (allCons (rInt_ok .i64) (allCons (rInt_ok .i64) allNil)))))) eNil))⟩ (xCons ⟨(drCons 19 allNil), (eCons (eBlk_ok (allCons (rFunc_ok 132 0 allNil) allNil)) (eCons (eBlk_ok (allCons (rInt_ok .i64) (allCons (rSl_ok api_JobC_ok) (allCons (rSl_ok intC_ok) (allCons (rInt_ok .i64) (allCons (rInt_ok .i64) allNil)))))) eNil))⟩ xNil))⟩
def slices_IndexFunc___int_int__h2 (v283 : Arr Int) (v284 : Int) (v285 : Int) (v286 : Int) (v287 : Arr api_Job) (v288 : Arr Int) (v289 : Int) (v290 : Int) : St := ⟨((slC intC v283) :: (.func 133 0 [.ptr 0 0, .ptr 1 0]) :: (un 5 ((.int .i64 v284) :: (.int .i64 v285) :: (un 10 [])))), [(0, .blk [.func 132 0 []]), (1, .blk [.int .i64 v286, slC api_JobC v287, slC intC v288, .int .i64 v289, .int .i64 v290])], 2⟩
def slices_IndexFunc___int_int__x2_r (v286 : Int) (v287 : Arr api_Job) (v288 : Arr Int) (v289 : Int) (v290 : Int) (q0 : Int) : St := ⟨(un 4 ((.int .i64 q0) :: (un 14 []))), [(0, .blk [.func 132 0 []]), (1, .blk [.int .i64 v286, slC api_JobC v287, slC intC v288, .int .i64 v289, .int .i64 v290])], 2⟩
def slices_IndexFunc___int_int__x2_0 (v286 : Int) (v287 : Arr api_Job) (v288 : Arr Int) (v289 : Int) (v290 : Int) : St := ⟨(un 19 []), [(0, .blk [.func 132 0 []]), (1, .blk [.int .i64 v286, slC api_JobC v287, slC intC v288, .int .i64 v289, .int .i64 v290])], 2⟩
def slices_IndexFunc___int_int__b2 {R : Type} (N : Nat) (rc : Arr Int → Int → Int → Int → Arr api_Job → Arr Int → Int → Int → Option R) (v283 : Arr Int) (v284 : Int) (v285 : Int) (v286 : Int) (v287 : Arr api_Job) (v288 : Arr Int) (v289 : Int) (v290 : Int) (kr : Int → Option R) (k0 : Unit → Option R) : Option R :=
  bif decide (v285 < v284) then
   bif decide ((0 : Int) ≤ v285) && decide (v285 < (↑(Arr.n v283) : Int)) then
    shaft_CheckWorks_2 N (Arr.f v283 (Int.toNat v285)) v286 v287 v288 v289 v290 (fun r298 =>
    bif r298 then
     kr v285
    else
     rc v283 v284 (w64 (v285 + (1 : Int))) v286 v287 v288 v289 v290)
   else
    Option.none
  else
   k0 ()
def slices_IndexFunc___int_int__l2 {R : Type} (N : Nat) : Nat → Arr Int → Int → Int → Int → Arr api_Job → Arr Int → Int → Int → (Int → Option R) → (Unit → Option R) → Option R
  | 0, _, _, _, _, _, _, _, _, _, _ => Option.none
  | n + 1, v283, v284, v285, v286, v287, v288, v289, v290, kr, k0 => slices_IndexFunc___int_int__b2 N (fun v283 v284 v285 v286 v287 v288 v289 v290 => slices_IndexFunc___int_int__l2 N n v283 v284 v285 v286 v287 v288 v289 v290 kr k0) v283 v284 v285 v286 v287 v288 v289 v290 kr k0


def slices_IndexFunc___int_int__m {R : Type} (N : Nat) (a277 : Arr Int) (a278 : Int) (a279 : Arr api_Job) (a280 : Arr Int) (a281 : Int) (a282 : Int) (k : Int → Option R) : Option R :=
  slices_IndexFunc___int_int__l2 N N a277 ((↑(Arr.n a277) : Int)) (0 : Int) a278 a279 a280 a281 a282 (fun r299 =>
   k r299) (fun (_ : Unit) =>
   k (-1 : Int))
noncomputable def slices_IndexFunc___int_int_ {R : Type} : Nat → Arr Int → Int → Arr api_Job → Arr Int → Int → Int → (Int → Option R) → Option R := lock (@slices_IndexFunc___int_int__m R)
theorem slices_IndexFunc___int_int__def {R : Type} (N : Nat) (a277 : Arr Int) (a278 : Int) (a279 : Arr api_Job) (a280 : Arr Int) (a281 : Int) (a282 : Int) (k : Int → Option R) : slices_IndexFunc___int_int_ N a277 a278 a279 a280 a281 a282 k = slices_IndexFunc___int_int__m N a277 a278 a279 a280 a281 a282 k := by unfold slices_IndexFunc___int_int_; rw [lock_eq]
def slices_IndexFunc___int_int__sp : Sp := ⟨[rSl intC, rFunc 133 0 [rPtr 0 0, rPtr 1 0]], [(0, eBlk [rFunc 132 0 []]), (1, eBlk [rInt .i64, rSl api_JobC, rSl intC, rInt .i64, rInt .i64])]⟩
theorem slices_IndexFunc___int_int__sp_ok : slices_IndexFunc___int_int__sp.Ok := ⟨(allCons (rSl_ok intC_ok) (allCons (rFunc_ok 133 0 (allCons (rPtr_ok 0 0) (allCons (rPtr_ok 1 0) allNil))) allNil)), (eCons (eBlk_ok (allCons (rFunc_ok 132 0 allNil) allNil)) (eCons (eBlk_ok (allCons (rInt_ok .i64) (allCons (rSl_ok api_JobC_ok) (allCons (rSl_ok intC_ok) (allCons (rInt_ok .i64) (allCons (rInt_ok .i64) allNil)))))) eNil))⟩
def slices_IndexFunc___int_int__rs : Sp := ⟨[rInt .i64], [(0, eBlk [rFunc 132 0 []]), (1, eBlk [rInt .i64, rSl api_JobC, rSl intC, rInt .i64, rInt .i64])]⟩
theorem slices_IndexFunc___int_int__rs_ok : slices_IndexFunc___int_int__rs.Ok := ⟨(allCons (rInt_ok .i64) allNil), (eCons (eBlk_ok (allCons (rFunc_ok 132 0 allNil) allNil)) (eCons (eBlk_ok (allCons (rInt_ok .i64) (allCons (rSl_ok api_JobC_ok) (allCons (rSl_ok intC_ok) (allCons (rInt_ok .i64) (allCons (rInt_ok .i64) allNil)))))) eNil))⟩
def slices_IndexFunc___int_int__run {R : Type} (N : Nat) (args : List SV) (T : Tab) (kf : SV × Tab → Option R) : Option R :=
  slices_IndexFunc___int_int__m N (lstC intC (lget args 0)) (toI (lget (entCs (entAt T 1)) 0)) (lstC api_JobC (lget (entCs (entAt T 1)) 1)) (lstC intC (lget (entCs (entAt T 1)) 2)) (toI (lget (entCs (entAt T 1)) 3)) (toI (lget (entCs (entAt T 1)) 4)) (fun q0 => kf (lget [.int .i64 q0] 0, [(0, .blk [.func 132 0 []]), (1, .blk [.int .i64 (toI (lget (entCs (entAt T 1)) 0)), slC api_JobC (lstC api_JobC (lget (entCs (entAt T 1)) 1)), slC intC (lstC intC (lget (entCs (entAt T 1)) 2)), .int .i64 (toI (lget (entCs (entAt T 1)) 3)), .int .i64 (toI (lget (entCs (entAt T 1)) 4))])]))
def slices_IndexFunc___int_int__d2 {R : Type} (N : Nat) (S0 : St) (k : Exit → St → Option R) : Option R :=
  slices_IndexFunc___int_int__l2 N N (lstC intC (lget S0.tmps 0)) (toI (lget S0.tmps 7)) (toI (lget S0.tmps 8)) (toI (lget (entCs (entAt S0.tab 1)) 0)) (lstC api_JobC (lget (entCs (entAt S0.tab 1)) 1)) (lstC intC (lget (entCs (entAt S0.tab 1)) 2)) (toI (lget (entCs (entAt S0.tab 1)) 3)) (toI (lget (entCs (entAt S0.tab 1)) 4)) (fun q0 => k .ret (slices_IndexFunc___int_int__x2_r (toI (lget (entCs (entAt S0.tab 1)) 0)) (lstC api_JobC (lget (entCs (entAt S0.tab 1)) 1)) (lstC intC (lget (entCs (entAt S0.tab 1)) 2)) (toI (lget (entCs (entAt S0.tab 1)) 3)) (toI (lget (entCs (entAt S0.tab 1)) 4)) q0)) (fun (_ : Unit) => k (.exit 0) (slices_IndexFunc___int_int__x2_0 (toI (lget (entCs (entAt S0.tab 1)) 0)) (lstC api_JobC (lget (entCs (entAt S0.tab 1)) 1)) (lstC intC (lget (entCs (entAt S0.tab 1)) 2)) (toI (lget (entCs (entAt S0.tab 1)) 3)) (toI (lget (entCs (entAt S0.tab 1)) 4))))
def slices_IndexFunc___int_int__lp {R : Type} (N : Nat) : Lp R := fun body S k => bif (Go.Sx.keyOf body).getD 0 == 2 then (slices_IndexFunc___int_int__L2.head.raw 2 S (fun S0 => slices_IndexFunc___int_int__d2 N S0 k)) else Option.none
theorem slices_IndexFunc___int_int__l2_eq {R : Type} (N : Nat) (k : Exit → St → Option R) (n : Nat) : ∀ (v0 : Arr Int) (v1 : Int) (v2 : Int) (v3 : Int) (v4 : Arr api_Job) (v5 : Arr Int) (v6 : Int) (v7 : Int), loopM E.Θ (shaft_CheckWorks_2_cal N) (slices_IndexFunc___int_int__lp N) (noJn) 2 slices_IndexFunc___int_int__L2 (bodyAt E 107 2) n (slices_IndexFunc___int_int__h2 v0 v1 v2 v3 v4 v5 v6 v7) k = slices_IndexFunc___int_int__l2 N n v0 v1 v2 v3 v4 v5 v6 v7 (fun q0 => k .ret (slices_IndexFunc___int_int__x2_r v3 v4 v5 v6 v7 q0)) (fun (_ : Unit) => k (.exit 0) (slices_IndexFunc___int_int__x2_0 v3 v4 v5 v6 v7)) := by
  induction n with
  | zero => intro v0 v1 v2 v3 v4 v5 v6 v7; rfl
  | succ n ih =>
    intro v0 v1 v2 v3 v4 v5 v6 v7
    refine Eq.trans (b := slices_IndexFunc___int_int__b2 N (fun v0 v1 v2 v3 v4 v5 v6 v7 => loopM E.Θ (shaft_CheckWorks_2_cal N) (slices_IndexFunc___int_int__lp N) (noJn) 2 slices_IndexFunc___int_int__L2 (bodyAt E 107 2) n (slices_IndexFunc___int_int__h2 v0 v1 v2 v3 v4 v5 v6 v7) k) v0 v1 v2 v3 v4 v5 v6 v7 (fun q0 => k .ret (slices_IndexFunc___int_int__x2_r v3 v4 v5 v6 v7 q0)) (fun (_ : Unit) => k (.exit 0) (slices_IndexFunc___int_int__x2_0 v3 v4 v5 v6 v7))) (by kernel_rfl) ?_
    have h : (fun (v0 : Arr Int) (v1 : Int) (v2 : Int) (v3 : Int) (v4 : Arr api_Job) (v5 : Arr Int) (v6 : Int) (v7 : Int) => loopM E.Θ (shaft_CheckWorks_2_cal N) (slices_IndexFunc___int_int__lp N) (noJn) 2 slices_IndexFunc___int_int__L2 (bodyAt E 107 2) n (slices_IndexFunc___int_int__h2 v0 v1 v2 v3 v4 v5 v6 v7) k) = (fun (v0 : Arr Int) (v1 : Int) (v2 : Int) (v3 : Int) (v4 : Arr api_Job) (v5 : Arr Int) (v6 : Int) (v7 : Int) => slices_IndexFunc___int_int__l2 N n v0 v1 v2 v3 v4 v5 v6 v7 (fun q0 => k .ret (slices_IndexFunc___int_int__x2_r v3 v4 v5 v6 v7 q0)) (fun (_ : Unit) => k (.exit 0) (slices_IndexFunc___int_int__x2_0 v3 v4 v5 v6 v7))) := funext fun v0 => funext fun v1 => funext fun v2 => funext fun v3 => funext fun v4 => funext fun v5 => funext fun v6 => funext fun v7 => ih v0 v1 v2 v3 v4 v5 v6 v7
    rw [h]
    rfl
theorem slices_IndexFunc___int_int__k2 {R : Type} (N : Nat) : LpKey (R := R) E 107 2 (slices_IndexFunc___int_int__lp N) 2 :=
  lpKey_of hE (shaft_CheckWorks_2_cal_ok N) (lp := slices_IndexFunc___int_int__lp N) (jn := noJn) slices_IndexFunc___int_int__L2_ok [] kNil (by kernel_rfl) [] jNil (by kernel_rfl) N fun S k =>
    Eq.trans (b := slices_IndexFunc___int_int__L2.head.raw 2 S (fun S0 => slices_IndexFunc___int_int__d2 N S0 k)) (by kernel_rfl) (congrArg (slices_IndexFunc___int_int__L2.head.raw 2 S) (funext fun S0 => Eq.trans (slices_IndexFunc___int_int__l2_eq N k N (lstC intC (lget S0.tmps 0)) (toI (lget S0.tmps 7)) (toI (lget S0.tmps 8)) (toI (lget (entCs (entAt S0.tab 1)) 0)) (lstC api_JobC (lget (entCs (entAt S0.tab 1)) 1)) (lstC intC (lget (entCs (entAt S0.tab 1)) 2)) (toI (lget (entCs (entAt S0.tab 1)) 3)) (toI (lget (entCs (entAt S0.tab 1)) 4))).symm (by kernel_rfl)))
noncomputable def slices_IndexFunc___int_int__go {R : Type} (N : Nat) (args : List SV) (T : Tab) (kf : SV × Tab → Option R) : Option R :=
  slices_IndexFunc___int_int_ N (lstC intC (lget args 0)) (toI (lget (entCs (entAt T 1)) 0)) (lstC api_JobC (lget (entCs (entAt T 1)) 1)) (lstC intC (lget (entCs (entAt T 1)) 2)) (toI (lget (entCs (entAt T 1)) 3)) (toI (lget (entCs (entAt T 1)) 4)) (fun q0 => kf (lget [.int .i64 q0] 0, [(0, .blk [.func 132 0 []]), (1, .blk [.int .i64 (toI (lget (entCs (entAt T 1)) 0)), slC api_JobC (lstC api_JobC (lget (entCs (entAt T 1)) 1)), slC intC (lstC intC (lget (entCs (entAt T 1)) 2)), .int .i64 (toI (lget (entCs (entAt T 1)) 3)), .int .i64 (toI (lget (entCs (entAt T 1)) 4))])]))
noncomputable def slices_IndexFunc___int_int__cal {R : Type} (N : Nat) : Cal R := callM (shaft_CheckWorks_2_cal N) 107 2 slices_IndexFunc___int_int__sp (slices_IndexFunc___int_int__go N)
theorem slices_IndexFunc___int_int__cal_ok {R : Type} (N : Nat) : CalOk E.P (slices_IndexFunc___int_int__cal (R := R) N) :=
  callM_ok hE (shaft_CheckWorks_2_cal_ok N) (lp := slices_IndexFunc___int_int__lp N) (jn := noJn) (keys := [2]) (kCons (slices_IndexFunc___int_int__k2 N) kNil) (by kernel_rfl) (js := []) jNil (by kernel_rfl) slices_IndexFunc___int_int__sp_ok slices_IndexFunc___int_int__rs_ok (fun args T kf => Eq.trans (slices_IndexFunc___int_int__def N (lstC intC (lget args 0)) (toI (lget (entCs (entAt T 1)) 0)) (lstC api_JobC (lget (entCs (entAt T 1)) 1)) (lstC intC (lget (entCs (entAt T 1)) 2)) (toI (lget (entCs (entAt T 1)) 3)) (toI (lget (entCs (entAt T 1)) 4)) (fun q0 => kf (lget [.int .i64 q0] 0, [(0, .blk [.func 132 0 []]), (1, .blk [.int .i64 (toI (lget (entCs (entAt T 1)) 0)), slC api_JobC (lstC api_JobC (lget (entCs (entAt T 1)) 1)), slC intC (lstC intC (lget (entCs (entAt T 1)) 2)), .int .i64 (toI (lget (entCs (entAt T 1)) 3)), .int .i64 (toI (lget (entCs (entAt T 1)) 4))])]))) (by kernel_rfl : slices_IndexFunc___int_int__run N args T kf = fnM E (shaft_CheckWorks_2_cal N) (slices_IndexFunc___int_int__lp N) (noJn) 107 (slices_IndexFunc___int_int__sp.vs args) (slices_IndexFunc___int_int__sp.tab T) 2 (resK slices_IndexFunc___int_int__rs kf)))


def slices_ContainsFunc___int_int__m {R : Type} (N : Nat) (a271 : Arr Int) (a272 : Int) (a273 : Arr api_Job) (a274 : Arr Int) (a275 : Int) (a276 : Int) (k : Bool → Option R) : Option R :=
  slices_IndexFunc___int_int_ N a271 a272 a273 a274 a275 a276 (fun r300 =>
  k (decide (r300 ≥ (0 : Int))))
noncomputable def slices_ContainsFunc___int_int_ {R : Type} : Nat → Arr Int → Int → Arr api_Job → Arr Int → Int → Int → (Bool → Option R) → Option R := lock (@slices_ContainsFunc___int_int__m R)
theorem slices_ContainsFunc___int_int__def {R : Type} (N : Nat) (a271 : Arr Int) (a272 : Int) (a273 : Arr api_Job) (a274 : Arr Int) (a275 : Int) (a276 : Int) (k : Bool → Option R) : slices_ContainsFunc___int_int_ N a271 a272 a273 a274 a275 a276 k = slices_ContainsFunc___int_int__m N a271 a272 a273 a274 a275 a276 k := by unfold slices_ContainsFunc___int_int_; rw [lock_eq]
def slices_ContainsFunc___int_int__sp : Sp := ⟨[rSl intC, rFunc 133 0 [rPtr 0 0, rPtr 1 0]], [(0, eBlk [rFunc 132 0 []]), (1, eBlk [rInt .i64, rSl api_JobC, rSl intC, rInt .i64, rInt .i64])]⟩
theorem slices_ContainsFunc___int_int__sp_ok : slices_ContainsFunc___int_int__sp.Ok := ⟨(allCons (rSl_ok intC_ok) (allCons (rFunc_ok 133 0 (allCons (rPtr_ok 0 0) (allCons (rPtr_ok 1 0) allNil))) allNil)), (eCons (eBlk_ok (allCons (rFunc_ok 132 0 allNil) allNil)) (eCons (eBlk_ok (allCons (rInt_ok .i64) (allCons (rSl_ok api_JobC_ok) (allCons (rSl_ok intC_ok) (allCons (rInt_ok .i64) (allCons (rInt_ok .i64) allNil)))))) eNil))⟩
def slices_ContainsFunc___int_int__rs : Sp := ⟨[rBool], [(0, eBlk [rFunc 132 0 []]), (1, eBlk [rInt .i64, rSl api_JobC, rSl intC, rInt .i64, rInt .i64])]⟩
theorem slices_ContainsFunc___int_int__rs_ok : slices_ContainsFunc___int_int__rs.Ok := ⟨(allCons rBool_ok allNil), (eCons (eBlk_ok (allCons (rFunc_ok 132 0 allNil) allNil)) (eCons (eBlk_ok (allCons (rInt_ok .i64) (allCons (rSl_ok api_JobC_ok) (allCons (rSl_ok intC_ok) (allCons (rInt_ok .i64) (allCons (rInt_ok .i64) allNil)))))) eNil))⟩
def slices_ContainsFunc___int_int__run {R : Type} (N : Nat) (args : List SV) (T : Tab) (kf : SV × Tab → Option R) : Option R :=
  slices_ContainsFunc___int_int__m N (lstC intC (lget args 0)) (toI (lget (entCs (entAt T 1)) 0)) (lstC api_JobC (lget (entCs (entAt T 1)) 1)) (lstC intC (lget (entCs (entAt T 1)) 2)) (toI (lget (entCs (entAt T 1)) 3)) (toI (lget (entCs (entAt T 1)) 4)) (fun q0 => kf (lget [.bool q0] 0, [(0, .blk [.func 132 0 []]), (1, .blk [.int .i64 (toI (lget (entCs (entAt T 1)) 0)), slC api_JobC (lstC api_JobC (lget (entCs (entAt T 1)) 1)), slC intC (lstC intC (lget (entCs (entAt T 1)) 2)), .int .i64 (toI (lget (entCs (entAt T 1)) 3)), .int .i64 (toI (lget (entCs (entAt T 1)) 4))])]))
def slices_ContainsFunc___int_int__lp {R : Type} (N : Nat) : Lp R := fun body S k => Option.none
noncomputable def slices_ContainsFunc___int_int__go {R : Type} (N : Nat) (args : List SV) (T : Tab) (kf : SV × Tab → Option R) : Option R :=
  slices_ContainsFunc___int_int_ N (lstC intC (lget args 0)) (toI (lget (entCs (entAt T 1)) 0)) (lstC api_JobC (lget (entCs (entAt T 1)) 1)) (lstC intC (lget (entCs (entAt T 1)) 2)) (toI (lget (entCs (entAt T 1)) 3)) (toI (lget (entCs (entAt T 1)) 4)) (fun q0 => kf (lget [.bool q0] 0, [(0, .blk [.func 132 0 []]), (1, .blk [.int .i64 (toI (lget (entCs (entAt T 1)) 0)), slC api_JobC (lstC api_JobC (lget (entCs (entAt T 1)) 1)), slC intC (lstC intC (lget (entCs (entAt T 1)) 2)), .int .i64 (toI (lget (entCs (entAt T 1)) 3)), .int .i64 (toI (lget (entCs (entAt T 1)) 4))])]))
noncomputable def slices_ContainsFunc___int_int__cal {R : Type} (N : Nat) : Cal R := callM (slices_IndexFunc___int_int__cal N) 63 2 slices_ContainsFunc___int_int__sp (slices_ContainsFunc___int_int__go N)
theorem slices_ContainsFunc___int_int__cal_ok {R : Type} (N : Nat) : CalOk E.P (slices_ContainsFunc___int_int__cal (R := R) N) :=
  callM_ok hE (slices_IndexFunc___int_int__cal_ok N) (lp := slices_ContainsFunc___int_int__lp N) (jn := noJn) (keys := []) kNil (by kernel_rfl) (js := []) jNil (by kernel_rfl) slices_ContainsFunc___int_int__sp_ok slices_ContainsFunc___int_int__rs_ok (fun args T kf => Eq.trans (slices_ContainsFunc___int_int__def N (lstC intC (lget args 0)) (toI (lget (entCs (entAt T 1)) 0)) (lstC api_JobC (lget (entCs (entAt T 1)) 1)) (lstC intC (lget (entCs (entAt T 1)) 2)) (toI (lget (entCs (entAt T 1)) 3)) (toI (lget (entCs (entAt T 1)) 4)) (fun q0 => kf (lget [.bool q0] 0, [(0, .blk [.func 132 0 []]), (1, .blk [.int .i64 (toI (lget (entCs (entAt T 1)) 0)), slC api_JobC (lstC api_JobC (lget (entCs (entAt T 1)) 1)), slC intC (lstC intC (lget (entCs (entAt T 1)) 2)), .int .i64 (toI (lget (entCs (entAt T 1)) 3)), .int .i64 (toI (lget (entCs (entAt T 1)) 4))])]))) (by kernel_rfl : slices_ContainsFunc___int_int__run N args T kf = fnM E (slices_IndexFunc___int_int__cal N) (slices_ContainsFunc___int_int__lp N) (noJn) 63 (slices_ContainsFunc___int_int__sp.vs args) (slices_ContainsFunc___int_int__sp.tab T) 2 (resK slices_ContainsFunc___int_int__rs kf)))

def shaft_CheckWorks_L11 : LoopSp := ⟨⟨[1, 3, 4, 6, 43, 44, 45, 66, 67, 68], ⟨(dr 1 ((rPtr 0 0) :: (dr 1 ((rPtr 1 0) :: (rInt .i64) :: (dr 1 ((rInt .i64) :: (dr 36 ((rSl api_JobC) :: (rInt .i64) :: (rInt .i64) :: (dr 20 ((rSl intC) :: (rInt .i64) :: (rInt .i64) :: (dr 18 []))))))))))), [(0, eBlkC api_WorksC), (1, eBlk [rFunc 132 0 []])]⟩, 2⟩, [(Option.none, ⟨[2], ⟨(dr 2 ((rInt .i64) :: (dr 84 []))), []⟩, 0⟩), (some 2, ⟨[1, 3, 43, 44, 45], ⟨(dr 1 ((rPtr 0 0) :: (dr 1 ((rPtr 1 0) :: (dr 39 ((rSl api_JobC) :: (rInt .i64) :: (rInt .i64) :: (dr 41 []))))))), [(0, eBlkC api_WorksC), (1, eBlk [rFunc 132 0 []])]⟩, 2⟩)]⟩
theorem shaft_CheckWorks_L11_ok : shaft_CheckWorks_L11.Ok := ⟨⟨(drCons 1 (allCons (rPtr_ok 0 0) (drCons 1 (allCons (rPtr_ok 1 0) (allCons (rInt_ok .i64) (drCons 1 (allCons (rInt_ok .i64) (drCons 36 (allCons (rSl_ok api_JobC_ok) (allCons (rInt_ok .i64) (allCons (rInt_ok .i64) (drCons 20 (allCons (rSl_ok intC_ok) (allCons (rInt_ok .i64) (allCons (rInt_ok .i64) (drCons 18 allNil)))))))))))))))), (eCons (eBlkC_ok api_WorksC_ok api_WorksC_len) (eCons (eBlk_ok (allCons (rFunc_ok 132 0 allNil) allNil)) eNil))⟩, (xCons ⟨(drCons 2 (allCons (rInt_ok .i64) (drCons 84 allNil))), eNil⟩ (xCons ⟨(drCons 1 (allCons (rPtr_ok 0 0) (drCons 1 (allCons (rPtr_ok 1 0) (drCons 39 (allCons (rSl_ok api_JobC_ok) (allCons (rInt_ok .i64) (allCons (rInt_ok .i64) (drCons 41 allNil))))))))), (eCons (eBlkC_ok api_WorksC_ok api_WorksC_len) (eCons (eBlk_ok (allCons (rFunc_ok 132 0 allNil) allNil)) eNil))⟩ xNil))⟩
def shaft_CheckWorks_h11 (v259 : Int) (v260 : Int) (v261 : Arr api_Job) (v262 : Int) (v263 : Int) (v264 : Arr Int) (v265 : Int) (v266 : Int) (v267 : api_Works) : St := ⟨(un 1 ((.ptr 0 0) :: (un 1 ((.ptr 1 0) :: (.int .i64 v259) :: (un 1 ((.int .i64 v260) :: (un 36 ((slC api_JobC v261) :: (.int .i64 v262) :: (.int .i64 v263) :: (un 20 ((slC intC v264) :: (.int .i64 v265) :: (.int .i64 v266) :: (un 18 []))))))))))), [(0, .blk (Cod.enc api_WorksC v267)), (1, .blk [.func 132 0 []])], 2⟩
def shaft_CheckWorks_x11_r (q0 : Int) : St := ⟨(un 2 ((.int .i64 q0) :: (un 84 []))), [], 0⟩
def shaft_CheckWorks_x11_2 (v261 : Arr api_Job) (v262 : Int) (v263 : Int) (v267 : api_Works) : St := ⟨(un 1 ((.ptr 0 0) :: (un 1 ((.ptr 1 0) :: (un 39 ((slC api_JobC v261) :: (.int .i64 v262) :: (.int .i64 v263) :: (un 41 []))))))), [(0, .blk (Cod.enc api_WorksC v267)), (1, .blk [.func 132 0 []])], 2⟩
def shaft_CheckWorks_b11 {R : Type} (N : Nat) (rc : Int → Int → Arr api_Job → Int → Int → Arr Int → Int → Int → api_Works → Option R) (v259 : Int) (v260 : Int) (v261 : Arr api_Job) (v262 : Int) (v263 : Int) (v264 : Arr Int) (v265 : Int) (v266 : Int) (v267 : api_Works) (kr : Int → Option R) (k2 : Unit → Option R) : Option R :=
  bif decide (v266 < v265) then
   bif decide ((0 : Int) ≤ v266) && decide (v266 < (↑(Arr.n v264) : Int)) then
    shaft_CheckWorks_1 N (Arr.f v264 (Int.toNat v266)) v260 (w64 (v259 - (1 : Int))) (fun r268 =>
    bif !r268 then
     kr (92 : Int)
    else
     rc v259 (w64 (Arr.f v264 (Int.toNat v266) + (1 : Int))) v261 v262 v263 v264 v265 (w64 (v266 + (1 : Int))) v267)
   else
    Option.none
  else
   k2 ()
def shaft_CheckWorks_l11 {R : Type} (N : Nat) : Nat → Int → Int → Arr api_Job → Int → Int → Arr Int → Int → Int → api_Works → (Int → Option R) → (Unit → Option R) → Option R
  | 0, _, _, _, _, _, _, _, _, _, _, _ => Option.none
  | n + 1, v259, v260, v261, v262, v263, v264, v265, v266, v267, kr, k2 => shaft_CheckWorks_b11 N (fun v259 v260 v261 v262 v263 v264 v265 v266 v267 => shaft_CheckWorks_l11 N n v259 v260 v261 v262 v263 v264 v265 v266 v267 kr k2) v259 v260 v261 v262 v263 v264 v265 v266 v267 kr k2

def shaft_CheckWorks_L5 : LoopSp := ⟨⟨[1, 3, 43, 44, 45], ⟨(dr 1 ((rPtr 0 0) :: (dr 1 ((rPtr 1 0) :: (dr 39 ((rSl api_JobC) :: (rInt .i64) :: (rInt .i64) :: (dr 41 []))))))), [(0, eBlkC api_WorksC), (1, eBlk [rFunc 132 0 []])]⟩, 2⟩, [(Option.none, ⟨[2], ⟨(dr 2 ((rInt .i64) :: (dr 84 []))), []⟩, 0⟩), (some 0, ⟨[1, 3], ⟨(dr 1 ((rPtr 0 0) :: (dr 1 ((rPtr 1 0) :: (dr 83 []))))), [(0, eBlkC api_WorksC), (1, eBlk [rFunc 132 0 []])]⟩, 2⟩)]⟩
theorem shaft_CheckWorks_L5_ok : shaft_CheckWorks_L5.Ok := ⟨⟨(drCons 1 (allCons (rPtr_ok 0 0) (drCons 1 (allCons (rPtr_ok 1 0) (drCons 39 (allCons (rSl_ok api_JobC_ok) (allCons (rInt_ok .i64) (allCons (rInt_ok .i64) (drCons 41 allNil))))))))), (eCons (eBlkC_ok api_WorksC_ok api_WorksC_len) (eCons (eBlk_ok (allCons (rFunc_ok 132 0 allNil) allNil)) eNil))⟩, (xCons ⟨(drCons 2 (allCons (rInt_ok .i64) (drCons 84 allNil))), eNil⟩ (xCons ⟨(drCons 1 (allCons (rPtr_ok 0 0) (drCons 1 (allCons (rPtr_ok 1 0) (drCons 83 allNil))))), (eCons (eBlkC_ok api_WorksC_ok api_WorksC_len) (eCons (eBlk_ok (allCons (rFunc_ok 132 0 allNil) allNil)) eNil))⟩ xNil))⟩
def shaft_CheckWorks_h5 (v253 : Arr api_Job) (v254 : Int) (v255 : Int) (v256 : api_Works) : St := ⟨(un 1 ((.ptr 0 0) :: (un 1 ((.ptr 1 0) :: (un 39 ((slC api_JobC v253) :: (.int .i64 v254) :: (.int .i64 v255) :: (un 41 []))))))), [(0, .blk (Cod.enc api_WorksC v256)), (1, .blk [.func 132 0 []])], 2⟩
def shaft_CheckWorks_x5_r (q0 : Int) : St := ⟨(un 2 ((.int .i64 q0) :: (un 84 []))), [], 0⟩
def shaft_CheckWorks_x5_0 (v256 : api_Works) : St := ⟨(un 1 ((.ptr 0 0) :: (un 1 ((.ptr 1 0) :: (un 83 []))))), [(0, .blk (Cod.enc api_WorksC v256)), (1, .blk [.func 132 0 []])], 2⟩
def shaft_CheckWorks_b5 {R : Type} (N : Nat) (rc : Arr api_Job → Int → Int → api_Works → Option R) (v253 : Arr api_Job) (v254 : Int) (v255 : Int) (v256 : api_Works) (kr : Int → Option R) (k0 : Unit → Option R) : Option R :=
  bif decide (v255 < v254) then
   bif decide ((0 : Int) ≤ v255) && decide (v255 < (↑(Arr.n v253) : Int)) then
    shaft_CheckWorks_1 N (api_Job.Machine (Arr.f v253 (Int.toNat v255))) (0 : Int) (w64 (api_Works.Machines v256 - (1 : Int))) (fun r257 =>
    bif !r257 then
     kr (92 : Int)
    else
     shaft_CheckWorks_1 N (api_Job.Nights (Arr.f v253 (Int.toNat v255))) (1 : Int) (24 : Int) (fun r258 =>
     bif !r258 then
      kr (92 : Int)
     else
      shaft_CheckWorks_l11 N N v255 (0 : Int) v253 v254 v255 (api_Job.After (Arr.f v253 (Int.toNat v255))) ((↑(Arr.n (api_Job.After (Arr.f v253 (Int.toNat v255)))) : Int)) (0 : Int) v256 (fun r269 =>
       kr r269) (fun (_ : Unit) =>
       rc v253 v254 (w64 (v255 + (1 : Int))) v256)))
   else
    Option.none
  else
   k0 ()
def shaft_CheckWorks_l5 {R : Type} (N : Nat) : Nat → Arr api_Job → Int → Int → api_Works → (Int → Option R) → (Unit → Option R) → Option R
  | 0, _, _, _, _, _, _ => Option.none
  | n + 1, v253, v254, v255, v256, kr, k0 => shaft_CheckWorks_b5 N (fun v253 v254 v255 v256 => shaft_CheckWorks_l5 N n v253 v254 v255 v256 kr k0) v253 v254 v255 v256 kr k0


def shaft_CheckWorks_m {R : Type} (N : Nat) (a245 : api_Works) (k : Int → Option R) : Option R :=
  shaft_CheckWorks_1 N (api_Works.Machines a245) (1 : Int) (12 : Int) (fun r249 =>
  bif !r249 then
   k (92 : Int)
  else
   shaft_CheckWorks_1 N ((↑(Arr.n (api_Works.Jobs a245)) : Int)) (1 : Int) (6 : Int) (fun r250 =>
   bif !r250 then
    k (92 : Int)
   else
    bif decide ((↑(Arr.n (api_Works.Never a245)) : Int) > (20 : Int)) then
     k (92 : Int)
    else
     shaft_CheckWorks_1 N (api_Works.Crews a245) (1 : Int) (6 : Int) (fun r251 =>
     bif !r251 then
      k (92 : Int)
     else
      shaft_CheckWorks_1 N (api_Works.Until a245) (1 : Int) (24 : Int) (fun r252 =>
      bif !r252 then
       k (92 : Int)
      else
       shaft_CheckWorks_l5 N N (api_Works.Jobs a245) ((↑(Arr.n (api_Works.Jobs a245)) : Int)) (0 : Int) a245 (fun r270 =>
        k r270) (fun (_ : Unit) =>
        slices_ContainsFunc___int_int_ N (api_Works.Never a245) (api_Works.Machines a245) (api_Works.Jobs a245) (api_Works.Never a245) (api_Works.Crews a245) (api_Works.Until a245) (fun r301 =>
        bif r301 then
         k (92 : Int)
        else
         k (0 : Int)))))))
noncomputable def shaft_CheckWorks {R : Type} : Nat → api_Works → (Int → Option R) → Option R := lock (@shaft_CheckWorks_m R)
theorem shaft_CheckWorks_def {R : Type} (N : Nat) (a245 : api_Works) (k : Int → Option R) : shaft_CheckWorks N a245 k = shaft_CheckWorks_m N a245 k := by unfold shaft_CheckWorks; rw [lock_eq]
def shaft_CheckWorks_sp : Sp := ⟨[rAgg api_WorksC], []⟩
theorem shaft_CheckWorks_sp_ok : shaft_CheckWorks_sp.Ok := ⟨(allCons (rAgg_ok api_WorksC_ok api_WorksC_len) allNil), eNil⟩
def shaft_CheckWorks_rs : Sp := ⟨[rInt .i64], []⟩
theorem shaft_CheckWorks_rs_ok : shaft_CheckWorks_rs.Ok := ⟨(allCons (rInt_ok .i64) allNil), eNil⟩
def shaft_CheckWorks_run {R : Type} (N : Nat) (args : List SV) (T : Tab) (kf : SV × Tab → Option R) : Option R :=
  shaft_CheckWorks_m N (Cod.dec api_WorksC (lget (toCs (lget args 0)))) (fun q0 => kf (lget [.int .i64 q0] 0, []))
def shaft_CheckWorks_d11 {R : Type} (N : Nat) (S0 : St) (k : Exit → St → Option R) : Option R :=
  shaft_CheckWorks_l11 N N (toI (lget S0.tmps 4)) (toI (lget S0.tmps 6)) (lstC api_JobC (lget S0.tmps 43)) (toI (lget S0.tmps 44)) (toI (lget S0.tmps 45)) (lstC intC (lget S0.tmps 66)) (toI (lget S0.tmps 67)) (toI (lget S0.tmps 68)) (Cod.dec api_WorksC (lget (entCs (entAt S0.tab 0)))) (fun q0 => k .ret (shaft_CheckWorks_x11_r q0)) (fun (_ : Unit) => k (.exit 2) (shaft_CheckWorks_x11_2 (lstC api_JobC (lget S0.tmps 43)) (toI (lget S0.tmps 44)) (toI (lget S0.tmps 45)) (Cod.dec api_WorksC (lget (entCs (entAt S0.tab 0))))))
def shaft_CheckWorks_d5 {R : Type} (N : Nat) (S0 : St) (k : Exit → St → Option R) : Option R :=
  shaft_CheckWorks_l5 N N (lstC api_JobC (lget S0.tmps 43)) (toI (lget S0.tmps 44)) (toI (lget S0.tmps 45)) (Cod.dec api_WorksC (lget (entCs (entAt S0.tab 0)))) (fun q0 => k .ret (shaft_CheckWorks_x5_r q0)) (fun (_ : Unit) => k (.exit 0) (shaft_CheckWorks_x5_0 (Cod.dec api_WorksC (lget (entCs (entAt S0.tab 0))))))
def shaft_CheckWorks_lp {R : Type} (N : Nat) : Lp R := fun body S k => bif (Go.Sx.keyOf body).getD 0 == 5 then (shaft_CheckWorks_L5.head.raw 0 S (fun S0 => shaft_CheckWorks_d5 N S0 k)) else bif (Go.Sx.keyOf body).getD 0 == 11 then (shaft_CheckWorks_L11.head.raw 0 S (fun S0 => shaft_CheckWorks_d11 N S0 k)) else Option.none
theorem shaft_CheckWorks_l5_eq {R : Type} (N : Nat) (k : Exit → St → Option R) (n : Nat) : ∀ (v0 : Arr api_Job) (v1 : Int) (v2 : Int) (v3 : api_Works), loopM E.Θ (slices_ContainsFunc___int_int__cal N) (shaft_CheckWorks_lp N) (noJn) 0 shaft_CheckWorks_L5 (bodyAt E 106 5) n (shaft_CheckWorks_h5 v0 v1 v2 v3) k = shaft_CheckWorks_l5 N n v0 v1 v2 v3 (fun q0 => k .ret (shaft_CheckWorks_x5_r q0)) (fun (_ : Unit) => k (.exit 0) (shaft_CheckWorks_x5_0 v3)) := by
  induction n with
  | zero => intro v0 v1 v2 v3; rfl
  | succ n ih =>
    intro v0 v1 v2 v3
    refine Eq.trans (b := shaft_CheckWorks_b5 N (fun v0 v1 v2 v3 => loopM E.Θ (slices_ContainsFunc___int_int__cal N) (shaft_CheckWorks_lp N) (noJn) 0 shaft_CheckWorks_L5 (bodyAt E 106 5) n (shaft_CheckWorks_h5 v0 v1 v2 v3) k) v0 v1 v2 v3 (fun q0 => k .ret (shaft_CheckWorks_x5_r q0)) (fun (_ : Unit) => k (.exit 0) (shaft_CheckWorks_x5_0 v3))) (by kernel_rfl) ?_
    have h : (fun (v0 : Arr api_Job) (v1 : Int) (v2 : Int) (v3 : api_Works) => loopM E.Θ (slices_ContainsFunc___int_int__cal N) (shaft_CheckWorks_lp N) (noJn) 0 shaft_CheckWorks_L5 (bodyAt E 106 5) n (shaft_CheckWorks_h5 v0 v1 v2 v3) k) = (fun (v0 : Arr api_Job) (v1 : Int) (v2 : Int) (v3 : api_Works) => shaft_CheckWorks_l5 N n v0 v1 v2 v3 (fun q0 => k .ret (shaft_CheckWorks_x5_r q0)) (fun (_ : Unit) => k (.exit 0) (shaft_CheckWorks_x5_0 v3))) := funext fun v0 => funext fun v1 => funext fun v2 => funext fun v3 => ih v0 v1 v2 v3
    rw [h]
    rfl
theorem shaft_CheckWorks_l11_eq {R : Type} (N : Nat) (k : Exit → St → Option R) (n : Nat) : ∀ (v0 : Int) (v1 : Int) (v2 : Arr api_Job) (v3 : Int) (v4 : Int) (v5 : Arr Int) (v6 : Int) (v7 : Int) (v8 : api_Works), loopM E.Θ (slices_ContainsFunc___int_int__cal N) (shaft_CheckWorks_lp N) (noJn) 0 shaft_CheckWorks_L11 (bodyAt E 106 11) n (shaft_CheckWorks_h11 v0 v1 v2 v3 v4 v5 v6 v7 v8) k = shaft_CheckWorks_l11 N n v0 v1 v2 v3 v4 v5 v6 v7 v8 (fun q0 => k .ret (shaft_CheckWorks_x11_r q0)) (fun (_ : Unit) => k (.exit 2) (shaft_CheckWorks_x11_2 v2 v3 v4 v8)) := by
  induction n with
  | zero => intro v0 v1 v2 v3 v4 v5 v6 v7 v8; rfl
  | succ n ih =>
    intro v0 v1 v2 v3 v4 v5 v6 v7 v8
    refine Eq.trans (b := shaft_CheckWorks_b11 N (fun v0 v1 v2 v3 v4 v5 v6 v7 v8 => loopM E.Θ (slices_ContainsFunc___int_int__cal N) (shaft_CheckWorks_lp N) (noJn) 0 shaft_CheckWorks_L11 (bodyAt E 106 11) n (shaft_CheckWorks_h11 v0 v1 v2 v3 v4 v5 v6 v7 v8) k) v0 v1 v2 v3 v4 v5 v6 v7 v8 (fun q0 => k .ret (shaft_CheckWorks_x11_r q0)) (fun (_ : Unit) => k (.exit 2) (shaft_CheckWorks_x11_2 v2 v3 v4 v8))) (by kernel_rfl) ?_
    have h : (fun (v0 : Int) (v1 : Int) (v2 : Arr api_Job) (v3 : Int) (v4 : Int) (v5 : Arr Int) (v6 : Int) (v7 : Int) (v8 : api_Works) => loopM E.Θ (slices_ContainsFunc___int_int__cal N) (shaft_CheckWorks_lp N) (noJn) 0 shaft_CheckWorks_L11 (bodyAt E 106 11) n (shaft_CheckWorks_h11 v0 v1 v2 v3 v4 v5 v6 v7 v8) k) = (fun (v0 : Int) (v1 : Int) (v2 : Arr api_Job) (v3 : Int) (v4 : Int) (v5 : Arr Int) (v6 : Int) (v7 : Int) (v8 : api_Works) => shaft_CheckWorks_l11 N n v0 v1 v2 v3 v4 v5 v6 v7 v8 (fun q0 => k .ret (shaft_CheckWorks_x11_r q0)) (fun (_ : Unit) => k (.exit 2) (shaft_CheckWorks_x11_2 v2 v3 v4 v8))) := funext fun v0 => funext fun v1 => funext fun v2 => funext fun v3 => funext fun v4 => funext fun v5 => funext fun v6 => funext fun v7 => funext fun v8 => ih v0 v1 v2 v3 v4 v5 v6 v7 v8
    rw [h]
    rfl
theorem shaft_CheckWorks_k11 {R : Type} (N : Nat) : LpKey (R := R) E 106 0 (shaft_CheckWorks_lp N) 11 :=
  lpKey_of hE (slices_ContainsFunc___int_int__cal_ok N) (lp := shaft_CheckWorks_lp N) (jn := noJn) shaft_CheckWorks_L11_ok [] kNil (by kernel_rfl) [] jNil (by kernel_rfl) N fun S k =>
    Eq.trans (b := shaft_CheckWorks_L11.head.raw 0 S (fun S0 => shaft_CheckWorks_d11 N S0 k)) (by kernel_rfl) (congrArg (shaft_CheckWorks_L11.head.raw 0 S) (funext fun S0 => Eq.trans (shaft_CheckWorks_l11_eq N k N (toI (lget S0.tmps 4)) (toI (lget S0.tmps 6)) (lstC api_JobC (lget S0.tmps 43)) (toI (lget S0.tmps 44)) (toI (lget S0.tmps 45)) (lstC intC (lget S0.tmps 66)) (toI (lget S0.tmps 67)) (toI (lget S0.tmps 68)) (Cod.dec api_WorksC (lget (entCs (entAt S0.tab 0))))).symm (by kernel_rfl)))
theorem shaft_CheckWorks_k5 {R : Type} (N : Nat) : LpKey (R := R) E 106 0 (shaft_CheckWorks_lp N) 5 :=
  lpKey_of hE (slices_ContainsFunc___int_int__cal_ok N) (lp := shaft_CheckWorks_lp N) (jn := noJn) shaft_CheckWorks_L5_ok [11] (kCons (shaft_CheckWorks_k11 N) kNil) (by kernel_rfl) [] jNil (by kernel_rfl) N fun S k =>
    Eq.trans (b := shaft_CheckWorks_L5.head.raw 0 S (fun S0 => shaft_CheckWorks_d5 N S0 k)) (by kernel_rfl) (congrArg (shaft_CheckWorks_L5.head.raw 0 S) (funext fun S0 => Eq.trans (shaft_CheckWorks_l5_eq N k N (lstC api_JobC (lget S0.tmps 43)) (toI (lget S0.tmps 44)) (toI (lget S0.tmps 45)) (Cod.dec api_WorksC (lget (entCs (entAt S0.tab 0))))).symm (by kernel_rfl)))
noncomputable def shaft_CheckWorks_go {R : Type} (N : Nat) (args : List SV) (T : Tab) (kf : SV × Tab → Option R) : Option R :=
  shaft_CheckWorks N (Cod.dec api_WorksC (lget (toCs (lget args 0)))) (fun q0 => kf (lget [.int .i64 q0] 0, []))
noncomputable def shaft_CheckWorks_cal {R : Type} (N : Nat) : Cal R := callM (slices_ContainsFunc___int_int__cal N) 106 0 shaft_CheckWorks_sp (shaft_CheckWorks_go N)
theorem shaft_CheckWorks_cal_ok {R : Type} (N : Nat) : CalOk E.P (shaft_CheckWorks_cal (R := R) N) :=
  callM_ok hE (slices_ContainsFunc___int_int__cal_ok N) (lp := shaft_CheckWorks_lp N) (jn := noJn) (keys := [5, 11]) (kCons (shaft_CheckWorks_k5 N) (kCons (shaft_CheckWorks_k11 N) kNil)) (by kernel_rfl) (js := []) jNil (by kernel_rfl) shaft_CheckWorks_sp_ok shaft_CheckWorks_rs_ok (fun args T kf => Eq.trans (shaft_CheckWorks_def N (Cod.dec api_WorksC (lget (toCs (lget args 0)))) (fun q0 => kf (lget [.int .i64 q0] 0, []))) (by kernel_rfl : shaft_CheckWorks_run N args T kf = fnM E (slices_ContainsFunc___int_int__cal N) (shaft_CheckWorks_lp N) (noJn) 106 (shaft_CheckWorks_sp.vs args) (shaft_CheckWorks_sp.tab T) 0 (resK shaft_CheckWorks_rs kf)))


def shaft_checkPlan_m {R : Type} (N : Nat) (a243 : api_Works) (a244 : Arr Int) (k : Int → Option R) : Option R :=
  shaft_CheckWorks N a243 (fun r302 =>
  bif r302 != (0 : Int) then
   k r302
  else
   bif (↑(Arr.n a244) : Int) != (↑(Arr.n (api_Works.Jobs a243)) : Int) then
    k (1 : Int)
   else
    k (0 : Int))
noncomputable def shaft_checkPlan {R : Type} : Nat → api_Works → Arr Int → (Int → Option R) → Option R := lock (@shaft_checkPlan_m R)
theorem shaft_checkPlan_def {R : Type} (N : Nat) (a243 : api_Works) (a244 : Arr Int) (k : Int → Option R) : shaft_checkPlan N a243 a244 k = shaft_checkPlan_m N a243 a244 k := by unfold shaft_checkPlan; rw [lock_eq]
def shaft_checkPlan_sp : Sp := ⟨[rAgg api_WorksC, rSl intC], []⟩
theorem shaft_checkPlan_sp_ok : shaft_checkPlan_sp.Ok := ⟨(allCons (rAgg_ok api_WorksC_ok api_WorksC_len) (allCons (rSl_ok intC_ok) allNil)), eNil⟩
def shaft_checkPlan_rs : Sp := ⟨[rInt .i64], []⟩
theorem shaft_checkPlan_rs_ok : shaft_checkPlan_rs.Ok := ⟨(allCons (rInt_ok .i64) allNil), eNil⟩
def shaft_checkPlan_run {R : Type} (N : Nat) (args : List SV) (T : Tab) (kf : SV × Tab → Option R) : Option R :=
  shaft_checkPlan_m N (Cod.dec api_WorksC (lget (toCs (lget args 0)))) (lstC intC (lget args 1)) (fun q0 => kf (lget [.int .i64 q0] 0, []))
def shaft_checkPlan_lp {R : Type} (N : Nat) : Lp R := fun body S k => Option.none
noncomputable def shaft_checkPlan_go {R : Type} (N : Nat) (args : List SV) (T : Tab) (kf : SV × Tab → Option R) : Option R :=
  shaft_checkPlan N (Cod.dec api_WorksC (lget (toCs (lget args 0)))) (lstC intC (lget args 1)) (fun q0 => kf (lget [.int .i64 q0] 0, []))
noncomputable def shaft_checkPlan_cal {R : Type} (N : Nat) : Cal R := callM (shaft_CheckWorks_cal N) 62 0 shaft_checkPlan_sp (shaft_checkPlan_go N)
theorem shaft_checkPlan_cal_ok {R : Type} (N : Nat) : CalOk E.P (shaft_checkPlan_cal (R := R) N) :=
  callM_ok hE (shaft_CheckWorks_cal_ok N) (lp := shaft_checkPlan_lp N) (jn := noJn) (keys := []) kNil (by kernel_rfl) (js := []) jNil (by kernel_rfl) shaft_checkPlan_sp_ok shaft_checkPlan_rs_ok (fun args T kf => Eq.trans (shaft_checkPlan_def N (Cod.dec api_WorksC (lget (toCs (lget args 0)))) (lstC intC (lget args 1)) (fun q0 => kf (lget [.int .i64 q0] 0, []))) (by kernel_rfl : shaft_checkPlan_run N args T kf = fnM E (shaft_CheckWorks_cal N) (shaft_checkPlan_lp N) (noJn) 62 (shaft_checkPlan_sp.vs args) (shaft_checkPlan_sp.tab T) 0 (resK shaft_checkPlan_rs kf)))


def shaft_Out_1_m {R : Type} (N : Nat) (a309 : Int) (k : Bool → Option R) : Option R :=
  bif decide (a309 < (0 : Int)) then
   k true
  else
   k (decide (a309 > (24 : Int)))
noncomputable def shaft_Out_1 {R : Type} : Nat → Int → (Bool → Option R) → Option R := lock (@shaft_Out_1_m R)
theorem shaft_Out_1_def {R : Type} (N : Nat) (a309 : Int) (k : Bool → Option R) : shaft_Out_1 N a309 k = shaft_Out_1_m N a309 k := by unfold shaft_Out_1; rw [lock_eq]
def shaft_Out_1_sp : Sp := ⟨[rInt .i64], []⟩
theorem shaft_Out_1_sp_ok : shaft_Out_1_sp.Ok := ⟨(allCons (rInt_ok .i64) allNil), eNil⟩
def shaft_Out_1_rs : Sp := ⟨[rBool], []⟩
theorem shaft_Out_1_rs_ok : shaft_Out_1_rs.Ok := ⟨(allCons rBool_ok allNil), eNil⟩
def shaft_Out_1_run {R : Type} (N : Nat) (args : List SV) (T : Tab) (kf : SV × Tab → Option R) : Option R :=
  shaft_Out_1_m N (toI (lget args 0)) (fun q0 => kf (lget [.bool q0] 0, []))
def shaft_Out_1_lp {R : Type} (N : Nat) : Lp R := fun body S k => Option.none
noncomputable def shaft_Out_1_go {R : Type} (N : Nat) (args : List SV) (T : Tab) (kf : SV × Tab → Option R) : Option R :=
  shaft_Out_1 N (toI (lget args 0)) (fun q0 => kf (lget [.bool q0] 0, []))
noncomputable def shaft_Out_1_cal {R : Type} (N : Nat) : Cal R := callM (shaft_checkPlan_cal N) 64 0 shaft_Out_1_sp (shaft_Out_1_go N)
theorem shaft_Out_1_cal_ok {R : Type} (N : Nat) : CalOk E.P (shaft_Out_1_cal (R := R) N) :=
  callM_ok hE (shaft_checkPlan_cal_ok N) (lp := shaft_Out_1_lp N) (jn := noJn) (keys := []) kNil (by kernel_rfl) (js := []) jNil (by kernel_rfl) shaft_Out_1_sp_ok shaft_Out_1_rs_ok (fun args T kf => Eq.trans (shaft_Out_1_def N (toI (lget args 0)) (fun q0 => kf (lget [.bool q0] 0, []))) (by kernel_rfl : shaft_Out_1_run N args T kf = fnM E (shaft_checkPlan_cal N) (shaft_Out_1_lp N) (noJn) 64 (shaft_Out_1_sp.vs args) (shaft_Out_1_sp.tab T) 0 (resK shaft_Out_1_rs kf)))

def slices_IndexFunc___int_int__v2_L2 : LoopSp := ⟨⟨[0, 1, 7, 8], ⟨((rSl intC) :: (rFunc 64 0 []) :: (dr 5 ((rInt .i64) :: (rInt .i64) :: (dr 10 [])))), []⟩, 0⟩, [(Option.none, ⟨[4], ⟨(dr 4 ((rInt .i64) :: (dr 14 []))), []⟩, 0⟩), (some 0, ⟨[], ⟨(dr 19 []), []⟩, 0⟩)]⟩
theorem slices_IndexFunc___int_int__v2_L2_ok : slices_IndexFunc___int_int__v2_L2.Ok := ⟨⟨(allCons (rSl_ok intC_ok) (allCons (rFunc_ok 64 0 allNil) (drCons 5 (allCons (rInt_ok .i64) (allCons (rInt_ok .i64) (drCons 10 allNil)))))), eNil⟩, (xCons ⟨(drCons 4 (allCons (rInt_ok .i64) (drCons 14 allNil))), eNil⟩ (xCons ⟨(drCons 19 allNil), eNil⟩ xNil))⟩
def slices_IndexFunc___int_int__v2_h2 (v306 : Arr Int) (v307 : Int) (v308 : Int) : St := ⟨((slC intC v306) :: (.func 64 0 []) :: (un 5 ((.int .i64 v307) :: (.int .i64 v308) :: (un 10 [])))), [], 0⟩
def slices_IndexFunc___int_int__v2_x2_r (q0 : Int) : St := ⟨(un 4 ((.int .i64 q0) :: (un 14 []))), [], 0⟩
def slices_IndexFunc___int_int__v2_x2_0  : St := ⟨(un 19 []), [], 0⟩
def slices_IndexFunc___int_int__v2_b2 {R : Type} (N : Nat) (rc : Arr Int → Int → Int → Option R) (v306 : Arr Int) (v307 : Int) (v308 : Int) (kr : Int → Option R) (k0 : Unit → Option R) : Option R :=
  bif decide (v308 < v307) then
   bif decide ((0 : Int) ≤ v308) && decide (v308 < (↑(Arr.n v306) : Int)) then
    shaft_Out_1 N (Arr.f v306 (Int.toNat v308)) (fun r310 =>
    bif r310 then
     kr v308
    else
     rc v306 v307 (w64 (v308 + (1 : Int))))
   else
    Option.none
  else
   k0 ()
def slices_IndexFunc___int_int__v2_l2 {R : Type} (N : Nat) : Nat → Arr Int → Int → Int → (Int → Option R) → (Unit → Option R) → Option R
  | 0, _, _, _, _, _ => Option.none
  | n + 1, v306, v307, v308, kr, k0 => slices_IndexFunc___int_int__v2_b2 N (fun v306 v307 v308 => slices_IndexFunc___int_int__v2_l2 N n v306 v307 v308 kr k0) v306 v307 v308 kr k0


def slices_IndexFunc___int_int__v2_m {R : Type} (N : Nat) (a305 : Arr Int) (k : Int → Option R) : Option R :=
  slices_IndexFunc___int_int__v2_l2 N N a305 ((↑(Arr.n a305) : Int)) (0 : Int) (fun r311 =>
   k r311) (fun (_ : Unit) =>
   k (-1 : Int))
noncomputable def slices_IndexFunc___int_int__v2 {R : Type} : Nat → Arr Int → (Int → Option R) → Option R := lock (@slices_IndexFunc___int_int__v2_m R)
theorem slices_IndexFunc___int_int__v2_def {R : Type} (N : Nat) (a305 : Arr Int) (k : Int → Option R) : slices_IndexFunc___int_int__v2 N a305 k = slices_IndexFunc___int_int__v2_m N a305 k := by unfold slices_IndexFunc___int_int__v2; rw [lock_eq]
def slices_IndexFunc___int_int__v2_sp : Sp := ⟨[rSl intC, rFunc 64 0 []], []⟩
theorem slices_IndexFunc___int_int__v2_sp_ok : slices_IndexFunc___int_int__v2_sp.Ok := ⟨(allCons (rSl_ok intC_ok) (allCons (rFunc_ok 64 0 allNil) allNil)), eNil⟩
def slices_IndexFunc___int_int__v2_rs : Sp := ⟨[rInt .i64], []⟩
theorem slices_IndexFunc___int_int__v2_rs_ok : slices_IndexFunc___int_int__v2_rs.Ok := ⟨(allCons (rInt_ok .i64) allNil), eNil⟩
def slices_IndexFunc___int_int__v2_run {R : Type} (N : Nat) (args : List SV) (T : Tab) (kf : SV × Tab → Option R) : Option R :=
  slices_IndexFunc___int_int__v2_m N (lstC intC (lget args 0)) (fun q0 => kf (lget [.int .i64 q0] 0, []))
def slices_IndexFunc___int_int__v2_d2 {R : Type} (N : Nat) (S0 : St) (k : Exit → St → Option R) : Option R :=
  slices_IndexFunc___int_int__v2_l2 N N (lstC intC (lget S0.tmps 0)) (toI (lget S0.tmps 7)) (toI (lget S0.tmps 8)) (fun q0 => k .ret (slices_IndexFunc___int_int__v2_x2_r q0)) (fun (_ : Unit) => k (.exit 0) (slices_IndexFunc___int_int__v2_x2_0 ))
def slices_IndexFunc___int_int__v2_lp {R : Type} (N : Nat) : Lp R := fun body S k => bif (Go.Sx.keyOf body).getD 0 == 2 then (slices_IndexFunc___int_int__v2_L2.head.raw 0 S (fun S0 => slices_IndexFunc___int_int__v2_d2 N S0 k)) else Option.none
theorem slices_IndexFunc___int_int__v2_l2_eq {R : Type} (N : Nat) (k : Exit → St → Option R) (n : Nat) : ∀ (v0 : Arr Int) (v1 : Int) (v2 : Int), loopM E.Θ (shaft_Out_1_cal N) (slices_IndexFunc___int_int__v2_lp N) (noJn) 0 slices_IndexFunc___int_int__v2_L2 (bodyAt E 107 2) n (slices_IndexFunc___int_int__v2_h2 v0 v1 v2) k = slices_IndexFunc___int_int__v2_l2 N n v0 v1 v2 (fun q0 => k .ret (slices_IndexFunc___int_int__v2_x2_r q0)) (fun (_ : Unit) => k (.exit 0) (slices_IndexFunc___int_int__v2_x2_0 )) := by
  induction n with
  | zero => intro v0 v1 v2; rfl
  | succ n ih =>
    intro v0 v1 v2
    refine Eq.trans (b := slices_IndexFunc___int_int__v2_b2 N (fun v0 v1 v2 => loopM E.Θ (shaft_Out_1_cal N) (slices_IndexFunc___int_int__v2_lp N) (noJn) 0 slices_IndexFunc___int_int__v2_L2 (bodyAt E 107 2) n (slices_IndexFunc___int_int__v2_h2 v0 v1 v2) k) v0 v1 v2 (fun q0 => k .ret (slices_IndexFunc___int_int__v2_x2_r q0)) (fun (_ : Unit) => k (.exit 0) (slices_IndexFunc___int_int__v2_x2_0 ))) (by kernel_rfl) ?_
    have h : (fun (v0 : Arr Int) (v1 : Int) (v2 : Int) => loopM E.Θ (shaft_Out_1_cal N) (slices_IndexFunc___int_int__v2_lp N) (noJn) 0 slices_IndexFunc___int_int__v2_L2 (bodyAt E 107 2) n (slices_IndexFunc___int_int__v2_h2 v0 v1 v2) k) = (fun (v0 : Arr Int) (v1 : Int) (v2 : Int) => slices_IndexFunc___int_int__v2_l2 N n v0 v1 v2 (fun q0 => k .ret (slices_IndexFunc___int_int__v2_x2_r q0)) (fun (_ : Unit) => k (.exit 0) (slices_IndexFunc___int_int__v2_x2_0 ))) := funext fun v0 => funext fun v1 => funext fun v2 => ih v0 v1 v2
    rw [h]
    rfl
theorem slices_IndexFunc___int_int__v2_k2 {R : Type} (N : Nat) : LpKey (R := R) E 107 0 (slices_IndexFunc___int_int__v2_lp N) 2 :=
  lpKey_of hE (shaft_Out_1_cal_ok N) (lp := slices_IndexFunc___int_int__v2_lp N) (jn := noJn) slices_IndexFunc___int_int__v2_L2_ok [] kNil (by kernel_rfl) [] jNil (by kernel_rfl) N fun S k =>
    Eq.trans (b := slices_IndexFunc___int_int__v2_L2.head.raw 0 S (fun S0 => slices_IndexFunc___int_int__v2_d2 N S0 k)) (by kernel_rfl) (congrArg (slices_IndexFunc___int_int__v2_L2.head.raw 0 S) (funext fun S0 => Eq.trans (slices_IndexFunc___int_int__v2_l2_eq N k N (lstC intC (lget S0.tmps 0)) (toI (lget S0.tmps 7)) (toI (lget S0.tmps 8))).symm (by kernel_rfl)))
noncomputable def slices_IndexFunc___int_int__v2_go {R : Type} (N : Nat) (args : List SV) (T : Tab) (kf : SV × Tab → Option R) : Option R :=
  slices_IndexFunc___int_int__v2 N (lstC intC (lget args 0)) (fun q0 => kf (lget [.int .i64 q0] 0, []))
noncomputable def slices_IndexFunc___int_int__v2_cal {R : Type} (N : Nat) : Cal R := callM (shaft_Out_1_cal N) 107 0 slices_IndexFunc___int_int__v2_sp (slices_IndexFunc___int_int__v2_go N)
theorem slices_IndexFunc___int_int__v2_cal_ok {R : Type} (N : Nat) : CalOk E.P (slices_IndexFunc___int_int__v2_cal (R := R) N) :=
  callM_ok hE (shaft_Out_1_cal_ok N) (lp := slices_IndexFunc___int_int__v2_lp N) (jn := noJn) (keys := [2]) (kCons (slices_IndexFunc___int_int__v2_k2 N) kNil) (by kernel_rfl) (js := []) jNil (by kernel_rfl) slices_IndexFunc___int_int__v2_sp_ok slices_IndexFunc___int_int__v2_rs_ok (fun args T kf => Eq.trans (slices_IndexFunc___int_int__v2_def N (lstC intC (lget args 0)) (fun q0 => kf (lget [.int .i64 q0] 0, []))) (by kernel_rfl : slices_IndexFunc___int_int__v2_run N args T kf = fnM E (shaft_Out_1_cal N) (slices_IndexFunc___int_int__v2_lp N) (noJn) 107 (slices_IndexFunc___int_int__v2_sp.vs args) (slices_IndexFunc___int_int__v2_sp.tab T) 0 (resK slices_IndexFunc___int_int__v2_rs kf)))


def slices_ContainsFunc___int_int__v2_m {R : Type} (N : Nat) (a304 : Arr Int) (k : Bool → Option R) : Option R :=
  slices_IndexFunc___int_int__v2 N a304 (fun r312 =>
  k (decide (r312 ≥ (0 : Int))))
noncomputable def slices_ContainsFunc___int_int__v2 {R : Type} : Nat → Arr Int → (Bool → Option R) → Option R := lock (@slices_ContainsFunc___int_int__v2_m R)
theorem slices_ContainsFunc___int_int__v2_def {R : Type} (N : Nat) (a304 : Arr Int) (k : Bool → Option R) : slices_ContainsFunc___int_int__v2 N a304 k = slices_ContainsFunc___int_int__v2_m N a304 k := by unfold slices_ContainsFunc___int_int__v2; rw [lock_eq]
def slices_ContainsFunc___int_int__v2_sp : Sp := ⟨[rSl intC, rFunc 64 0 []], []⟩
theorem slices_ContainsFunc___int_int__v2_sp_ok : slices_ContainsFunc___int_int__v2_sp.Ok := ⟨(allCons (rSl_ok intC_ok) (allCons (rFunc_ok 64 0 allNil) allNil)), eNil⟩
def slices_ContainsFunc___int_int__v2_rs : Sp := ⟨[rBool], []⟩
theorem slices_ContainsFunc___int_int__v2_rs_ok : slices_ContainsFunc___int_int__v2_rs.Ok := ⟨(allCons rBool_ok allNil), eNil⟩
def slices_ContainsFunc___int_int__v2_run {R : Type} (N : Nat) (args : List SV) (T : Tab) (kf : SV × Tab → Option R) : Option R :=
  slices_ContainsFunc___int_int__v2_m N (lstC intC (lget args 0)) (fun q0 => kf (lget [.bool q0] 0, []))
def slices_ContainsFunc___int_int__v2_lp {R : Type} (N : Nat) : Lp R := fun body S k => Option.none
noncomputable def slices_ContainsFunc___int_int__v2_go {R : Type} (N : Nat) (args : List SV) (T : Tab) (kf : SV × Tab → Option R) : Option R :=
  slices_ContainsFunc___int_int__v2 N (lstC intC (lget args 0)) (fun q0 => kf (lget [.bool q0] 0, []))
noncomputable def slices_ContainsFunc___int_int__v2_cal {R : Type} (N : Nat) : Cal R := callM (slices_IndexFunc___int_int__v2_cal N) 63 0 slices_ContainsFunc___int_int__v2_sp (slices_ContainsFunc___int_int__v2_go N)
theorem slices_ContainsFunc___int_int__v2_cal_ok {R : Type} (N : Nat) : CalOk E.P (slices_ContainsFunc___int_int__v2_cal (R := R) N) :=
  callM_ok hE (slices_IndexFunc___int_int__v2_cal_ok N) (lp := slices_ContainsFunc___int_int__v2_lp N) (jn := noJn) (keys := []) kNil (by kernel_rfl) (js := []) jNil (by kernel_rfl) slices_ContainsFunc___int_int__v2_sp_ok slices_ContainsFunc___int_int__v2_rs_ok (fun args T kf => Eq.trans (slices_ContainsFunc___int_int__v2_def N (lstC intC (lget args 0)) (fun q0 => kf (lget [.bool q0] 0, []))) (by kernel_rfl : slices_ContainsFunc___int_int__v2_run N args T kf = fnM E (slices_IndexFunc___int_int__v2_cal N) (slices_ContainsFunc___int_int__v2_lp N) (noJn) 63 (slices_ContainsFunc___int_int__v2_sp.vs args) (slices_ContainsFunc___int_int__v2_sp.tab T) 0 (resK slices_ContainsFunc___int_int__v2_rs kf)))


end
end Go.Proofs.Ytpillmoddoccfab
