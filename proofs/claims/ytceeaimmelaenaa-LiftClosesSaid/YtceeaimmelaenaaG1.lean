/-
  Models of the functions, and that they are what the code does. Written by a program.
-/
import Derived.Test.YtceeaimmelaenaaCod
set_option maxRecDepth 100000
set_option maxHeartbeats 0
set_option linter.unusedVariables false
namespace Go.Proofs.Ytceeaimmelaenaa
open Go.Sx
noncomputable section

def newellaw05_Far_m {R : Type} (N : Nat) (a0 : api_Lift) (k : Bool → Option R) : Option R :=
  k (decide ((↑(Arr.n (api_Lift.Floors a0)) : Int) > (30 : Int)))
noncomputable def newellaw05_Far {R : Type} : Nat → api_Lift → (Bool → Option R) → Option R := lock (@newellaw05_Far_m R)
theorem newellaw05_Far_def {R : Type} (N : Nat) (a0 : api_Lift) (k : Bool → Option R) : newellaw05_Far N a0 k = newellaw05_Far_m N a0 k := by unfold newellaw05_Far; rw [lock_eq]
def newellaw05_Far_sp : Sp := ⟨[rAgg api_LiftC], []⟩
theorem newellaw05_Far_sp_ok : newellaw05_Far_sp.Ok := ⟨(allCons (rAgg_ok api_LiftC_ok api_LiftC_len) allNil), eNil⟩
def newellaw05_Far_rs : Sp := ⟨[rBool], []⟩
theorem newellaw05_Far_rs_ok : newellaw05_Far_rs.Ok := ⟨(allCons rBool_ok allNil), eNil⟩
def newellaw05_Far_run {R : Type} (N : Nat) (args : List SV) (T : Tab) (kf : SV × Tab → Option R) : Option R :=
  newellaw05_Far_m N (Cod.dec api_LiftC (lget (toCs (lget args 0)))) (fun q0 => kf (lget [.bool q0] 0, []))
def newellaw05_Far_lp {R : Type} (N : Nat) : Lp R := fun body S k => Option.none
noncomputable def newellaw05_Far_go {R : Type} (N : Nat) (args : List SV) (T : Tab) (kf : SV × Tab → Option R) : Option R :=
  newellaw05_Far N (Cod.dec api_LiftC (lget (toCs (lget args 0)))) (fun q0 => kf (lget [.bool q0] 0, []))
noncomputable def newellaw05_Far_cal {R : Type} (N : Nat) : Cal R := callM (noCal E) 15 0 newellaw05_Far_sp (newellaw05_Far_go N)
theorem newellaw05_Far_cal_ok {R : Type} (N : Nat) : CalOk E.P (newellaw05_Far_cal (R := R) N) :=
  callM_ok hE (noCal_ok E) (lp := newellaw05_Far_lp N) (keys := []) kNil (by kernel_rfl) newellaw05_Far_sp_ok newellaw05_Far_rs_ok (fun args T kf => Eq.trans (newellaw05_Far_def N (Cod.dec api_LiftC (lget (toCs (lget args 0)))) (fun q0 => kf (lget [.bool q0] 0, []))) (by kernel_rfl : newellaw05_Far_run N args T kf = fnM E (noCal E) (newellaw05_Far_lp N) 15 (newellaw05_Far_sp.vs args) (newellaw05_Far_sp.tab T) 0 (resK newellaw05_Far_rs kf)))


def lift_between_m {R : Type} (N : Nat) (a1 : Int) (a2 : Int) (a3 : Int) (k : Bool → Option R) : Option R :=
  bif decide (a2 ≤ a1) then
   k (decide (a1 ≤ a3))
  else
   k false
noncomputable def lift_between {R : Type} : Nat → Int → Int → Int → (Bool → Option R) → Option R := lock (@lift_between_m R)
theorem lift_between_def {R : Type} (N : Nat) (a1 : Int) (a2 : Int) (a3 : Int) (k : Bool → Option R) : lift_between N a1 a2 a3 k = lift_between_m N a1 a2 a3 k := by unfold lift_between; rw [lock_eq]
def lift_between_sp : Sp := ⟨[rInt .i64, rInt .i64, rInt .i64], []⟩
theorem lift_between_sp_ok : lift_between_sp.Ok := ⟨(allCons (rInt_ok .i64) (allCons (rInt_ok .i64) (allCons (rInt_ok .i64) allNil))), eNil⟩
def lift_between_rs : Sp := ⟨[rBool], []⟩
theorem lift_between_rs_ok : lift_between_rs.Ok := ⟨(allCons rBool_ok allNil), eNil⟩
def lift_between_run {R : Type} (N : Nat) (args : List SV) (T : Tab) (kf : SV × Tab → Option R) : Option R :=
  lift_between_m N (toI (lget args 0)) (toI (lget args 1)) (toI (lget args 2)) (fun q0 => kf (lget [.bool q0] 0, []))
def lift_between_lp {R : Type} (N : Nat) : Lp R := fun body S k => Option.none
noncomputable def lift_between_go {R : Type} (N : Nat) (args : List SV) (T : Tab) (kf : SV × Tab → Option R) : Option R :=
  lift_between N (toI (lget args 0)) (toI (lget args 1)) (toI (lget args 2)) (fun q0 => kf (lget [.bool q0] 0, []))
noncomputable def lift_between_cal {R : Type} (N : Nat) : Cal R := callM (newellaw05_Far_cal N) 51 0 lift_between_sp (lift_between_go N)
theorem lift_between_cal_ok {R : Type} (N : Nat) : CalOk E.P (lift_between_cal (R := R) N) :=
  callM_ok hE (newellaw05_Far_cal_ok N) (lp := lift_between_lp N) (keys := []) kNil (by kernel_rfl) lift_between_sp_ok lift_between_rs_ok (fun args T kf => Eq.trans (lift_between_def N (toI (lget args 0)) (toI (lget args 1)) (toI (lget args 2)) (fun q0 => kf (lget [.bool q0] 0, []))) (by kernel_rfl : lift_between_run N args T kf = fnM E (newellaw05_Far_cal N) (lift_between_lp N) 51 (lift_between_sp.vs args) (lift_between_sp.tab T) 0 (resK lift_between_rs kf)))


def newelref05_within_m {R : Type} (N : Nat) (a4 : Int) (a5 : Int) (a6 : Int) (k : Bool → Option R) : Option R :=
  bif decide (a4 ≥ a5) then
   k (decide (a4 ≤ a6))
  else
   k false
noncomputable def newelref05_within {R : Type} : Nat → Int → Int → Int → (Bool → Option R) → Option R := lock (@newelref05_within_m R)
theorem newelref05_within_def {R : Type} (N : Nat) (a4 : Int) (a5 : Int) (a6 : Int) (k : Bool → Option R) : newelref05_within N a4 a5 a6 k = newelref05_within_m N a4 a5 a6 k := by unfold newelref05_within; rw [lock_eq]
def newelref05_within_sp : Sp := ⟨[rInt .i64, rInt .i64, rInt .i64], []⟩
theorem newelref05_within_sp_ok : newelref05_within_sp.Ok := ⟨(allCons (rInt_ok .i64) (allCons (rInt_ok .i64) (allCons (rInt_ok .i64) allNil))), eNil⟩
def newelref05_within_rs : Sp := ⟨[rBool], []⟩
theorem newelref05_within_rs_ok : newelref05_within_rs.Ok := ⟨(allCons rBool_ok allNil), eNil⟩
def newelref05_within_run {R : Type} (N : Nat) (args : List SV) (T : Tab) (kf : SV × Tab → Option R) : Option R :=
  newelref05_within_m N (toI (lget args 0)) (toI (lget args 1)) (toI (lget args 2)) (fun q0 => kf (lget [.bool q0] 0, []))
def newelref05_within_lp {R : Type} (N : Nat) : Lp R := fun body S k => Option.none
noncomputable def newelref05_within_go {R : Type} (N : Nat) (args : List SV) (T : Tab) (kf : SV × Tab → Option R) : Option R :=
  newelref05_within N (toI (lget args 0)) (toI (lget args 1)) (toI (lget args 2)) (fun q0 => kf (lget [.bool q0] 0, []))
noncomputable def newelref05_within_cal {R : Type} (N : Nat) : Cal R := callM (lift_between_cal N) 54 0 newelref05_within_sp (newelref05_within_go N)
theorem newelref05_within_cal_ok {R : Type} (N : Nat) : CalOk E.P (newelref05_within_cal (R := R) N) :=
  callM_ok hE (lift_between_cal_ok N) (lp := newelref05_within_lp N) (keys := []) kNil (by kernel_rfl) newelref05_within_sp_ok newelref05_within_rs_ok (fun args T kf => Eq.trans (newelref05_within_def N (toI (lget args 0)) (toI (lget args 1)) (toI (lget args 2)) (fun q0 => kf (lget [.bool q0] 0, []))) (by kernel_rfl : newelref05_within_run N args T kf = fnM E (lift_between_cal N) (newelref05_within_lp N) 54 (newelref05_within_sp.vs args) (newelref05_within_sp.tab T) 0 (resK newelref05_within_rs kf)))

def newelref05_Check_L6 : LoopSp := ⟨⟨[1, 3], ⟨(dr 1 ((rPtr 0 0) :: (dr 1 ((rInt .i64) :: (dr 100 []))))), [(0, eBlkC api_LiftC)]⟩, 1⟩, [(Option.none, ⟨[2], ⟨(dr 2 ((rInt .i64) :: (dr 101 []))), []⟩, 0⟩), (some 0, ⟨[1], ⟨(dr 1 ((rPtr 0 0) :: (dr 102 []))), [(0, eBlkC api_LiftC)]⟩, 1⟩)]⟩
theorem newelref05_Check_L6_ok : newelref05_Check_L6.Ok := ⟨⟨(drCons 1 (allCons (rPtr_ok 0 0) (drCons 1 (allCons (rInt_ok .i64) (drCons 100 allNil))))), (eCons (eBlkC_ok api_LiftC_ok api_LiftC_len) eNil)⟩, (xCons ⟨(drCons 2 (allCons (rInt_ok .i64) (drCons 101 allNil))), eNil⟩ (xCons ⟨(drCons 1 (allCons (rPtr_ok 0 0) (drCons 102 allNil))), (eCons (eBlkC_ok api_LiftC_ok api_LiftC_len) eNil)⟩ xNil))⟩
def newelref05_Check_h6 (v13 : Int) (v14 : api_Lift) : St := ⟨(un 1 ((.ptr 0 0) :: (un 1 ((.int .i64 v13) :: (un 100 []))))), [(0, .blk (Cod.enc api_LiftC v14))], 1⟩
def newelref05_Check_x6_r (q0 : Int) : St := ⟨(un 2 ((.int .i64 q0) :: (un 101 []))), [], 0⟩
def newelref05_Check_x6_0 (v14 : api_Lift) : St := ⟨(un 1 ((.ptr 0 0) :: (un 102 []))), [(0, .blk (Cod.enc api_LiftC v14))], 1⟩
def newelref05_Check_b6 {R : Type} (N : Nat) (rc : Int → api_Lift → Option R) (v13 : Int) (v14 : api_Lift) (kr : Int → Option R) (k0 : Unit → Option R) : Option R :=
  bif decide (v13 < (↑(Arr.n (api_Lift.Floors v14)) : Int)) then
   bif decide ((0 : Int) ≤ v13) && decide (v13 < (↑(Arr.n (api_Lift.Floors v14)) : Int)) then
    bif decide ((0 : Int) ≤ w64 (v13 - (1 : Int))) && decide (w64 (v13 - (1 : Int)) < (↑(Arr.n (api_Lift.Floors v14)) : Int)) then
     bif decide (Arr.f (api_Lift.Floors v14) (Int.toNat v13) ≤ Arr.f (api_Lift.Floors v14) (Int.toNat (w64 (v13 - (1 : Int))))) then
      kr (50 : Int)
     else
      bif decide ((0 : Int) ≤ v13) && decide (v13 < (↑(Arr.n (api_Lift.Floors v14)) : Int)) then
       bif decide (Arr.f (api_Lift.Floors v14) (Int.toNat v13) > (1000 : Int)) then
        kr (50 : Int)
       else
        rc (w64 (v13 + (1 : Int))) v14
      else
       Option.none
    else
     Option.none
   else
    Option.none
  else
   k0 ()
def newelref05_Check_l6 {R : Type} (N : Nat) : Nat → Int → api_Lift → (Int → Option R) → (Unit → Option R) → Option R
  | 0, _, _, _, _ => Option.none
  | n + 1, v13, v14, kr, k0 => newelref05_Check_b6 N (fun v13 v14 => newelref05_Check_l6 N n v13 v14 kr k0) v13 v14 kr k0


def newelref05_Check_m {R : Type} (N : Nat) (a7 : api_Lift) (k : Int → Option R) : Option R :=
  newelref05_within N (api_Lift.Car a7) (1 : Int) (100000 : Int) (fun r8 =>
  bif !r8 then
   k (50 : Int)
  else
   newelref05_within N (api_Lift.Counter a7) (1 : Int) (100000 : Int) (fun r9 =>
   bif !r9 then
    k (50 : Int)
   else
    newelref05_within N (api_Lift.Rated a7) (0 : Int) (100000 : Int) (fun r10 =>
    bif !r10 then
     k (50 : Int)
    else
     newelref05_within N (api_Lift.Rope a7) (0 : Int) (100 : Int) (fun r11 =>
     bif !r11 then
      k (50 : Int)
     else
      newelref05_within N ((↑(Arr.n (api_Lift.Floors a7)) : Int)) (2 : Int) (16 : Int) (fun r12 =>
      bif !r12 then
       k (50 : Int)
      else
       bif decide ((0 : Int) < (↑(Arr.n (api_Lift.Floors a7)) : Int)) then
        bif Arr.f (api_Lift.Floors a7) (Int.toNat (0 : Int)) != (0 : Int) then
         k (50 : Int)
        else
         newelref05_Check_l6 N N (1 : Int) a7 (fun r15 =>
          k r15) (fun (_ : Unit) =>
          newelref05_within N (api_Lift.Den a7) (1 : Int) (api_Lift.Num a7) (fun r16 =>
          bif !r16 then
           k (50 : Int)
          else
           bif decide (api_Lift.Num a7 > (100 : Int)) then
            k (50 : Int)
           else
            newelref05_within N (api_Lift.Speed a7) (1 : Int) (100 : Int) (fun r17 =>
            bif !r17 then
             k (50 : Int)
            else
             newelref05_within N (api_Lift.Accel a7) (1 : Int) (100 : Int) (fun r18 =>
             bif !r18 then
              k (50 : Int)
             else
              newelref05_within N (api_Lift.Over a7) (0 : Int) (1000 : Int) (fun r19 =>
              bif !r19 then
               k (50 : Int)
              else
               newelref05_within N (api_Lift.Stiff a7) (1 : Int) (10000000 : Int) (fun r20 =>
               bif !r20 then
                k (50 : Int)
               else
                newelref05_within N (api_Lift.Level a7) (0 : Int) (1000 : Int) (fun r21 =>
                bif !r21 then
                 k (50 : Int)
                else
                 k (0 : Int))))))))
       else
        Option.none)))))
noncomputable def newelref05_Check {R : Type} : Nat → api_Lift → (Int → Option R) → Option R := lock (@newelref05_Check_m R)
theorem newelref05_Check_def {R : Type} (N : Nat) (a7 : api_Lift) (k : Int → Option R) : newelref05_Check N a7 k = newelref05_Check_m N a7 k := by unfold newelref05_Check; rw [lock_eq]
def newelref05_Check_sp : Sp := ⟨[rAgg api_LiftC], []⟩
theorem newelref05_Check_sp_ok : newelref05_Check_sp.Ok := ⟨(allCons (rAgg_ok api_LiftC_ok api_LiftC_len) allNil), eNil⟩
def newelref05_Check_rs : Sp := ⟨[rInt .i64], []⟩
theorem newelref05_Check_rs_ok : newelref05_Check_rs.Ok := ⟨(allCons (rInt_ok .i64) allNil), eNil⟩
def newelref05_Check_run {R : Type} (N : Nat) (args : List SV) (T : Tab) (kf : SV × Tab → Option R) : Option R :=
  newelref05_Check_m N (Cod.dec api_LiftC (lget (toCs (lget args 0)))) (fun q0 => kf (lget [.int .i64 q0] 0, []))
def newelref05_Check_d6 {R : Type} (N : Nat) (S0 : St) (k : Exit → St → Option R) : Option R :=
  newelref05_Check_l6 N N (toI (lget S0.tmps 3)) (Cod.dec api_LiftC (lget (entCs (entAt S0.tab 0)))) (fun q0 => k .ret (newelref05_Check_x6_r q0)) (fun (_ : Unit) => k (.exit 0) (newelref05_Check_x6_0 (Cod.dec api_LiftC (lget (entCs (entAt S0.tab 0))))))
def newelref05_Check_lp {R : Type} (N : Nat) : Lp R := fun body S k => bif (Go.Sx.keyOf body).getD 0 == 6 then newelref05_Check_L6.head.raw 0 S (fun S0 => newelref05_Check_d6 N S0 k) else Option.none
theorem newelref05_Check_l6_eq {R : Type} (N : Nat) (k : Exit → St → Option R) (n : Nat) : ∀ (v0 : Int) (v1 : api_Lift), loopM E.Θ (newelref05_within_cal N) (newelref05_Check_lp N) 0 newelref05_Check_L6 (bodyAt E 19 6) n (newelref05_Check_h6 v0 v1) k = newelref05_Check_l6 N n v0 v1 (fun q0 => k .ret (newelref05_Check_x6_r q0)) (fun (_ : Unit) => k (.exit 0) (newelref05_Check_x6_0 v1)) := by
  induction n with
  | zero => intro v0 v1; rfl
  | succ n ih =>
    intro v0 v1
    refine Eq.trans (b := newelref05_Check_b6 N (fun v0 v1 => loopM E.Θ (newelref05_within_cal N) (newelref05_Check_lp N) 0 newelref05_Check_L6 (bodyAt E 19 6) n (newelref05_Check_h6 v0 v1) k) v0 v1 (fun q0 => k .ret (newelref05_Check_x6_r q0)) (fun (_ : Unit) => k (.exit 0) (newelref05_Check_x6_0 v1))) (by kernel_rfl) ?_
    have h : (fun (v0 : Int) (v1 : api_Lift) => loopM E.Θ (newelref05_within_cal N) (newelref05_Check_lp N) 0 newelref05_Check_L6 (bodyAt E 19 6) n (newelref05_Check_h6 v0 v1) k) = (fun (v0 : Int) (v1 : api_Lift) => newelref05_Check_l6 N n v0 v1 (fun q0 => k .ret (newelref05_Check_x6_r q0)) (fun (_ : Unit) => k (.exit 0) (newelref05_Check_x6_0 v1))) := funext fun v0 => funext fun v1 => ih v0 v1
    rw [h]
    rfl
theorem newelref05_Check_k6 {R : Type} (N : Nat) : LpKey (R := R) E 19 0 (newelref05_Check_lp N) 6 :=
  lpKey_of hE (newelref05_within_cal_ok N) newelref05_Check_L6_ok [] kNil (by kernel_rfl) N fun S k =>
    Eq.trans (b := newelref05_Check_L6.head.raw 0 S (fun S0 => newelref05_Check_d6 N S0 k)) (by kernel_rfl) (congrArg (newelref05_Check_L6.head.raw 0 S) (funext fun S0 => Eq.trans (newelref05_Check_l6_eq N k N (toI (lget S0.tmps 3)) (Cod.dec api_LiftC (lget (entCs (entAt S0.tab 0))))).symm (by kernel_rfl)))
noncomputable def newelref05_Check_go {R : Type} (N : Nat) (args : List SV) (T : Tab) (kf : SV × Tab → Option R) : Option R :=
  newelref05_Check N (Cod.dec api_LiftC (lget (toCs (lget args 0)))) (fun q0 => kf (lget [.int .i64 q0] 0, []))
noncomputable def newelref05_Check_cal {R : Type} (N : Nat) : Cal R := callM (newelref05_within_cal N) 19 0 newelref05_Check_sp (newelref05_Check_go N)
theorem newelref05_Check_cal_ok {R : Type} (N : Nat) : CalOk E.P (newelref05_Check_cal (R := R) N) :=
  callM_ok hE (newelref05_within_cal_ok N) (lp := newelref05_Check_lp N) (keys := [6]) (kCons (newelref05_Check_k6 N) kNil) (by kernel_rfl) newelref05_Check_sp_ok newelref05_Check_rs_ok (fun args T kf => Eq.trans (newelref05_Check_def N (Cod.dec api_LiftC (lget (toCs (lget args 0)))) (fun q0 => kf (lget [.int .i64 q0] 0, []))) (by kernel_rfl : newelref05_Check_run N args T kf = fnM E (newelref05_within_cal N) (newelref05_Check_lp N) 19 (newelref05_Check_sp.vs args) (newelref05_Check_sp.tab T) 0 (resK newelref05_Check_rs kf)))

def lift_Check_L6 : LoopSp := ⟨⟨[1, 52, 53, 54], ⟨(dr 1 ((rPtr 0 0) :: (dr 50 ((rSl intC) :: (rInt .i64) :: (rInt .i64) :: (dr 55 []))))), [(0, eBlkC api_LiftC)]⟩, 1⟩, [(Option.none, ⟨[2], ⟨(dr 2 ((rInt .i64) :: (dr 107 []))), []⟩, 0⟩), (some 0, ⟨[1], ⟨(dr 1 ((rPtr 0 0) :: (dr 108 []))), [(0, eBlkC api_LiftC)]⟩, 1⟩)]⟩
theorem lift_Check_L6_ok : lift_Check_L6.Ok := ⟨⟨(drCons 1 (allCons (rPtr_ok 0 0) (drCons 50 (allCons (rSl_ok intC_ok) (allCons (rInt_ok .i64) (allCons (rInt_ok .i64) (drCons 55 allNil))))))), (eCons (eBlkC_ok api_LiftC_ok api_LiftC_len) eNil)⟩, (xCons ⟨(drCons 2 (allCons (rInt_ok .i64) (drCons 107 allNil))), eNil⟩ (xCons ⟨(drCons 1 (allCons (rPtr_ok 0 0) (drCons 108 allNil))), (eCons (eBlkC_ok api_LiftC_ok api_LiftC_len) eNil)⟩ xNil))⟩
def lift_Check_h6 (v28 : Arr Int) (v29 : Int) (v30 : Int) (v31 : api_Lift) : St := ⟨(un 1 ((.ptr 0 0) :: (un 50 ((slC intC v28) :: (.int .i64 v29) :: (.int .i64 v30) :: (un 55 []))))), [(0, .blk (Cod.enc api_LiftC v31))], 1⟩
def lift_Check_x6_r (q0 : Int) : St := ⟨(un 2 ((.int .i64 q0) :: (un 107 []))), [], 0⟩
def lift_Check_x6_0 (v31 : api_Lift) : St := ⟨(un 1 ((.ptr 0 0) :: (un 108 []))), [(0, .blk (Cod.enc api_LiftC v31))], 1⟩
def lift_Check_b6 {R : Type} (N : Nat) (rc : Arr Int → Int → Int → api_Lift → Option R) (v28 : Arr Int) (v29 : Int) (v30 : Int) (v31 : api_Lift) (kr : Int → Option R) (k0 : Unit → Option R) : Option R :=
  bif decide (v30 < v29) then
   bif decide ((0 : Int) ≤ v30) && decide (v30 < (↑(Arr.n v28) : Int)) then
    bif decide ((0 : Int) ≤ v30) && decide (v30 < (↑(Arr.n (api_Lift.Floors v31)) : Int)) then
     bif decide (Arr.f v28 (Int.toNat v30) ≤ Arr.f (api_Lift.Floors v31) (Int.toNat v30)) then
      kr (50 : Int)
     else
      rc v28 v29 (w64 (v30 + (1 : Int))) v31
    else
     Option.none
   else
    Option.none
  else
   k0 ()
def lift_Check_l6 {R : Type} (N : Nat) : Nat → Arr Int → Int → Int → api_Lift → (Int → Option R) → (Unit → Option R) → Option R
  | 0, _, _, _, _, _, _ => Option.none
  | n + 1, v28, v29, v30, v31, kr, k0 => lift_Check_b6 N (fun v28 v29 v30 v31 => lift_Check_l6 N n v28 v29 v30 v31 kr k0) v28 v29 v30 v31 kr k0


def lift_Check_m {R : Type} (N : Nat) (a22 : api_Lift) (k : Int → Option R) : Option R :=
  lift_between N (api_Lift.Car a22) (1 : Int) (100000 : Int) (fun r23 =>
  bif !r23 then
   k (50 : Int)
  else
   lift_between N (api_Lift.Counter a22) (1 : Int) (100000 : Int) (fun r24 =>
   bif !r24 then
    k (50 : Int)
   else
    lift_between N (api_Lift.Rated a22) (0 : Int) (100000 : Int) (fun r25 =>
    bif !r25 then
     k (50 : Int)
    else
     lift_between N (api_Lift.Rope a22) (0 : Int) (100 : Int) (fun r26 =>
     bif !r26 then
      k (50 : Int)
     else
      lift_between N ((↑(Arr.n (api_Lift.Floors a22)) : Int)) (2 : Int) (16 : Int) (fun r27 =>
      bif !r27 then
       k (50 : Int)
      else
       bif decide ((0 : Int) < (↑(Arr.n (api_Lift.Floors a22)) : Int)) then
        bif Arr.f (api_Lift.Floors a22) (Int.toNat (0 : Int)) != (0 : Int) then
         k (50 : Int)
        else
         bif decide ((0 : Int) ≤ w64 ((↑(Arr.n (api_Lift.Floors a22)) : Int) - (1 : Int))) && decide (w64 ((↑(Arr.n (api_Lift.Floors a22)) : Int) - (1 : Int)) < (↑(Arr.n (api_Lift.Floors a22)) : Int)) then
          bif decide (Arr.f (api_Lift.Floors a22) (Int.toNat (w64 ((↑(Arr.n (api_Lift.Floors a22)) : Int) - (1 : Int)))) > (1000 : Int)) then
           k (50 : Int)
          else
           bif decide ((1 : Int) ≤ (↑(Arr.n (api_Lift.Floors a22)) : Int)) && decide ((↑(Arr.n (api_Lift.Floors a22)) : Int) ≤ (↑(Arr.n (api_Lift.Floors a22)) : Int)) then
            lift_Check_l6 N N (lst intC (Int.toNat (↑(Arr.n (api_Lift.Floors a22)) : Int) - Int.toNat (1 : Int)) fun (i j : Nat) ↦ Cod.cell intC (Arr.f (api_Lift.Floors a22)) (Int.toNat (1 : Int) + i) j) ((↑(Int.toNat (↑(Arr.n (api_Lift.Floors a22)) : Int) - Int.toNat (1 : Int)) : Int)) (0 : Int) a22 (fun r32 =>
             k r32) (fun (_ : Unit) =>
             bif decide (api_Lift.Den a22 < (1 : Int)) then
              k (50 : Int)
             else
              bif decide (api_Lift.Num a22 < api_Lift.Den a22) then
               k (50 : Int)
              else
               bif decide (api_Lift.Num a22 > (100 : Int)) then
                k (50 : Int)
               else
                lift_between N (api_Lift.Speed a22) (1 : Int) (100 : Int) (fun r33 =>
                bif !r33 then
                 k (50 : Int)
                else
                 lift_between N (api_Lift.Accel a22) (1 : Int) (100 : Int) (fun r34 =>
                 bif !r34 then
                  k (50 : Int)
                 else
                  lift_between N (api_Lift.Over a22) (0 : Int) (1000 : Int) (fun r35 =>
                  bif !r35 then
                   k (50 : Int)
                  else
                   lift_between N (api_Lift.Stiff a22) (1 : Int) (10000000 : Int) (fun r36 =>
                   bif !r36 then
                    k (50 : Int)
                   else
                    lift_between N (api_Lift.Level a22) (0 : Int) (1000 : Int) (fun r37 =>
                    bif !r37 then
                     k (50 : Int)
                    else
                     k (0 : Int)))))))
           else
            Option.none
         else
          Option.none
       else
        Option.none)))))
noncomputable def lift_Check {R : Type} : Nat → api_Lift → (Int → Option R) → Option R := lock (@lift_Check_m R)
theorem lift_Check_def {R : Type} (N : Nat) (a22 : api_Lift) (k : Int → Option R) : lift_Check N a22 k = lift_Check_m N a22 k := by unfold lift_Check; rw [lock_eq]
def lift_Check_sp : Sp := ⟨[rAgg api_LiftC], []⟩
theorem lift_Check_sp_ok : lift_Check_sp.Ok := ⟨(allCons (rAgg_ok api_LiftC_ok api_LiftC_len) allNil), eNil⟩
def lift_Check_rs : Sp := ⟨[rInt .i64], []⟩
theorem lift_Check_rs_ok : lift_Check_rs.Ok := ⟨(allCons (rInt_ok .i64) allNil), eNil⟩
def lift_Check_run {R : Type} (N : Nat) (args : List SV) (T : Tab) (kf : SV × Tab → Option R) : Option R :=
  lift_Check_m N (Cod.dec api_LiftC (lget (toCs (lget args 0)))) (fun q0 => kf (lget [.int .i64 q0] 0, []))
def lift_Check_d6 {R : Type} (N : Nat) (S0 : St) (k : Exit → St → Option R) : Option R :=
  lift_Check_l6 N N (lstC intC (lget S0.tmps 52)) (toI (lget S0.tmps 53)) (toI (lget S0.tmps 54)) (Cod.dec api_LiftC (lget (entCs (entAt S0.tab 0)))) (fun q0 => k .ret (lift_Check_x6_r q0)) (fun (_ : Unit) => k (.exit 0) (lift_Check_x6_0 (Cod.dec api_LiftC (lget (entCs (entAt S0.tab 0))))))
def lift_Check_lp {R : Type} (N : Nat) : Lp R := fun body S k => bif (Go.Sx.keyOf body).getD 0 == 6 then lift_Check_L6.head.raw 0 S (fun S0 => lift_Check_d6 N S0 k) else Option.none
theorem lift_Check_l6_eq {R : Type} (N : Nat) (k : Exit → St → Option R) (n : Nat) : ∀ (v0 : Arr Int) (v1 : Int) (v2 : Int) (v3 : api_Lift), loopM E.Θ (newelref05_Check_cal N) (lift_Check_lp N) 0 lift_Check_L6 (bodyAt E 32 6) n (lift_Check_h6 v0 v1 v2 v3) k = lift_Check_l6 N n v0 v1 v2 v3 (fun q0 => k .ret (lift_Check_x6_r q0)) (fun (_ : Unit) => k (.exit 0) (lift_Check_x6_0 v3)) := by
  induction n with
  | zero => intro v0 v1 v2 v3; rfl
  | succ n ih =>
    intro v0 v1 v2 v3
    refine Eq.trans (b := lift_Check_b6 N (fun v0 v1 v2 v3 => loopM E.Θ (newelref05_Check_cal N) (lift_Check_lp N) 0 lift_Check_L6 (bodyAt E 32 6) n (lift_Check_h6 v0 v1 v2 v3) k) v0 v1 v2 v3 (fun q0 => k .ret (lift_Check_x6_r q0)) (fun (_ : Unit) => k (.exit 0) (lift_Check_x6_0 v3))) (by kernel_rfl) ?_
    have h : (fun (v0 : Arr Int) (v1 : Int) (v2 : Int) (v3 : api_Lift) => loopM E.Θ (newelref05_Check_cal N) (lift_Check_lp N) 0 lift_Check_L6 (bodyAt E 32 6) n (lift_Check_h6 v0 v1 v2 v3) k) = (fun (v0 : Arr Int) (v1 : Int) (v2 : Int) (v3 : api_Lift) => lift_Check_l6 N n v0 v1 v2 v3 (fun q0 => k .ret (lift_Check_x6_r q0)) (fun (_ : Unit) => k (.exit 0) (lift_Check_x6_0 v3))) := funext fun v0 => funext fun v1 => funext fun v2 => funext fun v3 => ih v0 v1 v2 v3
    rw [h]
    rfl
theorem lift_Check_k6 {R : Type} (N : Nat) : LpKey (R := R) E 32 0 (lift_Check_lp N) 6 :=
  lpKey_of hE (newelref05_Check_cal_ok N) lift_Check_L6_ok [] kNil (by kernel_rfl) N fun S k =>
    Eq.trans (b := lift_Check_L6.head.raw 0 S (fun S0 => lift_Check_d6 N S0 k)) (by kernel_rfl) (congrArg (lift_Check_L6.head.raw 0 S) (funext fun S0 => Eq.trans (lift_Check_l6_eq N k N (lstC intC (lget S0.tmps 52)) (toI (lget S0.tmps 53)) (toI (lget S0.tmps 54)) (Cod.dec api_LiftC (lget (entCs (entAt S0.tab 0))))).symm (by kernel_rfl)))
noncomputable def lift_Check_go {R : Type} (N : Nat) (args : List SV) (T : Tab) (kf : SV × Tab → Option R) : Option R :=
  lift_Check N (Cod.dec api_LiftC (lget (toCs (lget args 0)))) (fun q0 => kf (lget [.int .i64 q0] 0, []))
noncomputable def lift_Check_cal {R : Type} (N : Nat) : Cal R := callM (newelref05_Check_cal N) 32 0 lift_Check_sp (lift_Check_go N)
theorem lift_Check_cal_ok {R : Type} (N : Nat) : CalOk E.P (lift_Check_cal (R := R) N) :=
  callM_ok hE (newelref05_Check_cal_ok N) (lp := lift_Check_lp N) (keys := [6]) (kCons (lift_Check_k6 N) kNil) (by kernel_rfl) lift_Check_sp_ok lift_Check_rs_ok (fun args T kf => Eq.trans (lift_Check_def N (Cod.dec api_LiftC (lget (toCs (lget args 0)))) (fun q0 => kf (lget [.int .i64 q0] 0, []))) (by kernel_rfl : lift_Check_run N args T kf = fnM E (newelref05_Check_cal N) (lift_Check_lp N) 32 (lift_Check_sp.vs args) (lift_Check_sp.tab T) 0 (resK lift_Check_rs kf)))


def lift_top_m {R : Type} (N : Nat) (a38 : api_Lift) (k : Int → Option R) : Option R :=
  bif decide ((0 : Int) ≤ w64 ((↑(Arr.n (api_Lift.Floors a38)) : Int) - (1 : Int))) && decide (w64 ((↑(Arr.n (api_Lift.Floors a38)) : Int) - (1 : Int)) < (↑(Arr.n (api_Lift.Floors a38)) : Int)) then
   k (Arr.f (api_Lift.Floors a38) (Int.toNat (w64 ((↑(Arr.n (api_Lift.Floors a38)) : Int) - (1 : Int)))))
  else
   Option.none
noncomputable def lift_top {R : Type} : Nat → api_Lift → (Int → Option R) → Option R := lock (@lift_top_m R)
theorem lift_top_def {R : Type} (N : Nat) (a38 : api_Lift) (k : Int → Option R) : lift_top N a38 k = lift_top_m N a38 k := by unfold lift_top; rw [lock_eq]
def lift_top_sp : Sp := ⟨[rAgg api_LiftC], []⟩
theorem lift_top_sp_ok : lift_top_sp.Ok := ⟨(allCons (rAgg_ok api_LiftC_ok api_LiftC_len) allNil), eNil⟩
def lift_top_rs : Sp := ⟨[rInt .i64], []⟩
theorem lift_top_rs_ok : lift_top_rs.Ok := ⟨(allCons (rInt_ok .i64) allNil), eNil⟩
def lift_top_run {R : Type} (N : Nat) (args : List SV) (T : Tab) (kf : SV × Tab → Option R) : Option R :=
  lift_top_m N (Cod.dec api_LiftC (lget (toCs (lget args 0)))) (fun q0 => kf (lget [.int .i64 q0] 0, []))
def lift_top_lp {R : Type} (N : Nat) : Lp R := fun body S k => Option.none
noncomputable def lift_top_go {R : Type} (N : Nat) (args : List SV) (T : Tab) (kf : SV × Tab → Option R) : Option R :=
  lift_top N (Cod.dec api_LiftC (lget (toCs (lget args 0)))) (fun q0 => kf (lget [.int .i64 q0] 0, []))
noncomputable def lift_top_cal {R : Type} (N : Nat) : Cal R := callM (lift_Check_cal N) 59 0 lift_top_sp (lift_top_go N)
theorem lift_top_cal_ok {R : Type} (N : Nat) : CalOk E.P (lift_top_cal (R := R) N) :=
  callM_ok hE (lift_Check_cal_ok N) (lp := lift_top_lp N) (keys := []) kNil (by kernel_rfl) lift_top_sp_ok lift_top_rs_ok (fun args T kf => Eq.trans (lift_top_def N (Cod.dec api_LiftC (lget (toCs (lget args 0)))) (fun q0 => kf (lget [.int .i64 q0] 0, []))) (by kernel_rfl : lift_top_run N args T kf = fnM E (lift_Check_cal N) (lift_top_lp N) 59 (lift_top_sp.vs args) (lift_top_sp.tab T) 0 (resK lift_top_rs kf)))


def newelref05_Top_m {R : Type} (N : Nat) (a39 : api_Lift) (k : Int → Option R) : Option R :=
  bif decide ((0 : Int) ≤ w64 ((↑(Arr.n (api_Lift.Floors a39)) : Int) - (1 : Int))) && decide (w64 ((↑(Arr.n (api_Lift.Floors a39)) : Int) - (1 : Int)) < (↑(Arr.n (api_Lift.Floors a39)) : Int)) then
   k (Arr.f (api_Lift.Floors a39) (Int.toNat (w64 ((↑(Arr.n (api_Lift.Floors a39)) : Int) - (1 : Int)))))
  else
   Option.none
noncomputable def newelref05_Top {R : Type} : Nat → api_Lift → (Int → Option R) → Option R := lock (@newelref05_Top_m R)
theorem newelref05_Top_def {R : Type} (N : Nat) (a39 : api_Lift) (k : Int → Option R) : newelref05_Top N a39 k = newelref05_Top_m N a39 k := by unfold newelref05_Top; rw [lock_eq]
def newelref05_Top_sp : Sp := ⟨[rAgg api_LiftC], []⟩
theorem newelref05_Top_sp_ok : newelref05_Top_sp.Ok := ⟨(allCons (rAgg_ok api_LiftC_ok api_LiftC_len) allNil), eNil⟩
def newelref05_Top_rs : Sp := ⟨[rInt .i64], []⟩
theorem newelref05_Top_rs_ok : newelref05_Top_rs.Ok := ⟨(allCons (rInt_ok .i64) allNil), eNil⟩
def newelref05_Top_run {R : Type} (N : Nat) (args : List SV) (T : Tab) (kf : SV × Tab → Option R) : Option R :=
  newelref05_Top_m N (Cod.dec api_LiftC (lget (toCs (lget args 0)))) (fun q0 => kf (lget [.int .i64 q0] 0, []))
def newelref05_Top_lp {R : Type} (N : Nat) : Lp R := fun body S k => Option.none
noncomputable def newelref05_Top_go {R : Type} (N : Nat) (args : List SV) (T : Tab) (kf : SV × Tab → Option R) : Option R :=
  newelref05_Top N (Cod.dec api_LiftC (lget (toCs (lget args 0)))) (fun q0 => kf (lget [.int .i64 q0] 0, []))
noncomputable def newelref05_Top_cal {R : Type} (N : Nat) : Cal R := callM (lift_top_cal N) 55 0 newelref05_Top_sp (newelref05_Top_go N)
theorem newelref05_Top_cal_ok {R : Type} (N : Nat) : CalOk E.P (newelref05_Top_cal (R := R) N) :=
  callM_ok hE (lift_top_cal_ok N) (lp := newelref05_Top_lp N) (keys := []) kNil (by kernel_rfl) newelref05_Top_sp_ok newelref05_Top_rs_ok (fun args T kf => Eq.trans (newelref05_Top_def N (Cod.dec api_LiftC (lget (toCs (lget args 0)))) (fun q0 => kf (lget [.int .i64 q0] 0, []))) (by kernel_rfl : newelref05_Top_run N args T kf = fnM E (lift_top_cal N) (newelref05_Top_lp N) 55 (newelref05_Top_sp.vs args) (newelref05_Top_sp.tab T) 0 (resK newelref05_Top_rs kf)))


def lift_sides_m {R : Type} (N : Nat) (a40 : api_Lift) (a41 : Int) (a42 : Int) (k : Int → Int → Option R) : Option R :=
  lift_top N a40 (fun r43 =>
  k (w64 (w64 (api_Lift.Car a40 + a42) + w64 (api_Lift.Rope a40 * w64 (r43 - a41)))) (w64 (api_Lift.Counter a40 + w64 (api_Lift.Rope a40 * a41))))
noncomputable def lift_sides {R : Type} : Nat → api_Lift → Int → Int → (Int → Int → Option R) → Option R := lock (@lift_sides_m R)
theorem lift_sides_def {R : Type} (N : Nat) (a40 : api_Lift) (a41 : Int) (a42 : Int) (k : Int → Int → Option R) : lift_sides N a40 a41 a42 k = lift_sides_m N a40 a41 a42 k := by unfold lift_sides; rw [lock_eq]
def lift_sides_sp : Sp := ⟨[rAgg api_LiftC, rInt .i64, rInt .i64], []⟩
theorem lift_sides_sp_ok : lift_sides_sp.Ok := ⟨(allCons (rAgg_ok api_LiftC_ok api_LiftC_len) (allCons (rInt_ok .i64) (allCons (rInt_ok .i64) allNil))), eNil⟩
def lift_sides_rs : Sp := ⟨[rTup [rInt .i64, rInt .i64]], []⟩
theorem lift_sides_rs_ok : lift_sides_rs.Ok := ⟨(allCons (rTup_ok (allCons (rInt_ok .i64) (allCons (rInt_ok .i64) allNil))) allNil), eNil⟩
def lift_sides_run {R : Type} (N : Nat) (args : List SV) (T : Tab) (kf : SV × Tab → Option R) : Option R :=
  lift_sides_m N (Cod.dec api_LiftC (lget (toCs (lget args 0)))) (toI (lget args 1)) (toI (lget args 2)) (fun q0 q1 => kf (lget [.tup [.int .i64 q0, .int .i64 q1]] 0, []))
def lift_sides_lp {R : Type} (N : Nat) : Lp R := fun body S k => Option.none
noncomputable def lift_sides_go {R : Type} (N : Nat) (args : List SV) (T : Tab) (kf : SV × Tab → Option R) : Option R :=
  lift_sides N (Cod.dec api_LiftC (lget (toCs (lget args 0)))) (toI (lget args 1)) (toI (lget args 2)) (fun q0 q1 => kf (lget [.tup [.int .i64 q0, .int .i64 q1]] 0, []))
noncomputable def lift_sides_cal {R : Type} (N : Nat) : Cal R := callM (newelref05_Top_cal N) 65 0 lift_sides_sp (lift_sides_go N)
theorem lift_sides_cal_ok {R : Type} (N : Nat) : CalOk E.P (lift_sides_cal (R := R) N) :=
  callM_ok hE (newelref05_Top_cal_ok N) (lp := lift_sides_lp N) (keys := []) kNil (by kernel_rfl) lift_sides_sp_ok lift_sides_rs_ok (fun args T kf => Eq.trans (lift_sides_def N (Cod.dec api_LiftC (lget (toCs (lget args 0)))) (toI (lget args 1)) (toI (lget args 2)) (fun q0 q1 => kf (lget [.tup [.int .i64 q0, .int .i64 q1]] 0, []))) (by kernel_rfl : lift_sides_run N args T kf = fnM E (newelref05_Top_cal N) (lift_sides_lp N) 65 (lift_sides_sp.vs args) (lift_sides_sp.tab T) 0 (resK lift_sides_rs kf)))


def newelref05_sides_m {R : Type} (N : Nat) (a44 : api_Lift) (a45 : Int) (a46 : Int) (k : Int → Int → Option R) : Option R :=
  newelref05_Top N a44 (fun r47 =>
  k (w64 (w64 (api_Lift.Car a44 + a46) + w64 (api_Lift.Rope a44 * w64 (r47 - a45)))) (w64 (api_Lift.Counter a44 + w64 (api_Lift.Rope a44 * a45))))
noncomputable def newelref05_sides {R : Type} : Nat → api_Lift → Int → Int → (Int → Int → Option R) → Option R := lock (@newelref05_sides_m R)
theorem newelref05_sides_def {R : Type} (N : Nat) (a44 : api_Lift) (a45 : Int) (a46 : Int) (k : Int → Int → Option R) : newelref05_sides N a44 a45 a46 k = newelref05_sides_m N a44 a45 a46 k := by unfold newelref05_sides; rw [lock_eq]
def newelref05_sides_sp : Sp := ⟨[rAgg api_LiftC, rInt .i64, rInt .i64], []⟩
theorem newelref05_sides_sp_ok : newelref05_sides_sp.Ok := ⟨(allCons (rAgg_ok api_LiftC_ok api_LiftC_len) (allCons (rInt_ok .i64) (allCons (rInt_ok .i64) allNil))), eNil⟩
def newelref05_sides_rs : Sp := ⟨[rTup [rInt .i64, rInt .i64]], []⟩
theorem newelref05_sides_rs_ok : newelref05_sides_rs.Ok := ⟨(allCons (rTup_ok (allCons (rInt_ok .i64) (allCons (rInt_ok .i64) allNil))) allNil), eNil⟩
def newelref05_sides_run {R : Type} (N : Nat) (args : List SV) (T : Tab) (kf : SV × Tab → Option R) : Option R :=
  newelref05_sides_m N (Cod.dec api_LiftC (lget (toCs (lget args 0)))) (toI (lget args 1)) (toI (lget args 2)) (fun q0 q1 => kf (lget [.tup [.int .i64 q0, .int .i64 q1]] 0, []))
def newelref05_sides_lp {R : Type} (N : Nat) : Lp R := fun body S k => Option.none
noncomputable def newelref05_sides_go {R : Type} (N : Nat) (args : List SV) (T : Tab) (kf : SV × Tab → Option R) : Option R :=
  newelref05_sides N (Cod.dec api_LiftC (lget (toCs (lget args 0)))) (toI (lget args 1)) (toI (lget args 2)) (fun q0 q1 => kf (lget [.tup [.int .i64 q0, .int .i64 q1]] 0, []))
noncomputable def newelref05_sides_cal {R : Type} (N : Nat) : Cal R := callM (lift_sides_cal N) 66 0 newelref05_sides_sp (newelref05_sides_go N)
theorem newelref05_sides_cal_ok {R : Type} (N : Nat) : CalOk E.P (newelref05_sides_cal (R := R) N) :=
  callM_ok hE (lift_sides_cal_ok N) (lp := newelref05_sides_lp N) (keys := []) kNil (by kernel_rfl) newelref05_sides_sp_ok newelref05_sides_rs_ok (fun args T kf => Eq.trans (newelref05_sides_def N (Cod.dec api_LiftC (lget (toCs (lget args 0)))) (toI (lget args 1)) (toI (lget args 2)) (fun q0 q1 => kf (lget [.tup [.int .i64 q0, .int .i64 q1]] 0, []))) (by kernel_rfl : newelref05_sides_run N args T kf = fnM E (lift_sides_cal N) (newelref05_sides_lp N) 66 (newelref05_sides_sp.vs args) (newelref05_sides_sp.tab T) 0 (resK newelref05_sides_rs kf)))


def lift_slips_m {R : Type} (N : Nat) (a48 : api_Lift) (a49 : Int) (a50 : Int) (a51 : Int) (k : Bool → Option R) : Option R :=
  lift_sides N a48 a49 a50 (fun r52 r53 =>
  k (decide (w64 (w64 ((if r53 > r52 then r53 else r52) * w64 ((1000 : Int) + a51)) * api_Lift.Den a48) > w64 (w64 ((if r53 < r52 then r53 else r52) * w64 ((1000 : Int) - a51)) * api_Lift.Num a48))))
noncomputable def lift_slips {R : Type} : Nat → api_Lift → Int → Int → Int → (Bool → Option R) → Option R := lock (@lift_slips_m R)
theorem lift_slips_def {R : Type} (N : Nat) (a48 : api_Lift) (a49 : Int) (a50 : Int) (a51 : Int) (k : Bool → Option R) : lift_slips N a48 a49 a50 a51 k = lift_slips_m N a48 a49 a50 a51 k := by unfold lift_slips; rw [lock_eq]
def lift_slips_sp : Sp := ⟨[rAgg api_LiftC, rInt .i64, rInt .i64, rInt .i64], []⟩
theorem lift_slips_sp_ok : lift_slips_sp.Ok := ⟨(allCons (rAgg_ok api_LiftC_ok api_LiftC_len) (allCons (rInt_ok .i64) (allCons (rInt_ok .i64) (allCons (rInt_ok .i64) allNil)))), eNil⟩
def lift_slips_rs : Sp := ⟨[rBool], []⟩
theorem lift_slips_rs_ok : lift_slips_rs.Ok := ⟨(allCons rBool_ok allNil), eNil⟩
def lift_slips_run {R : Type} (N : Nat) (args : List SV) (T : Tab) (kf : SV × Tab → Option R) : Option R :=
  lift_slips_m N (Cod.dec api_LiftC (lget (toCs (lget args 0)))) (toI (lget args 1)) (toI (lget args 2)) (toI (lget args 3)) (fun q0 => kf (lget [.bool q0] 0, []))
def lift_slips_lp {R : Type} (N : Nat) : Lp R := fun body S k => Option.none
noncomputable def lift_slips_go {R : Type} (N : Nat) (args : List SV) (T : Tab) (kf : SV × Tab → Option R) : Option R :=
  lift_slips N (Cod.dec api_LiftC (lget (toCs (lget args 0)))) (toI (lget args 1)) (toI (lget args 2)) (toI (lget args 3)) (fun q0 => kf (lget [.bool q0] 0, []))
noncomputable def lift_slips_cal {R : Type} (N : Nat) : Cal R := callM (newelref05_sides_cal N) 60 0 lift_slips_sp (lift_slips_go N)
theorem lift_slips_cal_ok {R : Type} (N : Nat) : CalOk E.P (lift_slips_cal (R := R) N) :=
  callM_ok hE (newelref05_sides_cal_ok N) (lp := lift_slips_lp N) (keys := []) kNil (by kernel_rfl) lift_slips_sp_ok lift_slips_rs_ok (fun args T kf => Eq.trans (lift_slips_def N (Cod.dec api_LiftC (lget (toCs (lget args 0)))) (toI (lget args 1)) (toI (lget args 2)) (toI (lget args 3)) (fun q0 => kf (lget [.bool q0] 0, []))) (by kernel_rfl : lift_slips_run N args T kf = fnM E (newelref05_sides_cal N) (lift_slips_lp N) 60 (lift_slips_sp.vs args) (lift_slips_sp.tab T) 0 (resK lift_slips_rs kf)))


def newelref05_slips_m {R : Type} (N : Nat) (a54 : api_Lift) (a55 : Int) (a56 : Int) (a57 : Int) (k : Bool → Option R) : Option R :=
  newelref05_sides N a54 a55 a56 (fun r58 r59 =>
  k (decide (w64 (w64 ((if r59 > r58 then r59 else r58) * w64 ((1000 : Int) + a57)) * api_Lift.Den a54) > w64 (w64 ((if r59 < r58 then r59 else r58) * w64 ((1000 : Int) - a57)) * api_Lift.Num a54))))
noncomputable def newelref05_slips {R : Type} : Nat → api_Lift → Int → Int → Int → (Bool → Option R) → Option R := lock (@newelref05_slips_m R)
theorem newelref05_slips_def {R : Type} (N : Nat) (a54 : api_Lift) (a55 : Int) (a56 : Int) (a57 : Int) (k : Bool → Option R) : newelref05_slips N a54 a55 a56 a57 k = newelref05_slips_m N a54 a55 a56 a57 k := by unfold newelref05_slips; rw [lock_eq]
def newelref05_slips_sp : Sp := ⟨[rAgg api_LiftC, rInt .i64, rInt .i64, rInt .i64], []⟩
theorem newelref05_slips_sp_ok : newelref05_slips_sp.Ok := ⟨(allCons (rAgg_ok api_LiftC_ok api_LiftC_len) (allCons (rInt_ok .i64) (allCons (rInt_ok .i64) (allCons (rInt_ok .i64) allNil)))), eNil⟩
def newelref05_slips_rs : Sp := ⟨[rBool], []⟩
theorem newelref05_slips_rs_ok : newelref05_slips_rs.Ok := ⟨(allCons rBool_ok allNil), eNil⟩
def newelref05_slips_run {R : Type} (N : Nat) (args : List SV) (T : Tab) (kf : SV × Tab → Option R) : Option R :=
  newelref05_slips_m N (Cod.dec api_LiftC (lget (toCs (lget args 0)))) (toI (lget args 1)) (toI (lget args 2)) (toI (lget args 3)) (fun q0 => kf (lget [.bool q0] 0, []))
def newelref05_slips_lp {R : Type} (N : Nat) : Lp R := fun body S k => Option.none
noncomputable def newelref05_slips_go {R : Type} (N : Nat) (args : List SV) (T : Tab) (kf : SV × Tab → Option R) : Option R :=
  newelref05_slips N (Cod.dec api_LiftC (lget (toCs (lget args 0)))) (toI (lget args 1)) (toI (lget args 2)) (toI (lget args 3)) (fun q0 => kf (lget [.bool q0] 0, []))
noncomputable def newelref05_slips_cal {R : Type} (N : Nat) : Cal R := callM (lift_slips_cal N) 63 0 newelref05_slips_sp (newelref05_slips_go N)
theorem newelref05_slips_cal_ok {R : Type} (N : Nat) : CalOk E.P (newelref05_slips_cal (R := R) N) :=
  callM_ok hE (lift_slips_cal_ok N) (lp := newelref05_slips_lp N) (keys := []) kNil (by kernel_rfl) newelref05_slips_sp_ok newelref05_slips_rs_ok (fun args T kf => Eq.trans (newelref05_slips_def N (Cod.dec api_LiftC (lget (toCs (lget args 0)))) (toI (lget args 1)) (toI (lget args 2)) (toI (lget args 3)) (fun q0 => kf (lget [.bool q0] 0, []))) (by kernel_rfl : newelref05_slips_run N args T kf = fnM E (lift_slips_cal N) (newelref05_slips_lp N) 63 (newelref05_slips_sp.vs args) (newelref05_slips_sp.tab T) 0 (resK newelref05_slips_rs kf)))


def lift_Sides_1_m {R : Type} (N : Nat) (a79 : Int) (a80 : Int) (a81 : Int) (a82 : Int) (a83 : Int) (a84 : Arr Int) (a85 : Int) (a86 : Int) (a87 : Int) (a88 : Int) (a89 : Int) (a90 : Int) (a91 : Int) (a92 : Int) (k : Bool → Option R) : Option R :=
  lift_top N (api_Lift.mk a80 a81 a82 a83 a84 a85 a86 a87 a88 a89 a90 a91) (fun r93 =>
  lift_between N a79 (0 : Int) r93 (fun r94 =>
  bif r94 then
   lift_between N a92 (0 : Int) a82 (fun r95 =>
   k r95)
  else
   k false))
noncomputable def lift_Sides_1 {R : Type} : Nat → Int → Int → Int → Int → Int → Arr Int → Int → Int → Int → Int → Int → Int → Int → Int → (Bool → Option R) → Option R := lock (@lift_Sides_1_m R)
theorem lift_Sides_1_def {R : Type} (N : Nat) (a79 : Int) (a80 : Int) (a81 : Int) (a82 : Int) (a83 : Int) (a84 : Arr Int) (a85 : Int) (a86 : Int) (a87 : Int) (a88 : Int) (a89 : Int) (a90 : Int) (a91 : Int) (a92 : Int) (k : Bool → Option R) : lift_Sides_1 N a79 a80 a81 a82 a83 a84 a85 a86 a87 a88 a89 a90 a91 a92 k = lift_Sides_1_m N a79 a80 a81 a82 a83 a84 a85 a86 a87 a88 a89 a90 a91 a92 k := by unfold lift_Sides_1; rw [lock_eq]
def lift_Sides_1_sp : Sp := ⟨[rPtr 0 0, rPtr 1 0, rPtr 2 0], [(0, eBlk [rInt .i64]), (1, eBlk [rInt .i64, rInt .i64, rInt .i64, rInt .i64, rSl intC, rInt .i64, rInt .i64, rInt .i64, rInt .i64, rInt .i64, rInt .i64, rInt .i64]), (2, eBlk [rInt .i64])]⟩
theorem lift_Sides_1_sp_ok : lift_Sides_1_sp.Ok := ⟨(allCons (rPtr_ok 0 0) (allCons (rPtr_ok 1 0) (allCons (rPtr_ok 2 0) allNil))), (eCons (eBlk_ok (allCons (rInt_ok .i64) allNil)) (eCons (eBlk_ok (allCons (rInt_ok .i64) (allCons (rInt_ok .i64) (allCons (rInt_ok .i64) (allCons (rInt_ok .i64) (allCons (rSl_ok intC_ok) (allCons (rInt_ok .i64) (allCons (rInt_ok .i64) (allCons (rInt_ok .i64) (allCons (rInt_ok .i64) (allCons (rInt_ok .i64) (allCons (rInt_ok .i64) (allCons (rInt_ok .i64) allNil))))))))))))) (eCons (eBlk_ok (allCons (rInt_ok .i64) allNil)) eNil)))⟩
def lift_Sides_1_rs : Sp := ⟨[rBool], [(0, eBlk [rInt .i64]), (1, eBlk [rInt .i64, rInt .i64, rInt .i64, rInt .i64, rSl intC, rInt .i64, rInt .i64, rInt .i64, rInt .i64, rInt .i64, rInt .i64, rInt .i64]), (2, eBlk [rInt .i64])]⟩
theorem lift_Sides_1_rs_ok : lift_Sides_1_rs.Ok := ⟨(allCons rBool_ok allNil), (eCons (eBlk_ok (allCons (rInt_ok .i64) allNil)) (eCons (eBlk_ok (allCons (rInt_ok .i64) (allCons (rInt_ok .i64) (allCons (rInt_ok .i64) (allCons (rInt_ok .i64) (allCons (rSl_ok intC_ok) (allCons (rInt_ok .i64) (allCons (rInt_ok .i64) (allCons (rInt_ok .i64) (allCons (rInt_ok .i64) (allCons (rInt_ok .i64) (allCons (rInt_ok .i64) (allCons (rInt_ok .i64) allNil))))))))))))) (eCons (eBlk_ok (allCons (rInt_ok .i64) allNil)) eNil)))⟩
def lift_Sides_1_run {R : Type} (N : Nat) (args : List SV) (T : Tab) (kf : SV × Tab → Option R) : Option R :=
  lift_Sides_1_m N (toI (lget (entCs (entAt T 0)) 0)) (toI (lget (entCs (entAt T 1)) 0)) (toI (lget (entCs (entAt T 1)) 1)) (toI (lget (entCs (entAt T 1)) 2)) (toI (lget (entCs (entAt T 1)) 3)) (lstC intC (lget (entCs (entAt T 1)) 4)) (toI (lget (entCs (entAt T 1)) 5)) (toI (lget (entCs (entAt T 1)) 6)) (toI (lget (entCs (entAt T 1)) 7)) (toI (lget (entCs (entAt T 1)) 8)) (toI (lget (entCs (entAt T 1)) 9)) (toI (lget (entCs (entAt T 1)) 10)) (toI (lget (entCs (entAt T 1)) 11)) (toI (lget (entCs (entAt T 2)) 0)) (fun q0 => kf (lget [.bool q0] 0, [(0, .blk [.int .i64 (toI (lget (entCs (entAt T 0)) 0))]), (1, .blk [.int .i64 (toI (lget (entCs (entAt T 1)) 0)), .int .i64 (toI (lget (entCs (entAt T 1)) 1)), .int .i64 (toI (lget (entCs (entAt T 1)) 2)), .int .i64 (toI (lget (entCs (entAt T 1)) 3)), slC intC (lstC intC (lget (entCs (entAt T 1)) 4)), .int .i64 (toI (lget (entCs (entAt T 1)) 5)), .int .i64 (toI (lget (entCs (entAt T 1)) 6)), .int .i64 (toI (lget (entCs (entAt T 1)) 7)), .int .i64 (toI (lget (entCs (entAt T 1)) 8)), .int .i64 (toI (lget (entCs (entAt T 1)) 9)), .int .i64 (toI (lget (entCs (entAt T 1)) 10)), .int .i64 (toI (lget (entCs (entAt T 1)) 11))]), (2, .blk [.int .i64 (toI (lget (entCs (entAt T 2)) 0))])]))
def lift_Sides_1_lp {R : Type} (N : Nat) : Lp R := fun body S k => Option.none
noncomputable def lift_Sides_1_go {R : Type} (N : Nat) (args : List SV) (T : Tab) (kf : SV × Tab → Option R) : Option R :=
  lift_Sides_1 N (toI (lget (entCs (entAt T 0)) 0)) (toI (lget (entCs (entAt T 1)) 0)) (toI (lget (entCs (entAt T 1)) 1)) (toI (lget (entCs (entAt T 1)) 2)) (toI (lget (entCs (entAt T 1)) 3)) (lstC intC (lget (entCs (entAt T 1)) 4)) (toI (lget (entCs (entAt T 1)) 5)) (toI (lget (entCs (entAt T 1)) 6)) (toI (lget (entCs (entAt T 1)) 7)) (toI (lget (entCs (entAt T 1)) 8)) (toI (lget (entCs (entAt T 1)) 9)) (toI (lget (entCs (entAt T 1)) 10)) (toI (lget (entCs (entAt T 1)) 11)) (toI (lget (entCs (entAt T 2)) 0)) (fun q0 => kf (lget [.bool q0] 0, [(0, .blk [.int .i64 (toI (lget (entCs (entAt T 0)) 0))]), (1, .blk [.int .i64 (toI (lget (entCs (entAt T 1)) 0)), .int .i64 (toI (lget (entCs (entAt T 1)) 1)), .int .i64 (toI (lget (entCs (entAt T 1)) 2)), .int .i64 (toI (lget (entCs (entAt T 1)) 3)), slC intC (lstC intC (lget (entCs (entAt T 1)) 4)), .int .i64 (toI (lget (entCs (entAt T 1)) 5)), .int .i64 (toI (lget (entCs (entAt T 1)) 6)), .int .i64 (toI (lget (entCs (entAt T 1)) 7)), .int .i64 (toI (lget (entCs (entAt T 1)) 8)), .int .i64 (toI (lget (entCs (entAt T 1)) 9)), .int .i64 (toI (lget (entCs (entAt T 1)) 10)), .int .i64 (toI (lget (entCs (entAt T 1)) 11))]), (2, .blk [.int .i64 (toI (lget (entCs (entAt T 2)) 0))])]))
noncomputable def lift_Sides_1_cal {R : Type} (N : Nat) : Cal R := callM (newelref05_slips_cal N) 67 3 lift_Sides_1_sp (lift_Sides_1_go N)
theorem lift_Sides_1_cal_ok {R : Type} (N : Nat) : CalOk E.P (lift_Sides_1_cal (R := R) N) :=
  callM_ok hE (newelref05_slips_cal_ok N) (lp := lift_Sides_1_lp N) (keys := []) kNil (by kernel_rfl) lift_Sides_1_sp_ok lift_Sides_1_rs_ok (fun args T kf => Eq.trans (lift_Sides_1_def N (toI (lget (entCs (entAt T 0)) 0)) (toI (lget (entCs (entAt T 1)) 0)) (toI (lget (entCs (entAt T 1)) 1)) (toI (lget (entCs (entAt T 1)) 2)) (toI (lget (entCs (entAt T 1)) 3)) (lstC intC (lget (entCs (entAt T 1)) 4)) (toI (lget (entCs (entAt T 1)) 5)) (toI (lget (entCs (entAt T 1)) 6)) (toI (lget (entCs (entAt T 1)) 7)) (toI (lget (entCs (entAt T 1)) 8)) (toI (lget (entCs (entAt T 1)) 9)) (toI (lget (entCs (entAt T 1)) 10)) (toI (lget (entCs (entAt T 1)) 11)) (toI (lget (entCs (entAt T 2)) 0)) (fun q0 => kf (lget [.bool q0] 0, [(0, .blk [.int .i64 (toI (lget (entCs (entAt T 0)) 0))]), (1, .blk [.int .i64 (toI (lget (entCs (entAt T 1)) 0)), .int .i64 (toI (lget (entCs (entAt T 1)) 1)), .int .i64 (toI (lget (entCs (entAt T 1)) 2)), .int .i64 (toI (lget (entCs (entAt T 1)) 3)), slC intC (lstC intC (lget (entCs (entAt T 1)) 4)), .int .i64 (toI (lget (entCs (entAt T 1)) 5)), .int .i64 (toI (lget (entCs (entAt T 1)) 6)), .int .i64 (toI (lget (entCs (entAt T 1)) 7)), .int .i64 (toI (lget (entCs (entAt T 1)) 8)), .int .i64 (toI (lget (entCs (entAt T 1)) 9)), .int .i64 (toI (lget (entCs (entAt T 1)) 10)), .int .i64 (toI (lget (entCs (entAt T 1)) 11))]), (2, .blk [.int .i64 (toI (lget (entCs (entAt T 2)) 0))])]))) (by kernel_rfl : lift_Sides_1_run N args T kf = fnM E (newelref05_slips_cal N) (lift_Sides_1_lp N) 67 (lift_Sides_1_sp.vs args) (lift_Sides_1_sp.tab T) 3 (resK lift_Sides_1_rs kf)))


def lift_check_m {R : Type} (N : Nat) (a63 : api_Lift) (a64 : Int) (a65 : Int) (a66 : Int) (a67 : Int) (a68 : Int) (a69 : Arr Int) (a70 : Int) (a71 : Int) (a72 : Int) (a73 : Int) (a74 : Int) (a75 : Int) (a76 : Int) (a77 : Int) (k : Int → Option R) : Option R :=
  lift_Check N a63 (fun r78 =>
  bif r78 != (0 : Int) then
   k r78
  else
   lift_Sides_1 N a64 a65 a66 a67 a68 a69 a70 a71 a72 a73 a74 a75 a76 a77 (fun r96 =>
   bif !r96 then
    k (1 : Int)
   else
    k (0 : Int)))
noncomputable def lift_check {R : Type} : Nat → api_Lift → Int → Int → Int → Int → Int → Arr Int → Int → Int → Int → Int → Int → Int → Int → Int → (Int → Option R) → Option R := lock (@lift_check_m R)
theorem lift_check_def {R : Type} (N : Nat) (a63 : api_Lift) (a64 : Int) (a65 : Int) (a66 : Int) (a67 : Int) (a68 : Int) (a69 : Arr Int) (a70 : Int) (a71 : Int) (a72 : Int) (a73 : Int) (a74 : Int) (a75 : Int) (a76 : Int) (a77 : Int) (k : Int → Option R) : lift_check N a63 a64 a65 a66 a67 a68 a69 a70 a71 a72 a73 a74 a75 a76 a77 k = lift_check_m N a63 a64 a65 a66 a67 a68 a69 a70 a71 a72 a73 a74 a75 a76 a77 k := by unfold lift_check; rw [lock_eq]
def lift_check_sp : Sp := ⟨[rAgg api_LiftC, rFunc 67 [rPtr 0 0, rPtr 1 0, rPtr 2 0]], [(0, eBlk [rInt .i64]), (1, eBlk [rInt .i64, rInt .i64, rInt .i64, rInt .i64, rSl intC, rInt .i64, rInt .i64, rInt .i64, rInt .i64, rInt .i64, rInt .i64, rInt .i64]), (2, eBlk [rInt .i64])]⟩
theorem lift_check_sp_ok : lift_check_sp.Ok := ⟨(allCons (rAgg_ok api_LiftC_ok api_LiftC_len) (allCons (rFunc_ok 67 (allCons (rPtr_ok 0 0) (allCons (rPtr_ok 1 0) (allCons (rPtr_ok 2 0) allNil)))) allNil)), (eCons (eBlk_ok (allCons (rInt_ok .i64) allNil)) (eCons (eBlk_ok (allCons (rInt_ok .i64) (allCons (rInt_ok .i64) (allCons (rInt_ok .i64) (allCons (rInt_ok .i64) (allCons (rSl_ok intC_ok) (allCons (rInt_ok .i64) (allCons (rInt_ok .i64) (allCons (rInt_ok .i64) (allCons (rInt_ok .i64) (allCons (rInt_ok .i64) (allCons (rInt_ok .i64) (allCons (rInt_ok .i64) allNil))))))))))))) (eCons (eBlk_ok (allCons (rInt_ok .i64) allNil)) eNil)))⟩
def lift_check_rs : Sp := ⟨[rInt .i64], [(0, eBlk [rInt .i64]), (1, eBlk [rInt .i64, rInt .i64, rInt .i64, rInt .i64, rSl intC, rInt .i64, rInt .i64, rInt .i64, rInt .i64, rInt .i64, rInt .i64, rInt .i64]), (2, eBlk [rInt .i64])]⟩
theorem lift_check_rs_ok : lift_check_rs.Ok := ⟨(allCons (rInt_ok .i64) allNil), (eCons (eBlk_ok (allCons (rInt_ok .i64) allNil)) (eCons (eBlk_ok (allCons (rInt_ok .i64) (allCons (rInt_ok .i64) (allCons (rInt_ok .i64) (allCons (rInt_ok .i64) (allCons (rSl_ok intC_ok) (allCons (rInt_ok .i64) (allCons (rInt_ok .i64) (allCons (rInt_ok .i64) (allCons (rInt_ok .i64) (allCons (rInt_ok .i64) (allCons (rInt_ok .i64) (allCons (rInt_ok .i64) allNil))))))))))))) (eCons (eBlk_ok (allCons (rInt_ok .i64) allNil)) eNil)))⟩
def lift_check_run {R : Type} (N : Nat) (args : List SV) (T : Tab) (kf : SV × Tab → Option R) : Option R :=
  lift_check_m N (Cod.dec api_LiftC (lget (toCs (lget args 0)))) (toI (lget (entCs (entAt T 0)) 0)) (toI (lget (entCs (entAt T 1)) 0)) (toI (lget (entCs (entAt T 1)) 1)) (toI (lget (entCs (entAt T 1)) 2)) (toI (lget (entCs (entAt T 1)) 3)) (lstC intC (lget (entCs (entAt T 1)) 4)) (toI (lget (entCs (entAt T 1)) 5)) (toI (lget (entCs (entAt T 1)) 6)) (toI (lget (entCs (entAt T 1)) 7)) (toI (lget (entCs (entAt T 1)) 8)) (toI (lget (entCs (entAt T 1)) 9)) (toI (lget (entCs (entAt T 1)) 10)) (toI (lget (entCs (entAt T 1)) 11)) (toI (lget (entCs (entAt T 2)) 0)) (fun q0 => kf (lget [.int .i64 q0] 0, [(0, .blk [.int .i64 (toI (lget (entCs (entAt T 0)) 0))]), (1, .blk [.int .i64 (toI (lget (entCs (entAt T 1)) 0)), .int .i64 (toI (lget (entCs (entAt T 1)) 1)), .int .i64 (toI (lget (entCs (entAt T 1)) 2)), .int .i64 (toI (lget (entCs (entAt T 1)) 3)), slC intC (lstC intC (lget (entCs (entAt T 1)) 4)), .int .i64 (toI (lget (entCs (entAt T 1)) 5)), .int .i64 (toI (lget (entCs (entAt T 1)) 6)), .int .i64 (toI (lget (entCs (entAt T 1)) 7)), .int .i64 (toI (lget (entCs (entAt T 1)) 8)), .int .i64 (toI (lget (entCs (entAt T 1)) 9)), .int .i64 (toI (lget (entCs (entAt T 1)) 10)), .int .i64 (toI (lget (entCs (entAt T 1)) 11))]), (2, .blk [.int .i64 (toI (lget (entCs (entAt T 2)) 0))])]))
def lift_check_lp {R : Type} (N : Nat) : Lp R := fun body S k => Option.none
noncomputable def lift_check_go {R : Type} (N : Nat) (args : List SV) (T : Tab) (kf : SV × Tab → Option R) : Option R :=
  lift_check N (Cod.dec api_LiftC (lget (toCs (lget args 0)))) (toI (lget (entCs (entAt T 0)) 0)) (toI (lget (entCs (entAt T 1)) 0)) (toI (lget (entCs (entAt T 1)) 1)) (toI (lget (entCs (entAt T 1)) 2)) (toI (lget (entCs (entAt T 1)) 3)) (lstC intC (lget (entCs (entAt T 1)) 4)) (toI (lget (entCs (entAt T 1)) 5)) (toI (lget (entCs (entAt T 1)) 6)) (toI (lget (entCs (entAt T 1)) 7)) (toI (lget (entCs (entAt T 1)) 8)) (toI (lget (entCs (entAt T 1)) 9)) (toI (lget (entCs (entAt T 1)) 10)) (toI (lget (entCs (entAt T 1)) 11)) (toI (lget (entCs (entAt T 2)) 0)) (fun q0 => kf (lget [.int .i64 q0] 0, [(0, .blk [.int .i64 (toI (lget (entCs (entAt T 0)) 0))]), (1, .blk [.int .i64 (toI (lget (entCs (entAt T 1)) 0)), .int .i64 (toI (lget (entCs (entAt T 1)) 1)), .int .i64 (toI (lget (entCs (entAt T 1)) 2)), .int .i64 (toI (lget (entCs (entAt T 1)) 3)), slC intC (lstC intC (lget (entCs (entAt T 1)) 4)), .int .i64 (toI (lget (entCs (entAt T 1)) 5)), .int .i64 (toI (lget (entCs (entAt T 1)) 6)), .int .i64 (toI (lget (entCs (entAt T 1)) 7)), .int .i64 (toI (lget (entCs (entAt T 1)) 8)), .int .i64 (toI (lget (entCs (entAt T 1)) 9)), .int .i64 (toI (lget (entCs (entAt T 1)) 10)), .int .i64 (toI (lget (entCs (entAt T 1)) 11))]), (2, .blk [.int .i64 (toI (lget (entCs (entAt T 2)) 0))])]))
noncomputable def lift_check_cal {R : Type} (N : Nat) : Cal R := callM (lift_Sides_1_cal N) 56 3 lift_check_sp (lift_check_go N)
theorem lift_check_cal_ok {R : Type} (N : Nat) : CalOk E.P (lift_check_cal (R := R) N) :=
  callM_ok hE (lift_Sides_1_cal_ok N) (lp := lift_check_lp N) (keys := []) kNil (by kernel_rfl) lift_check_sp_ok lift_check_rs_ok (fun args T kf => Eq.trans (lift_check_def N (Cod.dec api_LiftC (lget (toCs (lget args 0)))) (toI (lget (entCs (entAt T 0)) 0)) (toI (lget (entCs (entAt T 1)) 0)) (toI (lget (entCs (entAt T 1)) 1)) (toI (lget (entCs (entAt T 1)) 2)) (toI (lget (entCs (entAt T 1)) 3)) (lstC intC (lget (entCs (entAt T 1)) 4)) (toI (lget (entCs (entAt T 1)) 5)) (toI (lget (entCs (entAt T 1)) 6)) (toI (lget (entCs (entAt T 1)) 7)) (toI (lget (entCs (entAt T 1)) 8)) (toI (lget (entCs (entAt T 1)) 9)) (toI (lget (entCs (entAt T 1)) 10)) (toI (lget (entCs (entAt T 1)) 11)) (toI (lget (entCs (entAt T 2)) 0)) (fun q0 => kf (lget [.int .i64 q0] 0, [(0, .blk [.int .i64 (toI (lget (entCs (entAt T 0)) 0))]), (1, .blk [.int .i64 (toI (lget (entCs (entAt T 1)) 0)), .int .i64 (toI (lget (entCs (entAt T 1)) 1)), .int .i64 (toI (lget (entCs (entAt T 1)) 2)), .int .i64 (toI (lget (entCs (entAt T 1)) 3)), slC intC (lstC intC (lget (entCs (entAt T 1)) 4)), .int .i64 (toI (lget (entCs (entAt T 1)) 5)), .int .i64 (toI (lget (entCs (entAt T 1)) 6)), .int .i64 (toI (lget (entCs (entAt T 1)) 7)), .int .i64 (toI (lget (entCs (entAt T 1)) 8)), .int .i64 (toI (lget (entCs (entAt T 1)) 9)), .int .i64 (toI (lget (entCs (entAt T 1)) 10)), .int .i64 (toI (lget (entCs (entAt T 1)) 11))]), (2, .blk [.int .i64 (toI (lget (entCs (entAt T 2)) 0))])]))) (by kernel_rfl : lift_check_run N args T kf = fnM E (lift_Sides_1_cal N) (lift_check_lp N) 56 (lift_check_sp.vs args) (lift_check_sp.tab T) 3 (resK lift_check_rs kf)))


def lift_Sides_m {R : Type} (N : Nat) (a60 : api_Lift) (a61 : Int) (a62 : Int) (k : Int → Int → Int → Option R) : Option R :=
  lift_check N a60 a61 (api_Lift.Car a60) (api_Lift.Counter a60) (api_Lift.Rated a60) (api_Lift.Rope a60) (api_Lift.Floors a60) (api_Lift.Num a60) (api_Lift.Den a60) (api_Lift.Speed a60) (api_Lift.Accel a60) (api_Lift.Over a60) (api_Lift.Stiff a60) (api_Lift.Level a60) a62 (fun r97 =>
  bif r97 != (0 : Int) then
   k (0 : Int) (0 : Int) r97
  else
   lift_sides N a60 a61 a62 (fun r98 r99 =>
   k r98 r99 (0 : Int)))
noncomputable def lift_Sides {R : Type} : Nat → api_Lift → Int → Int → (Int → Int → Int → Option R) → Option R := lock (@lift_Sides_m R)
theorem lift_Sides_def {R : Type} (N : Nat) (a60 : api_Lift) (a61 : Int) (a62 : Int) (k : Int → Int → Int → Option R) : lift_Sides N a60 a61 a62 k = lift_Sides_m N a60 a61 a62 k := by unfold lift_Sides; rw [lock_eq]
def lift_Sides_sp : Sp := ⟨[rAgg api_LiftC, rInt .i64, rInt .i64], []⟩
theorem lift_Sides_sp_ok : lift_Sides_sp.Ok := ⟨(allCons (rAgg_ok api_LiftC_ok api_LiftC_len) (allCons (rInt_ok .i64) (allCons (rInt_ok .i64) allNil))), eNil⟩
def lift_Sides_rs : Sp := ⟨[rTup [rInt .i64, rInt .i64, rInt .i64]], []⟩
theorem lift_Sides_rs_ok : lift_Sides_rs.Ok := ⟨(allCons (rTup_ok (allCons (rInt_ok .i64) (allCons (rInt_ok .i64) (allCons (rInt_ok .i64) allNil)))) allNil), eNil⟩
def lift_Sides_run {R : Type} (N : Nat) (args : List SV) (T : Tab) (kf : SV × Tab → Option R) : Option R :=
  lift_Sides_m N (Cod.dec api_LiftC (lget (toCs (lget args 0)))) (toI (lget args 1)) (toI (lget args 2)) (fun q0 q1 q2 => kf (lget [.tup [.int .i64 q0, .int .i64 q1, .int .i64 q2]] 0, []))
def lift_Sides_lp {R : Type} (N : Nat) : Lp R := fun body S k => Option.none
noncomputable def lift_Sides_go {R : Type} (N : Nat) (args : List SV) (T : Tab) (kf : SV × Tab → Option R) : Option R :=
  lift_Sides N (Cod.dec api_LiftC (lget (toCs (lget args 0)))) (toI (lget args 1)) (toI (lget args 2)) (fun q0 q1 q2 => kf (lget [.tup [.int .i64 q0, .int .i64 q1, .int .i64 q2]] 0, []))
noncomputable def lift_Sides_cal {R : Type} (N : Nat) : Cal R := callM (lift_check_cal N) 29 0 lift_Sides_sp (lift_Sides_go N)
theorem lift_Sides_cal_ok {R : Type} (N : Nat) : CalOk E.P (lift_Sides_cal (R := R) N) :=
  callM_ok hE (lift_check_cal_ok N) (lp := lift_Sides_lp N) (keys := []) kNil (by kernel_rfl) lift_Sides_sp_ok lift_Sides_rs_ok (fun args T kf => Eq.trans (lift_Sides_def N (Cod.dec api_LiftC (lget (toCs (lget args 0)))) (toI (lget args 1)) (toI (lget args 2)) (fun q0 q1 q2 => kf (lget [.tup [.int .i64 q0, .int .i64 q1, .int .i64 q2]] 0, []))) (by kernel_rfl : lift_Sides_run N args T kf = fnM E (lift_check_cal N) (lift_Sides_lp N) 29 (lift_Sides_sp.vs args) (lift_Sides_sp.tab T) 0 (resK lift_Sides_rs kf)))


def newelref05_Sides_m {R : Type} (N : Nat) (a100 : api_Lift) (a101 : Int) (a102 : Int) (k : Int → Int → Int → Option R) : Option R :=
  newelref05_Check N a100 (fun r103 =>
  bif r103 != (0 : Int) then
   k (0 : Int) (0 : Int) (50 : Int)
  else
   newelref05_Top N a100 (fun r104 =>
   newelref05_within N a101 (0 : Int) r104 (fun r105 =>
   bif !r105 then
    k (0 : Int) (0 : Int) (1 : Int)
   else
    newelref05_within N a102 (0 : Int) (api_Lift.Rated a100) (fun r106 =>
    bif !r106 then
     k (0 : Int) (0 : Int) (1 : Int)
    else
     newelref05_sides N a100 a101 a102 (fun r107 r108 =>
     k r107 r108 (0 : Int))))))
noncomputable def newelref05_Sides {R : Type} : Nat → api_Lift → Int → Int → (Int → Int → Int → Option R) → Option R := lock (@newelref05_Sides_m R)
theorem newelref05_Sides_def {R : Type} (N : Nat) (a100 : api_Lift) (a101 : Int) (a102 : Int) (k : Int → Int → Int → Option R) : newelref05_Sides N a100 a101 a102 k = newelref05_Sides_m N a100 a101 a102 k := by unfold newelref05_Sides; rw [lock_eq]
def newelref05_Sides_sp : Sp := ⟨[rAgg api_LiftC, rInt .i64, rInt .i64], []⟩
theorem newelref05_Sides_sp_ok : newelref05_Sides_sp.Ok := ⟨(allCons (rAgg_ok api_LiftC_ok api_LiftC_len) (allCons (rInt_ok .i64) (allCons (rInt_ok .i64) allNil))), eNil⟩
def newelref05_Sides_rs : Sp := ⟨[rTup [rInt .i64, rInt .i64, rInt .i64]], []⟩
theorem newelref05_Sides_rs_ok : newelref05_Sides_rs.Ok := ⟨(allCons (rTup_ok (allCons (rInt_ok .i64) (allCons (rInt_ok .i64) (allCons (rInt_ok .i64) allNil)))) allNil), eNil⟩
def newelref05_Sides_run {R : Type} (N : Nat) (args : List SV) (T : Tab) (kf : SV × Tab → Option R) : Option R :=
  newelref05_Sides_m N (Cod.dec api_LiftC (lget (toCs (lget args 0)))) (toI (lget args 1)) (toI (lget args 2)) (fun q0 q1 q2 => kf (lget [.tup [.int .i64 q0, .int .i64 q1, .int .i64 q2]] 0, []))
def newelref05_Sides_lp {R : Type} (N : Nat) : Lp R := fun body S k => Option.none
noncomputable def newelref05_Sides_go {R : Type} (N : Nat) (args : List SV) (T : Tab) (kf : SV × Tab → Option R) : Option R :=
  newelref05_Sides N (Cod.dec api_LiftC (lget (toCs (lget args 0)))) (toI (lget args 1)) (toI (lget args 2)) (fun q0 q1 q2 => kf (lget [.tup [.int .i64 q0, .int .i64 q1, .int .i64 q2]] 0, []))
noncomputable def newelref05_Sides_cal {R : Type} (N : Nat) : Cal R := callM (lift_Sides_cal N) 30 0 newelref05_Sides_sp (newelref05_Sides_go N)
theorem newelref05_Sides_cal_ok {R : Type} (N : Nat) : CalOk E.P (newelref05_Sides_cal (R := R) N) :=
  callM_ok hE (lift_Sides_cal_ok N) (lp := newelref05_Sides_lp N) (keys := []) kNil (by kernel_rfl) newelref05_Sides_sp_ok newelref05_Sides_rs_ok (fun args T kf => Eq.trans (newelref05_Sides_def N (Cod.dec api_LiftC (lget (toCs (lget args 0)))) (toI (lget args 1)) (toI (lget args 2)) (fun q0 q1 q2 => kf (lget [.tup [.int .i64 q0, .int .i64 q1, .int .i64 q2]] 0, []))) (by kernel_rfl : newelref05_Sides_run N args T kf = fnM E (lift_Sides_cal N) (newelref05_Sides_lp N) 30 (newelref05_Sides_sp.vs args) (newelref05_Sides_sp.tab T) 0 (resK newelref05_Sides_rs kf)))


def lift_Slips_1_m {R : Type} (N : Nat) (a130 : Int) (a131 : Int) (a132 : Int) (a133 : Int) (a134 : Int) (a135 : Arr Int) (a136 : Int) (a137 : Int) (a138 : Int) (a139 : Int) (a140 : Int) (a141 : Int) (a142 : Int) (a143 : Int) (a144 : Int) (k : Bool → Option R) : Option R :=
  lift_top N (api_Lift.mk a131 a132 a133 a134 a135 a136 a137 a138 a139 a140 a141 a142) (fun r145 =>
  lift_between N a130 (0 : Int) r145 (fun r146 =>
  bif r146 then
   lift_between N a143 (0 : Int) a133 (fun r147 =>
   bif r147 then
    lift_between N a144 (0 : Int) (999 : Int) (fun r148 =>
    k r148)
   else
    k false)
  else
   k false))
noncomputable def lift_Slips_1 {R : Type} : Nat → Int → Int → Int → Int → Int → Arr Int → Int → Int → Int → Int → Int → Int → Int → Int → Int → (Bool → Option R) → Option R := lock (@lift_Slips_1_m R)
theorem lift_Slips_1_def {R : Type} (N : Nat) (a130 : Int) (a131 : Int) (a132 : Int) (a133 : Int) (a134 : Int) (a135 : Arr Int) (a136 : Int) (a137 : Int) (a138 : Int) (a139 : Int) (a140 : Int) (a141 : Int) (a142 : Int) (a143 : Int) (a144 : Int) (k : Bool → Option R) : lift_Slips_1 N a130 a131 a132 a133 a134 a135 a136 a137 a138 a139 a140 a141 a142 a143 a144 k = lift_Slips_1_m N a130 a131 a132 a133 a134 a135 a136 a137 a138 a139 a140 a141 a142 a143 a144 k := by unfold lift_Slips_1; rw [lock_eq]
def lift_Slips_1_sp : Sp := ⟨[rPtr 0 0, rPtr 1 0, rPtr 2 0, rPtr 3 0], [(0, eBlk [rInt .i64]), (1, eBlk [rInt .i64, rInt .i64, rInt .i64, rInt .i64, rSl intC, rInt .i64, rInt .i64, rInt .i64, rInt .i64, rInt .i64, rInt .i64, rInt .i64]), (2, eBlk [rInt .i64]), (3, eBlk [rInt .i64])]⟩
theorem lift_Slips_1_sp_ok : lift_Slips_1_sp.Ok := ⟨(allCons (rPtr_ok 0 0) (allCons (rPtr_ok 1 0) (allCons (rPtr_ok 2 0) (allCons (rPtr_ok 3 0) allNil)))), (eCons (eBlk_ok (allCons (rInt_ok .i64) allNil)) (eCons (eBlk_ok (allCons (rInt_ok .i64) (allCons (rInt_ok .i64) (allCons (rInt_ok .i64) (allCons (rInt_ok .i64) (allCons (rSl_ok intC_ok) (allCons (rInt_ok .i64) (allCons (rInt_ok .i64) (allCons (rInt_ok .i64) (allCons (rInt_ok .i64) (allCons (rInt_ok .i64) (allCons (rInt_ok .i64) (allCons (rInt_ok .i64) allNil))))))))))))) (eCons (eBlk_ok (allCons (rInt_ok .i64) allNil)) (eCons (eBlk_ok (allCons (rInt_ok .i64) allNil)) eNil))))⟩
def lift_Slips_1_rs : Sp := ⟨[rBool], [(0, eBlk [rInt .i64]), (1, eBlk [rInt .i64, rInt .i64, rInt .i64, rInt .i64, rSl intC, rInt .i64, rInt .i64, rInt .i64, rInt .i64, rInt .i64, rInt .i64, rInt .i64]), (2, eBlk [rInt .i64]), (3, eBlk [rInt .i64])]⟩
theorem lift_Slips_1_rs_ok : lift_Slips_1_rs.Ok := ⟨(allCons rBool_ok allNil), (eCons (eBlk_ok (allCons (rInt_ok .i64) allNil)) (eCons (eBlk_ok (allCons (rInt_ok .i64) (allCons (rInt_ok .i64) (allCons (rInt_ok .i64) (allCons (rInt_ok .i64) (allCons (rSl_ok intC_ok) (allCons (rInt_ok .i64) (allCons (rInt_ok .i64) (allCons (rInt_ok .i64) (allCons (rInt_ok .i64) (allCons (rInt_ok .i64) (allCons (rInt_ok .i64) (allCons (rInt_ok .i64) allNil))))))))))))) (eCons (eBlk_ok (allCons (rInt_ok .i64) allNil)) (eCons (eBlk_ok (allCons (rInt_ok .i64) allNil)) eNil))))⟩
def lift_Slips_1_run {R : Type} (N : Nat) (args : List SV) (T : Tab) (kf : SV × Tab → Option R) : Option R :=
  lift_Slips_1_m N (toI (lget (entCs (entAt T 0)) 0)) (toI (lget (entCs (entAt T 1)) 0)) (toI (lget (entCs (entAt T 1)) 1)) (toI (lget (entCs (entAt T 1)) 2)) (toI (lget (entCs (entAt T 1)) 3)) (lstC intC (lget (entCs (entAt T 1)) 4)) (toI (lget (entCs (entAt T 1)) 5)) (toI (lget (entCs (entAt T 1)) 6)) (toI (lget (entCs (entAt T 1)) 7)) (toI (lget (entCs (entAt T 1)) 8)) (toI (lget (entCs (entAt T 1)) 9)) (toI (lget (entCs (entAt T 1)) 10)) (toI (lget (entCs (entAt T 1)) 11)) (toI (lget (entCs (entAt T 2)) 0)) (toI (lget (entCs (entAt T 3)) 0)) (fun q0 => kf (lget [.bool q0] 0, [(0, .blk [.int .i64 (toI (lget (entCs (entAt T 0)) 0))]), (1, .blk [.int .i64 (toI (lget (entCs (entAt T 1)) 0)), .int .i64 (toI (lget (entCs (entAt T 1)) 1)), .int .i64 (toI (lget (entCs (entAt T 1)) 2)), .int .i64 (toI (lget (entCs (entAt T 1)) 3)), slC intC (lstC intC (lget (entCs (entAt T 1)) 4)), .int .i64 (toI (lget (entCs (entAt T 1)) 5)), .int .i64 (toI (lget (entCs (entAt T 1)) 6)), .int .i64 (toI (lget (entCs (entAt T 1)) 7)), .int .i64 (toI (lget (entCs (entAt T 1)) 8)), .int .i64 (toI (lget (entCs (entAt T 1)) 9)), .int .i64 (toI (lget (entCs (entAt T 1)) 10)), .int .i64 (toI (lget (entCs (entAt T 1)) 11))]), (2, .blk [.int .i64 (toI (lget (entCs (entAt T 2)) 0))]), (3, .blk [.int .i64 (toI (lget (entCs (entAt T 3)) 0))])]))
def lift_Slips_1_lp {R : Type} (N : Nat) : Lp R := fun body S k => Option.none
noncomputable def lift_Slips_1_go {R : Type} (N : Nat) (args : List SV) (T : Tab) (kf : SV × Tab → Option R) : Option R :=
  lift_Slips_1 N (toI (lget (entCs (entAt T 0)) 0)) (toI (lget (entCs (entAt T 1)) 0)) (toI (lget (entCs (entAt T 1)) 1)) (toI (lget (entCs (entAt T 1)) 2)) (toI (lget (entCs (entAt T 1)) 3)) (lstC intC (lget (entCs (entAt T 1)) 4)) (toI (lget (entCs (entAt T 1)) 5)) (toI (lget (entCs (entAt T 1)) 6)) (toI (lget (entCs (entAt T 1)) 7)) (toI (lget (entCs (entAt T 1)) 8)) (toI (lget (entCs (entAt T 1)) 9)) (toI (lget (entCs (entAt T 1)) 10)) (toI (lget (entCs (entAt T 1)) 11)) (toI (lget (entCs (entAt T 2)) 0)) (toI (lget (entCs (entAt T 3)) 0)) (fun q0 => kf (lget [.bool q0] 0, [(0, .blk [.int .i64 (toI (lget (entCs (entAt T 0)) 0))]), (1, .blk [.int .i64 (toI (lget (entCs (entAt T 1)) 0)), .int .i64 (toI (lget (entCs (entAt T 1)) 1)), .int .i64 (toI (lget (entCs (entAt T 1)) 2)), .int .i64 (toI (lget (entCs (entAt T 1)) 3)), slC intC (lstC intC (lget (entCs (entAt T 1)) 4)), .int .i64 (toI (lget (entCs (entAt T 1)) 5)), .int .i64 (toI (lget (entCs (entAt T 1)) 6)), .int .i64 (toI (lget (entCs (entAt T 1)) 7)), .int .i64 (toI (lget (entCs (entAt T 1)) 8)), .int .i64 (toI (lget (entCs (entAt T 1)) 9)), .int .i64 (toI (lget (entCs (entAt T 1)) 10)), .int .i64 (toI (lget (entCs (entAt T 1)) 11))]), (2, .blk [.int .i64 (toI (lget (entCs (entAt T 2)) 0))]), (3, .blk [.int .i64 (toI (lget (entCs (entAt T 3)) 0))])]))
noncomputable def lift_Slips_1_cal {R : Type} (N : Nat) : Cal R := callM (newelref05_Sides_cal N) 61 4 lift_Slips_1_sp (lift_Slips_1_go N)
theorem lift_Slips_1_cal_ok {R : Type} (N : Nat) : CalOk E.P (lift_Slips_1_cal (R := R) N) :=
  callM_ok hE (newelref05_Sides_cal_ok N) (lp := lift_Slips_1_lp N) (keys := []) kNil (by kernel_rfl) lift_Slips_1_sp_ok lift_Slips_1_rs_ok (fun args T kf => Eq.trans (lift_Slips_1_def N (toI (lget (entCs (entAt T 0)) 0)) (toI (lget (entCs (entAt T 1)) 0)) (toI (lget (entCs (entAt T 1)) 1)) (toI (lget (entCs (entAt T 1)) 2)) (toI (lget (entCs (entAt T 1)) 3)) (lstC intC (lget (entCs (entAt T 1)) 4)) (toI (lget (entCs (entAt T 1)) 5)) (toI (lget (entCs (entAt T 1)) 6)) (toI (lget (entCs (entAt T 1)) 7)) (toI (lget (entCs (entAt T 1)) 8)) (toI (lget (entCs (entAt T 1)) 9)) (toI (lget (entCs (entAt T 1)) 10)) (toI (lget (entCs (entAt T 1)) 11)) (toI (lget (entCs (entAt T 2)) 0)) (toI (lget (entCs (entAt T 3)) 0)) (fun q0 => kf (lget [.bool q0] 0, [(0, .blk [.int .i64 (toI (lget (entCs (entAt T 0)) 0))]), (1, .blk [.int .i64 (toI (lget (entCs (entAt T 1)) 0)), .int .i64 (toI (lget (entCs (entAt T 1)) 1)), .int .i64 (toI (lget (entCs (entAt T 1)) 2)), .int .i64 (toI (lget (entCs (entAt T 1)) 3)), slC intC (lstC intC (lget (entCs (entAt T 1)) 4)), .int .i64 (toI (lget (entCs (entAt T 1)) 5)), .int .i64 (toI (lget (entCs (entAt T 1)) 6)), .int .i64 (toI (lget (entCs (entAt T 1)) 7)), .int .i64 (toI (lget (entCs (entAt T 1)) 8)), .int .i64 (toI (lget (entCs (entAt T 1)) 9)), .int .i64 (toI (lget (entCs (entAt T 1)) 10)), .int .i64 (toI (lget (entCs (entAt T 1)) 11))]), (2, .blk [.int .i64 (toI (lget (entCs (entAt T 2)) 0))]), (3, .blk [.int .i64 (toI (lget (entCs (entAt T 3)) 0))])]))) (by kernel_rfl : lift_Slips_1_run N args T kf = fnM E (newelref05_Sides_cal N) (lift_Slips_1_lp N) 61 (lift_Slips_1_sp.vs args) (lift_Slips_1_sp.tab T) 4 (resK lift_Slips_1_rs kf)))


def lift_check_v2_m {R : Type} (N : Nat) (a113 : api_Lift) (a114 : Int) (a115 : Int) (a116 : Int) (a117 : Int) (a118 : Int) (a119 : Arr Int) (a120 : Int) (a121 : Int) (a122 : Int) (a123 : Int) (a124 : Int) (a125 : Int) (a126 : Int) (a127 : Int) (a128 : Int) (k : Int → Option R) : Option R :=
  lift_Check N a113 (fun r129 =>
  bif r129 != (0 : Int) then
   k r129
  else
   lift_Slips_1 N a114 a115 a116 a117 a118 a119 a120 a121 a122 a123 a124 a125 a126 a127 a128 (fun r149 =>
   bif !r149 then
    k (1 : Int)
   else
    k (0 : Int)))
noncomputable def lift_check_v2 {R : Type} : Nat → api_Lift → Int → Int → Int → Int → Int → Arr Int → Int → Int → Int → Int → Int → Int → Int → Int → Int → (Int → Option R) → Option R := lock (@lift_check_v2_m R)
theorem lift_check_v2_def {R : Type} (N : Nat) (a113 : api_Lift) (a114 : Int) (a115 : Int) (a116 : Int) (a117 : Int) (a118 : Int) (a119 : Arr Int) (a120 : Int) (a121 : Int) (a122 : Int) (a123 : Int) (a124 : Int) (a125 : Int) (a126 : Int) (a127 : Int) (a128 : Int) (k : Int → Option R) : lift_check_v2 N a113 a114 a115 a116 a117 a118 a119 a120 a121 a122 a123 a124 a125 a126 a127 a128 k = lift_check_v2_m N a113 a114 a115 a116 a117 a118 a119 a120 a121 a122 a123 a124 a125 a126 a127 a128 k := by unfold lift_check_v2; rw [lock_eq]
def lift_check_v2_sp : Sp := ⟨[rAgg api_LiftC, rFunc 61 [rPtr 0 0, rPtr 1 0, rPtr 2 0, rPtr 3 0]], [(0, eBlk [rInt .i64]), (1, eBlk [rInt .i64, rInt .i64, rInt .i64, rInt .i64, rSl intC, rInt .i64, rInt .i64, rInt .i64, rInt .i64, rInt .i64, rInt .i64, rInt .i64]), (2, eBlk [rInt .i64]), (3, eBlk [rInt .i64])]⟩
theorem lift_check_v2_sp_ok : lift_check_v2_sp.Ok := ⟨(allCons (rAgg_ok api_LiftC_ok api_LiftC_len) (allCons (rFunc_ok 61 (allCons (rPtr_ok 0 0) (allCons (rPtr_ok 1 0) (allCons (rPtr_ok 2 0) (allCons (rPtr_ok 3 0) allNil))))) allNil)), (eCons (eBlk_ok (allCons (rInt_ok .i64) allNil)) (eCons (eBlk_ok (allCons (rInt_ok .i64) (allCons (rInt_ok .i64) (allCons (rInt_ok .i64) (allCons (rInt_ok .i64) (allCons (rSl_ok intC_ok) (allCons (rInt_ok .i64) (allCons (rInt_ok .i64) (allCons (rInt_ok .i64) (allCons (rInt_ok .i64) (allCons (rInt_ok .i64) (allCons (rInt_ok .i64) (allCons (rInt_ok .i64) allNil))))))))))))) (eCons (eBlk_ok (allCons (rInt_ok .i64) allNil)) (eCons (eBlk_ok (allCons (rInt_ok .i64) allNil)) eNil))))⟩
def lift_check_v2_rs : Sp := ⟨[rInt .i64], [(0, eBlk [rInt .i64]), (1, eBlk [rInt .i64, rInt .i64, rInt .i64, rInt .i64, rSl intC, rInt .i64, rInt .i64, rInt .i64, rInt .i64, rInt .i64, rInt .i64, rInt .i64]), (2, eBlk [rInt .i64]), (3, eBlk [rInt .i64])]⟩
theorem lift_check_v2_rs_ok : lift_check_v2_rs.Ok := ⟨(allCons (rInt_ok .i64) allNil), (eCons (eBlk_ok (allCons (rInt_ok .i64) allNil)) (eCons (eBlk_ok (allCons (rInt_ok .i64) (allCons (rInt_ok .i64) (allCons (rInt_ok .i64) (allCons (rInt_ok .i64) (allCons (rSl_ok intC_ok) (allCons (rInt_ok .i64) (allCons (rInt_ok .i64) (allCons (rInt_ok .i64) (allCons (rInt_ok .i64) (allCons (rInt_ok .i64) (allCons (rInt_ok .i64) (allCons (rInt_ok .i64) allNil))))))))))))) (eCons (eBlk_ok (allCons (rInt_ok .i64) allNil)) (eCons (eBlk_ok (allCons (rInt_ok .i64) allNil)) eNil))))⟩
def lift_check_v2_run {R : Type} (N : Nat) (args : List SV) (T : Tab) (kf : SV × Tab → Option R) : Option R :=
  lift_check_v2_m N (Cod.dec api_LiftC (lget (toCs (lget args 0)))) (toI (lget (entCs (entAt T 0)) 0)) (toI (lget (entCs (entAt T 1)) 0)) (toI (lget (entCs (entAt T 1)) 1)) (toI (lget (entCs (entAt T 1)) 2)) (toI (lget (entCs (entAt T 1)) 3)) (lstC intC (lget (entCs (entAt T 1)) 4)) (toI (lget (entCs (entAt T 1)) 5)) (toI (lget (entCs (entAt T 1)) 6)) (toI (lget (entCs (entAt T 1)) 7)) (toI (lget (entCs (entAt T 1)) 8)) (toI (lget (entCs (entAt T 1)) 9)) (toI (lget (entCs (entAt T 1)) 10)) (toI (lget (entCs (entAt T 1)) 11)) (toI (lget (entCs (entAt T 2)) 0)) (toI (lget (entCs (entAt T 3)) 0)) (fun q0 => kf (lget [.int .i64 q0] 0, [(0, .blk [.int .i64 (toI (lget (entCs (entAt T 0)) 0))]), (1, .blk [.int .i64 (toI (lget (entCs (entAt T 1)) 0)), .int .i64 (toI (lget (entCs (entAt T 1)) 1)), .int .i64 (toI (lget (entCs (entAt T 1)) 2)), .int .i64 (toI (lget (entCs (entAt T 1)) 3)), slC intC (lstC intC (lget (entCs (entAt T 1)) 4)), .int .i64 (toI (lget (entCs (entAt T 1)) 5)), .int .i64 (toI (lget (entCs (entAt T 1)) 6)), .int .i64 (toI (lget (entCs (entAt T 1)) 7)), .int .i64 (toI (lget (entCs (entAt T 1)) 8)), .int .i64 (toI (lget (entCs (entAt T 1)) 9)), .int .i64 (toI (lget (entCs (entAt T 1)) 10)), .int .i64 (toI (lget (entCs (entAt T 1)) 11))]), (2, .blk [.int .i64 (toI (lget (entCs (entAt T 2)) 0))]), (3, .blk [.int .i64 (toI (lget (entCs (entAt T 3)) 0))])]))
def lift_check_v2_lp {R : Type} (N : Nat) : Lp R := fun body S k => Option.none
noncomputable def lift_check_v2_go {R : Type} (N : Nat) (args : List SV) (T : Tab) (kf : SV × Tab → Option R) : Option R :=
  lift_check_v2 N (Cod.dec api_LiftC (lget (toCs (lget args 0)))) (toI (lget (entCs (entAt T 0)) 0)) (toI (lget (entCs (entAt T 1)) 0)) (toI (lget (entCs (entAt T 1)) 1)) (toI (lget (entCs (entAt T 1)) 2)) (toI (lget (entCs (entAt T 1)) 3)) (lstC intC (lget (entCs (entAt T 1)) 4)) (toI (lget (entCs (entAt T 1)) 5)) (toI (lget (entCs (entAt T 1)) 6)) (toI (lget (entCs (entAt T 1)) 7)) (toI (lget (entCs (entAt T 1)) 8)) (toI (lget (entCs (entAt T 1)) 9)) (toI (lget (entCs (entAt T 1)) 10)) (toI (lget (entCs (entAt T 1)) 11)) (toI (lget (entCs (entAt T 2)) 0)) (toI (lget (entCs (entAt T 3)) 0)) (fun q0 => kf (lget [.int .i64 q0] 0, [(0, .blk [.int .i64 (toI (lget (entCs (entAt T 0)) 0))]), (1, .blk [.int .i64 (toI (lget (entCs (entAt T 1)) 0)), .int .i64 (toI (lget (entCs (entAt T 1)) 1)), .int .i64 (toI (lget (entCs (entAt T 1)) 2)), .int .i64 (toI (lget (entCs (entAt T 1)) 3)), slC intC (lstC intC (lget (entCs (entAt T 1)) 4)), .int .i64 (toI (lget (entCs (entAt T 1)) 5)), .int .i64 (toI (lget (entCs (entAt T 1)) 6)), .int .i64 (toI (lget (entCs (entAt T 1)) 7)), .int .i64 (toI (lget (entCs (entAt T 1)) 8)), .int .i64 (toI (lget (entCs (entAt T 1)) 9)), .int .i64 (toI (lget (entCs (entAt T 1)) 10)), .int .i64 (toI (lget (entCs (entAt T 1)) 11))]), (2, .blk [.int .i64 (toI (lget (entCs (entAt T 2)) 0))]), (3, .blk [.int .i64 (toI (lget (entCs (entAt T 3)) 0))])]))
noncomputable def lift_check_v2_cal {R : Type} (N : Nat) : Cal R := callM (lift_Slips_1_cal N) 56 4 lift_check_v2_sp (lift_check_v2_go N)
theorem lift_check_v2_cal_ok {R : Type} (N : Nat) : CalOk E.P (lift_check_v2_cal (R := R) N) :=
  callM_ok hE (lift_Slips_1_cal_ok N) (lp := lift_check_v2_lp N) (keys := []) kNil (by kernel_rfl) lift_check_v2_sp_ok lift_check_v2_rs_ok (fun args T kf => Eq.trans (lift_check_v2_def N (Cod.dec api_LiftC (lget (toCs (lget args 0)))) (toI (lget (entCs (entAt T 0)) 0)) (toI (lget (entCs (entAt T 1)) 0)) (toI (lget (entCs (entAt T 1)) 1)) (toI (lget (entCs (entAt T 1)) 2)) (toI (lget (entCs (entAt T 1)) 3)) (lstC intC (lget (entCs (entAt T 1)) 4)) (toI (lget (entCs (entAt T 1)) 5)) (toI (lget (entCs (entAt T 1)) 6)) (toI (lget (entCs (entAt T 1)) 7)) (toI (lget (entCs (entAt T 1)) 8)) (toI (lget (entCs (entAt T 1)) 9)) (toI (lget (entCs (entAt T 1)) 10)) (toI (lget (entCs (entAt T 1)) 11)) (toI (lget (entCs (entAt T 2)) 0)) (toI (lget (entCs (entAt T 3)) 0)) (fun q0 => kf (lget [.int .i64 q0] 0, [(0, .blk [.int .i64 (toI (lget (entCs (entAt T 0)) 0))]), (1, .blk [.int .i64 (toI (lget (entCs (entAt T 1)) 0)), .int .i64 (toI (lget (entCs (entAt T 1)) 1)), .int .i64 (toI (lget (entCs (entAt T 1)) 2)), .int .i64 (toI (lget (entCs (entAt T 1)) 3)), slC intC (lstC intC (lget (entCs (entAt T 1)) 4)), .int .i64 (toI (lget (entCs (entAt T 1)) 5)), .int .i64 (toI (lget (entCs (entAt T 1)) 6)), .int .i64 (toI (lget (entCs (entAt T 1)) 7)), .int .i64 (toI (lget (entCs (entAt T 1)) 8)), .int .i64 (toI (lget (entCs (entAt T 1)) 9)), .int .i64 (toI (lget (entCs (entAt T 1)) 10)), .int .i64 (toI (lget (entCs (entAt T 1)) 11))]), (2, .blk [.int .i64 (toI (lget (entCs (entAt T 2)) 0))]), (3, .blk [.int .i64 (toI (lget (entCs (entAt T 3)) 0))])]))) (by kernel_rfl : lift_check_v2_run N args T kf = fnM E (lift_Slips_1_cal N) (lift_check_v2_lp N) 56 (lift_check_v2_sp.vs args) (lift_check_v2_sp.tab T) 4 (resK lift_check_v2_rs kf)))


def lift_Slips_m {R : Type} (N : Nat) (a109 : api_Lift) (a110 : Int) (a111 : Int) (a112 : Int) (k : Bool → Int → Option R) : Option R :=
  lift_check_v2 N a109 a110 (api_Lift.Car a109) (api_Lift.Counter a109) (api_Lift.Rated a109) (api_Lift.Rope a109) (api_Lift.Floors a109) (api_Lift.Num a109) (api_Lift.Den a109) (api_Lift.Speed a109) (api_Lift.Accel a109) (api_Lift.Over a109) (api_Lift.Stiff a109) (api_Lift.Level a109) a111 a112 (fun r150 =>
  bif r150 != (0 : Int) then
   k false r150
  else
   lift_slips N a109 a110 a111 a112 (fun r151 =>
   k r151 (0 : Int)))
noncomputable def lift_Slips {R : Type} : Nat → api_Lift → Int → Int → Int → (Bool → Int → Option R) → Option R := lock (@lift_Slips_m R)
theorem lift_Slips_def {R : Type} (N : Nat) (a109 : api_Lift) (a110 : Int) (a111 : Int) (a112 : Int) (k : Bool → Int → Option R) : lift_Slips N a109 a110 a111 a112 k = lift_Slips_m N a109 a110 a111 a112 k := by unfold lift_Slips; rw [lock_eq]
def lift_Slips_sp : Sp := ⟨[rAgg api_LiftC, rInt .i64, rInt .i64, rInt .i64], []⟩
theorem lift_Slips_sp_ok : lift_Slips_sp.Ok := ⟨(allCons (rAgg_ok api_LiftC_ok api_LiftC_len) (allCons (rInt_ok .i64) (allCons (rInt_ok .i64) (allCons (rInt_ok .i64) allNil)))), eNil⟩
def lift_Slips_rs : Sp := ⟨[rTup [rBool, rInt .i64]], []⟩
theorem lift_Slips_rs_ok : lift_Slips_rs.Ok := ⟨(allCons (rTup_ok (allCons rBool_ok (allCons (rInt_ok .i64) allNil))) allNil), eNil⟩
def lift_Slips_run {R : Type} (N : Nat) (args : List SV) (T : Tab) (kf : SV × Tab → Option R) : Option R :=
  lift_Slips_m N (Cod.dec api_LiftC (lget (toCs (lget args 0)))) (toI (lget args 1)) (toI (lget args 2)) (toI (lget args 3)) (fun q0 q1 => kf (lget [.tup [.bool q0, .int .i64 q1]] 0, []))
def lift_Slips_lp {R : Type} (N : Nat) : Lp R := fun body S k => Option.none
noncomputable def lift_Slips_go {R : Type} (N : Nat) (args : List SV) (T : Tab) (kf : SV × Tab → Option R) : Option R :=
  lift_Slips N (Cod.dec api_LiftC (lget (toCs (lget args 0)))) (toI (lget args 1)) (toI (lget args 2)) (toI (lget args 3)) (fun q0 q1 => kf (lget [.tup [.bool q0, .int .i64 q1]] 0, []))
noncomputable def lift_Slips_cal {R : Type} (N : Nat) : Cal R := callM (lift_check_v2_cal N) 22 0 lift_Slips_sp (lift_Slips_go N)
theorem lift_Slips_cal_ok {R : Type} (N : Nat) : CalOk E.P (lift_Slips_cal (R := R) N) :=
  callM_ok hE (lift_check_v2_cal_ok N) (lp := lift_Slips_lp N) (keys := []) kNil (by kernel_rfl) lift_Slips_sp_ok lift_Slips_rs_ok (fun args T kf => Eq.trans (lift_Slips_def N (Cod.dec api_LiftC (lget (toCs (lget args 0)))) (toI (lget args 1)) (toI (lget args 2)) (toI (lget args 3)) (fun q0 q1 => kf (lget [.tup [.bool q0, .int .i64 q1]] 0, []))) (by kernel_rfl : lift_Slips_run N args T kf = fnM E (lift_check_v2_cal N) (lift_Slips_lp N) 22 (lift_Slips_sp.vs args) (lift_Slips_sp.tab T) 0 (resK lift_Slips_rs kf)))


def newelref05_Slips_m {R : Type} (N : Nat) (a152 : api_Lift) (a153 : Int) (a154 : Int) (a155 : Int) (k : Bool → Int → Option R) : Option R :=
  newelref05_Sides N a152 a153 a154 (fun r156 r157 r158 =>
  bif r158 != (0 : Int) then
   k false r158
  else
   newelref05_within N a155 (0 : Int) (999 : Int) (fun r159 =>
   bif !r159 then
    k false (1 : Int)
   else
    newelref05_slips N a152 a153 a154 a155 (fun r160 =>
    k r160 (0 : Int))))
noncomputable def newelref05_Slips {R : Type} : Nat → api_Lift → Int → Int → Int → (Bool → Int → Option R) → Option R := lock (@newelref05_Slips_m R)
theorem newelref05_Slips_def {R : Type} (N : Nat) (a152 : api_Lift) (a153 : Int) (a154 : Int) (a155 : Int) (k : Bool → Int → Option R) : newelref05_Slips N a152 a153 a154 a155 k = newelref05_Slips_m N a152 a153 a154 a155 k := by unfold newelref05_Slips; rw [lock_eq]
def newelref05_Slips_sp : Sp := ⟨[rAgg api_LiftC, rInt .i64, rInt .i64, rInt .i64], []⟩
theorem newelref05_Slips_sp_ok : newelref05_Slips_sp.Ok := ⟨(allCons (rAgg_ok api_LiftC_ok api_LiftC_len) (allCons (rInt_ok .i64) (allCons (rInt_ok .i64) (allCons (rInt_ok .i64) allNil)))), eNil⟩
def newelref05_Slips_rs : Sp := ⟨[rTup [rBool, rInt .i64]], []⟩
theorem newelref05_Slips_rs_ok : newelref05_Slips_rs.Ok := ⟨(allCons (rTup_ok (allCons rBool_ok (allCons (rInt_ok .i64) allNil))) allNil), eNil⟩
def newelref05_Slips_run {R : Type} (N : Nat) (args : List SV) (T : Tab) (kf : SV × Tab → Option R) : Option R :=
  newelref05_Slips_m N (Cod.dec api_LiftC (lget (toCs (lget args 0)))) (toI (lget args 1)) (toI (lget args 2)) (toI (lget args 3)) (fun q0 q1 => kf (lget [.tup [.bool q0, .int .i64 q1]] 0, []))
def newelref05_Slips_lp {R : Type} (N : Nat) : Lp R := fun body S k => Option.none
noncomputable def newelref05_Slips_go {R : Type} (N : Nat) (args : List SV) (T : Tab) (kf : SV × Tab → Option R) : Option R :=
  newelref05_Slips N (Cod.dec api_LiftC (lget (toCs (lget args 0)))) (toI (lget args 1)) (toI (lget args 2)) (toI (lget args 3)) (fun q0 q1 => kf (lget [.tup [.bool q0, .int .i64 q1]] 0, []))
noncomputable def newelref05_Slips_cal {R : Type} (N : Nat) : Cal R := callM (lift_Slips_cal N) 31 0 newelref05_Slips_sp (newelref05_Slips_go N)
theorem newelref05_Slips_cal_ok {R : Type} (N : Nat) : CalOk E.P (newelref05_Slips_cal (R := R) N) :=
  callM_ok hE (lift_Slips_cal_ok N) (lp := newelref05_Slips_lp N) (keys := []) kNil (by kernel_rfl) newelref05_Slips_sp_ok newelref05_Slips_rs_ok (fun args T kf => Eq.trans (newelref05_Slips_def N (Cod.dec api_LiftC (lget (toCs (lget args 0)))) (toI (lget args 1)) (toI (lget args 2)) (toI (lget args 3)) (fun q0 q1 => kf (lget [.tup [.bool q0, .int .i64 q1]] 0, []))) (by kernel_rfl : newelref05_Slips_run N args T kf = fnM E (lift_Slips_cal N) (newelref05_Slips_lp N) 31 (newelref05_Slips_sp.vs args) (newelref05_Slips_sp.tab T) 0 (resK newelref05_Slips_rs kf)))


def newelref05_Spans_m {R : Type} (N : Nat) (a161 : api_Lift) (a162 : api_Span) (a163 : api_Span) (k : Bool → Option R) : Option R :=
  bif decide (api_Span.Low a162 ≥ (0 : Int)) then
   bif decide (api_Span.Low a162 ≤ api_Span.High a162) then
    newelref05_Top N a161 (fun r164 =>
    bif decide (api_Span.High a162 ≤ r164) then
     bif decide (api_Span.Low a163 ≥ (0 : Int)) then
      bif decide (api_Span.Low a163 ≤ api_Span.High a163) then
       k (decide (api_Span.High a163 ≤ api_Lift.Rated a161))
      else
       k false
     else
      k false
    else
     k false)
   else
    k false
  else
   k false
noncomputable def newelref05_Spans {R : Type} : Nat → api_Lift → api_Span → api_Span → (Bool → Option R) → Option R := lock (@newelref05_Spans_m R)
theorem newelref05_Spans_def {R : Type} (N : Nat) (a161 : api_Lift) (a162 : api_Span) (a163 : api_Span) (k : Bool → Option R) : newelref05_Spans N a161 a162 a163 k = newelref05_Spans_m N a161 a162 a163 k := by unfold newelref05_Spans; rw [lock_eq]
def newelref05_Spans_sp : Sp := ⟨[rAgg api_LiftC, rAgg api_SpanC, rAgg api_SpanC], []⟩
theorem newelref05_Spans_sp_ok : newelref05_Spans_sp.Ok := ⟨(allCons (rAgg_ok api_LiftC_ok api_LiftC_len) (allCons (rAgg_ok api_SpanC_ok api_SpanC_len) (allCons (rAgg_ok api_SpanC_ok api_SpanC_len) allNil))), eNil⟩
def newelref05_Spans_rs : Sp := ⟨[rBool], []⟩
theorem newelref05_Spans_rs_ok : newelref05_Spans_rs.Ok := ⟨(allCons rBool_ok allNil), eNil⟩
def newelref05_Spans_run {R : Type} (N : Nat) (args : List SV) (T : Tab) (kf : SV × Tab → Option R) : Option R :=
  newelref05_Spans_m N (Cod.dec api_LiftC (lget (toCs (lget args 0)))) (Cod.dec api_SpanC (lget (toCs (lget args 1)))) (Cod.dec api_SpanC (lget (toCs (lget args 2)))) (fun q0 => kf (lget [.bool q0] 0, []))
def newelref05_Spans_lp {R : Type} (N : Nat) : Lp R := fun body S k => Option.none
noncomputable def newelref05_Spans_go {R : Type} (N : Nat) (args : List SV) (T : Tab) (kf : SV × Tab → Option R) : Option R :=
  newelref05_Spans N (Cod.dec api_LiftC (lget (toCs (lget args 0)))) (Cod.dec api_SpanC (lget (toCs (lget args 1)))) (Cod.dec api_SpanC (lget (toCs (lget args 2)))) (fun q0 => kf (lget [.bool q0] 0, []))
noncomputable def newelref05_Spans_cal {R : Type} (N : Nat) : Cal R := callM (newelref05_Slips_cal N) 20 0 newelref05_Spans_sp (newelref05_Spans_go N)
theorem newelref05_Spans_cal_ok {R : Type} (N : Nat) : CalOk E.P (newelref05_Spans_cal (R := R) N) :=
  callM_ok hE (newelref05_Slips_cal_ok N) (lp := newelref05_Spans_lp N) (keys := []) kNil (by kernel_rfl) newelref05_Spans_sp_ok newelref05_Spans_rs_ok (fun args T kf => Eq.trans (newelref05_Spans_def N (Cod.dec api_LiftC (lget (toCs (lget args 0)))) (Cod.dec api_SpanC (lget (toCs (lget args 1)))) (Cod.dec api_SpanC (lget (toCs (lget args 2)))) (fun q0 => kf (lget [.bool q0] 0, []))) (by kernel_rfl : newelref05_Spans_run N args T kf = fnM E (newelref05_Slips_cal N) (newelref05_Spans_lp N) 20 (newelref05_Spans_sp.vs args) (newelref05_Spans_sp.tab T) 0 (resK newelref05_Spans_rs kf)))


def lift_within_m {R : Type} (N : Nat) (a203 : api_Span) (a204 : Int) (k : Bool → Option R) : Option R :=
  bif decide ((0 : Int) ≤ api_Span.Low a203) then
   bif decide (api_Span.Low a203 ≤ api_Span.High a203) then
    k (decide (api_Span.High a203 ≤ a204))
   else
    k false
  else
   k false
noncomputable def lift_within {R : Type} : Nat → api_Span → Int → (Bool → Option R) → Option R := lock (@lift_within_m R)
theorem lift_within_def {R : Type} (N : Nat) (a203 : api_Span) (a204 : Int) (k : Bool → Option R) : lift_within N a203 a204 k = lift_within_m N a203 a204 k := by unfold lift_within; rw [lock_eq]
def lift_within_sp : Sp := ⟨[rAgg api_SpanC, rInt .i64], []⟩
theorem lift_within_sp_ok : lift_within_sp.Ok := ⟨(allCons (rAgg_ok api_SpanC_ok api_SpanC_len) (allCons (rInt_ok .i64) allNil)), eNil⟩
def lift_within_rs : Sp := ⟨[rBool], []⟩
theorem lift_within_rs_ok : lift_within_rs.Ok := ⟨(allCons rBool_ok allNil), eNil⟩
def lift_within_run {R : Type} (N : Nat) (args : List SV) (T : Tab) (kf : SV × Tab → Option R) : Option R :=
  lift_within_m N (Cod.dec api_SpanC (lget (toCs (lget args 0)))) (toI (lget args 1)) (fun q0 => kf (lget [.bool q0] 0, []))
def lift_within_lp {R : Type} (N : Nat) : Lp R := fun body S k => Option.none
noncomputable def lift_within_go {R : Type} (N : Nat) (args : List SV) (T : Tab) (kf : SV × Tab → Option R) : Option R :=
  lift_within N (Cod.dec api_SpanC (lget (toCs (lget args 0)))) (toI (lget args 1)) (fun q0 => kf (lget [.bool q0] 0, []))
noncomputable def lift_within_cal {R : Type} (N : Nat) : Cal R := callM (newelref05_Spans_cal N) 58 0 lift_within_sp (lift_within_go N)
theorem lift_within_cal_ok {R : Type} (N : Nat) : CalOk E.P (lift_within_cal (R := R) N) :=
  callM_ok hE (newelref05_Spans_cal_ok N) (lp := lift_within_lp N) (keys := []) kNil (by kernel_rfl) lift_within_sp_ok lift_within_rs_ok (fun args T kf => Eq.trans (lift_within_def N (Cod.dec api_SpanC (lget (toCs (lget args 0)))) (toI (lget args 1)) (fun q0 => kf (lget [.bool q0] 0, []))) (by kernel_rfl : lift_within_run N args T kf = fnM E (newelref05_Spans_cal N) (lift_within_lp N) 58 (lift_within_sp.vs args) (lift_within_sp.tab T) 0 (resK lift_within_rs kf)))


def lift_Grip_1_m {R : Type} (N : Nat) (a186 : Int) (a187 : Int) (a188 : Int) (a189 : Int) (a190 : Int) (a191 : Int) (a192 : Arr Int) (a193 : Int) (a194 : Int) (a195 : Int) (a196 : Int) (a197 : Int) (a198 : Int) (a199 : Int) (a200 : Int) (a201 : Int) (k : Bool → Option R) : Option R :=
  lift_top N (api_Lift.mk a188 a189 a190 a191 a192 a193 a194 a195 a196 a197 a198 a199) (fun r202 =>
  lift_within N (api_Span.mk a186 a187) r202 (fun r205 =>
  bif r205 then
   lift_within N (api_Span.mk a200 a201) a190 (fun r206 =>
   k r206)
  else
   k false))
noncomputable def lift_Grip_1 {R : Type} : Nat → Int → Int → Int → Int → Int → Int → Arr Int → Int → Int → Int → Int → Int → Int → Int → Int → Int → (Bool → Option R) → Option R := lock (@lift_Grip_1_m R)
theorem lift_Grip_1_def {R : Type} (N : Nat) (a186 : Int) (a187 : Int) (a188 : Int) (a189 : Int) (a190 : Int) (a191 : Int) (a192 : Arr Int) (a193 : Int) (a194 : Int) (a195 : Int) (a196 : Int) (a197 : Int) (a198 : Int) (a199 : Int) (a200 : Int) (a201 : Int) (k : Bool → Option R) : lift_Grip_1 N a186 a187 a188 a189 a190 a191 a192 a193 a194 a195 a196 a197 a198 a199 a200 a201 k = lift_Grip_1_m N a186 a187 a188 a189 a190 a191 a192 a193 a194 a195 a196 a197 a198 a199 a200 a201 k := by unfold lift_Grip_1; rw [lock_eq]
def lift_Grip_1_sp : Sp := ⟨[rPtr 0 0, rPtr 1 0, rPtr 2 0], [(0, eBlk [rInt .i64, rInt .i64]), (1, eBlk [rInt .i64, rInt .i64, rInt .i64, rInt .i64, rSl intC, rInt .i64, rInt .i64, rInt .i64, rInt .i64, rInt .i64, rInt .i64, rInt .i64]), (2, eBlk [rInt .i64, rInt .i64])]⟩
theorem lift_Grip_1_sp_ok : lift_Grip_1_sp.Ok := ⟨(allCons (rPtr_ok 0 0) (allCons (rPtr_ok 1 0) (allCons (rPtr_ok 2 0) allNil))), (eCons (eBlk_ok (allCons (rInt_ok .i64) (allCons (rInt_ok .i64) allNil))) (eCons (eBlk_ok (allCons (rInt_ok .i64) (allCons (rInt_ok .i64) (allCons (rInt_ok .i64) (allCons (rInt_ok .i64) (allCons (rSl_ok intC_ok) (allCons (rInt_ok .i64) (allCons (rInt_ok .i64) (allCons (rInt_ok .i64) (allCons (rInt_ok .i64) (allCons (rInt_ok .i64) (allCons (rInt_ok .i64) (allCons (rInt_ok .i64) allNil))))))))))))) (eCons (eBlk_ok (allCons (rInt_ok .i64) (allCons (rInt_ok .i64) allNil))) eNil)))⟩
def lift_Grip_1_rs : Sp := ⟨[rBool], [(0, eBlk [rInt .i64, rInt .i64]), (1, eBlk [rInt .i64, rInt .i64, rInt .i64, rInt .i64, rSl intC, rInt .i64, rInt .i64, rInt .i64, rInt .i64, rInt .i64, rInt .i64, rInt .i64]), (2, eBlk [rInt .i64, rInt .i64])]⟩
theorem lift_Grip_1_rs_ok : lift_Grip_1_rs.Ok := ⟨(allCons rBool_ok allNil), (eCons (eBlk_ok (allCons (rInt_ok .i64) (allCons (rInt_ok .i64) allNil))) (eCons (eBlk_ok (allCons (rInt_ok .i64) (allCons (rInt_ok .i64) (allCons (rInt_ok .i64) (allCons (rInt_ok .i64) (allCons (rSl_ok intC_ok) (allCons (rInt_ok .i64) (allCons (rInt_ok .i64) (allCons (rInt_ok .i64) (allCons (rInt_ok .i64) (allCons (rInt_ok .i64) (allCons (rInt_ok .i64) (allCons (rInt_ok .i64) allNil))))))))))))) (eCons (eBlk_ok (allCons (rInt_ok .i64) (allCons (rInt_ok .i64) allNil))) eNil)))⟩
def lift_Grip_1_run {R : Type} (N : Nat) (args : List SV) (T : Tab) (kf : SV × Tab → Option R) : Option R :=
  lift_Grip_1_m N (toI (lget (entCs (entAt T 0)) 0)) (toI (lget (entCs (entAt T 0)) 1)) (toI (lget (entCs (entAt T 1)) 0)) (toI (lget (entCs (entAt T 1)) 1)) (toI (lget (entCs (entAt T 1)) 2)) (toI (lget (entCs (entAt T 1)) 3)) (lstC intC (lget (entCs (entAt T 1)) 4)) (toI (lget (entCs (entAt T 1)) 5)) (toI (lget (entCs (entAt T 1)) 6)) (toI (lget (entCs (entAt T 1)) 7)) (toI (lget (entCs (entAt T 1)) 8)) (toI (lget (entCs (entAt T 1)) 9)) (toI (lget (entCs (entAt T 1)) 10)) (toI (lget (entCs (entAt T 1)) 11)) (toI (lget (entCs (entAt T 2)) 0)) (toI (lget (entCs (entAt T 2)) 1)) (fun q0 => kf (lget [.bool q0] 0, [(0, .blk [.int .i64 (toI (lget (entCs (entAt T 0)) 0)), .int .i64 (toI (lget (entCs (entAt T 0)) 1))]), (1, .blk [.int .i64 (toI (lget (entCs (entAt T 1)) 0)), .int .i64 (toI (lget (entCs (entAt T 1)) 1)), .int .i64 (toI (lget (entCs (entAt T 1)) 2)), .int .i64 (toI (lget (entCs (entAt T 1)) 3)), slC intC (lstC intC (lget (entCs (entAt T 1)) 4)), .int .i64 (toI (lget (entCs (entAt T 1)) 5)), .int .i64 (toI (lget (entCs (entAt T 1)) 6)), .int .i64 (toI (lget (entCs (entAt T 1)) 7)), .int .i64 (toI (lget (entCs (entAt T 1)) 8)), .int .i64 (toI (lget (entCs (entAt T 1)) 9)), .int .i64 (toI (lget (entCs (entAt T 1)) 10)), .int .i64 (toI (lget (entCs (entAt T 1)) 11))]), (2, .blk [.int .i64 (toI (lget (entCs (entAt T 2)) 0)), .int .i64 (toI (lget (entCs (entAt T 2)) 1))])]))
def lift_Grip_1_lp {R : Type} (N : Nat) : Lp R := fun body S k => Option.none
noncomputable def lift_Grip_1_go {R : Type} (N : Nat) (args : List SV) (T : Tab) (kf : SV × Tab → Option R) : Option R :=
  lift_Grip_1 N (toI (lget (entCs (entAt T 0)) 0)) (toI (lget (entCs (entAt T 0)) 1)) (toI (lget (entCs (entAt T 1)) 0)) (toI (lget (entCs (entAt T 1)) 1)) (toI (lget (entCs (entAt T 1)) 2)) (toI (lget (entCs (entAt T 1)) 3)) (lstC intC (lget (entCs (entAt T 1)) 4)) (toI (lget (entCs (entAt T 1)) 5)) (toI (lget (entCs (entAt T 1)) 6)) (toI (lget (entCs (entAt T 1)) 7)) (toI (lget (entCs (entAt T 1)) 8)) (toI (lget (entCs (entAt T 1)) 9)) (toI (lget (entCs (entAt T 1)) 10)) (toI (lget (entCs (entAt T 1)) 11)) (toI (lget (entCs (entAt T 2)) 0)) (toI (lget (entCs (entAt T 2)) 1)) (fun q0 => kf (lget [.bool q0] 0, [(0, .blk [.int .i64 (toI (lget (entCs (entAt T 0)) 0)), .int .i64 (toI (lget (entCs (entAt T 0)) 1))]), (1, .blk [.int .i64 (toI (lget (entCs (entAt T 1)) 0)), .int .i64 (toI (lget (entCs (entAt T 1)) 1)), .int .i64 (toI (lget (entCs (entAt T 1)) 2)), .int .i64 (toI (lget (entCs (entAt T 1)) 3)), slC intC (lstC intC (lget (entCs (entAt T 1)) 4)), .int .i64 (toI (lget (entCs (entAt T 1)) 5)), .int .i64 (toI (lget (entCs (entAt T 1)) 6)), .int .i64 (toI (lget (entCs (entAt T 1)) 7)), .int .i64 (toI (lget (entCs (entAt T 1)) 8)), .int .i64 (toI (lget (entCs (entAt T 1)) 9)), .int .i64 (toI (lget (entCs (entAt T 1)) 10)), .int .i64 (toI (lget (entCs (entAt T 1)) 11))]), (2, .blk [.int .i64 (toI (lget (entCs (entAt T 2)) 0)), .int .i64 (toI (lget (entCs (entAt T 2)) 1))])]))
noncomputable def lift_Grip_1_cal {R : Type} (N : Nat) : Cal R := callM (lift_within_cal N) 57 3 lift_Grip_1_sp (lift_Grip_1_go N)
theorem lift_Grip_1_cal_ok {R : Type} (N : Nat) : CalOk E.P (lift_Grip_1_cal (R := R) N) :=
  callM_ok hE (lift_within_cal_ok N) (lp := lift_Grip_1_lp N) (keys := []) kNil (by kernel_rfl) lift_Grip_1_sp_ok lift_Grip_1_rs_ok (fun args T kf => Eq.trans (lift_Grip_1_def N (toI (lget (entCs (entAt T 0)) 0)) (toI (lget (entCs (entAt T 0)) 1)) (toI (lget (entCs (entAt T 1)) 0)) (toI (lget (entCs (entAt T 1)) 1)) (toI (lget (entCs (entAt T 1)) 2)) (toI (lget (entCs (entAt T 1)) 3)) (lstC intC (lget (entCs (entAt T 1)) 4)) (toI (lget (entCs (entAt T 1)) 5)) (toI (lget (entCs (entAt T 1)) 6)) (toI (lget (entCs (entAt T 1)) 7)) (toI (lget (entCs (entAt T 1)) 8)) (toI (lget (entCs (entAt T 1)) 9)) (toI (lget (entCs (entAt T 1)) 10)) (toI (lget (entCs (entAt T 1)) 11)) (toI (lget (entCs (entAt T 2)) 0)) (toI (lget (entCs (entAt T 2)) 1)) (fun q0 => kf (lget [.bool q0] 0, [(0, .blk [.int .i64 (toI (lget (entCs (entAt T 0)) 0)), .int .i64 (toI (lget (entCs (entAt T 0)) 1))]), (1, .blk [.int .i64 (toI (lget (entCs (entAt T 1)) 0)), .int .i64 (toI (lget (entCs (entAt T 1)) 1)), .int .i64 (toI (lget (entCs (entAt T 1)) 2)), .int .i64 (toI (lget (entCs (entAt T 1)) 3)), slC intC (lstC intC (lget (entCs (entAt T 1)) 4)), .int .i64 (toI (lget (entCs (entAt T 1)) 5)), .int .i64 (toI (lget (entCs (entAt T 1)) 6)), .int .i64 (toI (lget (entCs (entAt T 1)) 7)), .int .i64 (toI (lget (entCs (entAt T 1)) 8)), .int .i64 (toI (lget (entCs (entAt T 1)) 9)), .int .i64 (toI (lget (entCs (entAt T 1)) 10)), .int .i64 (toI (lget (entCs (entAt T 1)) 11))]), (2, .blk [.int .i64 (toI (lget (entCs (entAt T 2)) 0)), .int .i64 (toI (lget (entCs (entAt T 2)) 1))])]))) (by kernel_rfl : lift_Grip_1_run N args T kf = fnM E (lift_within_cal N) (lift_Grip_1_lp N) 57 (lift_Grip_1_sp.vs args) (lift_Grip_1_sp.tab T) 3 (resK lift_Grip_1_rs kf)))


def lift_check_v3_m {R : Type} (N : Nat) (a168 : api_Lift) (a169 : Int) (a170 : Int) (a171 : Int) (a172 : Int) (a173 : Int) (a174 : Int) (a175 : Arr Int) (a176 : Int) (a177 : Int) (a178 : Int) (a179 : Int) (a180 : Int) (a181 : Int) (a182 : Int) (a183 : Int) (a184 : Int) (k : Int → Option R) : Option R :=
  lift_Check N a168 (fun r185 =>
  bif r185 != (0 : Int) then
   k r185
  else
   lift_Grip_1 N a169 a170 a171 a172 a173 a174 a175 a176 a177 a178 a179 a180 a181 a182 a183 a184 (fun r207 =>
   bif !r207 then
    k (1 : Int)
   else
    k (0 : Int)))
noncomputable def lift_check_v3 {R : Type} : Nat → api_Lift → Int → Int → Int → Int → Int → Int → Arr Int → Int → Int → Int → Int → Int → Int → Int → Int → Int → (Int → Option R) → Option R := lock (@lift_check_v3_m R)
theorem lift_check_v3_def {R : Type} (N : Nat) (a168 : api_Lift) (a169 : Int) (a170 : Int) (a171 : Int) (a172 : Int) (a173 : Int) (a174 : Int) (a175 : Arr Int) (a176 : Int) (a177 : Int) (a178 : Int) (a179 : Int) (a180 : Int) (a181 : Int) (a182 : Int) (a183 : Int) (a184 : Int) (k : Int → Option R) : lift_check_v3 N a168 a169 a170 a171 a172 a173 a174 a175 a176 a177 a178 a179 a180 a181 a182 a183 a184 k = lift_check_v3_m N a168 a169 a170 a171 a172 a173 a174 a175 a176 a177 a178 a179 a180 a181 a182 a183 a184 k := by unfold lift_check_v3; rw [lock_eq]
def lift_check_v3_sp : Sp := ⟨[rAgg api_LiftC, rFunc 57 [rPtr 0 0, rPtr 1 0, rPtr 2 0]], [(0, eBlk [rInt .i64, rInt .i64]), (1, eBlk [rInt .i64, rInt .i64, rInt .i64, rInt .i64, rSl intC, rInt .i64, rInt .i64, rInt .i64, rInt .i64, rInt .i64, rInt .i64, rInt .i64]), (2, eBlk [rInt .i64, rInt .i64])]⟩
theorem lift_check_v3_sp_ok : lift_check_v3_sp.Ok := ⟨(allCons (rAgg_ok api_LiftC_ok api_LiftC_len) (allCons (rFunc_ok 57 (allCons (rPtr_ok 0 0) (allCons (rPtr_ok 1 0) (allCons (rPtr_ok 2 0) allNil)))) allNil)), (eCons (eBlk_ok (allCons (rInt_ok .i64) (allCons (rInt_ok .i64) allNil))) (eCons (eBlk_ok (allCons (rInt_ok .i64) (allCons (rInt_ok .i64) (allCons (rInt_ok .i64) (allCons (rInt_ok .i64) (allCons (rSl_ok intC_ok) (allCons (rInt_ok .i64) (allCons (rInt_ok .i64) (allCons (rInt_ok .i64) (allCons (rInt_ok .i64) (allCons (rInt_ok .i64) (allCons (rInt_ok .i64) (allCons (rInt_ok .i64) allNil))))))))))))) (eCons (eBlk_ok (allCons (rInt_ok .i64) (allCons (rInt_ok .i64) allNil))) eNil)))⟩
def lift_check_v3_rs : Sp := ⟨[rInt .i64], [(0, eBlk [rInt .i64, rInt .i64]), (1, eBlk [rInt .i64, rInt .i64, rInt .i64, rInt .i64, rSl intC, rInt .i64, rInt .i64, rInt .i64, rInt .i64, rInt .i64, rInt .i64, rInt .i64]), (2, eBlk [rInt .i64, rInt .i64])]⟩
theorem lift_check_v3_rs_ok : lift_check_v3_rs.Ok := ⟨(allCons (rInt_ok .i64) allNil), (eCons (eBlk_ok (allCons (rInt_ok .i64) (allCons (rInt_ok .i64) allNil))) (eCons (eBlk_ok (allCons (rInt_ok .i64) (allCons (rInt_ok .i64) (allCons (rInt_ok .i64) (allCons (rInt_ok .i64) (allCons (rSl_ok intC_ok) (allCons (rInt_ok .i64) (allCons (rInt_ok .i64) (allCons (rInt_ok .i64) (allCons (rInt_ok .i64) (allCons (rInt_ok .i64) (allCons (rInt_ok .i64) (allCons (rInt_ok .i64) allNil))))))))))))) (eCons (eBlk_ok (allCons (rInt_ok .i64) (allCons (rInt_ok .i64) allNil))) eNil)))⟩
def lift_check_v3_run {R : Type} (N : Nat) (args : List SV) (T : Tab) (kf : SV × Tab → Option R) : Option R :=
  lift_check_v3_m N (Cod.dec api_LiftC (lget (toCs (lget args 0)))) (toI (lget (entCs (entAt T 0)) 0)) (toI (lget (entCs (entAt T 0)) 1)) (toI (lget (entCs (entAt T 1)) 0)) (toI (lget (entCs (entAt T 1)) 1)) (toI (lget (entCs (entAt T 1)) 2)) (toI (lget (entCs (entAt T 1)) 3)) (lstC intC (lget (entCs (entAt T 1)) 4)) (toI (lget (entCs (entAt T 1)) 5)) (toI (lget (entCs (entAt T 1)) 6)) (toI (lget (entCs (entAt T 1)) 7)) (toI (lget (entCs (entAt T 1)) 8)) (toI (lget (entCs (entAt T 1)) 9)) (toI (lget (entCs (entAt T 1)) 10)) (toI (lget (entCs (entAt T 1)) 11)) (toI (lget (entCs (entAt T 2)) 0)) (toI (lget (entCs (entAt T 2)) 1)) (fun q0 => kf (lget [.int .i64 q0] 0, [(0, .blk [.int .i64 (toI (lget (entCs (entAt T 0)) 0)), .int .i64 (toI (lget (entCs (entAt T 0)) 1))]), (1, .blk [.int .i64 (toI (lget (entCs (entAt T 1)) 0)), .int .i64 (toI (lget (entCs (entAt T 1)) 1)), .int .i64 (toI (lget (entCs (entAt T 1)) 2)), .int .i64 (toI (lget (entCs (entAt T 1)) 3)), slC intC (lstC intC (lget (entCs (entAt T 1)) 4)), .int .i64 (toI (lget (entCs (entAt T 1)) 5)), .int .i64 (toI (lget (entCs (entAt T 1)) 6)), .int .i64 (toI (lget (entCs (entAt T 1)) 7)), .int .i64 (toI (lget (entCs (entAt T 1)) 8)), .int .i64 (toI (lget (entCs (entAt T 1)) 9)), .int .i64 (toI (lget (entCs (entAt T 1)) 10)), .int .i64 (toI (lget (entCs (entAt T 1)) 11))]), (2, .blk [.int .i64 (toI (lget (entCs (entAt T 2)) 0)), .int .i64 (toI (lget (entCs (entAt T 2)) 1))])]))
def lift_check_v3_lp {R : Type} (N : Nat) : Lp R := fun body S k => Option.none
noncomputable def lift_check_v3_go {R : Type} (N : Nat) (args : List SV) (T : Tab) (kf : SV × Tab → Option R) : Option R :=
  lift_check_v3 N (Cod.dec api_LiftC (lget (toCs (lget args 0)))) (toI (lget (entCs (entAt T 0)) 0)) (toI (lget (entCs (entAt T 0)) 1)) (toI (lget (entCs (entAt T 1)) 0)) (toI (lget (entCs (entAt T 1)) 1)) (toI (lget (entCs (entAt T 1)) 2)) (toI (lget (entCs (entAt T 1)) 3)) (lstC intC (lget (entCs (entAt T 1)) 4)) (toI (lget (entCs (entAt T 1)) 5)) (toI (lget (entCs (entAt T 1)) 6)) (toI (lget (entCs (entAt T 1)) 7)) (toI (lget (entCs (entAt T 1)) 8)) (toI (lget (entCs (entAt T 1)) 9)) (toI (lget (entCs (entAt T 1)) 10)) (toI (lget (entCs (entAt T 1)) 11)) (toI (lget (entCs (entAt T 2)) 0)) (toI (lget (entCs (entAt T 2)) 1)) (fun q0 => kf (lget [.int .i64 q0] 0, [(0, .blk [.int .i64 (toI (lget (entCs (entAt T 0)) 0)), .int .i64 (toI (lget (entCs (entAt T 0)) 1))]), (1, .blk [.int .i64 (toI (lget (entCs (entAt T 1)) 0)), .int .i64 (toI (lget (entCs (entAt T 1)) 1)), .int .i64 (toI (lget (entCs (entAt T 1)) 2)), .int .i64 (toI (lget (entCs (entAt T 1)) 3)), slC intC (lstC intC (lget (entCs (entAt T 1)) 4)), .int .i64 (toI (lget (entCs (entAt T 1)) 5)), .int .i64 (toI (lget (entCs (entAt T 1)) 6)), .int .i64 (toI (lget (entCs (entAt T 1)) 7)), .int .i64 (toI (lget (entCs (entAt T 1)) 8)), .int .i64 (toI (lget (entCs (entAt T 1)) 9)), .int .i64 (toI (lget (entCs (entAt T 1)) 10)), .int .i64 (toI (lget (entCs (entAt T 1)) 11))]), (2, .blk [.int .i64 (toI (lget (entCs (entAt T 2)) 0)), .int .i64 (toI (lget (entCs (entAt T 2)) 1))])]))
noncomputable def lift_check_v3_cal {R : Type} (N : Nat) : Cal R := callM (lift_Grip_1_cal N) 56 3 lift_check_v3_sp (lift_check_v3_go N)
theorem lift_check_v3_cal_ok {R : Type} (N : Nat) : CalOk E.P (lift_check_v3_cal (R := R) N) :=
  callM_ok hE (lift_Grip_1_cal_ok N) (lp := lift_check_v3_lp N) (keys := []) kNil (by kernel_rfl) lift_check_v3_sp_ok lift_check_v3_rs_ok (fun args T kf => Eq.trans (lift_check_v3_def N (Cod.dec api_LiftC (lget (toCs (lget args 0)))) (toI (lget (entCs (entAt T 0)) 0)) (toI (lget (entCs (entAt T 0)) 1)) (toI (lget (entCs (entAt T 1)) 0)) (toI (lget (entCs (entAt T 1)) 1)) (toI (lget (entCs (entAt T 1)) 2)) (toI (lget (entCs (entAt T 1)) 3)) (lstC intC (lget (entCs (entAt T 1)) 4)) (toI (lget (entCs (entAt T 1)) 5)) (toI (lget (entCs (entAt T 1)) 6)) (toI (lget (entCs (entAt T 1)) 7)) (toI (lget (entCs (entAt T 1)) 8)) (toI (lget (entCs (entAt T 1)) 9)) (toI (lget (entCs (entAt T 1)) 10)) (toI (lget (entCs (entAt T 1)) 11)) (toI (lget (entCs (entAt T 2)) 0)) (toI (lget (entCs (entAt T 2)) 1)) (fun q0 => kf (lget [.int .i64 q0] 0, [(0, .blk [.int .i64 (toI (lget (entCs (entAt T 0)) 0)), .int .i64 (toI (lget (entCs (entAt T 0)) 1))]), (1, .blk [.int .i64 (toI (lget (entCs (entAt T 1)) 0)), .int .i64 (toI (lget (entCs (entAt T 1)) 1)), .int .i64 (toI (lget (entCs (entAt T 1)) 2)), .int .i64 (toI (lget (entCs (entAt T 1)) 3)), slC intC (lstC intC (lget (entCs (entAt T 1)) 4)), .int .i64 (toI (lget (entCs (entAt T 1)) 5)), .int .i64 (toI (lget (entCs (entAt T 1)) 6)), .int .i64 (toI (lget (entCs (entAt T 1)) 7)), .int .i64 (toI (lget (entCs (entAt T 1)) 8)), .int .i64 (toI (lget (entCs (entAt T 1)) 9)), .int .i64 (toI (lget (entCs (entAt T 1)) 10)), .int .i64 (toI (lget (entCs (entAt T 1)) 11))]), (2, .blk [.int .i64 (toI (lget (entCs (entAt T 2)) 0)), .int .i64 (toI (lget (entCs (entAt T 2)) 1))])]))) (by kernel_rfl : lift_check_v3_run N args T kf = fnM E (lift_Grip_1_cal N) (lift_check_v3_lp N) 56 (lift_check_v3_sp.vs args) (lift_check_v3_sp.tab T) 3 (resK lift_check_v3_rs kf)))

def lift_Grip_L5 : LoopSp := ⟨⟨[3, 4, 5, 9], ⟨(dr 3 ((rPtr 0 0) :: (rPtr 1 0) :: (rPtr 2 0) :: (dr 3 ((rInt .i64) :: (dr 29 []))))), [(0, eBlkC api_LiftC), (1, eBlkC api_SpanC), (2, eBlkC api_SpanC)]⟩, 3⟩, [(Option.none, ⟨[6, 7], ⟨(dr 6 ((rInt .i64) :: (rInt .i64) :: (dr 31 []))), []⟩, 0⟩), (some 0, ⟨[], ⟨(dr 39 []), []⟩, 0⟩)]⟩
theorem lift_Grip_L5_ok : lift_Grip_L5.Ok := ⟨⟨(drCons 3 (allCons (rPtr_ok 0 0) (allCons (rPtr_ok 1 0) (allCons (rPtr_ok 2 0) (drCons 3 (allCons (rInt_ok .i64) (drCons 29 allNil))))))), (eCons (eBlkC_ok api_LiftC_ok api_LiftC_len) (eCons (eBlkC_ok api_SpanC_ok api_SpanC_len) (eCons (eBlkC_ok api_SpanC_ok api_SpanC_len) eNil)))⟩, (xCons ⟨(drCons 6 (allCons (rInt_ok .i64) (allCons (rInt_ok .i64) (drCons 31 allNil)))), eNil⟩ (xCons ⟨(drCons 39 allNil), eNil⟩ xNil))⟩
def lift_Grip_h5 (v209 : Int) (v210 : api_Lift) (v211 : api_Span) (v212 : api_Span) : St := ⟨(un 3 ((.ptr 0 0) :: (.ptr 1 0) :: (.ptr 2 0) :: (un 3 ((.int .i64 v209) :: (un 29 []))))), [(0, .blk (Cod.enc api_LiftC v210)), (1, .blk (Cod.enc api_SpanC v211)), (2, .blk (Cod.enc api_SpanC v212))], 3⟩
def lift_Grip_x5_r (q0 : Int) (q1 : Int) : St := ⟨(un 6 ((.int .i64 q0) :: (.int .i64 q1) :: (un 31 []))), [], 0⟩
def lift_Grip_x5_0  : St := ⟨(un 39 []), [], 0⟩
def lift_Grip_b5 {R : Type} (N : Nat) (rc : Int → api_Lift → api_Span → api_Span → Option R) (v209 : Int) (v210 : api_Lift) (v211 : api_Span) (v212 : api_Span) (kr : Int → Int → Option R) (k0 : Unit → Option R) : Option R :=
  bif decide (v209 ≥ (0 : Int)) then
   lift_slips N v210 (api_Span.Low v211) (api_Span.High v212) v209 (fun r213 =>
   bif !r213 then
    lift_slips N v210 (api_Span.High v211) (api_Span.Low v212) v209 (fun r214 =>
    bif !r214 then
     kr v209 (0 : Int)
    else
     rc (w64 (v209 - (1 : Int))) v210 v211 v212)
   else
    rc (w64 (v209 - (1 : Int))) v210 v211 v212)
  else
   k0 ()
def lift_Grip_l5 {R : Type} (N : Nat) : Nat → Int → api_Lift → api_Span → api_Span → (Int → Int → Option R) → (Unit → Option R) → Option R
  | 0, _, _, _, _, _, _ => Option.none
  | n + 1, v209, v210, v211, v212, kr, k0 => lift_Grip_b5 N (fun v209 v210 v211 v212 => lift_Grip_l5 N n v209 v210 v211 v212 kr k0) v209 v210 v211 v212 kr k0


def lift_Grip_m {R : Type} (N : Nat) (a165 : api_Lift) (a166 : api_Span) (a167 : api_Span) (k : Int → Int → Option R) : Option R :=
  lift_check_v3 N a165 (api_Span.Low a166) (api_Span.High a166) (api_Lift.Car a165) (api_Lift.Counter a165) (api_Lift.Rated a165) (api_Lift.Rope a165) (api_Lift.Floors a165) (api_Lift.Num a165) (api_Lift.Den a165) (api_Lift.Speed a165) (api_Lift.Accel a165) (api_Lift.Over a165) (api_Lift.Stiff a165) (api_Lift.Level a165) (api_Span.Low a167) (api_Span.High a167) (fun r208 =>
  bif r208 != (0 : Int) then
   k (0 : Int) r208
  else
   lift_Grip_l5 N N (999 : Int) a165 a166 a167 (fun r215 r216 =>
    k r215 r216) (fun (_ : Unit) =>
    k (0 : Int) (3 : Int)))
noncomputable def lift_Grip {R : Type} : Nat → api_Lift → api_Span → api_Span → (Int → Int → Option R) → Option R := lock (@lift_Grip_m R)
theorem lift_Grip_def {R : Type} (N : Nat) (a165 : api_Lift) (a166 : api_Span) (a167 : api_Span) (k : Int → Int → Option R) : lift_Grip N a165 a166 a167 k = lift_Grip_m N a165 a166 a167 k := by unfold lift_Grip; rw [lock_eq]
def lift_Grip_sp : Sp := ⟨[rAgg api_LiftC, rAgg api_SpanC, rAgg api_SpanC], []⟩
theorem lift_Grip_sp_ok : lift_Grip_sp.Ok := ⟨(allCons (rAgg_ok api_LiftC_ok api_LiftC_len) (allCons (rAgg_ok api_SpanC_ok api_SpanC_len) (allCons (rAgg_ok api_SpanC_ok api_SpanC_len) allNil))), eNil⟩
def lift_Grip_rs : Sp := ⟨[rTup [rInt .i64, rInt .i64]], []⟩
theorem lift_Grip_rs_ok : lift_Grip_rs.Ok := ⟨(allCons (rTup_ok (allCons (rInt_ok .i64) (allCons (rInt_ok .i64) allNil))) allNil), eNil⟩
def lift_Grip_run {R : Type} (N : Nat) (args : List SV) (T : Tab) (kf : SV × Tab → Option R) : Option R :=
  lift_Grip_m N (Cod.dec api_LiftC (lget (toCs (lget args 0)))) (Cod.dec api_SpanC (lget (toCs (lget args 1)))) (Cod.dec api_SpanC (lget (toCs (lget args 2)))) (fun q0 q1 => kf (lget [.tup [.int .i64 q0, .int .i64 q1]] 0, []))
def lift_Grip_d5 {R : Type} (N : Nat) (S0 : St) (k : Exit → St → Option R) : Option R :=
  lift_Grip_l5 N N (toI (lget S0.tmps 9)) (Cod.dec api_LiftC (lget (entCs (entAt S0.tab 0)))) (Cod.dec api_SpanC (lget (entCs (entAt S0.tab 1)))) (Cod.dec api_SpanC (lget (entCs (entAt S0.tab 2)))) (fun q0 q1 => k .ret (lift_Grip_x5_r q0 q1)) (fun (_ : Unit) => k (.exit 0) (lift_Grip_x5_0 ))
def lift_Grip_lp {R : Type} (N : Nat) : Lp R := fun body S k => bif (Go.Sx.keyOf body).getD 0 == 5 then lift_Grip_L5.head.raw 0 S (fun S0 => lift_Grip_d5 N S0 k) else Option.none
theorem lift_Grip_l5_eq {R : Type} (N : Nat) (k : Exit → St → Option R) (n : Nat) : ∀ (v0 : Int) (v1 : api_Lift) (v2 : api_Span) (v3 : api_Span), loopM E.Θ (lift_check_v3_cal N) (lift_Grip_lp N) 0 lift_Grip_L5 (bodyAt E 21 5) n (lift_Grip_h5 v0 v1 v2 v3) k = lift_Grip_l5 N n v0 v1 v2 v3 (fun q0 q1 => k .ret (lift_Grip_x5_r q0 q1)) (fun (_ : Unit) => k (.exit 0) (lift_Grip_x5_0 )) := by
  induction n with
  | zero => intro v0 v1 v2 v3; rfl
  | succ n ih =>
    intro v0 v1 v2 v3
    refine Eq.trans (b := lift_Grip_b5 N (fun v0 v1 v2 v3 => loopM E.Θ (lift_check_v3_cal N) (lift_Grip_lp N) 0 lift_Grip_L5 (bodyAt E 21 5) n (lift_Grip_h5 v0 v1 v2 v3) k) v0 v1 v2 v3 (fun q0 q1 => k .ret (lift_Grip_x5_r q0 q1)) (fun (_ : Unit) => k (.exit 0) (lift_Grip_x5_0 ))) (by kernel_rfl) ?_
    have h : (fun (v0 : Int) (v1 : api_Lift) (v2 : api_Span) (v3 : api_Span) => loopM E.Θ (lift_check_v3_cal N) (lift_Grip_lp N) 0 lift_Grip_L5 (bodyAt E 21 5) n (lift_Grip_h5 v0 v1 v2 v3) k) = (fun (v0 : Int) (v1 : api_Lift) (v2 : api_Span) (v3 : api_Span) => lift_Grip_l5 N n v0 v1 v2 v3 (fun q0 q1 => k .ret (lift_Grip_x5_r q0 q1)) (fun (_ : Unit) => k (.exit 0) (lift_Grip_x5_0 ))) := funext fun v0 => funext fun v1 => funext fun v2 => funext fun v3 => ih v0 v1 v2 v3
    rw [h]
    rfl
theorem lift_Grip_k5 {R : Type} (N : Nat) : LpKey (R := R) E 21 0 (lift_Grip_lp N) 5 :=
  lpKey_of hE (lift_check_v3_cal_ok N) lift_Grip_L5_ok [] kNil (by kernel_rfl) N fun S k =>
    Eq.trans (b := lift_Grip_L5.head.raw 0 S (fun S0 => lift_Grip_d5 N S0 k)) (by kernel_rfl) (congrArg (lift_Grip_L5.head.raw 0 S) (funext fun S0 => Eq.trans (lift_Grip_l5_eq N k N (toI (lget S0.tmps 9)) (Cod.dec api_LiftC (lget (entCs (entAt S0.tab 0)))) (Cod.dec api_SpanC (lget (entCs (entAt S0.tab 1)))) (Cod.dec api_SpanC (lget (entCs (entAt S0.tab 2))))).symm (by kernel_rfl)))
noncomputable def lift_Grip_go {R : Type} (N : Nat) (args : List SV) (T : Tab) (kf : SV × Tab → Option R) : Option R :=
  lift_Grip N (Cod.dec api_LiftC (lget (toCs (lget args 0)))) (Cod.dec api_SpanC (lget (toCs (lget args 1)))) (Cod.dec api_SpanC (lget (toCs (lget args 2)))) (fun q0 q1 => kf (lget [.tup [.int .i64 q0, .int .i64 q1]] 0, []))
noncomputable def lift_Grip_cal {R : Type} (N : Nat) : Cal R := callM (lift_check_v3_cal N) 21 0 lift_Grip_sp (lift_Grip_go N)
theorem lift_Grip_cal_ok {R : Type} (N : Nat) : CalOk E.P (lift_Grip_cal (R := R) N) :=
  callM_ok hE (lift_check_v3_cal_ok N) (lp := lift_Grip_lp N) (keys := [5]) (kCons (lift_Grip_k5 N) kNil) (by kernel_rfl) lift_Grip_sp_ok lift_Grip_rs_ok (fun args T kf => Eq.trans (lift_Grip_def N (Cod.dec api_LiftC (lget (toCs (lget args 0)))) (Cod.dec api_SpanC (lget (toCs (lget args 1)))) (Cod.dec api_SpanC (lget (toCs (lget args 2)))) (fun q0 q1 => kf (lget [.tup [.int .i64 q0, .int .i64 q1]] 0, []))) (by kernel_rfl : lift_Grip_run N args T kf = fnM E (lift_check_v3_cal N) (lift_Grip_lp N) 21 (lift_Grip_sp.vs args) (lift_Grip_sp.tab T) 0 (resK lift_Grip_rs kf)))

def newelref05_Grip_L6 : LoopSp := ⟨⟨[3, 4, 5, 8], ⟨(dr 3 ((rPtr 0 0) :: (rPtr 1 0) :: (rPtr 2 0) :: (dr 2 ((rInt .i64) :: (dr 51 []))))), [(0, eBlkC api_LiftC), (1, eBlkC api_SpanC), (2, eBlkC api_SpanC)]⟩, 3⟩, [(Option.none, ⟨[6, 7], ⟨(dr 6 ((rInt .i64) :: (rInt .i64) :: (dr 52 []))), []⟩, 0⟩), (some 0, ⟨[], ⟨(dr 60 []), []⟩, 0⟩)]⟩
theorem newelref05_Grip_L6_ok : newelref05_Grip_L6.Ok := ⟨⟨(drCons 3 (allCons (rPtr_ok 0 0) (allCons (rPtr_ok 1 0) (allCons (rPtr_ok 2 0) (drCons 2 (allCons (rInt_ok .i64) (drCons 51 allNil))))))), (eCons (eBlkC_ok api_LiftC_ok api_LiftC_len) (eCons (eBlkC_ok api_SpanC_ok api_SpanC_len) (eCons (eBlkC_ok api_SpanC_ok api_SpanC_len) eNil)))⟩, (xCons ⟨(drCons 6 (allCons (rInt_ok .i64) (allCons (rInt_ok .i64) (drCons 52 allNil)))), eNil⟩ (xCons ⟨(drCons 60 allNil), eNil⟩ xNil))⟩
def newelref05_Grip_h6 (v222 : Int) (v223 : api_Lift) (v224 : api_Span) (v225 : api_Span) : St := ⟨(un 3 ((.ptr 0 0) :: (.ptr 1 0) :: (.ptr 2 0) :: (un 2 ((.int .i64 v222) :: (un 51 []))))), [(0, .blk (Cod.enc api_LiftC v223)), (1, .blk (Cod.enc api_SpanC v224)), (2, .blk (Cod.enc api_SpanC v225))], 3⟩
def newelref05_Grip_x6_r (q0 : Int) (q1 : Int) : St := ⟨(un 6 ((.int .i64 q0) :: (.int .i64 q1) :: (un 52 []))), [], 0⟩
def newelref05_Grip_x6_0  : St := ⟨(un 60 []), [], 0⟩
def newelref05_Grip_b6 {R : Type} (N : Nat) (rc : Int → api_Lift → api_Span → api_Span → Option R) (v222 : Int) (v223 : api_Lift) (v224 : api_Span) (v225 : api_Span) (kr : Int → Int → Option R) (k0 : Unit → Option R) : Option R :=
  bif decide (v222 ≥ (0 : Int)) then
   newelref05_slips N v223 (api_Span.Low v224) (api_Span.Low v225) v222 (fun r226 =>
   bif !r226 then
    newelref05_slips N v223 (api_Span.Low v224) (api_Span.High v225) v222 (fun r227 =>
    bif !r227 then
     newelref05_slips N v223 (api_Span.High v224) (api_Span.Low v225) v222 (fun r228 =>
     bif !r228 then
      newelref05_slips N v223 (api_Span.High v224) (api_Span.High v225) v222 (fun r229 =>
      bif !r229 then
       kr v222 (0 : Int)
      else
       rc (w64 (v222 - (1 : Int))) v223 v224 v225)
     else
      rc (w64 (v222 - (1 : Int))) v223 v224 v225)
    else
     rc (w64 (v222 - (1 : Int))) v223 v224 v225)
   else
    rc (w64 (v222 - (1 : Int))) v223 v224 v225)
  else
   k0 ()
def newelref05_Grip_l6 {R : Type} (N : Nat) : Nat → Int → api_Lift → api_Span → api_Span → (Int → Int → Option R) → (Unit → Option R) → Option R
  | 0, _, _, _, _, _, _ => Option.none
  | n + 1, v222, v223, v224, v225, kr, k0 => newelref05_Grip_b6 N (fun v222 v223 v224 v225 => newelref05_Grip_l6 N n v222 v223 v224 v225 kr k0) v222 v223 v224 v225 kr k0


def newelref05_Grip_m {R : Type} (N : Nat) (a217 : api_Lift) (a218 : api_Span) (a219 : api_Span) (k : Int → Int → Option R) : Option R :=
  newelref05_Check N a217 (fun r220 =>
  bif r220 != (0 : Int) then
   k (0 : Int) (50 : Int)
  else
   newelref05_Spans N a217 a218 a219 (fun r221 =>
   bif !r221 then
    k (0 : Int) (1 : Int)
   else
    newelref05_Grip_l6 N N (999 : Int) a217 a218 a219 (fun r230 r231 =>
     k r230 r231) (fun (_ : Unit) =>
     k (0 : Int) (3 : Int))))
noncomputable def newelref05_Grip {R : Type} : Nat → api_Lift → api_Span → api_Span → (Int → Int → Option R) → Option R := lock (@newelref05_Grip_m R)
theorem newelref05_Grip_def {R : Type} (N : Nat) (a217 : api_Lift) (a218 : api_Span) (a219 : api_Span) (k : Int → Int → Option R) : newelref05_Grip N a217 a218 a219 k = newelref05_Grip_m N a217 a218 a219 k := by unfold newelref05_Grip; rw [lock_eq]
def newelref05_Grip_sp : Sp := ⟨[rAgg api_LiftC, rAgg api_SpanC, rAgg api_SpanC], []⟩
theorem newelref05_Grip_sp_ok : newelref05_Grip_sp.Ok := ⟨(allCons (rAgg_ok api_LiftC_ok api_LiftC_len) (allCons (rAgg_ok api_SpanC_ok api_SpanC_len) (allCons (rAgg_ok api_SpanC_ok api_SpanC_len) allNil))), eNil⟩
def newelref05_Grip_rs : Sp := ⟨[rTup [rInt .i64, rInt .i64]], []⟩
theorem newelref05_Grip_rs_ok : newelref05_Grip_rs.Ok := ⟨(allCons (rTup_ok (allCons (rInt_ok .i64) (allCons (rInt_ok .i64) allNil))) allNil), eNil⟩
def newelref05_Grip_run {R : Type} (N : Nat) (args : List SV) (T : Tab) (kf : SV × Tab → Option R) : Option R :=
  newelref05_Grip_m N (Cod.dec api_LiftC (lget (toCs (lget args 0)))) (Cod.dec api_SpanC (lget (toCs (lget args 1)))) (Cod.dec api_SpanC (lget (toCs (lget args 2)))) (fun q0 q1 => kf (lget [.tup [.int .i64 q0, .int .i64 q1]] 0, []))
def newelref05_Grip_d6 {R : Type} (N : Nat) (S0 : St) (k : Exit → St → Option R) : Option R :=
  newelref05_Grip_l6 N N (toI (lget S0.tmps 8)) (Cod.dec api_LiftC (lget (entCs (entAt S0.tab 0)))) (Cod.dec api_SpanC (lget (entCs (entAt S0.tab 1)))) (Cod.dec api_SpanC (lget (entCs (entAt S0.tab 2)))) (fun q0 q1 => k .ret (newelref05_Grip_x6_r q0 q1)) (fun (_ : Unit) => k (.exit 0) (newelref05_Grip_x6_0 ))
def newelref05_Grip_lp {R : Type} (N : Nat) : Lp R := fun body S k => bif (Go.Sx.keyOf body).getD 0 == 6 then newelref05_Grip_L6.head.raw 0 S (fun S0 => newelref05_Grip_d6 N S0 k) else Option.none
theorem newelref05_Grip_l6_eq {R : Type} (N : Nat) (k : Exit → St → Option R) (n : Nat) : ∀ (v0 : Int) (v1 : api_Lift) (v2 : api_Span) (v3 : api_Span), loopM E.Θ (lift_Grip_cal N) (newelref05_Grip_lp N) 0 newelref05_Grip_L6 (bodyAt E 26 6) n (newelref05_Grip_h6 v0 v1 v2 v3) k = newelref05_Grip_l6 N n v0 v1 v2 v3 (fun q0 q1 => k .ret (newelref05_Grip_x6_r q0 q1)) (fun (_ : Unit) => k (.exit 0) (newelref05_Grip_x6_0 )) := by
  induction n with
  | zero => intro v0 v1 v2 v3; rfl
  | succ n ih =>
    intro v0 v1 v2 v3
    refine Eq.trans (b := newelref05_Grip_b6 N (fun v0 v1 v2 v3 => loopM E.Θ (lift_Grip_cal N) (newelref05_Grip_lp N) 0 newelref05_Grip_L6 (bodyAt E 26 6) n (newelref05_Grip_h6 v0 v1 v2 v3) k) v0 v1 v2 v3 (fun q0 q1 => k .ret (newelref05_Grip_x6_r q0 q1)) (fun (_ : Unit) => k (.exit 0) (newelref05_Grip_x6_0 ))) (by kernel_rfl) ?_
    have h : (fun (v0 : Int) (v1 : api_Lift) (v2 : api_Span) (v3 : api_Span) => loopM E.Θ (lift_Grip_cal N) (newelref05_Grip_lp N) 0 newelref05_Grip_L6 (bodyAt E 26 6) n (newelref05_Grip_h6 v0 v1 v2 v3) k) = (fun (v0 : Int) (v1 : api_Lift) (v2 : api_Span) (v3 : api_Span) => newelref05_Grip_l6 N n v0 v1 v2 v3 (fun q0 q1 => k .ret (newelref05_Grip_x6_r q0 q1)) (fun (_ : Unit) => k (.exit 0) (newelref05_Grip_x6_0 ))) := funext fun v0 => funext fun v1 => funext fun v2 => funext fun v3 => ih v0 v1 v2 v3
    rw [h]
    rfl
theorem newelref05_Grip_k6 {R : Type} (N : Nat) : LpKey (R := R) E 26 0 (newelref05_Grip_lp N) 6 :=
  lpKey_of hE (lift_Grip_cal_ok N) newelref05_Grip_L6_ok [] kNil (by kernel_rfl) N fun S k =>
    Eq.trans (b := newelref05_Grip_L6.head.raw 0 S (fun S0 => newelref05_Grip_d6 N S0 k)) (by kernel_rfl) (congrArg (newelref05_Grip_L6.head.raw 0 S) (funext fun S0 => Eq.trans (newelref05_Grip_l6_eq N k N (toI (lget S0.tmps 8)) (Cod.dec api_LiftC (lget (entCs (entAt S0.tab 0)))) (Cod.dec api_SpanC (lget (entCs (entAt S0.tab 1)))) (Cod.dec api_SpanC (lget (entCs (entAt S0.tab 2))))).symm (by kernel_rfl)))
noncomputable def newelref05_Grip_go {R : Type} (N : Nat) (args : List SV) (T : Tab) (kf : SV × Tab → Option R) : Option R :=
  newelref05_Grip N (Cod.dec api_LiftC (lget (toCs (lget args 0)))) (Cod.dec api_SpanC (lget (toCs (lget args 1)))) (Cod.dec api_SpanC (lget (toCs (lget args 2)))) (fun q0 q1 => kf (lget [.tup [.int .i64 q0, .int .i64 q1]] 0, []))
noncomputable def newelref05_Grip_cal {R : Type} (N : Nat) : Cal R := callM (lift_Grip_cal N) 26 0 newelref05_Grip_sp (newelref05_Grip_go N)
theorem newelref05_Grip_cal_ok {R : Type} (N : Nat) : CalOk E.P (newelref05_Grip_cal (R := R) N) :=
  callM_ok hE (lift_Grip_cal_ok N) (lp := newelref05_Grip_lp N) (keys := [6]) (kCons (newelref05_Grip_k6 N) kNil) (by kernel_rfl) newelref05_Grip_sp_ok newelref05_Grip_rs_ok (fun args T kf => Eq.trans (newelref05_Grip_def N (Cod.dec api_LiftC (lget (toCs (lget args 0)))) (Cod.dec api_SpanC (lget (toCs (lget args 1)))) (Cod.dec api_SpanC (lget (toCs (lget args 2)))) (fun q0 q1 => kf (lget [.tup [.int .i64 q0, .int .i64 q1]] 0, []))) (by kernel_rfl : newelref05_Grip_run N args T kf = fnM E (lift_Grip_cal N) (newelref05_Grip_lp N) 26 (newelref05_Grip_sp.vs args) (newelref05_Grip_sp.tab T) 0 (resK newelref05_Grip_rs kf)))


def lift_Balance_1_m {R : Type} (N : Nat) (a250 : Int) (a251 : Int) (a252 : Int) (a253 : Int) (a254 : Int) (a255 : Int) (a256 : Arr Int) (a257 : Int) (a258 : Int) (a259 : Int) (a260 : Int) (a261 : Int) (a262 : Int) (a263 : Int) (k : Bool → Option R) : Option R :=
  lift_within N (api_Span.mk a250 a251) a254 (fun r264 =>
  k r264)
noncomputable def lift_Balance_1 {R : Type} : Nat → Int → Int → Int → Int → Int → Int → Arr Int → Int → Int → Int → Int → Int → Int → Int → (Bool → Option R) → Option R := lock (@lift_Balance_1_m R)
theorem lift_Balance_1_def {R : Type} (N : Nat) (a250 : Int) (a251 : Int) (a252 : Int) (a253 : Int) (a254 : Int) (a255 : Int) (a256 : Arr Int) (a257 : Int) (a258 : Int) (a259 : Int) (a260 : Int) (a261 : Int) (a262 : Int) (a263 : Int) (k : Bool → Option R) : lift_Balance_1 N a250 a251 a252 a253 a254 a255 a256 a257 a258 a259 a260 a261 a262 a263 k = lift_Balance_1_m N a250 a251 a252 a253 a254 a255 a256 a257 a258 a259 a260 a261 a262 a263 k := by unfold lift_Balance_1; rw [lock_eq]
def lift_Balance_1_sp : Sp := ⟨[rPtr 0 0, rPtr 1 0], [(0, eBlk [rInt .i64, rInt .i64]), (1, eBlk [rInt .i64, rInt .i64, rInt .i64, rInt .i64, rSl intC, rInt .i64, rInt .i64, rInt .i64, rInt .i64, rInt .i64, rInt .i64, rInt .i64])]⟩
theorem lift_Balance_1_sp_ok : lift_Balance_1_sp.Ok := ⟨(allCons (rPtr_ok 0 0) (allCons (rPtr_ok 1 0) allNil)), (eCons (eBlk_ok (allCons (rInt_ok .i64) (allCons (rInt_ok .i64) allNil))) (eCons (eBlk_ok (allCons (rInt_ok .i64) (allCons (rInt_ok .i64) (allCons (rInt_ok .i64) (allCons (rInt_ok .i64) (allCons (rSl_ok intC_ok) (allCons (rInt_ok .i64) (allCons (rInt_ok .i64) (allCons (rInt_ok .i64) (allCons (rInt_ok .i64) (allCons (rInt_ok .i64) (allCons (rInt_ok .i64) (allCons (rInt_ok .i64) allNil))))))))))))) eNil))⟩
def lift_Balance_1_rs : Sp := ⟨[rBool], [(0, eBlk [rInt .i64, rInt .i64]), (1, eBlk [rInt .i64, rInt .i64, rInt .i64, rInt .i64, rSl intC, rInt .i64, rInt .i64, rInt .i64, rInt .i64, rInt .i64, rInt .i64, rInt .i64])]⟩
theorem lift_Balance_1_rs_ok : lift_Balance_1_rs.Ok := ⟨(allCons rBool_ok allNil), (eCons (eBlk_ok (allCons (rInt_ok .i64) (allCons (rInt_ok .i64) allNil))) (eCons (eBlk_ok (allCons (rInt_ok .i64) (allCons (rInt_ok .i64) (allCons (rInt_ok .i64) (allCons (rInt_ok .i64) (allCons (rSl_ok intC_ok) (allCons (rInt_ok .i64) (allCons (rInt_ok .i64) (allCons (rInt_ok .i64) (allCons (rInt_ok .i64) (allCons (rInt_ok .i64) (allCons (rInt_ok .i64) (allCons (rInt_ok .i64) allNil))))))))))))) eNil))⟩
def lift_Balance_1_run {R : Type} (N : Nat) (args : List SV) (T : Tab) (kf : SV × Tab → Option R) : Option R :=
  lift_Balance_1_m N (toI (lget (entCs (entAt T 0)) 0)) (toI (lget (entCs (entAt T 0)) 1)) (toI (lget (entCs (entAt T 1)) 0)) (toI (lget (entCs (entAt T 1)) 1)) (toI (lget (entCs (entAt T 1)) 2)) (toI (lget (entCs (entAt T 1)) 3)) (lstC intC (lget (entCs (entAt T 1)) 4)) (toI (lget (entCs (entAt T 1)) 5)) (toI (lget (entCs (entAt T 1)) 6)) (toI (lget (entCs (entAt T 1)) 7)) (toI (lget (entCs (entAt T 1)) 8)) (toI (lget (entCs (entAt T 1)) 9)) (toI (lget (entCs (entAt T 1)) 10)) (toI (lget (entCs (entAt T 1)) 11)) (fun q0 => kf (lget [.bool q0] 0, [(0, .blk [.int .i64 (toI (lget (entCs (entAt T 0)) 0)), .int .i64 (toI (lget (entCs (entAt T 0)) 1))]), (1, .blk [.int .i64 (toI (lget (entCs (entAt T 1)) 0)), .int .i64 (toI (lget (entCs (entAt T 1)) 1)), .int .i64 (toI (lget (entCs (entAt T 1)) 2)), .int .i64 (toI (lget (entCs (entAt T 1)) 3)), slC intC (lstC intC (lget (entCs (entAt T 1)) 4)), .int .i64 (toI (lget (entCs (entAt T 1)) 5)), .int .i64 (toI (lget (entCs (entAt T 1)) 6)), .int .i64 (toI (lget (entCs (entAt T 1)) 7)), .int .i64 (toI (lget (entCs (entAt T 1)) 8)), .int .i64 (toI (lget (entCs (entAt T 1)) 9)), .int .i64 (toI (lget (entCs (entAt T 1)) 10)), .int .i64 (toI (lget (entCs (entAt T 1)) 11))])]))
def lift_Balance_1_lp {R : Type} (N : Nat) : Lp R := fun body S k => Option.none
noncomputable def lift_Balance_1_go {R : Type} (N : Nat) (args : List SV) (T : Tab) (kf : SV × Tab → Option R) : Option R :=
  lift_Balance_1 N (toI (lget (entCs (entAt T 0)) 0)) (toI (lget (entCs (entAt T 0)) 1)) (toI (lget (entCs (entAt T 1)) 0)) (toI (lget (entCs (entAt T 1)) 1)) (toI (lget (entCs (entAt T 1)) 2)) (toI (lget (entCs (entAt T 1)) 3)) (lstC intC (lget (entCs (entAt T 1)) 4)) (toI (lget (entCs (entAt T 1)) 5)) (toI (lget (entCs (entAt T 1)) 6)) (toI (lget (entCs (entAt T 1)) 7)) (toI (lget (entCs (entAt T 1)) 8)) (toI (lget (entCs (entAt T 1)) 9)) (toI (lget (entCs (entAt T 1)) 10)) (toI (lget (entCs (entAt T 1)) 11)) (fun q0 => kf (lget [.bool q0] 0, [(0, .blk [.int .i64 (toI (lget (entCs (entAt T 0)) 0)), .int .i64 (toI (lget (entCs (entAt T 0)) 1))]), (1, .blk [.int .i64 (toI (lget (entCs (entAt T 1)) 0)), .int .i64 (toI (lget (entCs (entAt T 1)) 1)), .int .i64 (toI (lget (entCs (entAt T 1)) 2)), .int .i64 (toI (lget (entCs (entAt T 1)) 3)), slC intC (lstC intC (lget (entCs (entAt T 1)) 4)), .int .i64 (toI (lget (entCs (entAt T 1)) 5)), .int .i64 (toI (lget (entCs (entAt T 1)) 6)), .int .i64 (toI (lget (entCs (entAt T 1)) 7)), .int .i64 (toI (lget (entCs (entAt T 1)) 8)), .int .i64 (toI (lget (entCs (entAt T 1)) 9)), .int .i64 (toI (lget (entCs (entAt T 1)) 10)), .int .i64 (toI (lget (entCs (entAt T 1)) 11))])]))
noncomputable def lift_Balance_1_cal {R : Type} (N : Nat) : Cal R := callM (newelref05_Grip_cal N) 64 2 lift_Balance_1_sp (lift_Balance_1_go N)
theorem lift_Balance_1_cal_ok {R : Type} (N : Nat) : CalOk E.P (lift_Balance_1_cal (R := R) N) :=
  callM_ok hE (newelref05_Grip_cal_ok N) (lp := lift_Balance_1_lp N) (keys := []) kNil (by kernel_rfl) lift_Balance_1_sp_ok lift_Balance_1_rs_ok (fun args T kf => Eq.trans (lift_Balance_1_def N (toI (lget (entCs (entAt T 0)) 0)) (toI (lget (entCs (entAt T 0)) 1)) (toI (lget (entCs (entAt T 1)) 0)) (toI (lget (entCs (entAt T 1)) 1)) (toI (lget (entCs (entAt T 1)) 2)) (toI (lget (entCs (entAt T 1)) 3)) (lstC intC (lget (entCs (entAt T 1)) 4)) (toI (lget (entCs (entAt T 1)) 5)) (toI (lget (entCs (entAt T 1)) 6)) (toI (lget (entCs (entAt T 1)) 7)) (toI (lget (entCs (entAt T 1)) 8)) (toI (lget (entCs (entAt T 1)) 9)) (toI (lget (entCs (entAt T 1)) 10)) (toI (lget (entCs (entAt T 1)) 11)) (fun q0 => kf (lget [.bool q0] 0, [(0, .blk [.int .i64 (toI (lget (entCs (entAt T 0)) 0)), .int .i64 (toI (lget (entCs (entAt T 0)) 1))]), (1, .blk [.int .i64 (toI (lget (entCs (entAt T 1)) 0)), .int .i64 (toI (lget (entCs (entAt T 1)) 1)), .int .i64 (toI (lget (entCs (entAt T 1)) 2)), .int .i64 (toI (lget (entCs (entAt T 1)) 3)), slC intC (lstC intC (lget (entCs (entAt T 1)) 4)), .int .i64 (toI (lget (entCs (entAt T 1)) 5)), .int .i64 (toI (lget (entCs (entAt T 1)) 6)), .int .i64 (toI (lget (entCs (entAt T 1)) 7)), .int .i64 (toI (lget (entCs (entAt T 1)) 8)), .int .i64 (toI (lget (entCs (entAt T 1)) 9)), .int .i64 (toI (lget (entCs (entAt T 1)) 10)), .int .i64 (toI (lget (entCs (entAt T 1)) 11))])]))) (by kernel_rfl : lift_Balance_1_run N args T kf = fnM E (newelref05_Grip_cal N) (lift_Balance_1_lp N) 64 (lift_Balance_1_sp.vs args) (lift_Balance_1_sp.tab T) 2 (resK lift_Balance_1_rs kf)))


def lift_check_v4_m {R : Type} (N : Nat) (a234 : api_Lift) (a235 : Int) (a236 : Int) (a237 : Int) (a238 : Int) (a239 : Int) (a240 : Int) (a241 : Arr Int) (a242 : Int) (a243 : Int) (a244 : Int) (a245 : Int) (a246 : Int) (a247 : Int) (a248 : Int) (k : Int → Option R) : Option R :=
  lift_Check N a234 (fun r249 =>
  bif r249 != (0 : Int) then
   k r249
  else
   lift_Balance_1 N a235 a236 a237 a238 a239 a240 a241 a242 a243 a244 a245 a246 a247 a248 (fun r265 =>
   bif !r265 then
    k (1 : Int)
   else
    k (0 : Int)))
noncomputable def lift_check_v4 {R : Type} : Nat → api_Lift → Int → Int → Int → Int → Int → Int → Arr Int → Int → Int → Int → Int → Int → Int → Int → (Int → Option R) → Option R := lock (@lift_check_v4_m R)
theorem lift_check_v4_def {R : Type} (N : Nat) (a234 : api_Lift) (a235 : Int) (a236 : Int) (a237 : Int) (a238 : Int) (a239 : Int) (a240 : Int) (a241 : Arr Int) (a242 : Int) (a243 : Int) (a244 : Int) (a245 : Int) (a246 : Int) (a247 : Int) (a248 : Int) (k : Int → Option R) : lift_check_v4 N a234 a235 a236 a237 a238 a239 a240 a241 a242 a243 a244 a245 a246 a247 a248 k = lift_check_v4_m N a234 a235 a236 a237 a238 a239 a240 a241 a242 a243 a244 a245 a246 a247 a248 k := by unfold lift_check_v4; rw [lock_eq]
def lift_check_v4_sp : Sp := ⟨[rAgg api_LiftC, rFunc 64 [rPtr 0 0, rPtr 1 0]], [(0, eBlk [rInt .i64, rInt .i64]), (1, eBlk [rInt .i64, rInt .i64, rInt .i64, rInt .i64, rSl intC, rInt .i64, rInt .i64, rInt .i64, rInt .i64, rInt .i64, rInt .i64, rInt .i64])]⟩
theorem lift_check_v4_sp_ok : lift_check_v4_sp.Ok := ⟨(allCons (rAgg_ok api_LiftC_ok api_LiftC_len) (allCons (rFunc_ok 64 (allCons (rPtr_ok 0 0) (allCons (rPtr_ok 1 0) allNil))) allNil)), (eCons (eBlk_ok (allCons (rInt_ok .i64) (allCons (rInt_ok .i64) allNil))) (eCons (eBlk_ok (allCons (rInt_ok .i64) (allCons (rInt_ok .i64) (allCons (rInt_ok .i64) (allCons (rInt_ok .i64) (allCons (rSl_ok intC_ok) (allCons (rInt_ok .i64) (allCons (rInt_ok .i64) (allCons (rInt_ok .i64) (allCons (rInt_ok .i64) (allCons (rInt_ok .i64) (allCons (rInt_ok .i64) (allCons (rInt_ok .i64) allNil))))))))))))) eNil))⟩
def lift_check_v4_rs : Sp := ⟨[rInt .i64], [(0, eBlk [rInt .i64, rInt .i64]), (1, eBlk [rInt .i64, rInt .i64, rInt .i64, rInt .i64, rSl intC, rInt .i64, rInt .i64, rInt .i64, rInt .i64, rInt .i64, rInt .i64, rInt .i64])]⟩
theorem lift_check_v4_rs_ok : lift_check_v4_rs.Ok := ⟨(allCons (rInt_ok .i64) allNil), (eCons (eBlk_ok (allCons (rInt_ok .i64) (allCons (rInt_ok .i64) allNil))) (eCons (eBlk_ok (allCons (rInt_ok .i64) (allCons (rInt_ok .i64) (allCons (rInt_ok .i64) (allCons (rInt_ok .i64) (allCons (rSl_ok intC_ok) (allCons (rInt_ok .i64) (allCons (rInt_ok .i64) (allCons (rInt_ok .i64) (allCons (rInt_ok .i64) (allCons (rInt_ok .i64) (allCons (rInt_ok .i64) (allCons (rInt_ok .i64) allNil))))))))))))) eNil))⟩
def lift_check_v4_run {R : Type} (N : Nat) (args : List SV) (T : Tab) (kf : SV × Tab → Option R) : Option R :=
  lift_check_v4_m N (Cod.dec api_LiftC (lget (toCs (lget args 0)))) (toI (lget (entCs (entAt T 0)) 0)) (toI (lget (entCs (entAt T 0)) 1)) (toI (lget (entCs (entAt T 1)) 0)) (toI (lget (entCs (entAt T 1)) 1)) (toI (lget (entCs (entAt T 1)) 2)) (toI (lget (entCs (entAt T 1)) 3)) (lstC intC (lget (entCs (entAt T 1)) 4)) (toI (lget (entCs (entAt T 1)) 5)) (toI (lget (entCs (entAt T 1)) 6)) (toI (lget (entCs (entAt T 1)) 7)) (toI (lget (entCs (entAt T 1)) 8)) (toI (lget (entCs (entAt T 1)) 9)) (toI (lget (entCs (entAt T 1)) 10)) (toI (lget (entCs (entAt T 1)) 11)) (fun q0 => kf (lget [.int .i64 q0] 0, [(0, .blk [.int .i64 (toI (lget (entCs (entAt T 0)) 0)), .int .i64 (toI (lget (entCs (entAt T 0)) 1))]), (1, .blk [.int .i64 (toI (lget (entCs (entAt T 1)) 0)), .int .i64 (toI (lget (entCs (entAt T 1)) 1)), .int .i64 (toI (lget (entCs (entAt T 1)) 2)), .int .i64 (toI (lget (entCs (entAt T 1)) 3)), slC intC (lstC intC (lget (entCs (entAt T 1)) 4)), .int .i64 (toI (lget (entCs (entAt T 1)) 5)), .int .i64 (toI (lget (entCs (entAt T 1)) 6)), .int .i64 (toI (lget (entCs (entAt T 1)) 7)), .int .i64 (toI (lget (entCs (entAt T 1)) 8)), .int .i64 (toI (lget (entCs (entAt T 1)) 9)), .int .i64 (toI (lget (entCs (entAt T 1)) 10)), .int .i64 (toI (lget (entCs (entAt T 1)) 11))])]))
def lift_check_v4_lp {R : Type} (N : Nat) : Lp R := fun body S k => Option.none
noncomputable def lift_check_v4_go {R : Type} (N : Nat) (args : List SV) (T : Tab) (kf : SV × Tab → Option R) : Option R :=
  lift_check_v4 N (Cod.dec api_LiftC (lget (toCs (lget args 0)))) (toI (lget (entCs (entAt T 0)) 0)) (toI (lget (entCs (entAt T 0)) 1)) (toI (lget (entCs (entAt T 1)) 0)) (toI (lget (entCs (entAt T 1)) 1)) (toI (lget (entCs (entAt T 1)) 2)) (toI (lget (entCs (entAt T 1)) 3)) (lstC intC (lget (entCs (entAt T 1)) 4)) (toI (lget (entCs (entAt T 1)) 5)) (toI (lget (entCs (entAt T 1)) 6)) (toI (lget (entCs (entAt T 1)) 7)) (toI (lget (entCs (entAt T 1)) 8)) (toI (lget (entCs (entAt T 1)) 9)) (toI (lget (entCs (entAt T 1)) 10)) (toI (lget (entCs (entAt T 1)) 11)) (fun q0 => kf (lget [.int .i64 q0] 0, [(0, .blk [.int .i64 (toI (lget (entCs (entAt T 0)) 0)), .int .i64 (toI (lget (entCs (entAt T 0)) 1))]), (1, .blk [.int .i64 (toI (lget (entCs (entAt T 1)) 0)), .int .i64 (toI (lget (entCs (entAt T 1)) 1)), .int .i64 (toI (lget (entCs (entAt T 1)) 2)), .int .i64 (toI (lget (entCs (entAt T 1)) 3)), slC intC (lstC intC (lget (entCs (entAt T 1)) 4)), .int .i64 (toI (lget (entCs (entAt T 1)) 5)), .int .i64 (toI (lget (entCs (entAt T 1)) 6)), .int .i64 (toI (lget (entCs (entAt T 1)) 7)), .int .i64 (toI (lget (entCs (entAt T 1)) 8)), .int .i64 (toI (lget (entCs (entAt T 1)) 9)), .int .i64 (toI (lget (entCs (entAt T 1)) 10)), .int .i64 (toI (lget (entCs (entAt T 1)) 11))])]))
noncomputable def lift_check_v4_cal {R : Type} (N : Nat) : Cal R := callM (lift_Balance_1_cal N) 56 2 lift_check_v4_sp (lift_check_v4_go N)
theorem lift_check_v4_cal_ok {R : Type} (N : Nat) : CalOk E.P (lift_check_v4_cal (R := R) N) :=
  callM_ok hE (lift_Balance_1_cal_ok N) (lp := lift_check_v4_lp N) (keys := []) kNil (by kernel_rfl) lift_check_v4_sp_ok lift_check_v4_rs_ok (fun args T kf => Eq.trans (lift_check_v4_def N (Cod.dec api_LiftC (lget (toCs (lget args 0)))) (toI (lget (entCs (entAt T 0)) 0)) (toI (lget (entCs (entAt T 0)) 1)) (toI (lget (entCs (entAt T 1)) 0)) (toI (lget (entCs (entAt T 1)) 1)) (toI (lget (entCs (entAt T 1)) 2)) (toI (lget (entCs (entAt T 1)) 3)) (lstC intC (lget (entCs (entAt T 1)) 4)) (toI (lget (entCs (entAt T 1)) 5)) (toI (lget (entCs (entAt T 1)) 6)) (toI (lget (entCs (entAt T 1)) 7)) (toI (lget (entCs (entAt T 1)) 8)) (toI (lget (entCs (entAt T 1)) 9)) (toI (lget (entCs (entAt T 1)) 10)) (toI (lget (entCs (entAt T 1)) 11)) (fun q0 => kf (lget [.int .i64 q0] 0, [(0, .blk [.int .i64 (toI (lget (entCs (entAt T 0)) 0)), .int .i64 (toI (lget (entCs (entAt T 0)) 1))]), (1, .blk [.int .i64 (toI (lget (entCs (entAt T 1)) 0)), .int .i64 (toI (lget (entCs (entAt T 1)) 1)), .int .i64 (toI (lget (entCs (entAt T 1)) 2)), .int .i64 (toI (lget (entCs (entAt T 1)) 3)), slC intC (lstC intC (lget (entCs (entAt T 1)) 4)), .int .i64 (toI (lget (entCs (entAt T 1)) 5)), .int .i64 (toI (lget (entCs (entAt T 1)) 6)), .int .i64 (toI (lget (entCs (entAt T 1)) 7)), .int .i64 (toI (lget (entCs (entAt T 1)) 8)), .int .i64 (toI (lget (entCs (entAt T 1)) 9)), .int .i64 (toI (lget (entCs (entAt T 1)) 10)), .int .i64 (toI (lget (entCs (entAt T 1)) 11))])]))) (by kernel_rfl : lift_check_v4_run N args T kf = fnM E (lift_Balance_1_cal N) (lift_check_v4_lp N) 56 (lift_check_v4_sp.vs args) (lift_check_v4_sp.tab T) 2 (resK lift_check_v4_rs kf)))


def lift_Balance_m {R : Type} (N : Nat) (a232 : api_Lift) (a233 : api_Span) (k : Int → Int → Int → Option R) : Option R :=
  lift_check_v4 N a232 (api_Span.Low a233) (api_Span.High a233) (api_Lift.Car a232) (api_Lift.Counter a232) (api_Lift.Rated a232) (api_Lift.Rope a232) (api_Lift.Floors a232) (api_Lift.Num a232) (api_Lift.Den a232) (api_Lift.Speed a232) (api_Lift.Accel a232) (api_Lift.Over a232) (api_Lift.Stiff a232) (api_Lift.Level a232) (fun r266 =>
  bif r266 != (0 : Int) then
   k (0 : Int) (0 : Int) r266
  else
   lift_sides N (api_Lift.mk (api_Lift.Car a232) (0 : Int) (api_Lift.Rated a232) (api_Lift.Rope a232) (api_Lift.Floors a232) (api_Lift.Num a232) (api_Lift.Den a232) (api_Lift.Speed a232) (api_Lift.Accel a232) (api_Lift.Over a232) (api_Lift.Stiff a232) (api_Lift.Level a232)) (0 : Int) (api_Span.High a233) (fun r267 r268 =>
   lift_top N (api_Lift.mk (api_Lift.Car a232) (0 : Int) (api_Lift.Rated a232) (api_Lift.Rope a232) (api_Lift.Floors a232) (api_Lift.Num a232) (api_Lift.Den a232) (api_Lift.Speed a232) (api_Lift.Accel a232) (api_Lift.Over a232) (api_Lift.Stiff a232) (api_Lift.Level a232)) (fun r269 =>
   lift_sides N (api_Lift.mk (api_Lift.Car a232) (0 : Int) (api_Lift.Rated a232) (api_Lift.Rope a232) (api_Lift.Floors a232) (api_Lift.Num a232) (api_Lift.Den a232) (api_Lift.Speed a232) (api_Lift.Accel a232) (api_Lift.Over a232) (api_Lift.Stiff a232) (api_Lift.Level a232)) r269 (api_Span.Low a233) (fun r270 r271 =>
   k (if (100000 : Int) < if w64 (Int.tdiv (w64 (w64 (r267 - r268) + w64 (r270 - r271))) (2 : Int)) > (1 : Int) then w64 (Int.tdiv (w64 (w64 (r267 - r268) + w64 (r270 - r271))) (2 : Int)) else (1 : Int) then (100000 : Int) else if w64 (Int.tdiv (w64 (w64 (r267 - r268) + w64 (r270 - r271))) (2 : Int)) > (1 : Int) then w64 (Int.tdiv (w64 (w64 (r267 - r268) + w64 (r270 - r271))) (2 : Int)) else (1 : Int)) (if w64 ((if (100000 : Int) < if w64 (Int.tdiv (w64 (w64 (r267 - r268) + w64 (r270 - r271))) (2 : Int)) > (1 : Int) then w64 (Int.tdiv (w64 (w64 (r267 - r268) + w64 (r270 - r271))) (2 : Int)) else (1 : Int) then (100000 : Int) else if w64 (Int.tdiv (w64 (w64 (r267 - r268) + w64 (r270 - r271))) (2 : Int)) > (1 : Int) then w64 (Int.tdiv (w64 (w64 (r267 - r268) + w64 (r270 - r271))) (2 : Int)) else (1 : Int)) - w64 (r270 - r271)) > w64 (w64 (r267 - r268) - if (100000 : Int) < if w64 (Int.tdiv (w64 (w64 (r267 - r268) + w64 (r270 - r271))) (2 : Int)) > (1 : Int) then w64 (Int.tdiv (w64 (w64 (r267 - r268) + w64 (r270 - r271))) (2 : Int)) else (1 : Int) then (100000 : Int) else if w64 (Int.tdiv (w64 (w64 (r267 - r268) + w64 (r270 - r271))) (2 : Int)) > (1 : Int) then w64 (Int.tdiv (w64 (w64 (r267 - r268) + w64 (r270 - r271))) (2 : Int)) else (1 : Int)) then w64 ((if (100000 : Int) < if w64 (Int.tdiv (w64 (w64 (r267 - r268) + w64 (r270 - r271))) (2 : Int)) > (1 : Int) then w64 (Int.tdiv (w64 (w64 (r267 - r268) + w64 (r270 - r271))) (2 : Int)) else (1 : Int) then (100000 : Int) else if w64 (Int.tdiv (w64 (w64 (r267 - r268) + w64 (r270 - r271))) (2 : Int)) > (1 : Int) then w64 (Int.tdiv (w64 (w64 (r267 - r268) + w64 (r270 - r271))) (2 : Int)) else (1 : Int)) - w64 (r270 - r271)) else w64 (w64 (r267 - r268) - if (100000 : Int) < if w64 (Int.tdiv (w64 (w64 (r267 - r268) + w64 (r270 - r271))) (2 : Int)) > (1 : Int) then w64 (Int.tdiv (w64 (w64 (r267 - r268) + w64 (r270 - r271))) (2 : Int)) else (1 : Int) then (100000 : Int) else if w64 (Int.tdiv (w64 (w64 (r267 - r268) + w64 (r270 - r271))) (2 : Int)) > (1 : Int) then w64 (Int.tdiv (w64 (w64 (r267 - r268) + w64 (r270 - r271))) (2 : Int)) else (1 : Int))) (0 : Int)))))
noncomputable def lift_Balance {R : Type} : Nat → api_Lift → api_Span → (Int → Int → Int → Option R) → Option R := lock (@lift_Balance_m R)
theorem lift_Balance_def {R : Type} (N : Nat) (a232 : api_Lift) (a233 : api_Span) (k : Int → Int → Int → Option R) : lift_Balance N a232 a233 k = lift_Balance_m N a232 a233 k := by unfold lift_Balance; rw [lock_eq]
def lift_Balance_sp : Sp := ⟨[rAgg api_LiftC, rAgg api_SpanC], []⟩
theorem lift_Balance_sp_ok : lift_Balance_sp.Ok := ⟨(allCons (rAgg_ok api_LiftC_ok api_LiftC_len) (allCons (rAgg_ok api_SpanC_ok api_SpanC_len) allNil)), eNil⟩
def lift_Balance_rs : Sp := ⟨[rTup [rInt .i64, rInt .i64, rInt .i64]], []⟩
theorem lift_Balance_rs_ok : lift_Balance_rs.Ok := ⟨(allCons (rTup_ok (allCons (rInt_ok .i64) (allCons (rInt_ok .i64) (allCons (rInt_ok .i64) allNil)))) allNil), eNil⟩
def lift_Balance_run {R : Type} (N : Nat) (args : List SV) (T : Tab) (kf : SV × Tab → Option R) : Option R :=
  lift_Balance_m N (Cod.dec api_LiftC (lget (toCs (lget args 0)))) (Cod.dec api_SpanC (lget (toCs (lget args 1)))) (fun q0 q1 q2 => kf (lget [.tup [.int .i64 q0, .int .i64 q1, .int .i64 q2]] 0, []))
def lift_Balance_lp {R : Type} (N : Nat) : Lp R := fun body S k => Option.none
noncomputable def lift_Balance_go {R : Type} (N : Nat) (args : List SV) (T : Tab) (kf : SV × Tab → Option R) : Option R :=
  lift_Balance N (Cod.dec api_LiftC (lget (toCs (lget args 0)))) (Cod.dec api_SpanC (lget (toCs (lget args 1)))) (fun q0 q1 q2 => kf (lget [.tup [.int .i64 q0, .int .i64 q1, .int .i64 q2]] 0, []))
noncomputable def lift_Balance_cal {R : Type} (N : Nat) : Cal R := callM (lift_check_v4_cal N) 27 0 lift_Balance_sp (lift_Balance_go N)
theorem lift_Balance_cal_ok {R : Type} (N : Nat) : CalOk E.P (lift_Balance_cal (R := R) N) :=
  callM_ok hE (lift_check_v4_cal_ok N) (lp := lift_Balance_lp N) (keys := []) kNil (by kernel_rfl) lift_Balance_sp_ok lift_Balance_rs_ok (fun args T kf => Eq.trans (lift_Balance_def N (Cod.dec api_LiftC (lget (toCs (lget args 0)))) (Cod.dec api_SpanC (lget (toCs (lget args 1)))) (fun q0 q1 q2 => kf (lget [.tup [.int .i64 q0, .int .i64 q1, .int .i64 q2]] 0, []))) (by kernel_rfl : lift_Balance_run N args T kf = fnM E (lift_check_v4_cal N) (lift_Balance_lp N) 27 (lift_Balance_sp.vs args) (lift_Balance_sp.tab T) 0 (resK lift_Balance_rs kf)))


def newelref05_apart_m {R : Type} (N : Nat) (a272 : Int) (a273 : Int) (k : Int → Option R) : Option R :=
  k (if w64 (a273 - a272) > w64 (a272 - a273) then w64 (a273 - a272) else w64 (a272 - a273))
noncomputable def newelref05_apart {R : Type} : Nat → Int → Int → (Int → Option R) → Option R := lock (@newelref05_apart_m R)
theorem newelref05_apart_def {R : Type} (N : Nat) (a272 : Int) (a273 : Int) (k : Int → Option R) : newelref05_apart N a272 a273 k = newelref05_apart_m N a272 a273 k := by unfold newelref05_apart; rw [lock_eq]
def newelref05_apart_sp : Sp := ⟨[rInt .i64, rInt .i64], []⟩
theorem newelref05_apart_sp_ok : newelref05_apart_sp.Ok := ⟨(allCons (rInt_ok .i64) (allCons (rInt_ok .i64) allNil)), eNil⟩
def newelref05_apart_rs : Sp := ⟨[rInt .i64], []⟩
theorem newelref05_apart_rs_ok : newelref05_apart_rs.Ok := ⟨(allCons (rInt_ok .i64) allNil), eNil⟩
def newelref05_apart_run {R : Type} (N : Nat) (args : List SV) (T : Tab) (kf : SV × Tab → Option R) : Option R :=
  newelref05_apart_m N (toI (lget args 0)) (toI (lget args 1)) (fun q0 => kf (lget [.int .i64 q0] 0, []))
def newelref05_apart_lp {R : Type} (N : Nat) : Lp R := fun body S k => Option.none
noncomputable def newelref05_apart_go {R : Type} (N : Nat) (args : List SV) (T : Tab) (kf : SV × Tab → Option R) : Option R :=
  newelref05_apart N (toI (lget args 0)) (toI (lget args 1)) (fun q0 => kf (lget [.int .i64 q0] 0, []))
noncomputable def newelref05_apart_cal {R : Type} (N : Nat) : Cal R := callM (lift_Balance_cal N) 62 0 newelref05_apart_sp (newelref05_apart_go N)
theorem newelref05_apart_cal_ok {R : Type} (N : Nat) : CalOk E.P (newelref05_apart_cal (R := R) N) :=
  callM_ok hE (lift_Balance_cal_ok N) (lp := newelref05_apart_lp N) (keys := []) kNil (by kernel_rfl) newelref05_apart_sp_ok newelref05_apart_rs_ok (fun args T kf => Eq.trans (newelref05_apart_def N (toI (lget args 0)) (toI (lget args 1)) (fun q0 => kf (lget [.int .i64 q0] 0, []))) (by kernel_rfl : newelref05_apart_run N args T kf = fnM E (lift_Balance_cal N) (newelref05_apart_lp N) 62 (newelref05_apart_sp.vs args) (newelref05_apart_sp.tab T) 0 (resK newelref05_apart_rs kf)))

def newelref05_Worst_L4 : LoopSp := ⟨⟨[3, 4, 7, 8], ⟨(dr 3 ((rPtr 0 0) :: (rPtr 1 0) :: (dr 2 ((rInt .i64) :: (rInt .i64) :: (dr 35 []))))), [(0, eBlkC api_LiftC), (1, eBlkC api_SpanC)]⟩, 2⟩, [(some 0, ⟨[7], ⟨(dr 7 ((rInt .i64) :: (dr 36 []))), []⟩, 0⟩)]⟩
theorem newelref05_Worst_L4_ok : newelref05_Worst_L4.Ok := ⟨⟨(drCons 3 (allCons (rPtr_ok 0 0) (allCons (rPtr_ok 1 0) (drCons 2 (allCons (rInt_ok .i64) (allCons (rInt_ok .i64) (drCons 35 allNil))))))), (eCons (eBlkC_ok api_LiftC_ok api_LiftC_len) (eCons (eBlkC_ok api_SpanC_ok api_SpanC_len) eNil))⟩, (xCons ⟨(drCons 7 (allCons (rInt_ok .i64) (drCons 36 allNil))), eNil⟩ xNil)⟩
def newelref05_Worst_h4 (v277 : Int) (v278 : Int) (v279 : api_Lift) (v280 : api_Span) : St := ⟨(un 3 ((.ptr 0 0) :: (.ptr 1 0) :: (un 2 ((.int .i64 v277) :: (.int .i64 v278) :: (un 35 []))))), [(0, .blk (Cod.enc api_LiftC v279)), (1, .blk (Cod.enc api_SpanC v280))], 2⟩
def newelref05_Worst_x4_0 (q0 : Int) : St := ⟨(un 7 ((.int .i64 q0) :: (un 36 []))), [], 0⟩
def newelref05_Worst_b4 {R : Type} (N : Nat) (rc : Int → Int → api_Lift → api_Span → Option R) (v277 : Int) (v278 : Int) (v279 : api_Lift) (v280 : api_Span) (k0 : Int → Option R) : Option R :=
  bif decide (v278 < (4 : Int)) then
   bif Int.tmod v278 (2 : Int) == (1 : Int) then
    newelref05_Top N v279 (fun r281 =>
    bif w64 (Int.tdiv v278 (2 : Int)) == (1 : Int) then
     newelref05_sides N v279 r281 (api_Span.High v280) (fun r282 r283 =>
     newelref05_apart N r282 r283 (fun r284 =>
     rc (if r284 > v277 then r284 else v277) (w64 (v278 + (1 : Int))) v279 v280))
    else
     newelref05_sides N v279 r281 (api_Span.Low v280) (fun r285 r286 =>
     newelref05_apart N r285 r286 (fun r287 =>
     rc (if r287 > v277 then r287 else v277) (w64 (v278 + (1 : Int))) v279 v280)))
   else
    bif w64 (Int.tdiv v278 (2 : Int)) == (1 : Int) then
     newelref05_sides N v279 (0 : Int) (api_Span.High v280) (fun r288 r289 =>
     newelref05_apart N r288 r289 (fun r290 =>
     rc (if r290 > v277 then r290 else v277) (w64 (v278 + (1 : Int))) v279 v280))
    else
     newelref05_sides N v279 (0 : Int) (api_Span.Low v280) (fun r291 r292 =>
     newelref05_apart N r291 r292 (fun r293 =>
     rc (if r293 > v277 then r293 else v277) (w64 (v278 + (1 : Int))) v279 v280))
  else
   k0 v277
def newelref05_Worst_l4 {R : Type} (N : Nat) : Nat → Int → Int → api_Lift → api_Span → (Int → Option R) → Option R
  | 0, _, _, _, _, _ => Option.none
  | n + 1, v277, v278, v279, v280, k0 => newelref05_Worst_b4 N (fun v277 v278 v279 v280 => newelref05_Worst_l4 N n v277 v278 v279 v280 k0) v277 v278 v279 v280 k0


def newelref05_Worst_m {R : Type} (N : Nat) (a274 : api_Lift) (a275 : api_Span) (a276 : Int) (k : Int → Option R) : Option R :=
  newelref05_Worst_l4 N N (0 : Int) (0 : Int) (api_Lift.mk (api_Lift.Car a274) a276 (api_Lift.Rated a274) (api_Lift.Rope a274) (api_Lift.Floors a274) (api_Lift.Num a274) (api_Lift.Den a274) (api_Lift.Speed a274) (api_Lift.Accel a274) (api_Lift.Over a274) (api_Lift.Stiff a274) (api_Lift.Level a274)) a275 (fun r294 =>
   k r294)
noncomputable def newelref05_Worst {R : Type} : Nat → api_Lift → api_Span → Int → (Int → Option R) → Option R := lock (@newelref05_Worst_m R)
theorem newelref05_Worst_def {R : Type} (N : Nat) (a274 : api_Lift) (a275 : api_Span) (a276 : Int) (k : Int → Option R) : newelref05_Worst N a274 a275 a276 k = newelref05_Worst_m N a274 a275 a276 k := by unfold newelref05_Worst; rw [lock_eq]
def newelref05_Worst_sp : Sp := ⟨[rAgg api_LiftC, rAgg api_SpanC, rInt .i64], []⟩
theorem newelref05_Worst_sp_ok : newelref05_Worst_sp.Ok := ⟨(allCons (rAgg_ok api_LiftC_ok api_LiftC_len) (allCons (rAgg_ok api_SpanC_ok api_SpanC_len) (allCons (rInt_ok .i64) allNil))), eNil⟩
def newelref05_Worst_rs : Sp := ⟨[rInt .i64], []⟩
theorem newelref05_Worst_rs_ok : newelref05_Worst_rs.Ok := ⟨(allCons (rInt_ok .i64) allNil), eNil⟩
def newelref05_Worst_run {R : Type} (N : Nat) (args : List SV) (T : Tab) (kf : SV × Tab → Option R) : Option R :=
  newelref05_Worst_m N (Cod.dec api_LiftC (lget (toCs (lget args 0)))) (Cod.dec api_SpanC (lget (toCs (lget args 1)))) (toI (lget args 2)) (fun q0 => kf (lget [.int .i64 q0] 0, []))
def newelref05_Worst_d4 {R : Type} (N : Nat) (S0 : St) (k : Exit → St → Option R) : Option R :=
  newelref05_Worst_l4 N N (toI (lget S0.tmps 7)) (toI (lget S0.tmps 8)) (Cod.dec api_LiftC (lget (entCs (entAt S0.tab 0)))) (Cod.dec api_SpanC (lget (entCs (entAt S0.tab 1)))) (fun q0 => k (.exit 0) (newelref05_Worst_x4_0 q0))
def newelref05_Worst_lp {R : Type} (N : Nat) : Lp R := fun body S k => bif (Go.Sx.keyOf body).getD 0 == 4 then newelref05_Worst_L4.head.raw 0 S (fun S0 => newelref05_Worst_d4 N S0 k) else Option.none
theorem newelref05_Worst_l4_eq {R : Type} (N : Nat) (k : Exit → St → Option R) (n : Nat) : ∀ (v0 : Int) (v1 : Int) (v2 : api_Lift) (v3 : api_Span), loopM E.Θ (newelref05_apart_cal N) (newelref05_Worst_lp N) 0 newelref05_Worst_L4 (bodyAt E 37 4) n (newelref05_Worst_h4 v0 v1 v2 v3) k = newelref05_Worst_l4 N n v0 v1 v2 v3 (fun q0 => k (.exit 0) (newelref05_Worst_x4_0 q0)) := by
  induction n with
  | zero => intro v0 v1 v2 v3; rfl
  | succ n ih =>
    intro v0 v1 v2 v3
    refine Eq.trans (b := newelref05_Worst_b4 N (fun v0 v1 v2 v3 => loopM E.Θ (newelref05_apart_cal N) (newelref05_Worst_lp N) 0 newelref05_Worst_L4 (bodyAt E 37 4) n (newelref05_Worst_h4 v0 v1 v2 v3) k) v0 v1 v2 v3 (fun q0 => k (.exit 0) (newelref05_Worst_x4_0 q0))) (by kernel_rfl) ?_
    have h : (fun (v0 : Int) (v1 : Int) (v2 : api_Lift) (v3 : api_Span) => loopM E.Θ (newelref05_apart_cal N) (newelref05_Worst_lp N) 0 newelref05_Worst_L4 (bodyAt E 37 4) n (newelref05_Worst_h4 v0 v1 v2 v3) k) = (fun (v0 : Int) (v1 : Int) (v2 : api_Lift) (v3 : api_Span) => newelref05_Worst_l4 N n v0 v1 v2 v3 (fun q0 => k (.exit 0) (newelref05_Worst_x4_0 q0))) := funext fun v0 => funext fun v1 => funext fun v2 => funext fun v3 => ih v0 v1 v2 v3
    rw [h]
    rfl
theorem newelref05_Worst_k4 {R : Type} (N : Nat) : LpKey (R := R) E 37 0 (newelref05_Worst_lp N) 4 :=
  lpKey_of hE (newelref05_apart_cal_ok N) newelref05_Worst_L4_ok [] kNil (by kernel_rfl) N fun S k =>
    Eq.trans (b := newelref05_Worst_L4.head.raw 0 S (fun S0 => newelref05_Worst_d4 N S0 k)) (by kernel_rfl) (congrArg (newelref05_Worst_L4.head.raw 0 S) (funext fun S0 => Eq.trans (newelref05_Worst_l4_eq N k N (toI (lget S0.tmps 7)) (toI (lget S0.tmps 8)) (Cod.dec api_LiftC (lget (entCs (entAt S0.tab 0)))) (Cod.dec api_SpanC (lget (entCs (entAt S0.tab 1))))).symm (by kernel_rfl)))
noncomputable def newelref05_Worst_go {R : Type} (N : Nat) (args : List SV) (T : Tab) (kf : SV × Tab → Option R) : Option R :=
  newelref05_Worst N (Cod.dec api_LiftC (lget (toCs (lget args 0)))) (Cod.dec api_SpanC (lget (toCs (lget args 1)))) (toI (lget args 2)) (fun q0 => kf (lget [.int .i64 q0] 0, []))
noncomputable def newelref05_Worst_cal {R : Type} (N : Nat) : Cal R := callM (newelref05_apart_cal N) 37 0 newelref05_Worst_sp (newelref05_Worst_go N)
theorem newelref05_Worst_cal_ok {R : Type} (N : Nat) : CalOk E.P (newelref05_Worst_cal (R := R) N) :=
  callM_ok hE (newelref05_apart_cal_ok N) (lp := newelref05_Worst_lp N) (keys := [4]) (kCons (newelref05_Worst_k4 N) kNil) (by kernel_rfl) newelref05_Worst_sp_ok newelref05_Worst_rs_ok (fun args T kf => Eq.trans (newelref05_Worst_def N (Cod.dec api_LiftC (lget (toCs (lget args 0)))) (Cod.dec api_SpanC (lget (toCs (lget args 1)))) (toI (lget args 2)) (fun q0 => kf (lget [.int .i64 q0] 0, []))) (by kernel_rfl : newelref05_Worst_run N args T kf = fnM E (newelref05_apart_cal N) (newelref05_Worst_lp N) 37 (newelref05_Worst_sp.vs args) (newelref05_Worst_sp.tab T) 0 (resK newelref05_Worst_rs kf)))

def newelref05_Balance_L9 : LoopSp := ⟨⟨[2, 3, 4], ⟨(dr 2 ((rPtr 0 0) :: (rPtr 1 0) :: (rInt .i64) :: (dr 60 []))), [(0, eBlkC api_LiftC), (1, eBlkC api_SpanC)]⟩, 2⟩, [(some 0, ⟨[2, 3, 4], ⟨(dr 2 ((rPtr 0 0) :: (rPtr 1 0) :: (rInt .i64) :: (dr 60 []))), [(0, eBlkC api_LiftC), (1, eBlkC api_SpanC)]⟩, 2⟩)]⟩
theorem newelref05_Balance_L9_ok : newelref05_Balance_L9.Ok := ⟨⟨(drCons 2 (allCons (rPtr_ok 0 0) (allCons (rPtr_ok 1 0) (allCons (rInt_ok .i64) (drCons 60 allNil))))), (eCons (eBlkC_ok api_LiftC_ok api_LiftC_len) (eCons (eBlkC_ok api_SpanC_ok api_SpanC_len) eNil))⟩, (xCons ⟨(drCons 2 (allCons (rPtr_ok 0 0) (allCons (rPtr_ok 1 0) (allCons (rInt_ok .i64) (drCons 60 allNil))))), (eCons (eBlkC_ok api_LiftC_ok api_LiftC_len) (eCons (eBlkC_ok api_SpanC_ok api_SpanC_len) eNil))⟩ xNil)⟩
def newelref05_Balance_h9 (v302 : Int) (v303 : api_Lift) (v304 : api_Span) : St := ⟨(un 2 ((.ptr 0 0) :: (.ptr 1 0) :: (.int .i64 v302) :: (un 60 []))), [(0, .blk (Cod.enc api_LiftC v303)), (1, .blk (Cod.enc api_SpanC v304))], 2⟩
def newelref05_Balance_x9_0 (v303 : api_Lift) (v304 : api_Span) (q0 : Int) : St := ⟨(un 2 ((.ptr 0 0) :: (.ptr 1 0) :: (.int .i64 q0) :: (un 60 []))), [(0, .blk (Cod.enc api_LiftC v303)), (1, .blk (Cod.enc api_SpanC v304))], 2⟩
def newelref05_Balance_b9 {R : Type} (N : Nat) (rc : Int → api_Lift → api_Span → Option R) (v302 : Int) (v303 : api_Lift) (v304 : api_Span) (k0 : Int → Option R) : Option R :=
  bif decide (v302 > (1 : Int)) then
   newelref05_Worst N v303 v304 (w64 (v302 - (1 : Int))) (fun r305 =>
   newelref05_Worst N v303 v304 v302 (fun r306 =>
   bif decide (r305 ≤ r306) then
    rc (w64 (v302 - (1 : Int))) v303 v304
   else
    k0 v302))
  else
   k0 v302
def newelref05_Balance_l9 {R : Type} (N : Nat) : Nat → Int → api_Lift → api_Span → (Int → Option R) → Option R
  | 0, _, _, _, _ => Option.none
  | n + 1, v302, v303, v304, k0 => newelref05_Balance_b9 N (fun v302 v303 v304 => newelref05_Balance_l9 N n v302 v303 v304 k0) v302 v303 v304 k0


def newelref05_Balance_m {R : Type} (N : Nat) (a295 : api_Lift) (a296 : api_Span) (k : Int → Int → Int → Option R) : Option R :=
  newelref05_Check N a295 (fun r297 =>
  bif r297 != (0 : Int) then
   k (0 : Int) (0 : Int) (50 : Int)
  else
   newelref05_Spans N a295 (api_Span.mk (0 : Int) (0 : Int)) a296 (fun r298 =>
   bif !r298 then
    k (0 : Int) (0 : Int) (1 : Int)
   else
    newelref05_sides N a295 (0 : Int) (api_Span.High a296) (fun r299 r300 =>
    newelref05_Top N a295 (fun r301 =>
    newelref05_Balance_l9 N N (if (100000 : Int) < if (1 : Int) > w64 (Int.tdiv (w64 (r299 + w64 (w64 (api_Lift.Car a295 + api_Span.Low a296) - w64 (api_Lift.Rope a295 * r301)))) (2 : Int)) then (1 : Int) else w64 (Int.tdiv (w64 (r299 + w64 (w64 (api_Lift.Car a295 + api_Span.Low a296) - w64 (api_Lift.Rope a295 * r301)))) (2 : Int)) then (100000 : Int) else if (1 : Int) > w64 (Int.tdiv (w64 (r299 + w64 (w64 (api_Lift.Car a295 + api_Span.Low a296) - w64 (api_Lift.Rope a295 * r301)))) (2 : Int)) then (1 : Int) else w64 (Int.tdiv (w64 (r299 + w64 (w64 (api_Lift.Car a295 + api_Span.Low a296) - w64 (api_Lift.Rope a295 * r301)))) (2 : Int))) a295 a296 (fun r307 =>
     newelref05_Worst N a295 a296 r307 (fun r308 =>
     k r307 r308 (0 : Int)))))))
noncomputable def newelref05_Balance {R : Type} : Nat → api_Lift → api_Span → (Int → Int → Int → Option R) → Option R := lock (@newelref05_Balance_m R)
theorem newelref05_Balance_def {R : Type} (N : Nat) (a295 : api_Lift) (a296 : api_Span) (k : Int → Int → Int → Option R) : newelref05_Balance N a295 a296 k = newelref05_Balance_m N a295 a296 k := by unfold newelref05_Balance; rw [lock_eq]
def newelref05_Balance_sp : Sp := ⟨[rAgg api_LiftC, rAgg api_SpanC], []⟩
theorem newelref05_Balance_sp_ok : newelref05_Balance_sp.Ok := ⟨(allCons (rAgg_ok api_LiftC_ok api_LiftC_len) (allCons (rAgg_ok api_SpanC_ok api_SpanC_len) allNil)), eNil⟩
def newelref05_Balance_rs : Sp := ⟨[rTup [rInt .i64, rInt .i64, rInt .i64]], []⟩
theorem newelref05_Balance_rs_ok : newelref05_Balance_rs.Ok := ⟨(allCons (rTup_ok (allCons (rInt_ok .i64) (allCons (rInt_ok .i64) (allCons (rInt_ok .i64) allNil)))) allNil), eNil⟩
def newelref05_Balance_run {R : Type} (N : Nat) (args : List SV) (T : Tab) (kf : SV × Tab → Option R) : Option R :=
  newelref05_Balance_m N (Cod.dec api_LiftC (lget (toCs (lget args 0)))) (Cod.dec api_SpanC (lget (toCs (lget args 1)))) (fun q0 q1 q2 => kf (lget [.tup [.int .i64 q0, .int .i64 q1, .int .i64 q2]] 0, []))
def newelref05_Balance_d9 {R : Type} (N : Nat) (S0 : St) (k : Exit → St → Option R) : Option R :=
  newelref05_Balance_l9 N N (toI (lget S0.tmps 4)) (Cod.dec api_LiftC (lget (entCs (entAt S0.tab 0)))) (Cod.dec api_SpanC (lget (entCs (entAt S0.tab 1)))) (fun q0 => k (.exit 0) (newelref05_Balance_x9_0 (Cod.dec api_LiftC (lget (entCs (entAt S0.tab 0)))) (Cod.dec api_SpanC (lget (entCs (entAt S0.tab 1)))) q0))
def newelref05_Balance_lp {R : Type} (N : Nat) : Lp R := fun body S k => bif (Go.Sx.keyOf body).getD 0 == 9 then newelref05_Balance_L9.head.raw 0 S (fun S0 => newelref05_Balance_d9 N S0 k) else Option.none
theorem newelref05_Balance_l9_eq {R : Type} (N : Nat) (k : Exit → St → Option R) (n : Nat) : ∀ (v0 : Int) (v1 : api_Lift) (v2 : api_Span), loopM E.Θ (newelref05_Worst_cal N) (newelref05_Balance_lp N) 0 newelref05_Balance_L9 (bodyAt E 28 9) n (newelref05_Balance_h9 v0 v1 v2) k = newelref05_Balance_l9 N n v0 v1 v2 (fun q0 => k (.exit 0) (newelref05_Balance_x9_0 v1 v2 q0)) := by
  induction n with
  | zero => intro v0 v1 v2; rfl
  | succ n ih =>
    intro v0 v1 v2
    refine Eq.trans (b := newelref05_Balance_b9 N (fun v0 v1 v2 => loopM E.Θ (newelref05_Worst_cal N) (newelref05_Balance_lp N) 0 newelref05_Balance_L9 (bodyAt E 28 9) n (newelref05_Balance_h9 v0 v1 v2) k) v0 v1 v2 (fun q0 => k (.exit 0) (newelref05_Balance_x9_0 v1 v2 q0))) (by kernel_rfl) ?_
    have h : (fun (v0 : Int) (v1 : api_Lift) (v2 : api_Span) => loopM E.Θ (newelref05_Worst_cal N) (newelref05_Balance_lp N) 0 newelref05_Balance_L9 (bodyAt E 28 9) n (newelref05_Balance_h9 v0 v1 v2) k) = (fun (v0 : Int) (v1 : api_Lift) (v2 : api_Span) => newelref05_Balance_l9 N n v0 v1 v2 (fun q0 => k (.exit 0) (newelref05_Balance_x9_0 v1 v2 q0))) := funext fun v0 => funext fun v1 => funext fun v2 => ih v0 v1 v2
    rw [h]
    rfl
theorem newelref05_Balance_k9 {R : Type} (N : Nat) : LpKey (R := R) E 28 0 (newelref05_Balance_lp N) 9 :=
  lpKey_of hE (newelref05_Worst_cal_ok N) newelref05_Balance_L9_ok [] kNil (by kernel_rfl) N fun S k =>
    Eq.trans (b := newelref05_Balance_L9.head.raw 0 S (fun S0 => newelref05_Balance_d9 N S0 k)) (by kernel_rfl) (congrArg (newelref05_Balance_L9.head.raw 0 S) (funext fun S0 => Eq.trans (newelref05_Balance_l9_eq N k N (toI (lget S0.tmps 4)) (Cod.dec api_LiftC (lget (entCs (entAt S0.tab 0)))) (Cod.dec api_SpanC (lget (entCs (entAt S0.tab 1))))).symm (by kernel_rfl)))
noncomputable def newelref05_Balance_go {R : Type} (N : Nat) (args : List SV) (T : Tab) (kf : SV × Tab → Option R) : Option R :=
  newelref05_Balance N (Cod.dec api_LiftC (lget (toCs (lget args 0)))) (Cod.dec api_SpanC (lget (toCs (lget args 1)))) (fun q0 q1 q2 => kf (lget [.tup [.int .i64 q0, .int .i64 q1, .int .i64 q2]] 0, []))
noncomputable def newelref05_Balance_cal {R : Type} (N : Nat) : Cal R := callM (newelref05_Worst_cal N) 28 0 newelref05_Balance_sp (newelref05_Balance_go N)
theorem newelref05_Balance_cal_ok {R : Type} (N : Nat) : CalOk E.P (newelref05_Balance_cal (R := R) N) :=
  callM_ok hE (newelref05_Worst_cal_ok N) (lp := newelref05_Balance_lp N) (keys := [9]) (kCons (newelref05_Balance_k9 N) kNil) (by kernel_rfl) newelref05_Balance_sp_ok newelref05_Balance_rs_ok (fun args T kf => Eq.trans (newelref05_Balance_def N (Cod.dec api_LiftC (lget (toCs (lget args 0)))) (Cod.dec api_SpanC (lget (toCs (lget args 1)))) (fun q0 q1 q2 => kf (lget [.tup [.int .i64 q0, .int .i64 q1, .int .i64 q2]] 0, []))) (by kernel_rfl : newelref05_Balance_run N args T kf = fnM E (newelref05_Worst_cal N) (newelref05_Balance_lp N) 28 (newelref05_Balance_sp.vs args) (newelref05_Balance_sp.tab T) 0 (resK newelref05_Balance_rs kf)))


def lift_Sink_1_m {R : Type} (N : Nat) (a330 : Int) (a331 : Int) (a332 : Int) (a333 : Int) (a334 : Int) (a335 : Arr Int) (a336 : Int) (a337 : Int) (a338 : Int) (a339 : Int) (a340 : Int) (a341 : Int) (a342 : Int) (a343 : Int) (a344 : Int) (k : Bool → Option R) : Option R :=
  lift_between N a330 (0 : Int) (w64 ((↑(Arr.n a335) : Int) - (1 : Int))) (fun r345 =>
  bif r345 then
   lift_between N a343 (0 : Int) a333 (fun r346 =>
   bif r346 then
    lift_between N a344 (0 : Int) a333 (fun r347 =>
    k r347)
   else
    k false)
  else
   k false)
noncomputable def lift_Sink_1 {R : Type} : Nat → Int → Int → Int → Int → Int → Arr Int → Int → Int → Int → Int → Int → Int → Int → Int → Int → (Bool → Option R) → Option R := lock (@lift_Sink_1_m R)
theorem lift_Sink_1_def {R : Type} (N : Nat) (a330 : Int) (a331 : Int) (a332 : Int) (a333 : Int) (a334 : Int) (a335 : Arr Int) (a336 : Int) (a337 : Int) (a338 : Int) (a339 : Int) (a340 : Int) (a341 : Int) (a342 : Int) (a343 : Int) (a344 : Int) (k : Bool → Option R) : lift_Sink_1 N a330 a331 a332 a333 a334 a335 a336 a337 a338 a339 a340 a341 a342 a343 a344 k = lift_Sink_1_m N a330 a331 a332 a333 a334 a335 a336 a337 a338 a339 a340 a341 a342 a343 a344 k := by unfold lift_Sink_1; rw [lock_eq]
def lift_Sink_1_sp : Sp := ⟨[rPtr 0 0, rPtr 1 0, rPtr 2 0, rPtr 3 0], [(0, eBlk [rInt .i64]), (1, eBlk [rInt .i64, rInt .i64, rInt .i64, rInt .i64, rSl intC, rInt .i64, rInt .i64, rInt .i64, rInt .i64, rInt .i64, rInt .i64, rInt .i64]), (2, eBlk [rInt .i64]), (3, eBlk [rInt .i64])]⟩
theorem lift_Sink_1_sp_ok : lift_Sink_1_sp.Ok := ⟨(allCons (rPtr_ok 0 0) (allCons (rPtr_ok 1 0) (allCons (rPtr_ok 2 0) (allCons (rPtr_ok 3 0) allNil)))), (eCons (eBlk_ok (allCons (rInt_ok .i64) allNil)) (eCons (eBlk_ok (allCons (rInt_ok .i64) (allCons (rInt_ok .i64) (allCons (rInt_ok .i64) (allCons (rInt_ok .i64) (allCons (rSl_ok intC_ok) (allCons (rInt_ok .i64) (allCons (rInt_ok .i64) (allCons (rInt_ok .i64) (allCons (rInt_ok .i64) (allCons (rInt_ok .i64) (allCons (rInt_ok .i64) (allCons (rInt_ok .i64) allNil))))))))))))) (eCons (eBlk_ok (allCons (rInt_ok .i64) allNil)) (eCons (eBlk_ok (allCons (rInt_ok .i64) allNil)) eNil))))⟩
def lift_Sink_1_rs : Sp := ⟨[rBool], [(0, eBlk [rInt .i64]), (1, eBlk [rInt .i64, rInt .i64, rInt .i64, rInt .i64, rSl intC, rInt .i64, rInt .i64, rInt .i64, rInt .i64, rInt .i64, rInt .i64, rInt .i64]), (2, eBlk [rInt .i64]), (3, eBlk [rInt .i64])]⟩
theorem lift_Sink_1_rs_ok : lift_Sink_1_rs.Ok := ⟨(allCons rBool_ok allNil), (eCons (eBlk_ok (allCons (rInt_ok .i64) allNil)) (eCons (eBlk_ok (allCons (rInt_ok .i64) (allCons (rInt_ok .i64) (allCons (rInt_ok .i64) (allCons (rInt_ok .i64) (allCons (rSl_ok intC_ok) (allCons (rInt_ok .i64) (allCons (rInt_ok .i64) (allCons (rInt_ok .i64) (allCons (rInt_ok .i64) (allCons (rInt_ok .i64) (allCons (rInt_ok .i64) (allCons (rInt_ok .i64) allNil))))))))))))) (eCons (eBlk_ok (allCons (rInt_ok .i64) allNil)) (eCons (eBlk_ok (allCons (rInt_ok .i64) allNil)) eNil))))⟩
def lift_Sink_1_run {R : Type} (N : Nat) (args : List SV) (T : Tab) (kf : SV × Tab → Option R) : Option R :=
  lift_Sink_1_m N (toI (lget (entCs (entAt T 0)) 0)) (toI (lget (entCs (entAt T 1)) 0)) (toI (lget (entCs (entAt T 1)) 1)) (toI (lget (entCs (entAt T 1)) 2)) (toI (lget (entCs (entAt T 1)) 3)) (lstC intC (lget (entCs (entAt T 1)) 4)) (toI (lget (entCs (entAt T 1)) 5)) (toI (lget (entCs (entAt T 1)) 6)) (toI (lget (entCs (entAt T 1)) 7)) (toI (lget (entCs (entAt T 1)) 8)) (toI (lget (entCs (entAt T 1)) 9)) (toI (lget (entCs (entAt T 1)) 10)) (toI (lget (entCs (entAt T 1)) 11)) (toI (lget (entCs (entAt T 2)) 0)) (toI (lget (entCs (entAt T 3)) 0)) (fun q0 => kf (lget [.bool q0] 0, [(0, .blk [.int .i64 (toI (lget (entCs (entAt T 0)) 0))]), (1, .blk [.int .i64 (toI (lget (entCs (entAt T 1)) 0)), .int .i64 (toI (lget (entCs (entAt T 1)) 1)), .int .i64 (toI (lget (entCs (entAt T 1)) 2)), .int .i64 (toI (lget (entCs (entAt T 1)) 3)), slC intC (lstC intC (lget (entCs (entAt T 1)) 4)), .int .i64 (toI (lget (entCs (entAt T 1)) 5)), .int .i64 (toI (lget (entCs (entAt T 1)) 6)), .int .i64 (toI (lget (entCs (entAt T 1)) 7)), .int .i64 (toI (lget (entCs (entAt T 1)) 8)), .int .i64 (toI (lget (entCs (entAt T 1)) 9)), .int .i64 (toI (lget (entCs (entAt T 1)) 10)), .int .i64 (toI (lget (entCs (entAt T 1)) 11))]), (2, .blk [.int .i64 (toI (lget (entCs (entAt T 2)) 0))]), (3, .blk [.int .i64 (toI (lget (entCs (entAt T 3)) 0))])]))
def lift_Sink_1_lp {R : Type} (N : Nat) : Lp R := fun body S k => Option.none
noncomputable def lift_Sink_1_go {R : Type} (N : Nat) (args : List SV) (T : Tab) (kf : SV × Tab → Option R) : Option R :=
  lift_Sink_1 N (toI (lget (entCs (entAt T 0)) 0)) (toI (lget (entCs (entAt T 1)) 0)) (toI (lget (entCs (entAt T 1)) 1)) (toI (lget (entCs (entAt T 1)) 2)) (toI (lget (entCs (entAt T 1)) 3)) (lstC intC (lget (entCs (entAt T 1)) 4)) (toI (lget (entCs (entAt T 1)) 5)) (toI (lget (entCs (entAt T 1)) 6)) (toI (lget (entCs (entAt T 1)) 7)) (toI (lget (entCs (entAt T 1)) 8)) (toI (lget (entCs (entAt T 1)) 9)) (toI (lget (entCs (entAt T 1)) 10)) (toI (lget (entCs (entAt T 1)) 11)) (toI (lget (entCs (entAt T 2)) 0)) (toI (lget (entCs (entAt T 3)) 0)) (fun q0 => kf (lget [.bool q0] 0, [(0, .blk [.int .i64 (toI (lget (entCs (entAt T 0)) 0))]), (1, .blk [.int .i64 (toI (lget (entCs (entAt T 1)) 0)), .int .i64 (toI (lget (entCs (entAt T 1)) 1)), .int .i64 (toI (lget (entCs (entAt T 1)) 2)), .int .i64 (toI (lget (entCs (entAt T 1)) 3)), slC intC (lstC intC (lget (entCs (entAt T 1)) 4)), .int .i64 (toI (lget (entCs (entAt T 1)) 5)), .int .i64 (toI (lget (entCs (entAt T 1)) 6)), .int .i64 (toI (lget (entCs (entAt T 1)) 7)), .int .i64 (toI (lget (entCs (entAt T 1)) 8)), .int .i64 (toI (lget (entCs (entAt T 1)) 9)), .int .i64 (toI (lget (entCs (entAt T 1)) 10)), .int .i64 (toI (lget (entCs (entAt T 1)) 11))]), (2, .blk [.int .i64 (toI (lget (entCs (entAt T 2)) 0))]), (3, .blk [.int .i64 (toI (lget (entCs (entAt T 3)) 0))])]))
noncomputable def lift_Sink_1_cal {R : Type} (N : Nat) : Cal R := callM (newelref05_Balance_cal N) 76 4 lift_Sink_1_sp (lift_Sink_1_go N)
theorem lift_Sink_1_cal_ok {R : Type} (N : Nat) : CalOk E.P (lift_Sink_1_cal (R := R) N) :=
  callM_ok hE (newelref05_Balance_cal_ok N) (lp := lift_Sink_1_lp N) (keys := []) kNil (by kernel_rfl) lift_Sink_1_sp_ok lift_Sink_1_rs_ok (fun args T kf => Eq.trans (lift_Sink_1_def N (toI (lget (entCs (entAt T 0)) 0)) (toI (lget (entCs (entAt T 1)) 0)) (toI (lget (entCs (entAt T 1)) 1)) (toI (lget (entCs (entAt T 1)) 2)) (toI (lget (entCs (entAt T 1)) 3)) (lstC intC (lget (entCs (entAt T 1)) 4)) (toI (lget (entCs (entAt T 1)) 5)) (toI (lget (entCs (entAt T 1)) 6)) (toI (lget (entCs (entAt T 1)) 7)) (toI (lget (entCs (entAt T 1)) 8)) (toI (lget (entCs (entAt T 1)) 9)) (toI (lget (entCs (entAt T 1)) 10)) (toI (lget (entCs (entAt T 1)) 11)) (toI (lget (entCs (entAt T 2)) 0)) (toI (lget (entCs (entAt T 3)) 0)) (fun q0 => kf (lget [.bool q0] 0, [(0, .blk [.int .i64 (toI (lget (entCs (entAt T 0)) 0))]), (1, .blk [.int .i64 (toI (lget (entCs (entAt T 1)) 0)), .int .i64 (toI (lget (entCs (entAt T 1)) 1)), .int .i64 (toI (lget (entCs (entAt T 1)) 2)), .int .i64 (toI (lget (entCs (entAt T 1)) 3)), slC intC (lstC intC (lget (entCs (entAt T 1)) 4)), .int .i64 (toI (lget (entCs (entAt T 1)) 5)), .int .i64 (toI (lget (entCs (entAt T 1)) 6)), .int .i64 (toI (lget (entCs (entAt T 1)) 7)), .int .i64 (toI (lget (entCs (entAt T 1)) 8)), .int .i64 (toI (lget (entCs (entAt T 1)) 9)), .int .i64 (toI (lget (entCs (entAt T 1)) 10)), .int .i64 (toI (lget (entCs (entAt T 1)) 11))]), (2, .blk [.int .i64 (toI (lget (entCs (entAt T 2)) 0))]), (3, .blk [.int .i64 (toI (lget (entCs (entAt T 3)) 0))])]))) (by kernel_rfl : lift_Sink_1_run N args T kf = fnM E (newelref05_Balance_cal N) (lift_Sink_1_lp N) 76 (lift_Sink_1_sp.vs args) (lift_Sink_1_sp.tab T) 4 (resK lift_Sink_1_rs kf)))


def lift_check_v5_m {R : Type} (N : Nat) (a313 : api_Lift) (a314 : Int) (a315 : Int) (a316 : Int) (a317 : Int) (a318 : Int) (a319 : Arr Int) (a320 : Int) (a321 : Int) (a322 : Int) (a323 : Int) (a324 : Int) (a325 : Int) (a326 : Int) (a327 : Int) (a328 : Int) (k : Int → Option R) : Option R :=
  lift_Check N a313 (fun r329 =>
  bif r329 != (0 : Int) then
   k r329
  else
   lift_Sink_1 N a314 a315 a316 a317 a318 a319 a320 a321 a322 a323 a324 a325 a326 a327 a328 (fun r348 =>
   bif !r348 then
    k (1 : Int)
   else
    k (0 : Int)))
noncomputable def lift_check_v5 {R : Type} : Nat → api_Lift → Int → Int → Int → Int → Int → Arr Int → Int → Int → Int → Int → Int → Int → Int → Int → Int → (Int → Option R) → Option R := lock (@lift_check_v5_m R)
theorem lift_check_v5_def {R : Type} (N : Nat) (a313 : api_Lift) (a314 : Int) (a315 : Int) (a316 : Int) (a317 : Int) (a318 : Int) (a319 : Arr Int) (a320 : Int) (a321 : Int) (a322 : Int) (a323 : Int) (a324 : Int) (a325 : Int) (a326 : Int) (a327 : Int) (a328 : Int) (k : Int → Option R) : lift_check_v5 N a313 a314 a315 a316 a317 a318 a319 a320 a321 a322 a323 a324 a325 a326 a327 a328 k = lift_check_v5_m N a313 a314 a315 a316 a317 a318 a319 a320 a321 a322 a323 a324 a325 a326 a327 a328 k := by unfold lift_check_v5; rw [lock_eq]
def lift_check_v5_sp : Sp := ⟨[rAgg api_LiftC, rFunc 76 [rPtr 0 0, rPtr 1 0, rPtr 2 0, rPtr 3 0]], [(0, eBlk [rInt .i64]), (1, eBlk [rInt .i64, rInt .i64, rInt .i64, rInt .i64, rSl intC, rInt .i64, rInt .i64, rInt .i64, rInt .i64, rInt .i64, rInt .i64, rInt .i64]), (2, eBlk [rInt .i64]), (3, eBlk [rInt .i64])]⟩
theorem lift_check_v5_sp_ok : lift_check_v5_sp.Ok := ⟨(allCons (rAgg_ok api_LiftC_ok api_LiftC_len) (allCons (rFunc_ok 76 (allCons (rPtr_ok 0 0) (allCons (rPtr_ok 1 0) (allCons (rPtr_ok 2 0) (allCons (rPtr_ok 3 0) allNil))))) allNil)), (eCons (eBlk_ok (allCons (rInt_ok .i64) allNil)) (eCons (eBlk_ok (allCons (rInt_ok .i64) (allCons (rInt_ok .i64) (allCons (rInt_ok .i64) (allCons (rInt_ok .i64) (allCons (rSl_ok intC_ok) (allCons (rInt_ok .i64) (allCons (rInt_ok .i64) (allCons (rInt_ok .i64) (allCons (rInt_ok .i64) (allCons (rInt_ok .i64) (allCons (rInt_ok .i64) (allCons (rInt_ok .i64) allNil))))))))))))) (eCons (eBlk_ok (allCons (rInt_ok .i64) allNil)) (eCons (eBlk_ok (allCons (rInt_ok .i64) allNil)) eNil))))⟩
def lift_check_v5_rs : Sp := ⟨[rInt .i64], [(0, eBlk [rInt .i64]), (1, eBlk [rInt .i64, rInt .i64, rInt .i64, rInt .i64, rSl intC, rInt .i64, rInt .i64, rInt .i64, rInt .i64, rInt .i64, rInt .i64, rInt .i64]), (2, eBlk [rInt .i64]), (3, eBlk [rInt .i64])]⟩
theorem lift_check_v5_rs_ok : lift_check_v5_rs.Ok := ⟨(allCons (rInt_ok .i64) allNil), (eCons (eBlk_ok (allCons (rInt_ok .i64) allNil)) (eCons (eBlk_ok (allCons (rInt_ok .i64) (allCons (rInt_ok .i64) (allCons (rInt_ok .i64) (allCons (rInt_ok .i64) (allCons (rSl_ok intC_ok) (allCons (rInt_ok .i64) (allCons (rInt_ok .i64) (allCons (rInt_ok .i64) (allCons (rInt_ok .i64) (allCons (rInt_ok .i64) (allCons (rInt_ok .i64) (allCons (rInt_ok .i64) allNil))))))))))))) (eCons (eBlk_ok (allCons (rInt_ok .i64) allNil)) (eCons (eBlk_ok (allCons (rInt_ok .i64) allNil)) eNil))))⟩
def lift_check_v5_run {R : Type} (N : Nat) (args : List SV) (T : Tab) (kf : SV × Tab → Option R) : Option R :=
  lift_check_v5_m N (Cod.dec api_LiftC (lget (toCs (lget args 0)))) (toI (lget (entCs (entAt T 0)) 0)) (toI (lget (entCs (entAt T 1)) 0)) (toI (lget (entCs (entAt T 1)) 1)) (toI (lget (entCs (entAt T 1)) 2)) (toI (lget (entCs (entAt T 1)) 3)) (lstC intC (lget (entCs (entAt T 1)) 4)) (toI (lget (entCs (entAt T 1)) 5)) (toI (lget (entCs (entAt T 1)) 6)) (toI (lget (entCs (entAt T 1)) 7)) (toI (lget (entCs (entAt T 1)) 8)) (toI (lget (entCs (entAt T 1)) 9)) (toI (lget (entCs (entAt T 1)) 10)) (toI (lget (entCs (entAt T 1)) 11)) (toI (lget (entCs (entAt T 2)) 0)) (toI (lget (entCs (entAt T 3)) 0)) (fun q0 => kf (lget [.int .i64 q0] 0, [(0, .blk [.int .i64 (toI (lget (entCs (entAt T 0)) 0))]), (1, .blk [.int .i64 (toI (lget (entCs (entAt T 1)) 0)), .int .i64 (toI (lget (entCs (entAt T 1)) 1)), .int .i64 (toI (lget (entCs (entAt T 1)) 2)), .int .i64 (toI (lget (entCs (entAt T 1)) 3)), slC intC (lstC intC (lget (entCs (entAt T 1)) 4)), .int .i64 (toI (lget (entCs (entAt T 1)) 5)), .int .i64 (toI (lget (entCs (entAt T 1)) 6)), .int .i64 (toI (lget (entCs (entAt T 1)) 7)), .int .i64 (toI (lget (entCs (entAt T 1)) 8)), .int .i64 (toI (lget (entCs (entAt T 1)) 9)), .int .i64 (toI (lget (entCs (entAt T 1)) 10)), .int .i64 (toI (lget (entCs (entAt T 1)) 11))]), (2, .blk [.int .i64 (toI (lget (entCs (entAt T 2)) 0))]), (3, .blk [.int .i64 (toI (lget (entCs (entAt T 3)) 0))])]))
def lift_check_v5_lp {R : Type} (N : Nat) : Lp R := fun body S k => Option.none
noncomputable def lift_check_v5_go {R : Type} (N : Nat) (args : List SV) (T : Tab) (kf : SV × Tab → Option R) : Option R :=
  lift_check_v5 N (Cod.dec api_LiftC (lget (toCs (lget args 0)))) (toI (lget (entCs (entAt T 0)) 0)) (toI (lget (entCs (entAt T 1)) 0)) (toI (lget (entCs (entAt T 1)) 1)) (toI (lget (entCs (entAt T 1)) 2)) (toI (lget (entCs (entAt T 1)) 3)) (lstC intC (lget (entCs (entAt T 1)) 4)) (toI (lget (entCs (entAt T 1)) 5)) (toI (lget (entCs (entAt T 1)) 6)) (toI (lget (entCs (entAt T 1)) 7)) (toI (lget (entCs (entAt T 1)) 8)) (toI (lget (entCs (entAt T 1)) 9)) (toI (lget (entCs (entAt T 1)) 10)) (toI (lget (entCs (entAt T 1)) 11)) (toI (lget (entCs (entAt T 2)) 0)) (toI (lget (entCs (entAt T 3)) 0)) (fun q0 => kf (lget [.int .i64 q0] 0, [(0, .blk [.int .i64 (toI (lget (entCs (entAt T 0)) 0))]), (1, .blk [.int .i64 (toI (lget (entCs (entAt T 1)) 0)), .int .i64 (toI (lget (entCs (entAt T 1)) 1)), .int .i64 (toI (lget (entCs (entAt T 1)) 2)), .int .i64 (toI (lget (entCs (entAt T 1)) 3)), slC intC (lstC intC (lget (entCs (entAt T 1)) 4)), .int .i64 (toI (lget (entCs (entAt T 1)) 5)), .int .i64 (toI (lget (entCs (entAt T 1)) 6)), .int .i64 (toI (lget (entCs (entAt T 1)) 7)), .int .i64 (toI (lget (entCs (entAt T 1)) 8)), .int .i64 (toI (lget (entCs (entAt T 1)) 9)), .int .i64 (toI (lget (entCs (entAt T 1)) 10)), .int .i64 (toI (lget (entCs (entAt T 1)) 11))]), (2, .blk [.int .i64 (toI (lget (entCs (entAt T 2)) 0))]), (3, .blk [.int .i64 (toI (lget (entCs (entAt T 3)) 0))])]))
noncomputable def lift_check_v5_cal {R : Type} (N : Nat) : Cal R := callM (lift_Sink_1_cal N) 56 4 lift_check_v5_sp (lift_check_v5_go N)
theorem lift_check_v5_cal_ok {R : Type} (N : Nat) : CalOk E.P (lift_check_v5_cal (R := R) N) :=
  callM_ok hE (lift_Sink_1_cal_ok N) (lp := lift_check_v5_lp N) (keys := []) kNil (by kernel_rfl) lift_check_v5_sp_ok lift_check_v5_rs_ok (fun args T kf => Eq.trans (lift_check_v5_def N (Cod.dec api_LiftC (lget (toCs (lget args 0)))) (toI (lget (entCs (entAt T 0)) 0)) (toI (lget (entCs (entAt T 1)) 0)) (toI (lget (entCs (entAt T 1)) 1)) (toI (lget (entCs (entAt T 1)) 2)) (toI (lget (entCs (entAt T 1)) 3)) (lstC intC (lget (entCs (entAt T 1)) 4)) (toI (lget (entCs (entAt T 1)) 5)) (toI (lget (entCs (entAt T 1)) 6)) (toI (lget (entCs (entAt T 1)) 7)) (toI (lget (entCs (entAt T 1)) 8)) (toI (lget (entCs (entAt T 1)) 9)) (toI (lget (entCs (entAt T 1)) 10)) (toI (lget (entCs (entAt T 1)) 11)) (toI (lget (entCs (entAt T 2)) 0)) (toI (lget (entCs (entAt T 3)) 0)) (fun q0 => kf (lget [.int .i64 q0] 0, [(0, .blk [.int .i64 (toI (lget (entCs (entAt T 0)) 0))]), (1, .blk [.int .i64 (toI (lget (entCs (entAt T 1)) 0)), .int .i64 (toI (lget (entCs (entAt T 1)) 1)), .int .i64 (toI (lget (entCs (entAt T 1)) 2)), .int .i64 (toI (lget (entCs (entAt T 1)) 3)), slC intC (lstC intC (lget (entCs (entAt T 1)) 4)), .int .i64 (toI (lget (entCs (entAt T 1)) 5)), .int .i64 (toI (lget (entCs (entAt T 1)) 6)), .int .i64 (toI (lget (entCs (entAt T 1)) 7)), .int .i64 (toI (lget (entCs (entAt T 1)) 8)), .int .i64 (toI (lget (entCs (entAt T 1)) 9)), .int .i64 (toI (lget (entCs (entAt T 1)) 10)), .int .i64 (toI (lget (entCs (entAt T 1)) 11))]), (2, .blk [.int .i64 (toI (lget (entCs (entAt T 2)) 0))]), (3, .blk [.int .i64 (toI (lget (entCs (entAt T 3)) 0))])]))) (by kernel_rfl : lift_check_v5_run N args T kf = fnM E (lift_Sink_1_cal N) (lift_check_v5_lp N) 56 (lift_check_v5_sp.vs args) (lift_check_v5_sp.tab T) 4 (resK lift_check_v5_rs kf)))


def lift_sink_m {R : Type} (N : Nat) (a350 : api_Lift) (a351 : Int) (a352 : Int) (a353 : Int) (k : Int → Option R) : Option R :=
  lift_top N a350 (fun r354 =>
  bif decide ((0 : Int) ≤ a351) && decide (a351 < (↑(Arr.n (api_Lift.Floors a350)) : Int)) then
   bif api_Lift.Stiff a350 == (0 : Int) then
    Option.none
   else
    k (w64 (Int.tdiv (w64 (w64 (a353 - a352) * w64 (w64 (api_Lift.Over a350 + r354) - Arr.f (api_Lift.Floors a350) (Int.toNat a351)))) (api_Lift.Stiff a350)))
  else
   Option.none)
noncomputable def lift_sink {R : Type} : Nat → api_Lift → Int → Int → Int → (Int → Option R) → Option R := lock (@lift_sink_m R)
theorem lift_sink_def {R : Type} (N : Nat) (a350 : api_Lift) (a351 : Int) (a352 : Int) (a353 : Int) (k : Int → Option R) : lift_sink N a350 a351 a352 a353 k = lift_sink_m N a350 a351 a352 a353 k := by unfold lift_sink; rw [lock_eq]
def lift_sink_sp : Sp := ⟨[rAgg api_LiftC, rInt .i64, rInt .i64, rInt .i64], []⟩
theorem lift_sink_sp_ok : lift_sink_sp.Ok := ⟨(allCons (rAgg_ok api_LiftC_ok api_LiftC_len) (allCons (rInt_ok .i64) (allCons (rInt_ok .i64) (allCons (rInt_ok .i64) allNil)))), eNil⟩
def lift_sink_rs : Sp := ⟨[rInt .i64], []⟩
theorem lift_sink_rs_ok : lift_sink_rs.Ok := ⟨(allCons (rInt_ok .i64) allNil), eNil⟩
def lift_sink_run {R : Type} (N : Nat) (args : List SV) (T : Tab) (kf : SV × Tab → Option R) : Option R :=
  lift_sink_m N (Cod.dec api_LiftC (lget (toCs (lget args 0)))) (toI (lget args 1)) (toI (lget args 2)) (toI (lget args 3)) (fun q0 => kf (lget [.int .i64 q0] 0, []))
def lift_sink_lp {R : Type} (N : Nat) : Lp R := fun body S k => Option.none
noncomputable def lift_sink_go {R : Type} (N : Nat) (args : List SV) (T : Tab) (kf : SV × Tab → Option R) : Option R :=
  lift_sink N (Cod.dec api_LiftC (lget (toCs (lget args 0)))) (toI (lget args 1)) (toI (lget args 2)) (toI (lget args 3)) (fun q0 => kf (lget [.int .i64 q0] 0, []))
noncomputable def lift_sink_cal {R : Type} (N : Nat) : Cal R := callM (lift_check_v5_cal N) 75 0 lift_sink_sp (lift_sink_go N)
theorem lift_sink_cal_ok {R : Type} (N : Nat) : CalOk E.P (lift_sink_cal (R := R) N) :=
  callM_ok hE (lift_check_v5_cal_ok N) (lp := lift_sink_lp N) (keys := []) kNil (by kernel_rfl) lift_sink_sp_ok lift_sink_rs_ok (fun args T kf => Eq.trans (lift_sink_def N (Cod.dec api_LiftC (lget (toCs (lget args 0)))) (toI (lget args 1)) (toI (lget args 2)) (toI (lget args 3)) (fun q0 => kf (lget [.int .i64 q0] 0, []))) (by kernel_rfl : lift_sink_run N args T kf = fnM E (lift_check_v5_cal N) (lift_sink_lp N) 75 (lift_sink_sp.vs args) (lift_sink_sp.tab T) 0 (resK lift_sink_rs kf)))


def lift_Sink_m {R : Type} (N : Nat) (a309 : api_Lift) (a310 : Int) (a311 : Int) (a312 : Int) (k : Int → Int → Option R) : Option R :=
  lift_check_v5 N a309 a310 (api_Lift.Car a309) (api_Lift.Counter a309) (api_Lift.Rated a309) (api_Lift.Rope a309) (api_Lift.Floors a309) (api_Lift.Num a309) (api_Lift.Den a309) (api_Lift.Speed a309) (api_Lift.Accel a309) (api_Lift.Over a309) (api_Lift.Stiff a309) (api_Lift.Level a309) a311 a312 (fun r349 =>
  bif r349 != (0 : Int) then
   k (0 : Int) r349
  else
   lift_sink N a309 a310 a311 a312 (fun r355 =>
   k r355 (0 : Int)))
noncomputable def lift_Sink {R : Type} : Nat → api_Lift → Int → Int → Int → (Int → Int → Option R) → Option R := lock (@lift_Sink_m R)
theorem lift_Sink_def {R : Type} (N : Nat) (a309 : api_Lift) (a310 : Int) (a311 : Int) (a312 : Int) (k : Int → Int → Option R) : lift_Sink N a309 a310 a311 a312 k = lift_Sink_m N a309 a310 a311 a312 k := by unfold lift_Sink; rw [lock_eq]
def lift_Sink_sp : Sp := ⟨[rAgg api_LiftC, rInt .i64, rInt .i64, rInt .i64], []⟩
theorem lift_Sink_sp_ok : lift_Sink_sp.Ok := ⟨(allCons (rAgg_ok api_LiftC_ok api_LiftC_len) (allCons (rInt_ok .i64) (allCons (rInt_ok .i64) (allCons (rInt_ok .i64) allNil)))), eNil⟩
def lift_Sink_rs : Sp := ⟨[rTup [rInt .i64, rInt .i64]], []⟩
theorem lift_Sink_rs_ok : lift_Sink_rs.Ok := ⟨(allCons (rTup_ok (allCons (rInt_ok .i64) (allCons (rInt_ok .i64) allNil))) allNil), eNil⟩
def lift_Sink_run {R : Type} (N : Nat) (args : List SV) (T : Tab) (kf : SV × Tab → Option R) : Option R :=
  lift_Sink_m N (Cod.dec api_LiftC (lget (toCs (lget args 0)))) (toI (lget args 1)) (toI (lget args 2)) (toI (lget args 3)) (fun q0 q1 => kf (lget [.tup [.int .i64 q0, .int .i64 q1]] 0, []))
def lift_Sink_lp {R : Type} (N : Nat) : Lp R := fun body S k => Option.none
noncomputable def lift_Sink_go {R : Type} (N : Nat) (args : List SV) (T : Tab) (kf : SV × Tab → Option R) : Option R :=
  lift_Sink N (Cod.dec api_LiftC (lget (toCs (lget args 0)))) (toI (lget args 1)) (toI (lget args 2)) (toI (lget args 3)) (fun q0 q1 => kf (lget [.tup [.int .i64 q0, .int .i64 q1]] 0, []))
noncomputable def lift_Sink_cal {R : Type} (N : Nat) : Cal R := callM (lift_sink_cal N) 39 0 lift_Sink_sp (lift_Sink_go N)
theorem lift_Sink_cal_ok {R : Type} (N : Nat) : CalOk E.P (lift_Sink_cal (R := R) N) :=
  callM_ok hE (lift_sink_cal_ok N) (lp := lift_Sink_lp N) (keys := []) kNil (by kernel_rfl) lift_Sink_sp_ok lift_Sink_rs_ok (fun args T kf => Eq.trans (lift_Sink_def N (Cod.dec api_LiftC (lget (toCs (lget args 0)))) (toI (lget args 1)) (toI (lget args 2)) (toI (lget args 3)) (fun q0 q1 => kf (lget [.tup [.int .i64 q0, .int .i64 q1]] 0, []))) (by kernel_rfl : lift_Sink_run N args T kf = fnM E (lift_sink_cal N) (lift_Sink_lp N) 39 (lift_Sink_sp.vs args) (lift_Sink_sp.tab T) 0 (resK lift_Sink_rs kf)))


def newelref05_sink_m {R : Type} (N : Nat) (a364 : api_Lift) (a365 : Int) (a366 : Int) (a367 : Int) (k : Int → Option R) : Option R :=
  newelref05_Top N a364 (fun r368 =>
  bif decide ((0 : Int) ≤ a365) && decide (a365 < (↑(Arr.n (api_Lift.Floors a364)) : Int)) then
   bif api_Lift.Stiff a364 == (0 : Int) then
    Option.none
   else
    k (w64 (Int.tdiv (w64 (w64 (a367 - a366) * w64 (w64 (api_Lift.Over a364 + r368) - Arr.f (api_Lift.Floors a364) (Int.toNat a365)))) (api_Lift.Stiff a364)))
  else
   Option.none)
noncomputable def newelref05_sink {R : Type} : Nat → api_Lift → Int → Int → Int → (Int → Option R) → Option R := lock (@newelref05_sink_m R)
theorem newelref05_sink_def {R : Type} (N : Nat) (a364 : api_Lift) (a365 : Int) (a366 : Int) (a367 : Int) (k : Int → Option R) : newelref05_sink N a364 a365 a366 a367 k = newelref05_sink_m N a364 a365 a366 a367 k := by unfold newelref05_sink; rw [lock_eq]
def newelref05_sink_sp : Sp := ⟨[rAgg api_LiftC, rInt .i64, rInt .i64, rInt .i64], []⟩
theorem newelref05_sink_sp_ok : newelref05_sink_sp.Ok := ⟨(allCons (rAgg_ok api_LiftC_ok api_LiftC_len) (allCons (rInt_ok .i64) (allCons (rInt_ok .i64) (allCons (rInt_ok .i64) allNil)))), eNil⟩
def newelref05_sink_rs : Sp := ⟨[rInt .i64], []⟩
theorem newelref05_sink_rs_ok : newelref05_sink_rs.Ok := ⟨(allCons (rInt_ok .i64) allNil), eNil⟩
def newelref05_sink_run {R : Type} (N : Nat) (args : List SV) (T : Tab) (kf : SV × Tab → Option R) : Option R :=
  newelref05_sink_m N (Cod.dec api_LiftC (lget (toCs (lget args 0)))) (toI (lget args 1)) (toI (lget args 2)) (toI (lget args 3)) (fun q0 => kf (lget [.int .i64 q0] 0, []))
def newelref05_sink_lp {R : Type} (N : Nat) : Lp R := fun body S k => Option.none
noncomputable def newelref05_sink_go {R : Type} (N : Nat) (args : List SV) (T : Tab) (kf : SV × Tab → Option R) : Option R :=
  newelref05_sink N (Cod.dec api_LiftC (lget (toCs (lget args 0)))) (toI (lget args 1)) (toI (lget args 2)) (toI (lget args 3)) (fun q0 => kf (lget [.int .i64 q0] 0, []))
noncomputable def newelref05_sink_cal {R : Type} (N : Nat) : Cal R := callM (lift_Sink_cal N) 77 0 newelref05_sink_sp (newelref05_sink_go N)
theorem newelref05_sink_cal_ok {R : Type} (N : Nat) : CalOk E.P (newelref05_sink_cal (R := R) N) :=
  callM_ok hE (lift_Sink_cal_ok N) (lp := newelref05_sink_lp N) (keys := []) kNil (by kernel_rfl) newelref05_sink_sp_ok newelref05_sink_rs_ok (fun args T kf => Eq.trans (newelref05_sink_def N (Cod.dec api_LiftC (lget (toCs (lget args 0)))) (toI (lget args 1)) (toI (lget args 2)) (toI (lget args 3)) (fun q0 => kf (lget [.int .i64 q0] 0, []))) (by kernel_rfl : newelref05_sink_run N args T kf = fnM E (lift_Sink_cal N) (newelref05_sink_lp N) 77 (newelref05_sink_sp.vs args) (newelref05_sink_sp.tab T) 0 (resK newelref05_sink_rs kf)))


def newelref05_Sink_m {R : Type} (N : Nat) (a356 : api_Lift) (a357 : Int) (a358 : Int) (a359 : Int) (k : Int → Int → Option R) : Option R :=
  newelref05_Check N a356 (fun r360 =>
  bif r360 != (0 : Int) then
   k (0 : Int) (50 : Int)
  else
   newelref05_within N a357 (0 : Int) (w64 ((↑(Arr.n (api_Lift.Floors a356)) : Int) - (1 : Int))) (fun r361 =>
   bif !r361 then
    k (0 : Int) (1 : Int)
   else
    newelref05_within N a358 (0 : Int) (api_Lift.Rated a356) (fun r362 =>
    bif !r362 then
     k (0 : Int) (1 : Int)
    else
     newelref05_within N a359 (0 : Int) (api_Lift.Rated a356) (fun r363 =>
     bif !r363 then
      k (0 : Int) (1 : Int)
     else
      newelref05_sink N a356 a357 a358 a359 (fun r369 =>
      k r369 (0 : Int))))))
noncomputable def newelref05_Sink {R : Type} : Nat → api_Lift → Int → Int → Int → (Int → Int → Option R) → Option R := lock (@newelref05_Sink_m R)
theorem newelref05_Sink_def {R : Type} (N : Nat) (a356 : api_Lift) (a357 : Int) (a358 : Int) (a359 : Int) (k : Int → Int → Option R) : newelref05_Sink N a356 a357 a358 a359 k = newelref05_Sink_m N a356 a357 a358 a359 k := by unfold newelref05_Sink; rw [lock_eq]
def newelref05_Sink_sp : Sp := ⟨[rAgg api_LiftC, rInt .i64, rInt .i64, rInt .i64], []⟩
theorem newelref05_Sink_sp_ok : newelref05_Sink_sp.Ok := ⟨(allCons (rAgg_ok api_LiftC_ok api_LiftC_len) (allCons (rInt_ok .i64) (allCons (rInt_ok .i64) (allCons (rInt_ok .i64) allNil)))), eNil⟩
def newelref05_Sink_rs : Sp := ⟨[rTup [rInt .i64, rInt .i64]], []⟩
theorem newelref05_Sink_rs_ok : newelref05_Sink_rs.Ok := ⟨(allCons (rTup_ok (allCons (rInt_ok .i64) (allCons (rInt_ok .i64) allNil))) allNil), eNil⟩
def newelref05_Sink_run {R : Type} (N : Nat) (args : List SV) (T : Tab) (kf : SV × Tab → Option R) : Option R :=
  newelref05_Sink_m N (Cod.dec api_LiftC (lget (toCs (lget args 0)))) (toI (lget args 1)) (toI (lget args 2)) (toI (lget args 3)) (fun q0 q1 => kf (lget [.tup [.int .i64 q0, .int .i64 q1]] 0, []))
def newelref05_Sink_lp {R : Type} (N : Nat) : Lp R := fun body S k => Option.none
noncomputable def newelref05_Sink_go {R : Type} (N : Nat) (args : List SV) (T : Tab) (kf : SV × Tab → Option R) : Option R :=
  newelref05_Sink N (Cod.dec api_LiftC (lget (toCs (lget args 0)))) (toI (lget args 1)) (toI (lget args 2)) (toI (lget args 3)) (fun q0 q1 => kf (lget [.tup [.int .i64 q0, .int .i64 q1]] 0, []))
noncomputable def newelref05_Sink_cal {R : Type} (N : Nat) : Cal R := callM (newelref05_sink_cal N) 40 0 newelref05_Sink_sp (newelref05_Sink_go N)
theorem newelref05_Sink_cal_ok {R : Type} (N : Nat) : CalOk E.P (newelref05_Sink_cal (R := R) N) :=
  callM_ok hE (newelref05_sink_cal_ok N) (lp := newelref05_Sink_lp N) (keys := []) kNil (by kernel_rfl) newelref05_Sink_sp_ok newelref05_Sink_rs_ok (fun args T kf => Eq.trans (newelref05_Sink_def N (Cod.dec api_LiftC (lget (toCs (lget args 0)))) (toI (lget args 1)) (toI (lget args 2)) (toI (lget args 3)) (fun q0 q1 => kf (lget [.tup [.int .i64 q0, .int .i64 q1]] 0, []))) (by kernel_rfl : newelref05_Sink_run N args T kf = fnM E (newelref05_sink_cal N) (newelref05_Sink_lp N) 40 (newelref05_Sink_sp.vs args) (newelref05_Sink_sp.tab T) 0 (resK newelref05_Sink_rs kf)))


def lift_Levels_1_1_m {R : Type} (N : Nat) (a446 : Int) (a447 : Int) (a448 : Int) (a449 : Int) (a450 : Int) (a451 : Arr Int) (a452 : Int) (a453 : Int) (a454 : Int) (a455 : Int) (a456 : Int) (a457 : Int) (a458 : Int) (k : Bool → Option R) : Option R :=
  lift_between N a446 (0 : Int) a449 (fun r459 =>
  k !r459)
noncomputable def lift_Levels_1_1 {R : Type} : Nat → Int → Int → Int → Int → Int → Arr Int → Int → Int → Int → Int → Int → Int → Int → (Bool → Option R) → Option R := lock (@lift_Levels_1_1_m R)
theorem lift_Levels_1_1_def {R : Type} (N : Nat) (a446 : Int) (a447 : Int) (a448 : Int) (a449 : Int) (a450 : Int) (a451 : Arr Int) (a452 : Int) (a453 : Int) (a454 : Int) (a455 : Int) (a456 : Int) (a457 : Int) (a458 : Int) (k : Bool → Option R) : lift_Levels_1_1 N a446 a447 a448 a449 a450 a451 a452 a453 a454 a455 a456 a457 a458 k = lift_Levels_1_1_m N a446 a447 a448 a449 a450 a451 a452 a453 a454 a455 a456 a457 a458 k := by unfold lift_Levels_1_1; rw [lock_eq]
def lift_Levels_1_1_sp : Sp := ⟨[rInt .i64, rPtr 0 0], [(0, eBlk [rInt .i64, rInt .i64, rInt .i64, rInt .i64, rSl intC, rInt .i64, rInt .i64, rInt .i64, rInt .i64, rInt .i64, rInt .i64, rInt .i64])]⟩
theorem lift_Levels_1_1_sp_ok : lift_Levels_1_1_sp.Ok := ⟨(allCons (rInt_ok .i64) (allCons (rPtr_ok 0 0) allNil)), (eCons (eBlk_ok (allCons (rInt_ok .i64) (allCons (rInt_ok .i64) (allCons (rInt_ok .i64) (allCons (rInt_ok .i64) (allCons (rSl_ok intC_ok) (allCons (rInt_ok .i64) (allCons (rInt_ok .i64) (allCons (rInt_ok .i64) (allCons (rInt_ok .i64) (allCons (rInt_ok .i64) (allCons (rInt_ok .i64) (allCons (rInt_ok .i64) allNil))))))))))))) eNil)⟩
def lift_Levels_1_1_rs : Sp := ⟨[rBool], [(0, eBlk [rInt .i64, rInt .i64, rInt .i64, rInt .i64, rSl intC, rInt .i64, rInt .i64, rInt .i64, rInt .i64, rInt .i64, rInt .i64, rInt .i64])]⟩
theorem lift_Levels_1_1_rs_ok : lift_Levels_1_1_rs.Ok := ⟨(allCons rBool_ok allNil), (eCons (eBlk_ok (allCons (rInt_ok .i64) (allCons (rInt_ok .i64) (allCons (rInt_ok .i64) (allCons (rInt_ok .i64) (allCons (rSl_ok intC_ok) (allCons (rInt_ok .i64) (allCons (rInt_ok .i64) (allCons (rInt_ok .i64) (allCons (rInt_ok .i64) (allCons (rInt_ok .i64) (allCons (rInt_ok .i64) (allCons (rInt_ok .i64) allNil))))))))))))) eNil)⟩
def lift_Levels_1_1_run {R : Type} (N : Nat) (args : List SV) (T : Tab) (kf : SV × Tab → Option R) : Option R :=
  lift_Levels_1_1_m N (toI (lget args 0)) (toI (lget (entCs (entAt T 0)) 0)) (toI (lget (entCs (entAt T 0)) 1)) (toI (lget (entCs (entAt T 0)) 2)) (toI (lget (entCs (entAt T 0)) 3)) (lstC intC (lget (entCs (entAt T 0)) 4)) (toI (lget (entCs (entAt T 0)) 5)) (toI (lget (entCs (entAt T 0)) 6)) (toI (lget (entCs (entAt T 0)) 7)) (toI (lget (entCs (entAt T 0)) 8)) (toI (lget (entCs (entAt T 0)) 9)) (toI (lget (entCs (entAt T 0)) 10)) (toI (lget (entCs (entAt T 0)) 11)) (fun q0 => kf (lget [.bool q0] 0, [(0, .blk [.int .i64 (toI (lget (entCs (entAt T 0)) 0)), .int .i64 (toI (lget (entCs (entAt T 0)) 1)), .int .i64 (toI (lget (entCs (entAt T 0)) 2)), .int .i64 (toI (lget (entCs (entAt T 0)) 3)), slC intC (lstC intC (lget (entCs (entAt T 0)) 4)), .int .i64 (toI (lget (entCs (entAt T 0)) 5)), .int .i64 (toI (lget (entCs (entAt T 0)) 6)), .int .i64 (toI (lget (entCs (entAt T 0)) 7)), .int .i64 (toI (lget (entCs (entAt T 0)) 8)), .int .i64 (toI (lget (entCs (entAt T 0)) 9)), .int .i64 (toI (lget (entCs (entAt T 0)) 10)), .int .i64 (toI (lget (entCs (entAt T 0)) 11))])]))
def lift_Levels_1_1_lp {R : Type} (N : Nat) : Lp R := fun body S k => Option.none
noncomputable def lift_Levels_1_1_go {R : Type} (N : Nat) (args : List SV) (T : Tab) (kf : SV × Tab → Option R) : Option R :=
  lift_Levels_1_1 N (toI (lget args 0)) (toI (lget (entCs (entAt T 0)) 0)) (toI (lget (entCs (entAt T 0)) 1)) (toI (lget (entCs (entAt T 0)) 2)) (toI (lget (entCs (entAt T 0)) 3)) (lstC intC (lget (entCs (entAt T 0)) 4)) (toI (lget (entCs (entAt T 0)) 5)) (toI (lget (entCs (entAt T 0)) 6)) (toI (lget (entCs (entAt T 0)) 7)) (toI (lget (entCs (entAt T 0)) 8)) (toI (lget (entCs (entAt T 0)) 9)) (toI (lget (entCs (entAt T 0)) 10)) (toI (lget (entCs (entAt T 0)) 11)) (fun q0 => kf (lget [.bool q0] 0, [(0, .blk [.int .i64 (toI (lget (entCs (entAt T 0)) 0)), .int .i64 (toI (lget (entCs (entAt T 0)) 1)), .int .i64 (toI (lget (entCs (entAt T 0)) 2)), .int .i64 (toI (lget (entCs (entAt T 0)) 3)), slC intC (lstC intC (lget (entCs (entAt T 0)) 4)), .int .i64 (toI (lget (entCs (entAt T 0)) 5)), .int .i64 (toI (lget (entCs (entAt T 0)) 6)), .int .i64 (toI (lget (entCs (entAt T 0)) 7)), .int .i64 (toI (lget (entCs (entAt T 0)) 8)), .int .i64 (toI (lget (entCs (entAt T 0)) 9)), .int .i64 (toI (lget (entCs (entAt T 0)) 10)), .int .i64 (toI (lget (entCs (entAt T 0)) 11))])]))
noncomputable def lift_Levels_1_1_cal {R : Type} (N : Nat) : Cal R := callM (newelref05_Sink_cal N) 73 1 lift_Levels_1_1_sp (lift_Levels_1_1_go N)
theorem lift_Levels_1_1_cal_ok {R : Type} (N : Nat) : CalOk E.P (lift_Levels_1_1_cal (R := R) N) :=
  callM_ok hE (newelref05_Sink_cal_ok N) (lp := lift_Levels_1_1_lp N) (keys := []) kNil (by kernel_rfl) lift_Levels_1_1_sp_ok lift_Levels_1_1_rs_ok (fun args T kf => Eq.trans (lift_Levels_1_1_def N (toI (lget args 0)) (toI (lget (entCs (entAt T 0)) 0)) (toI (lget (entCs (entAt T 0)) 1)) (toI (lget (entCs (entAt T 0)) 2)) (toI (lget (entCs (entAt T 0)) 3)) (lstC intC (lget (entCs (entAt T 0)) 4)) (toI (lget (entCs (entAt T 0)) 5)) (toI (lget (entCs (entAt T 0)) 6)) (toI (lget (entCs (entAt T 0)) 7)) (toI (lget (entCs (entAt T 0)) 8)) (toI (lget (entCs (entAt T 0)) 9)) (toI (lget (entCs (entAt T 0)) 10)) (toI (lget (entCs (entAt T 0)) 11)) (fun q0 => kf (lget [.bool q0] 0, [(0, .blk [.int .i64 (toI (lget (entCs (entAt T 0)) 0)), .int .i64 (toI (lget (entCs (entAt T 0)) 1)), .int .i64 (toI (lget (entCs (entAt T 0)) 2)), .int .i64 (toI (lget (entCs (entAt T 0)) 3)), slC intC (lstC intC (lget (entCs (entAt T 0)) 4)), .int .i64 (toI (lget (entCs (entAt T 0)) 5)), .int .i64 (toI (lget (entCs (entAt T 0)) 6)), .int .i64 (toI (lget (entCs (entAt T 0)) 7)), .int .i64 (toI (lget (entCs (entAt T 0)) 8)), .int .i64 (toI (lget (entCs (entAt T 0)) 9)), .int .i64 (toI (lget (entCs (entAt T 0)) 10)), .int .i64 (toI (lget (entCs (entAt T 0)) 11))])]))) (by kernel_rfl : lift_Levels_1_1_run N args T kf = fnM E (newelref05_Sink_cal N) (lift_Levels_1_1_lp N) 73 (lift_Levels_1_1_sp.vs args) (lift_Levels_1_1_sp.tab T) 1 (resK lift_Levels_1_1_rs kf)))

def slices_IndexFunc___int_int__L2 : LoopSp := ⟨⟨[0, 1, 7, 8], ⟨((rSl intC) :: (rFunc 73 [rPtr 0 0]) :: (dr 5 ((rInt .i64) :: (rInt .i64) :: (dr 10 [])))), [(0, eBlk [rInt .i64, rInt .i64, rInt .i64, rInt .i64, rSl intC, rInt .i64, rInt .i64, rInt .i64, rInt .i64, rInt .i64, rInt .i64, rInt .i64])]⟩, 1⟩, [(Option.none, ⟨[4], ⟨(dr 4 ((rInt .i64) :: (dr 14 []))), [(0, eBlk [rInt .i64, rInt .i64, rInt .i64, rInt .i64, rSl intC, rInt .i64, rInt .i64, rInt .i64, rInt .i64, rInt .i64, rInt .i64, rInt .i64])]⟩, 1⟩), (some 0, ⟨[], ⟨(dr 19 []), [(0, eBlk [rInt .i64, rInt .i64, rInt .i64, rInt .i64, rSl intC, rInt .i64, rInt .i64, rInt .i64, rInt .i64, rInt .i64, rInt .i64, rInt .i64])]⟩, 1⟩)]⟩
theorem slices_IndexFunc___int_int__L2_ok : slices_IndexFunc___int_int__L2.Ok := ⟨⟨(allCons (rSl_ok intC_ok) (allCons (rFunc_ok 73 (allCons (rPtr_ok 0 0) allNil)) (drCons 5 (allCons (rInt_ok .i64) (allCons (rInt_ok .i64) (drCons 10 allNil)))))), (eCons (eBlk_ok (allCons (rInt_ok .i64) (allCons (rInt_ok .i64) (allCons (rInt_ok .i64) (allCons (rInt_ok .i64) (allCons (rSl_ok intC_ok) (allCons (rInt_ok .i64) (allCons (rInt_ok .i64) (allCons (rInt_ok .i64) (allCons (rInt_ok .i64) (allCons (rInt_ok .i64) (allCons (rInt_ok .i64) (allCons (rInt_ok .i64) allNil))))))))))))) eNil)⟩, (xCons ⟨(drCons 4 (allCons (rInt_ok .i64) (drCons 14 allNil))), (eCons (eBlk_ok (allCons (rInt_ok .i64) (allCons (rInt_ok .i64) (allCons (rInt_ok .i64) (allCons (rInt_ok .i64) (allCons (rSl_ok intC_ok) (allCons (rInt_ok .i64) (allCons (rInt_ok .i64) (allCons (rInt_ok .i64) (allCons (rInt_ok .i64) (allCons (rInt_ok .i64) (allCons (rInt_ok .i64) (allCons (rInt_ok .i64) allNil))))))))))))) eNil)⟩ (xCons ⟨(drCons 19 allNil), (eCons (eBlk_ok (allCons (rInt_ok .i64) (allCons (rInt_ok .i64) (allCons (rInt_ok .i64) (allCons (rInt_ok .i64) (allCons (rSl_ok intC_ok) (allCons (rInt_ok .i64) (allCons (rInt_ok .i64) (allCons (rInt_ok .i64) (allCons (rInt_ok .i64) (allCons (rInt_ok .i64) (allCons (rInt_ok .i64) (allCons (rInt_ok .i64) allNil))))))))))))) eNil)⟩ xNil))⟩
def slices_IndexFunc___int_int__h2 (v431 : Arr Int) (v432 : Int) (v433 : Int) (v434 : Int) (v435 : Int) (v436 : Int) (v437 : Int) (v438 : Arr Int) (v439 : Int) (v440 : Int) (v441 : Int) (v442 : Int) (v443 : Int) (v444 : Int) (v445 : Int) : St := ⟨((slC intC v431) :: (.func 73 [.ptr 0 0]) :: (un 5 ((.int .i64 v432) :: (.int .i64 v433) :: (un 10 [])))), [(0, .blk [.int .i64 v434, .int .i64 v435, .int .i64 v436, .int .i64 v437, slC intC v438, .int .i64 v439, .int .i64 v440, .int .i64 v441, .int .i64 v442, .int .i64 v443, .int .i64 v444, .int .i64 v445])], 1⟩
def slices_IndexFunc___int_int__x2_r (v434 : Int) (v435 : Int) (v436 : Int) (v437 : Int) (v438 : Arr Int) (v439 : Int) (v440 : Int) (v441 : Int) (v442 : Int) (v443 : Int) (v444 : Int) (v445 : Int) (q0 : Int) : St := ⟨(un 4 ((.int .i64 q0) :: (un 14 []))), [(0, .blk [.int .i64 v434, .int .i64 v435, .int .i64 v436, .int .i64 v437, slC intC v438, .int .i64 v439, .int .i64 v440, .int .i64 v441, .int .i64 v442, .int .i64 v443, .int .i64 v444, .int .i64 v445])], 1⟩
def slices_IndexFunc___int_int__x2_0 (v434 : Int) (v435 : Int) (v436 : Int) (v437 : Int) (v438 : Arr Int) (v439 : Int) (v440 : Int) (v441 : Int) (v442 : Int) (v443 : Int) (v444 : Int) (v445 : Int) : St := ⟨(un 19 []), [(0, .blk [.int .i64 v434, .int .i64 v435, .int .i64 v436, .int .i64 v437, slC intC v438, .int .i64 v439, .int .i64 v440, .int .i64 v441, .int .i64 v442, .int .i64 v443, .int .i64 v444, .int .i64 v445])], 1⟩
def slices_IndexFunc___int_int__b2 {R : Type} (N : Nat) (rc : Arr Int → Int → Int → Int → Int → Int → Int → Arr Int → Int → Int → Int → Int → Int → Int → Int → Option R) (v431 : Arr Int) (v432 : Int) (v433 : Int) (v434 : Int) (v435 : Int) (v436 : Int) (v437 : Int) (v438 : Arr Int) (v439 : Int) (v440 : Int) (v441 : Int) (v442 : Int) (v443 : Int) (v444 : Int) (v445 : Int) (kr : Int → Option R) (k0 : Unit → Option R) : Option R :=
  bif decide (v433 < v432) then
   bif decide ((0 : Int) ≤ v433) && decide (v433 < (↑(Arr.n v431) : Int)) then
    lift_Levels_1_1 N (Arr.f v431 (Int.toNat v433)) v434 v435 v436 v437 v438 v439 v440 v441 v442 v443 v444 v445 (fun r460 =>
    bif r460 then
     kr v433
    else
     rc v431 v432 (w64 (v433 + (1 : Int))) v434 v435 v436 v437 v438 v439 v440 v441 v442 v443 v444 v445)
   else
    Option.none
  else
   k0 ()
def slices_IndexFunc___int_int__l2 {R : Type} (N : Nat) : Nat → Arr Int → Int → Int → Int → Int → Int → Int → Arr Int → Int → Int → Int → Int → Int → Int → Int → (Int → Option R) → (Unit → Option R) → Option R
  | 0, _, _, _, _, _, _, _, _, _, _, _, _, _, _, _, _, _ => Option.none
  | n + 1, v431, v432, v433, v434, v435, v436, v437, v438, v439, v440, v441, v442, v443, v444, v445, kr, k0 => slices_IndexFunc___int_int__b2 N (fun v431 v432 v433 v434 v435 v436 v437 v438 v439 v440 v441 v442 v443 v444 v445 => slices_IndexFunc___int_int__l2 N n v431 v432 v433 v434 v435 v436 v437 v438 v439 v440 v441 v442 v443 v444 v445 kr k0) v431 v432 v433 v434 v435 v436 v437 v438 v439 v440 v441 v442 v443 v444 v445 kr k0


def slices_IndexFunc___int_int__m {R : Type} (N : Nat) (a418 : Arr Int) (a419 : Int) (a420 : Int) (a421 : Int) (a422 : Int) (a423 : Arr Int) (a424 : Int) (a425 : Int) (a426 : Int) (a427 : Int) (a428 : Int) (a429 : Int) (a430 : Int) (k : Int → Option R) : Option R :=
  slices_IndexFunc___int_int__l2 N N a418 ((↑(Arr.n a418) : Int)) (0 : Int) a419 a420 a421 a422 a423 a424 a425 a426 a427 a428 a429 a430 (fun r461 =>
   k r461) (fun (_ : Unit) =>
   k (-1 : Int))
noncomputable def slices_IndexFunc___int_int_ {R : Type} : Nat → Arr Int → Int → Int → Int → Int → Arr Int → Int → Int → Int → Int → Int → Int → Int → (Int → Option R) → Option R := lock (@slices_IndexFunc___int_int__m R)
theorem slices_IndexFunc___int_int__def {R : Type} (N : Nat) (a418 : Arr Int) (a419 : Int) (a420 : Int) (a421 : Int) (a422 : Int) (a423 : Arr Int) (a424 : Int) (a425 : Int) (a426 : Int) (a427 : Int) (a428 : Int) (a429 : Int) (a430 : Int) (k : Int → Option R) : slices_IndexFunc___int_int_ N a418 a419 a420 a421 a422 a423 a424 a425 a426 a427 a428 a429 a430 k = slices_IndexFunc___int_int__m N a418 a419 a420 a421 a422 a423 a424 a425 a426 a427 a428 a429 a430 k := by unfold slices_IndexFunc___int_int_; rw [lock_eq]
def slices_IndexFunc___int_int__sp : Sp := ⟨[rSl intC, rFunc 73 [rPtr 0 0]], [(0, eBlk [rInt .i64, rInt .i64, rInt .i64, rInt .i64, rSl intC, rInt .i64, rInt .i64, rInt .i64, rInt .i64, rInt .i64, rInt .i64, rInt .i64])]⟩
theorem slices_IndexFunc___int_int__sp_ok : slices_IndexFunc___int_int__sp.Ok := ⟨(allCons (rSl_ok intC_ok) (allCons (rFunc_ok 73 (allCons (rPtr_ok 0 0) allNil)) allNil)), (eCons (eBlk_ok (allCons (rInt_ok .i64) (allCons (rInt_ok .i64) (allCons (rInt_ok .i64) (allCons (rInt_ok .i64) (allCons (rSl_ok intC_ok) (allCons (rInt_ok .i64) (allCons (rInt_ok .i64) (allCons (rInt_ok .i64) (allCons (rInt_ok .i64) (allCons (rInt_ok .i64) (allCons (rInt_ok .i64) (allCons (rInt_ok .i64) allNil))))))))))))) eNil)⟩
def slices_IndexFunc___int_int__rs : Sp := ⟨[rInt .i64], [(0, eBlk [rInt .i64, rInt .i64, rInt .i64, rInt .i64, rSl intC, rInt .i64, rInt .i64, rInt .i64, rInt .i64, rInt .i64, rInt .i64, rInt .i64])]⟩
theorem slices_IndexFunc___int_int__rs_ok : slices_IndexFunc___int_int__rs.Ok := ⟨(allCons (rInt_ok .i64) allNil), (eCons (eBlk_ok (allCons (rInt_ok .i64) (allCons (rInt_ok .i64) (allCons (rInt_ok .i64) (allCons (rInt_ok .i64) (allCons (rSl_ok intC_ok) (allCons (rInt_ok .i64) (allCons (rInt_ok .i64) (allCons (rInt_ok .i64) (allCons (rInt_ok .i64) (allCons (rInt_ok .i64) (allCons (rInt_ok .i64) (allCons (rInt_ok .i64) allNil))))))))))))) eNil)⟩
def slices_IndexFunc___int_int__run {R : Type} (N : Nat) (args : List SV) (T : Tab) (kf : SV × Tab → Option R) : Option R :=
  slices_IndexFunc___int_int__m N (lstC intC (lget args 0)) (toI (lget (entCs (entAt T 0)) 0)) (toI (lget (entCs (entAt T 0)) 1)) (toI (lget (entCs (entAt T 0)) 2)) (toI (lget (entCs (entAt T 0)) 3)) (lstC intC (lget (entCs (entAt T 0)) 4)) (toI (lget (entCs (entAt T 0)) 5)) (toI (lget (entCs (entAt T 0)) 6)) (toI (lget (entCs (entAt T 0)) 7)) (toI (lget (entCs (entAt T 0)) 8)) (toI (lget (entCs (entAt T 0)) 9)) (toI (lget (entCs (entAt T 0)) 10)) (toI (lget (entCs (entAt T 0)) 11)) (fun q0 => kf (lget [.int .i64 q0] 0, [(0, .blk [.int .i64 (toI (lget (entCs (entAt T 0)) 0)), .int .i64 (toI (lget (entCs (entAt T 0)) 1)), .int .i64 (toI (lget (entCs (entAt T 0)) 2)), .int .i64 (toI (lget (entCs (entAt T 0)) 3)), slC intC (lstC intC (lget (entCs (entAt T 0)) 4)), .int .i64 (toI (lget (entCs (entAt T 0)) 5)), .int .i64 (toI (lget (entCs (entAt T 0)) 6)), .int .i64 (toI (lget (entCs (entAt T 0)) 7)), .int .i64 (toI (lget (entCs (entAt T 0)) 8)), .int .i64 (toI (lget (entCs (entAt T 0)) 9)), .int .i64 (toI (lget (entCs (entAt T 0)) 10)), .int .i64 (toI (lget (entCs (entAt T 0)) 11))])]))
def slices_IndexFunc___int_int__d2 {R : Type} (N : Nat) (S0 : St) (k : Exit → St → Option R) : Option R :=
  slices_IndexFunc___int_int__l2 N N (lstC intC (lget S0.tmps 0)) (toI (lget S0.tmps 7)) (toI (lget S0.tmps 8)) (toI (lget (entCs (entAt S0.tab 0)) 0)) (toI (lget (entCs (entAt S0.tab 0)) 1)) (toI (lget (entCs (entAt S0.tab 0)) 2)) (toI (lget (entCs (entAt S0.tab 0)) 3)) (lstC intC (lget (entCs (entAt S0.tab 0)) 4)) (toI (lget (entCs (entAt S0.tab 0)) 5)) (toI (lget (entCs (entAt S0.tab 0)) 6)) (toI (lget (entCs (entAt S0.tab 0)) 7)) (toI (lget (entCs (entAt S0.tab 0)) 8)) (toI (lget (entCs (entAt S0.tab 0)) 9)) (toI (lget (entCs (entAt S0.tab 0)) 10)) (toI (lget (entCs (entAt S0.tab 0)) 11)) (fun q0 => k .ret (slices_IndexFunc___int_int__x2_r (toI (lget (entCs (entAt S0.tab 0)) 0)) (toI (lget (entCs (entAt S0.tab 0)) 1)) (toI (lget (entCs (entAt S0.tab 0)) 2)) (toI (lget (entCs (entAt S0.tab 0)) 3)) (lstC intC (lget (entCs (entAt S0.tab 0)) 4)) (toI (lget (entCs (entAt S0.tab 0)) 5)) (toI (lget (entCs (entAt S0.tab 0)) 6)) (toI (lget (entCs (entAt S0.tab 0)) 7)) (toI (lget (entCs (entAt S0.tab 0)) 8)) (toI (lget (entCs (entAt S0.tab 0)) 9)) (toI (lget (entCs (entAt S0.tab 0)) 10)) (toI (lget (entCs (entAt S0.tab 0)) 11)) q0)) (fun (_ : Unit) => k (.exit 0) (slices_IndexFunc___int_int__x2_0 (toI (lget (entCs (entAt S0.tab 0)) 0)) (toI (lget (entCs (entAt S0.tab 0)) 1)) (toI (lget (entCs (entAt S0.tab 0)) 2)) (toI (lget (entCs (entAt S0.tab 0)) 3)) (lstC intC (lget (entCs (entAt S0.tab 0)) 4)) (toI (lget (entCs (entAt S0.tab 0)) 5)) (toI (lget (entCs (entAt S0.tab 0)) 6)) (toI (lget (entCs (entAt S0.tab 0)) 7)) (toI (lget (entCs (entAt S0.tab 0)) 8)) (toI (lget (entCs (entAt S0.tab 0)) 9)) (toI (lget (entCs (entAt S0.tab 0)) 10)) (toI (lget (entCs (entAt S0.tab 0)) 11))))
def slices_IndexFunc___int_int__lp {R : Type} (N : Nat) : Lp R := fun body S k => bif (Go.Sx.keyOf body).getD 0 == 2 then slices_IndexFunc___int_int__L2.head.raw 1 S (fun S0 => slices_IndexFunc___int_int__d2 N S0 k) else Option.none
theorem slices_IndexFunc___int_int__l2_eq {R : Type} (N : Nat) (k : Exit → St → Option R) (n : Nat) : ∀ (v0 : Arr Int) (v1 : Int) (v2 : Int) (v3 : Int) (v4 : Int) (v5 : Int) (v6 : Int) (v7 : Arr Int) (v8 : Int) (v9 : Int) (v10 : Int) (v11 : Int) (v12 : Int) (v13 : Int) (v14 : Int), loopM E.Θ (lift_Levels_1_1_cal N) (slices_IndexFunc___int_int__lp N) 1 slices_IndexFunc___int_int__L2 (bodyAt E 82 2) n (slices_IndexFunc___int_int__h2 v0 v1 v2 v3 v4 v5 v6 v7 v8 v9 v10 v11 v12 v13 v14) k = slices_IndexFunc___int_int__l2 N n v0 v1 v2 v3 v4 v5 v6 v7 v8 v9 v10 v11 v12 v13 v14 (fun q0 => k .ret (slices_IndexFunc___int_int__x2_r v3 v4 v5 v6 v7 v8 v9 v10 v11 v12 v13 v14 q0)) (fun (_ : Unit) => k (.exit 0) (slices_IndexFunc___int_int__x2_0 v3 v4 v5 v6 v7 v8 v9 v10 v11 v12 v13 v14)) := by
  induction n with
  | zero => intro v0 v1 v2 v3 v4 v5 v6 v7 v8 v9 v10 v11 v12 v13 v14; rfl
  | succ n ih =>
    intro v0 v1 v2 v3 v4 v5 v6 v7 v8 v9 v10 v11 v12 v13 v14
    refine Eq.trans (b := slices_IndexFunc___int_int__b2 N (fun v0 v1 v2 v3 v4 v5 v6 v7 v8 v9 v10 v11 v12 v13 v14 => loopM E.Θ (lift_Levels_1_1_cal N) (slices_IndexFunc___int_int__lp N) 1 slices_IndexFunc___int_int__L2 (bodyAt E 82 2) n (slices_IndexFunc___int_int__h2 v0 v1 v2 v3 v4 v5 v6 v7 v8 v9 v10 v11 v12 v13 v14) k) v0 v1 v2 v3 v4 v5 v6 v7 v8 v9 v10 v11 v12 v13 v14 (fun q0 => k .ret (slices_IndexFunc___int_int__x2_r v3 v4 v5 v6 v7 v8 v9 v10 v11 v12 v13 v14 q0)) (fun (_ : Unit) => k (.exit 0) (slices_IndexFunc___int_int__x2_0 v3 v4 v5 v6 v7 v8 v9 v10 v11 v12 v13 v14))) (by kernel_rfl) ?_
    have h : (fun (v0 : Arr Int) (v1 : Int) (v2 : Int) (v3 : Int) (v4 : Int) (v5 : Int) (v6 : Int) (v7 : Arr Int) (v8 : Int) (v9 : Int) (v10 : Int) (v11 : Int) (v12 : Int) (v13 : Int) (v14 : Int) => loopM E.Θ (lift_Levels_1_1_cal N) (slices_IndexFunc___int_int__lp N) 1 slices_IndexFunc___int_int__L2 (bodyAt E 82 2) n (slices_IndexFunc___int_int__h2 v0 v1 v2 v3 v4 v5 v6 v7 v8 v9 v10 v11 v12 v13 v14) k) = (fun (v0 : Arr Int) (v1 : Int) (v2 : Int) (v3 : Int) (v4 : Int) (v5 : Int) (v6 : Int) (v7 : Arr Int) (v8 : Int) (v9 : Int) (v10 : Int) (v11 : Int) (v12 : Int) (v13 : Int) (v14 : Int) => slices_IndexFunc___int_int__l2 N n v0 v1 v2 v3 v4 v5 v6 v7 v8 v9 v10 v11 v12 v13 v14 (fun q0 => k .ret (slices_IndexFunc___int_int__x2_r v3 v4 v5 v6 v7 v8 v9 v10 v11 v12 v13 v14 q0)) (fun (_ : Unit) => k (.exit 0) (slices_IndexFunc___int_int__x2_0 v3 v4 v5 v6 v7 v8 v9 v10 v11 v12 v13 v14))) := funext fun v0 => funext fun v1 => funext fun v2 => funext fun v3 => funext fun v4 => funext fun v5 => funext fun v6 => funext fun v7 => funext fun v8 => funext fun v9 => funext fun v10 => funext fun v11 => funext fun v12 => funext fun v13 => funext fun v14 => ih v0 v1 v2 v3 v4 v5 v6 v7 v8 v9 v10 v11 v12 v13 v14
    rw [h]
    rfl
theorem slices_IndexFunc___int_int__k2 {R : Type} (N : Nat) : LpKey (R := R) E 82 1 (slices_IndexFunc___int_int__lp N) 2 :=
  lpKey_of hE (lift_Levels_1_1_cal_ok N) slices_IndexFunc___int_int__L2_ok [] kNil (by kernel_rfl) N fun S k =>
    Eq.trans (b := slices_IndexFunc___int_int__L2.head.raw 1 S (fun S0 => slices_IndexFunc___int_int__d2 N S0 k)) (by kernel_rfl) (congrArg (slices_IndexFunc___int_int__L2.head.raw 1 S) (funext fun S0 => Eq.trans (slices_IndexFunc___int_int__l2_eq N k N (lstC intC (lget S0.tmps 0)) (toI (lget S0.tmps 7)) (toI (lget S0.tmps 8)) (toI (lget (entCs (entAt S0.tab 0)) 0)) (toI (lget (entCs (entAt S0.tab 0)) 1)) (toI (lget (entCs (entAt S0.tab 0)) 2)) (toI (lget (entCs (entAt S0.tab 0)) 3)) (lstC intC (lget (entCs (entAt S0.tab 0)) 4)) (toI (lget (entCs (entAt S0.tab 0)) 5)) (toI (lget (entCs (entAt S0.tab 0)) 6)) (toI (lget (entCs (entAt S0.tab 0)) 7)) (toI (lget (entCs (entAt S0.tab 0)) 8)) (toI (lget (entCs (entAt S0.tab 0)) 9)) (toI (lget (entCs (entAt S0.tab 0)) 10)) (toI (lget (entCs (entAt S0.tab 0)) 11))).symm (by kernel_rfl)))
noncomputable def slices_IndexFunc___int_int__go {R : Type} (N : Nat) (args : List SV) (T : Tab) (kf : SV × Tab → Option R) : Option R :=
  slices_IndexFunc___int_int_ N (lstC intC (lget args 0)) (toI (lget (entCs (entAt T 0)) 0)) (toI (lget (entCs (entAt T 0)) 1)) (toI (lget (entCs (entAt T 0)) 2)) (toI (lget (entCs (entAt T 0)) 3)) (lstC intC (lget (entCs (entAt T 0)) 4)) (toI (lget (entCs (entAt T 0)) 5)) (toI (lget (entCs (entAt T 0)) 6)) (toI (lget (entCs (entAt T 0)) 7)) (toI (lget (entCs (entAt T 0)) 8)) (toI (lget (entCs (entAt T 0)) 9)) (toI (lget (entCs (entAt T 0)) 10)) (toI (lget (entCs (entAt T 0)) 11)) (fun q0 => kf (lget [.int .i64 q0] 0, [(0, .blk [.int .i64 (toI (lget (entCs (entAt T 0)) 0)), .int .i64 (toI (lget (entCs (entAt T 0)) 1)), .int .i64 (toI (lget (entCs (entAt T 0)) 2)), .int .i64 (toI (lget (entCs (entAt T 0)) 3)), slC intC (lstC intC (lget (entCs (entAt T 0)) 4)), .int .i64 (toI (lget (entCs (entAt T 0)) 5)), .int .i64 (toI (lget (entCs (entAt T 0)) 6)), .int .i64 (toI (lget (entCs (entAt T 0)) 7)), .int .i64 (toI (lget (entCs (entAt T 0)) 8)), .int .i64 (toI (lget (entCs (entAt T 0)) 9)), .int .i64 (toI (lget (entCs (entAt T 0)) 10)), .int .i64 (toI (lget (entCs (entAt T 0)) 11))])]))
noncomputable def slices_IndexFunc___int_int__cal {R : Type} (N : Nat) : Cal R := callM (lift_Levels_1_1_cal N) 82 1 slices_IndexFunc___int_int__sp (slices_IndexFunc___int_int__go N)
theorem slices_IndexFunc___int_int__cal_ok {R : Type} (N : Nat) : CalOk E.P (slices_IndexFunc___int_int__cal (R := R) N) :=
  callM_ok hE (lift_Levels_1_1_cal_ok N) (lp := slices_IndexFunc___int_int__lp N) (keys := [2]) (kCons (slices_IndexFunc___int_int__k2 N) kNil) (by kernel_rfl) slices_IndexFunc___int_int__sp_ok slices_IndexFunc___int_int__rs_ok (fun args T kf => Eq.trans (slices_IndexFunc___int_int__def N (lstC intC (lget args 0)) (toI (lget (entCs (entAt T 0)) 0)) (toI (lget (entCs (entAt T 0)) 1)) (toI (lget (entCs (entAt T 0)) 2)) (toI (lget (entCs (entAt T 0)) 3)) (lstC intC (lget (entCs (entAt T 0)) 4)) (toI (lget (entCs (entAt T 0)) 5)) (toI (lget (entCs (entAt T 0)) 6)) (toI (lget (entCs (entAt T 0)) 7)) (toI (lget (entCs (entAt T 0)) 8)) (toI (lget (entCs (entAt T 0)) 9)) (toI (lget (entCs (entAt T 0)) 10)) (toI (lget (entCs (entAt T 0)) 11)) (fun q0 => kf (lget [.int .i64 q0] 0, [(0, .blk [.int .i64 (toI (lget (entCs (entAt T 0)) 0)), .int .i64 (toI (lget (entCs (entAt T 0)) 1)), .int .i64 (toI (lget (entCs (entAt T 0)) 2)), .int .i64 (toI (lget (entCs (entAt T 0)) 3)), slC intC (lstC intC (lget (entCs (entAt T 0)) 4)), .int .i64 (toI (lget (entCs (entAt T 0)) 5)), .int .i64 (toI (lget (entCs (entAt T 0)) 6)), .int .i64 (toI (lget (entCs (entAt T 0)) 7)), .int .i64 (toI (lget (entCs (entAt T 0)) 8)), .int .i64 (toI (lget (entCs (entAt T 0)) 9)), .int .i64 (toI (lget (entCs (entAt T 0)) 10)), .int .i64 (toI (lget (entCs (entAt T 0)) 11))])]))) (by kernel_rfl : slices_IndexFunc___int_int__run N args T kf = fnM E (lift_Levels_1_1_cal N) (slices_IndexFunc___int_int__lp N) 82 (slices_IndexFunc___int_int__sp.vs args) (slices_IndexFunc___int_int__sp.tab T) 1 (resK slices_IndexFunc___int_int__rs kf)))


def slices_ContainsFunc___int_int__m {R : Type} (N : Nat) (a405 : Arr Int) (a406 : Int) (a407 : Int) (a408 : Int) (a409 : Int) (a410 : Arr Int) (a411 : Int) (a412 : Int) (a413 : Int) (a414 : Int) (a415 : Int) (a416 : Int) (a417 : Int) (k : Bool → Option R) : Option R :=
  slices_IndexFunc___int_int_ N a405 a406 a407 a408 a409 a410 a411 a412 a413 a414 a415 a416 a417 (fun r462 =>
  k (decide (r462 ≥ (0 : Int))))
noncomputable def slices_ContainsFunc___int_int_ {R : Type} : Nat → Arr Int → Int → Int → Int → Int → Arr Int → Int → Int → Int → Int → Int → Int → Int → (Bool → Option R) → Option R := lock (@slices_ContainsFunc___int_int__m R)
theorem slices_ContainsFunc___int_int__def {R : Type} (N : Nat) (a405 : Arr Int) (a406 : Int) (a407 : Int) (a408 : Int) (a409 : Int) (a410 : Arr Int) (a411 : Int) (a412 : Int) (a413 : Int) (a414 : Int) (a415 : Int) (a416 : Int) (a417 : Int) (k : Bool → Option R) : slices_ContainsFunc___int_int_ N a405 a406 a407 a408 a409 a410 a411 a412 a413 a414 a415 a416 a417 k = slices_ContainsFunc___int_int__m N a405 a406 a407 a408 a409 a410 a411 a412 a413 a414 a415 a416 a417 k := by unfold slices_ContainsFunc___int_int_; rw [lock_eq]
def slices_ContainsFunc___int_int__sp : Sp := ⟨[rSl intC, rFunc 73 [rPtr 0 0]], [(0, eBlk [rInt .i64, rInt .i64, rInt .i64, rInt .i64, rSl intC, rInt .i64, rInt .i64, rInt .i64, rInt .i64, rInt .i64, rInt .i64, rInt .i64])]⟩
theorem slices_ContainsFunc___int_int__sp_ok : slices_ContainsFunc___int_int__sp.Ok := ⟨(allCons (rSl_ok intC_ok) (allCons (rFunc_ok 73 (allCons (rPtr_ok 0 0) allNil)) allNil)), (eCons (eBlk_ok (allCons (rInt_ok .i64) (allCons (rInt_ok .i64) (allCons (rInt_ok .i64) (allCons (rInt_ok .i64) (allCons (rSl_ok intC_ok) (allCons (rInt_ok .i64) (allCons (rInt_ok .i64) (allCons (rInt_ok .i64) (allCons (rInt_ok .i64) (allCons (rInt_ok .i64) (allCons (rInt_ok .i64) (allCons (rInt_ok .i64) allNil))))))))))))) eNil)⟩
def slices_ContainsFunc___int_int__rs : Sp := ⟨[rBool], [(0, eBlk [rInt .i64, rInt .i64, rInt .i64, rInt .i64, rSl intC, rInt .i64, rInt .i64, rInt .i64, rInt .i64, rInt .i64, rInt .i64, rInt .i64])]⟩
theorem slices_ContainsFunc___int_int__rs_ok : slices_ContainsFunc___int_int__rs.Ok := ⟨(allCons rBool_ok allNil), (eCons (eBlk_ok (allCons (rInt_ok .i64) (allCons (rInt_ok .i64) (allCons (rInt_ok .i64) (allCons (rInt_ok .i64) (allCons (rSl_ok intC_ok) (allCons (rInt_ok .i64) (allCons (rInt_ok .i64) (allCons (rInt_ok .i64) (allCons (rInt_ok .i64) (allCons (rInt_ok .i64) (allCons (rInt_ok .i64) (allCons (rInt_ok .i64) allNil))))))))))))) eNil)⟩
def slices_ContainsFunc___int_int__run {R : Type} (N : Nat) (args : List SV) (T : Tab) (kf : SV × Tab → Option R) : Option R :=
  slices_ContainsFunc___int_int__m N (lstC intC (lget args 0)) (toI (lget (entCs (entAt T 0)) 0)) (toI (lget (entCs (entAt T 0)) 1)) (toI (lget (entCs (entAt T 0)) 2)) (toI (lget (entCs (entAt T 0)) 3)) (lstC intC (lget (entCs (entAt T 0)) 4)) (toI (lget (entCs (entAt T 0)) 5)) (toI (lget (entCs (entAt T 0)) 6)) (toI (lget (entCs (entAt T 0)) 7)) (toI (lget (entCs (entAt T 0)) 8)) (toI (lget (entCs (entAt T 0)) 9)) (toI (lget (entCs (entAt T 0)) 10)) (toI (lget (entCs (entAt T 0)) 11)) (fun q0 => kf (lget [.bool q0] 0, [(0, .blk [.int .i64 (toI (lget (entCs (entAt T 0)) 0)), .int .i64 (toI (lget (entCs (entAt T 0)) 1)), .int .i64 (toI (lget (entCs (entAt T 0)) 2)), .int .i64 (toI (lget (entCs (entAt T 0)) 3)), slC intC (lstC intC (lget (entCs (entAt T 0)) 4)), .int .i64 (toI (lget (entCs (entAt T 0)) 5)), .int .i64 (toI (lget (entCs (entAt T 0)) 6)), .int .i64 (toI (lget (entCs (entAt T 0)) 7)), .int .i64 (toI (lget (entCs (entAt T 0)) 8)), .int .i64 (toI (lget (entCs (entAt T 0)) 9)), .int .i64 (toI (lget (entCs (entAt T 0)) 10)), .int .i64 (toI (lget (entCs (entAt T 0)) 11))])]))
def slices_ContainsFunc___int_int__lp {R : Type} (N : Nat) : Lp R := fun body S k => Option.none
noncomputable def slices_ContainsFunc___int_int__go {R : Type} (N : Nat) (args : List SV) (T : Tab) (kf : SV × Tab → Option R) : Option R :=
  slices_ContainsFunc___int_int_ N (lstC intC (lget args 0)) (toI (lget (entCs (entAt T 0)) 0)) (toI (lget (entCs (entAt T 0)) 1)) (toI (lget (entCs (entAt T 0)) 2)) (toI (lget (entCs (entAt T 0)) 3)) (lstC intC (lget (entCs (entAt T 0)) 4)) (toI (lget (entCs (entAt T 0)) 5)) (toI (lget (entCs (entAt T 0)) 6)) (toI (lget (entCs (entAt T 0)) 7)) (toI (lget (entCs (entAt T 0)) 8)) (toI (lget (entCs (entAt T 0)) 9)) (toI (lget (entCs (entAt T 0)) 10)) (toI (lget (entCs (entAt T 0)) 11)) (fun q0 => kf (lget [.bool q0] 0, [(0, .blk [.int .i64 (toI (lget (entCs (entAt T 0)) 0)), .int .i64 (toI (lget (entCs (entAt T 0)) 1)), .int .i64 (toI (lget (entCs (entAt T 0)) 2)), .int .i64 (toI (lget (entCs (entAt T 0)) 3)), slC intC (lstC intC (lget (entCs (entAt T 0)) 4)), .int .i64 (toI (lget (entCs (entAt T 0)) 5)), .int .i64 (toI (lget (entCs (entAt T 0)) 6)), .int .i64 (toI (lget (entCs (entAt T 0)) 7)), .int .i64 (toI (lget (entCs (entAt T 0)) 8)), .int .i64 (toI (lget (entCs (entAt T 0)) 9)), .int .i64 (toI (lget (entCs (entAt T 0)) 10)), .int .i64 (toI (lget (entCs (entAt T 0)) 11))])]))
noncomputable def slices_ContainsFunc___int_int__cal {R : Type} (N : Nat) : Cal R := callM (slices_IndexFunc___int_int__cal N) 74 1 slices_ContainsFunc___int_int__sp (slices_ContainsFunc___int_int__go N)
theorem slices_ContainsFunc___int_int__cal_ok {R : Type} (N : Nat) : CalOk E.P (slices_ContainsFunc___int_int__cal (R := R) N) :=
  callM_ok hE (slices_IndexFunc___int_int__cal_ok N) (lp := slices_ContainsFunc___int_int__lp N) (keys := []) kNil (by kernel_rfl) slices_ContainsFunc___int_int__sp_ok slices_ContainsFunc___int_int__rs_ok (fun args T kf => Eq.trans (slices_ContainsFunc___int_int__def N (lstC intC (lget args 0)) (toI (lget (entCs (entAt T 0)) 0)) (toI (lget (entCs (entAt T 0)) 1)) (toI (lget (entCs (entAt T 0)) 2)) (toI (lget (entCs (entAt T 0)) 3)) (lstC intC (lget (entCs (entAt T 0)) 4)) (toI (lget (entCs (entAt T 0)) 5)) (toI (lget (entCs (entAt T 0)) 6)) (toI (lget (entCs (entAt T 0)) 7)) (toI (lget (entCs (entAt T 0)) 8)) (toI (lget (entCs (entAt T 0)) 9)) (toI (lget (entCs (entAt T 0)) 10)) (toI (lget (entCs (entAt T 0)) 11)) (fun q0 => kf (lget [.bool q0] 0, [(0, .blk [.int .i64 (toI (lget (entCs (entAt T 0)) 0)), .int .i64 (toI (lget (entCs (entAt T 0)) 1)), .int .i64 (toI (lget (entCs (entAt T 0)) 2)), .int .i64 (toI (lget (entCs (entAt T 0)) 3)), slC intC (lstC intC (lget (entCs (entAt T 0)) 4)), .int .i64 (toI (lget (entCs (entAt T 0)) 5)), .int .i64 (toI (lget (entCs (entAt T 0)) 6)), .int .i64 (toI (lget (entCs (entAt T 0)) 7)), .int .i64 (toI (lget (entCs (entAt T 0)) 8)), .int .i64 (toI (lget (entCs (entAt T 0)) 9)), .int .i64 (toI (lget (entCs (entAt T 0)) 10)), .int .i64 (toI (lget (entCs (entAt T 0)) 11))])]))) (by kernel_rfl : slices_ContainsFunc___int_int__run N args T kf = fnM E (slices_IndexFunc___int_int__cal N) (slices_ContainsFunc___int_int__lp N) 74 (slices_ContainsFunc___int_int__sp.vs args) (slices_ContainsFunc___int_int__sp.tab T) 1 (resK slices_ContainsFunc___int_int__rs kf)))


def lift_Levels_1_m {R : Type} (N : Nat) (a389 : Int) (a390 : Int) (a391 : Int) (a392 : Int) (a393 : Arr Int) (a394 : Int) (a395 : Int) (a396 : Int) (a397 : Int) (a398 : Int) (a399 : Int) (a400 : Int) (a401 : Int) (a402 : Arr Int) (k : Bool → Option R) : Option R :=
  lift_between N a401 (0 : Int) (w64 ((↑(Arr.n a393) : Int) - (1 : Int))) (fun r403 =>
  bif r403 then
   lift_between N ((↑(Arr.n a402) : Int)) (1 : Int) (60 : Int) (fun r404 =>
   bif r404 then
    slices_ContainsFunc___int_int_ N a402 a389 a390 a391 a392 a393 a394 a395 a396 a397 a398 a399 a400 (fun r463 =>
    k !r463)
   else
    k false)
  else
   k false)
noncomputable def lift_Levels_1 {R : Type} : Nat → Int → Int → Int → Int → Arr Int → Int → Int → Int → Int → Int → Int → Int → Int → Arr Int → (Bool → Option R) → Option R := lock (@lift_Levels_1_m R)
theorem lift_Levels_1_def {R : Type} (N : Nat) (a389 : Int) (a390 : Int) (a391 : Int) (a392 : Int) (a393 : Arr Int) (a394 : Int) (a395 : Int) (a396 : Int) (a397 : Int) (a398 : Int) (a399 : Int) (a400 : Int) (a401 : Int) (a402 : Arr Int) (k : Bool → Option R) : lift_Levels_1 N a389 a390 a391 a392 a393 a394 a395 a396 a397 a398 a399 a400 a401 a402 k = lift_Levels_1_m N a389 a390 a391 a392 a393 a394 a395 a396 a397 a398 a399 a400 a401 a402 k := by unfold lift_Levels_1; rw [lock_eq]
def lift_Levels_1_sp : Sp := ⟨[rPtr 0 0, rPtr 1 0, rPtr 2 0], [(0, eBlk [rInt .i64, rInt .i64, rInt .i64, rInt .i64, rSl intC, rInt .i64, rInt .i64, rInt .i64, rInt .i64, rInt .i64, rInt .i64, rInt .i64]), (1, eBlk [rInt .i64]), (2, eBlk [rSl intC])]⟩
theorem lift_Levels_1_sp_ok : lift_Levels_1_sp.Ok := ⟨(allCons (rPtr_ok 0 0) (allCons (rPtr_ok 1 0) (allCons (rPtr_ok 2 0) allNil))), (eCons (eBlk_ok (allCons (rInt_ok .i64) (allCons (rInt_ok .i64) (allCons (rInt_ok .i64) (allCons (rInt_ok .i64) (allCons (rSl_ok intC_ok) (allCons (rInt_ok .i64) (allCons (rInt_ok .i64) (allCons (rInt_ok .i64) (allCons (rInt_ok .i64) (allCons (rInt_ok .i64) (allCons (rInt_ok .i64) (allCons (rInt_ok .i64) allNil))))))))))))) (eCons (eBlk_ok (allCons (rInt_ok .i64) allNil)) (eCons (eBlk_ok (allCons (rSl_ok intC_ok) allNil)) eNil)))⟩
def lift_Levels_1_rs : Sp := ⟨[rBool], [(0, eBlk [rInt .i64, rInt .i64, rInt .i64, rInt .i64, rSl intC, rInt .i64, rInt .i64, rInt .i64, rInt .i64, rInt .i64, rInt .i64, rInt .i64]), (1, eBlk [rInt .i64]), (2, eBlk [rSl intC])]⟩
theorem lift_Levels_1_rs_ok : lift_Levels_1_rs.Ok := ⟨(allCons rBool_ok allNil), (eCons (eBlk_ok (allCons (rInt_ok .i64) (allCons (rInt_ok .i64) (allCons (rInt_ok .i64) (allCons (rInt_ok .i64) (allCons (rSl_ok intC_ok) (allCons (rInt_ok .i64) (allCons (rInt_ok .i64) (allCons (rInt_ok .i64) (allCons (rInt_ok .i64) (allCons (rInt_ok .i64) (allCons (rInt_ok .i64) (allCons (rInt_ok .i64) allNil))))))))))))) (eCons (eBlk_ok (allCons (rInt_ok .i64) allNil)) (eCons (eBlk_ok (allCons (rSl_ok intC_ok) allNil)) eNil)))⟩
def lift_Levels_1_run {R : Type} (N : Nat) (args : List SV) (T : Tab) (kf : SV × Tab → Option R) : Option R :=
  lift_Levels_1_m N (toI (lget (entCs (entAt T 0)) 0)) (toI (lget (entCs (entAt T 0)) 1)) (toI (lget (entCs (entAt T 0)) 2)) (toI (lget (entCs (entAt T 0)) 3)) (lstC intC (lget (entCs (entAt T 0)) 4)) (toI (lget (entCs (entAt T 0)) 5)) (toI (lget (entCs (entAt T 0)) 6)) (toI (lget (entCs (entAt T 0)) 7)) (toI (lget (entCs (entAt T 0)) 8)) (toI (lget (entCs (entAt T 0)) 9)) (toI (lget (entCs (entAt T 0)) 10)) (toI (lget (entCs (entAt T 0)) 11)) (toI (lget (entCs (entAt T 1)) 0)) (lstC intC (lget (entCs (entAt T 2)) 0)) (fun q0 => kf (lget [.bool q0] 0, [(0, .blk [.int .i64 (toI (lget (entCs (entAt T 0)) 0)), .int .i64 (toI (lget (entCs (entAt T 0)) 1)), .int .i64 (toI (lget (entCs (entAt T 0)) 2)), .int .i64 (toI (lget (entCs (entAt T 0)) 3)), slC intC (lstC intC (lget (entCs (entAt T 0)) 4)), .int .i64 (toI (lget (entCs (entAt T 0)) 5)), .int .i64 (toI (lget (entCs (entAt T 0)) 6)), .int .i64 (toI (lget (entCs (entAt T 0)) 7)), .int .i64 (toI (lget (entCs (entAt T 0)) 8)), .int .i64 (toI (lget (entCs (entAt T 0)) 9)), .int .i64 (toI (lget (entCs (entAt T 0)) 10)), .int .i64 (toI (lget (entCs (entAt T 0)) 11))]), (1, .blk [.int .i64 (toI (lget (entCs (entAt T 1)) 0))]), (2, .blk [slC intC (lstC intC (lget (entCs (entAt T 2)) 0))])]))
def lift_Levels_1_lp {R : Type} (N : Nat) : Lp R := fun body S k => Option.none
noncomputable def lift_Levels_1_go {R : Type} (N : Nat) (args : List SV) (T : Tab) (kf : SV × Tab → Option R) : Option R :=
  lift_Levels_1 N (toI (lget (entCs (entAt T 0)) 0)) (toI (lget (entCs (entAt T 0)) 1)) (toI (lget (entCs (entAt T 0)) 2)) (toI (lget (entCs (entAt T 0)) 3)) (lstC intC (lget (entCs (entAt T 0)) 4)) (toI (lget (entCs (entAt T 0)) 5)) (toI (lget (entCs (entAt T 0)) 6)) (toI (lget (entCs (entAt T 0)) 7)) (toI (lget (entCs (entAt T 0)) 8)) (toI (lget (entCs (entAt T 0)) 9)) (toI (lget (entCs (entAt T 0)) 10)) (toI (lget (entCs (entAt T 0)) 11)) (toI (lget (entCs (entAt T 1)) 0)) (lstC intC (lget (entCs (entAt T 2)) 0)) (fun q0 => kf (lget [.bool q0] 0, [(0, .blk [.int .i64 (toI (lget (entCs (entAt T 0)) 0)), .int .i64 (toI (lget (entCs (entAt T 0)) 1)), .int .i64 (toI (lget (entCs (entAt T 0)) 2)), .int .i64 (toI (lget (entCs (entAt T 0)) 3)), slC intC (lstC intC (lget (entCs (entAt T 0)) 4)), .int .i64 (toI (lget (entCs (entAt T 0)) 5)), .int .i64 (toI (lget (entCs (entAt T 0)) 6)), .int .i64 (toI (lget (entCs (entAt T 0)) 7)), .int .i64 (toI (lget (entCs (entAt T 0)) 8)), .int .i64 (toI (lget (entCs (entAt T 0)) 9)), .int .i64 (toI (lget (entCs (entAt T 0)) 10)), .int .i64 (toI (lget (entCs (entAt T 0)) 11))]), (1, .blk [.int .i64 (toI (lget (entCs (entAt T 1)) 0))]), (2, .blk [slC intC (lstC intC (lget (entCs (entAt T 2)) 0))])]))
noncomputable def lift_Levels_1_cal {R : Type} (N : Nat) : Cal R := callM (slices_ContainsFunc___int_int__cal N) 72 3 lift_Levels_1_sp (lift_Levels_1_go N)
theorem lift_Levels_1_cal_ok {R : Type} (N : Nat) : CalOk E.P (lift_Levels_1_cal (R := R) N) :=
  callM_ok hE (slices_ContainsFunc___int_int__cal_ok N) (lp := lift_Levels_1_lp N) (keys := []) kNil (by kernel_rfl) lift_Levels_1_sp_ok lift_Levels_1_rs_ok (fun args T kf => Eq.trans (lift_Levels_1_def N (toI (lget (entCs (entAt T 0)) 0)) (toI (lget (entCs (entAt T 0)) 1)) (toI (lget (entCs (entAt T 0)) 2)) (toI (lget (entCs (entAt T 0)) 3)) (lstC intC (lget (entCs (entAt T 0)) 4)) (toI (lget (entCs (entAt T 0)) 5)) (toI (lget (entCs (entAt T 0)) 6)) (toI (lget (entCs (entAt T 0)) 7)) (toI (lget (entCs (entAt T 0)) 8)) (toI (lget (entCs (entAt T 0)) 9)) (toI (lget (entCs (entAt T 0)) 10)) (toI (lget (entCs (entAt T 0)) 11)) (toI (lget (entCs (entAt T 1)) 0)) (lstC intC (lget (entCs (entAt T 2)) 0)) (fun q0 => kf (lget [.bool q0] 0, [(0, .blk [.int .i64 (toI (lget (entCs (entAt T 0)) 0)), .int .i64 (toI (lget (entCs (entAt T 0)) 1)), .int .i64 (toI (lget (entCs (entAt T 0)) 2)), .int .i64 (toI (lget (entCs (entAt T 0)) 3)), slC intC (lstC intC (lget (entCs (entAt T 0)) 4)), .int .i64 (toI (lget (entCs (entAt T 0)) 5)), .int .i64 (toI (lget (entCs (entAt T 0)) 6)), .int .i64 (toI (lget (entCs (entAt T 0)) 7)), .int .i64 (toI (lget (entCs (entAt T 0)) 8)), .int .i64 (toI (lget (entCs (entAt T 0)) 9)), .int .i64 (toI (lget (entCs (entAt T 0)) 10)), .int .i64 (toI (lget (entCs (entAt T 0)) 11))]), (1, .blk [.int .i64 (toI (lget (entCs (entAt T 1)) 0))]), (2, .blk [slC intC (lstC intC (lget (entCs (entAt T 2)) 0))])]))) (by kernel_rfl : lift_Levels_1_run N args T kf = fnM E (slices_ContainsFunc___int_int__cal N) (lift_Levels_1_lp N) 72 (lift_Levels_1_sp.vs args) (lift_Levels_1_sp.tab T) 3 (resK lift_Levels_1_rs kf)))


def lift_check_v6_m {R : Type} (N : Nat) (a373 : api_Lift) (a374 : Int) (a375 : Int) (a376 : Int) (a377 : Int) (a378 : Arr Int) (a379 : Int) (a380 : Int) (a381 : Int) (a382 : Int) (a383 : Int) (a384 : Int) (a385 : Int) (a386 : Int) (a387 : Arr Int) (k : Int → Option R) : Option R :=
  lift_Check N a373 (fun r388 =>
  bif r388 != (0 : Int) then
   k r388
  else
   lift_Levels_1 N a374 a375 a376 a377 a378 a379 a380 a381 a382 a383 a384 a385 a386 a387 (fun r464 =>
   bif !r464 then
    k (1 : Int)
   else
    k (0 : Int)))
noncomputable def lift_check_v6 {R : Type} : Nat → api_Lift → Int → Int → Int → Int → Arr Int → Int → Int → Int → Int → Int → Int → Int → Int → Arr Int → (Int → Option R) → Option R := lock (@lift_check_v6_m R)
theorem lift_check_v6_def {R : Type} (N : Nat) (a373 : api_Lift) (a374 : Int) (a375 : Int) (a376 : Int) (a377 : Int) (a378 : Arr Int) (a379 : Int) (a380 : Int) (a381 : Int) (a382 : Int) (a383 : Int) (a384 : Int) (a385 : Int) (a386 : Int) (a387 : Arr Int) (k : Int → Option R) : lift_check_v6 N a373 a374 a375 a376 a377 a378 a379 a380 a381 a382 a383 a384 a385 a386 a387 k = lift_check_v6_m N a373 a374 a375 a376 a377 a378 a379 a380 a381 a382 a383 a384 a385 a386 a387 k := by unfold lift_check_v6; rw [lock_eq]
def lift_check_v6_sp : Sp := ⟨[rAgg api_LiftC, rFunc 72 [rPtr 0 0, rPtr 1 0, rPtr 2 0]], [(0, eBlk [rInt .i64, rInt .i64, rInt .i64, rInt .i64, rSl intC, rInt .i64, rInt .i64, rInt .i64, rInt .i64, rInt .i64, rInt .i64, rInt .i64]), (1, eBlk [rInt .i64]), (2, eBlk [rSl intC])]⟩
theorem lift_check_v6_sp_ok : lift_check_v6_sp.Ok := ⟨(allCons (rAgg_ok api_LiftC_ok api_LiftC_len) (allCons (rFunc_ok 72 (allCons (rPtr_ok 0 0) (allCons (rPtr_ok 1 0) (allCons (rPtr_ok 2 0) allNil)))) allNil)), (eCons (eBlk_ok (allCons (rInt_ok .i64) (allCons (rInt_ok .i64) (allCons (rInt_ok .i64) (allCons (rInt_ok .i64) (allCons (rSl_ok intC_ok) (allCons (rInt_ok .i64) (allCons (rInt_ok .i64) (allCons (rInt_ok .i64) (allCons (rInt_ok .i64) (allCons (rInt_ok .i64) (allCons (rInt_ok .i64) (allCons (rInt_ok .i64) allNil))))))))))))) (eCons (eBlk_ok (allCons (rInt_ok .i64) allNil)) (eCons (eBlk_ok (allCons (rSl_ok intC_ok) allNil)) eNil)))⟩
def lift_check_v6_rs : Sp := ⟨[rInt .i64], [(0, eBlk [rInt .i64, rInt .i64, rInt .i64, rInt .i64, rSl intC, rInt .i64, rInt .i64, rInt .i64, rInt .i64, rInt .i64, rInt .i64, rInt .i64]), (1, eBlk [rInt .i64]), (2, eBlk [rSl intC])]⟩
theorem lift_check_v6_rs_ok : lift_check_v6_rs.Ok := ⟨(allCons (rInt_ok .i64) allNil), (eCons (eBlk_ok (allCons (rInt_ok .i64) (allCons (rInt_ok .i64) (allCons (rInt_ok .i64) (allCons (rInt_ok .i64) (allCons (rSl_ok intC_ok) (allCons (rInt_ok .i64) (allCons (rInt_ok .i64) (allCons (rInt_ok .i64) (allCons (rInt_ok .i64) (allCons (rInt_ok .i64) (allCons (rInt_ok .i64) (allCons (rInt_ok .i64) allNil))))))))))))) (eCons (eBlk_ok (allCons (rInt_ok .i64) allNil)) (eCons (eBlk_ok (allCons (rSl_ok intC_ok) allNil)) eNil)))⟩
def lift_check_v6_run {R : Type} (N : Nat) (args : List SV) (T : Tab) (kf : SV × Tab → Option R) : Option R :=
  lift_check_v6_m N (Cod.dec api_LiftC (lget (toCs (lget args 0)))) (toI (lget (entCs (entAt T 0)) 0)) (toI (lget (entCs (entAt T 0)) 1)) (toI (lget (entCs (entAt T 0)) 2)) (toI (lget (entCs (entAt T 0)) 3)) (lstC intC (lget (entCs (entAt T 0)) 4)) (toI (lget (entCs (entAt T 0)) 5)) (toI (lget (entCs (entAt T 0)) 6)) (toI (lget (entCs (entAt T 0)) 7)) (toI (lget (entCs (entAt T 0)) 8)) (toI (lget (entCs (entAt T 0)) 9)) (toI (lget (entCs (entAt T 0)) 10)) (toI (lget (entCs (entAt T 0)) 11)) (toI (lget (entCs (entAt T 1)) 0)) (lstC intC (lget (entCs (entAt T 2)) 0)) (fun q0 => kf (lget [.int .i64 q0] 0, [(0, .blk [.int .i64 (toI (lget (entCs (entAt T 0)) 0)), .int .i64 (toI (lget (entCs (entAt T 0)) 1)), .int .i64 (toI (lget (entCs (entAt T 0)) 2)), .int .i64 (toI (lget (entCs (entAt T 0)) 3)), slC intC (lstC intC (lget (entCs (entAt T 0)) 4)), .int .i64 (toI (lget (entCs (entAt T 0)) 5)), .int .i64 (toI (lget (entCs (entAt T 0)) 6)), .int .i64 (toI (lget (entCs (entAt T 0)) 7)), .int .i64 (toI (lget (entCs (entAt T 0)) 8)), .int .i64 (toI (lget (entCs (entAt T 0)) 9)), .int .i64 (toI (lget (entCs (entAt T 0)) 10)), .int .i64 (toI (lget (entCs (entAt T 0)) 11))]), (1, .blk [.int .i64 (toI (lget (entCs (entAt T 1)) 0))]), (2, .blk [slC intC (lstC intC (lget (entCs (entAt T 2)) 0))])]))
def lift_check_v6_lp {R : Type} (N : Nat) : Lp R := fun body S k => Option.none
noncomputable def lift_check_v6_go {R : Type} (N : Nat) (args : List SV) (T : Tab) (kf : SV × Tab → Option R) : Option R :=
  lift_check_v6 N (Cod.dec api_LiftC (lget (toCs (lget args 0)))) (toI (lget (entCs (entAt T 0)) 0)) (toI (lget (entCs (entAt T 0)) 1)) (toI (lget (entCs (entAt T 0)) 2)) (toI (lget (entCs (entAt T 0)) 3)) (lstC intC (lget (entCs (entAt T 0)) 4)) (toI (lget (entCs (entAt T 0)) 5)) (toI (lget (entCs (entAt T 0)) 6)) (toI (lget (entCs (entAt T 0)) 7)) (toI (lget (entCs (entAt T 0)) 8)) (toI (lget (entCs (entAt T 0)) 9)) (toI (lget (entCs (entAt T 0)) 10)) (toI (lget (entCs (entAt T 0)) 11)) (toI (lget (entCs (entAt T 1)) 0)) (lstC intC (lget (entCs (entAt T 2)) 0)) (fun q0 => kf (lget [.int .i64 q0] 0, [(0, .blk [.int .i64 (toI (lget (entCs (entAt T 0)) 0)), .int .i64 (toI (lget (entCs (entAt T 0)) 1)), .int .i64 (toI (lget (entCs (entAt T 0)) 2)), .int .i64 (toI (lget (entCs (entAt T 0)) 3)), slC intC (lstC intC (lget (entCs (entAt T 0)) 4)), .int .i64 (toI (lget (entCs (entAt T 0)) 5)), .int .i64 (toI (lget (entCs (entAt T 0)) 6)), .int .i64 (toI (lget (entCs (entAt T 0)) 7)), .int .i64 (toI (lget (entCs (entAt T 0)) 8)), .int .i64 (toI (lget (entCs (entAt T 0)) 9)), .int .i64 (toI (lget (entCs (entAt T 0)) 10)), .int .i64 (toI (lget (entCs (entAt T 0)) 11))]), (1, .blk [.int .i64 (toI (lget (entCs (entAt T 1)) 0))]), (2, .blk [slC intC (lstC intC (lget (entCs (entAt T 2)) 0))])]))
noncomputable def lift_check_v6_cal {R : Type} (N : Nat) : Cal R := callM (lift_Levels_1_cal N) 56 3 lift_check_v6_sp (lift_check_v6_go N)
theorem lift_check_v6_cal_ok {R : Type} (N : Nat) : CalOk E.P (lift_check_v6_cal (R := R) N) :=
  callM_ok hE (lift_Levels_1_cal_ok N) (lp := lift_check_v6_lp N) (keys := []) kNil (by kernel_rfl) lift_check_v6_sp_ok lift_check_v6_rs_ok (fun args T kf => Eq.trans (lift_check_v6_def N (Cod.dec api_LiftC (lget (toCs (lget args 0)))) (toI (lget (entCs (entAt T 0)) 0)) (toI (lget (entCs (entAt T 0)) 1)) (toI (lget (entCs (entAt T 0)) 2)) (toI (lget (entCs (entAt T 0)) 3)) (lstC intC (lget (entCs (entAt T 0)) 4)) (toI (lget (entCs (entAt T 0)) 5)) (toI (lget (entCs (entAt T 0)) 6)) (toI (lget (entCs (entAt T 0)) 7)) (toI (lget (entCs (entAt T 0)) 8)) (toI (lget (entCs (entAt T 0)) 9)) (toI (lget (entCs (entAt T 0)) 10)) (toI (lget (entCs (entAt T 0)) 11)) (toI (lget (entCs (entAt T 1)) 0)) (lstC intC (lget (entCs (entAt T 2)) 0)) (fun q0 => kf (lget [.int .i64 q0] 0, [(0, .blk [.int .i64 (toI (lget (entCs (entAt T 0)) 0)), .int .i64 (toI (lget (entCs (entAt T 0)) 1)), .int .i64 (toI (lget (entCs (entAt T 0)) 2)), .int .i64 (toI (lget (entCs (entAt T 0)) 3)), slC intC (lstC intC (lget (entCs (entAt T 0)) 4)), .int .i64 (toI (lget (entCs (entAt T 0)) 5)), .int .i64 (toI (lget (entCs (entAt T 0)) 6)), .int .i64 (toI (lget (entCs (entAt T 0)) 7)), .int .i64 (toI (lget (entCs (entAt T 0)) 8)), .int .i64 (toI (lget (entCs (entAt T 0)) 9)), .int .i64 (toI (lget (entCs (entAt T 0)) 10)), .int .i64 (toI (lget (entCs (entAt T 0)) 11))]), (1, .blk [.int .i64 (toI (lget (entCs (entAt T 1)) 0))]), (2, .blk [slC intC (lstC intC (lget (entCs (entAt T 2)) 0))])]))) (by kernel_rfl : lift_check_v6_run N args T kf = fnM E (lift_Levels_1_cal N) (lift_check_v6_lp N) 56 (lift_check_v6_sp.vs args) (lift_check_v6_sp.tab T) 3 (resK lift_check_v6_rs kf)))


end
end Go.Proofs.Ytceeaimmelaenaa
