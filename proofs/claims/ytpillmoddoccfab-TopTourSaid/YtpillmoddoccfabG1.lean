/-
  Models of the functions, and that they are what the code does. Written by a program.
-/
import Derived.Test.YtpillmoddoccfabCod
set_option maxRecDepth 100000
set_option maxHeartbeats 0
set_option linter.unusedVariables false
namespace Go.Proofs.Ytpillmoddoccfab
open Go.Sx
noncomputable section

def newellaw05_Far_m {R : Type} (N : Nat) (a0 : api_Lift) (k : Bool → Option R) : Option R :=
  k (decide ((↑(Arr.n (api_Lift.Floors a0)) : Int) > (30 : Int)))
noncomputable def newellaw05_Far {R : Type} : Nat → api_Lift → (Bool → Option R) → Option R := lock (@newellaw05_Far_m R)
theorem newellaw05_Far_def {R : Type} (N : Nat) (a0 : api_Lift) (k : Bool → Option R) : newellaw05_Far N a0 k = newellaw05_Far_m N a0 k := by unfold newellaw05_Far; rw [lock_eq]
def newellaw05_Far_sp : Sp := ⟨[rAgg api_LiftC], []⟩
theorem newellaw05_Far_sp_ok : newellaw05_Far_sp.Ok := ⟨(allCons (rAgg_ok api_LiftC_ok api_LiftC_len) allNil), eNil⟩
def newellaw05_Far_rs : Sp := ⟨[rBool], []⟩
theorem newellaw05_Far_rs_ok : newellaw05_Far_rs.Ok := ⟨(allCons rBool_ok allNil), eNil⟩
def newellaw05_Far_run {R : Type} (N : Nat) (args : List SV) (T : Tab) (kf : SV × Tab → Option R) : Option R :=
  newellaw05_Far_m N (Cod.dec api_LiftC (lget (toCs (lget args 0)))) (fun q0 => kf (lget [.bool q0] 0, []))
def newellaw05_Far_lp {R : Type} (N : Nat) : Lp R := fun body S k => Option.none
noncomputable def newellaw05_Far_go {R : Type} (N : Nat) (args : List SV) (T : Tab) (kf : SV × Tab → Option R) : Option R :=
  newellaw05_Far N (Cod.dec api_LiftC (lget (toCs (lget args 0)))) (fun q0 => kf (lget [.bool q0] 0, []))
noncomputable def newellaw05_Far_cal {R : Type} (N : Nat) : Cal R := callM (noCal E) 8 0 newellaw05_Far_sp (newellaw05_Far_go N)
theorem newellaw05_Far_cal_ok {R : Type} (N : Nat) : CalOk E.P (newellaw05_Far_cal (R := R) N) :=
  callM_ok hE (noCal_ok E) (lp := newellaw05_Far_lp N) (jn := noJn) (keys := []) kNil (by kernel_rfl) (js := []) jNil (by kernel_rfl) newellaw05_Far_sp_ok newellaw05_Far_rs_ok (fun args T kf => Eq.trans (newellaw05_Far_def N (Cod.dec api_LiftC (lget (toCs (lget args 0)))) (fun q0 => kf (lget [.bool q0] 0, []))) (by kernel_rfl : newellaw05_Far_run N args T kf = fnM E (noCal E) (newellaw05_Far_lp N) (noJn) 8 (newellaw05_Far_sp.vs args) (newellaw05_Far_sp.tab T) 0 (resK newellaw05_Far_rs kf)))


def newelref05_within_m {R : Type} (N : Nat) (a2 : Int) (a3 : Int) (a4 : Int) (k : Bool → Option R) : Option R :=
  bif decide (a2 ≥ a3) then
   k (decide (a2 ≤ a4))
  else
   k false
noncomputable def newelref05_within {R : Type} : Nat → Int → Int → Int → (Bool → Option R) → Option R := lock (@newelref05_within_m R)
theorem newelref05_within_def {R : Type} (N : Nat) (a2 : Int) (a3 : Int) (a4 : Int) (k : Bool → Option R) : newelref05_within N a2 a3 a4 k = newelref05_within_m N a2 a3 a4 k := by unfold newelref05_within; rw [lock_eq]
def newelref05_within_sp : Sp := ⟨[rInt .i64, rInt .i64, rInt .i64], []⟩
theorem newelref05_within_sp_ok : newelref05_within_sp.Ok := ⟨(allCons (rInt_ok .i64) (allCons (rInt_ok .i64) (allCons (rInt_ok .i64) allNil))), eNil⟩
def newelref05_within_rs : Sp := ⟨[rBool], []⟩
theorem newelref05_within_rs_ok : newelref05_within_rs.Ok := ⟨(allCons rBool_ok allNil), eNil⟩
def newelref05_within_run {R : Type} (N : Nat) (args : List SV) (T : Tab) (kf : SV × Tab → Option R) : Option R :=
  newelref05_within_m N (toI (lget args 0)) (toI (lget args 1)) (toI (lget args 2)) (fun q0 => kf (lget [.bool q0] 0, []))
def newelref05_within_lp {R : Type} (N : Nat) : Lp R := fun body S k => Option.none
noncomputable def newelref05_within_go {R : Type} (N : Nat) (args : List SV) (T : Tab) (kf : SV × Tab → Option R) : Option R :=
  newelref05_within N (toI (lget args 0)) (toI (lget args 1)) (toI (lget args 2)) (fun q0 => kf (lget [.bool q0] 0, []))
noncomputable def newelref05_within_cal {R : Type} (N : Nat) : Cal R := callM (newellaw05_Far_cal N) 39 0 newelref05_within_sp (newelref05_within_go N)
theorem newelref05_within_cal_ok {R : Type} (N : Nat) : CalOk E.P (newelref05_within_cal (R := R) N) :=
  callM_ok hE (newellaw05_Far_cal_ok N) (lp := newelref05_within_lp N) (jn := noJn) (keys := []) kNil (by kernel_rfl) (js := []) jNil (by kernel_rfl) newelref05_within_sp_ok newelref05_within_rs_ok (fun args T kf => Eq.trans (newelref05_within_def N (toI (lget args 0)) (toI (lget args 1)) (toI (lget args 2)) (fun q0 => kf (lget [.bool q0] 0, []))) (by kernel_rfl : newelref05_within_run N args T kf = fnM E (newellaw05_Far_cal N) (newelref05_within_lp N) (noJn) 39 (newelref05_within_sp.vs args) (newelref05_within_sp.tab T) 0 (resK newelref05_within_rs kf)))

def newelref05_Check_L6 : LoopSp := ⟨⟨[1, 3], ⟨(dr 1 ((rPtr 0 0) :: (dr 1 ((rInt .i64) :: (dr 100 []))))), [(0, eBlkC api_LiftC)]⟩, 1⟩, [(Option.none, ⟨[2], ⟨(dr 2 ((rInt .i64) :: (dr 101 []))), []⟩, 0⟩), (some 0, ⟨[1], ⟨(dr 1 ((rPtr 0 0) :: (dr 102 []))), [(0, eBlkC api_LiftC)]⟩, 1⟩)]⟩
theorem newelref05_Check_L6_ok : newelref05_Check_L6.Ok := ⟨⟨(drCons 1 (allCons (rPtr_ok 0 0) (drCons 1 (allCons (rInt_ok .i64) (drCons 100 allNil))))), (eCons (eBlkC_ok api_LiftC_ok api_LiftC_len) eNil)⟩, (xCons ⟨(drCons 2 (allCons (rInt_ok .i64) (drCons 101 allNil))), eNil⟩ (xCons ⟨(drCons 1 (allCons (rPtr_ok 0 0) (drCons 102 allNil))), (eCons (eBlkC_ok api_LiftC_ok api_LiftC_len) eNil)⟩ xNil))⟩
def newelref05_Check_h6 (v10 : Int) (v11 : api_Lift) : St := ⟨(un 1 ((.ptr 0 0) :: (un 1 ((.int .i64 v10) :: (un 100 []))))), [(0, .blk (Cod.enc api_LiftC v11))], 1⟩
def newelref05_Check_x6_r (q0 : Int) : St := ⟨(un 2 ((.int .i64 q0) :: (un 101 []))), [], 0⟩
def newelref05_Check_x6_0 (v11 : api_Lift) : St := ⟨(un 1 ((.ptr 0 0) :: (un 102 []))), [(0, .blk (Cod.enc api_LiftC v11))], 1⟩
def newelref05_Check_b6 {R : Type} (N : Nat) (rc : Int → api_Lift → Option R) (v10 : Int) (v11 : api_Lift) (kr : Int → Option R) (k0 : Unit → Option R) : Option R :=
  bif decide (v10 < (↑(Arr.n (api_Lift.Floors v11)) : Int)) then
   bif decide ((0 : Int) ≤ v10) && decide (v10 < (↑(Arr.n (api_Lift.Floors v11)) : Int)) then
    bif decide ((0 : Int) ≤ w64 (v10 - (1 : Int))) && decide (w64 (v10 - (1 : Int)) < (↑(Arr.n (api_Lift.Floors v11)) : Int)) then
     bif decide (Arr.f (api_Lift.Floors v11) (Int.toNat v10) ≤ Arr.f (api_Lift.Floors v11) (Int.toNat (w64 (v10 - (1 : Int))))) then
      kr (50 : Int)
     else
      bif decide ((0 : Int) ≤ v10) && decide (v10 < (↑(Arr.n (api_Lift.Floors v11)) : Int)) then
       bif decide (Arr.f (api_Lift.Floors v11) (Int.toNat v10) > (1000 : Int)) then
        kr (50 : Int)
       else
        rc (w64 (v10 + (1 : Int))) v11
      else
       Option.none
    else
     Option.none
   else
    Option.none
  else
   k0 ()
def newelref05_Check_l6 {R : Type} (N : Nat) : Nat → Int → api_Lift → (Int → Option R) → (Unit → Option R) → Option R
  | 0, _, _, _, _ => Option.none
  | n + 1, v10, v11, kr, k0 => newelref05_Check_b6 N (fun v10 v11 => newelref05_Check_l6 N n v10 v11 kr k0) v10 v11 kr k0


def newelref05_Check_m {R : Type} (N : Nat) (a1 : api_Lift) (k : Int → Option R) : Option R :=
  newelref05_within N (api_Lift.Car a1) (1 : Int) (100000 : Int) (fun r5 =>
  bif !r5 then
   k (50 : Int)
  else
   newelref05_within N (api_Lift.Counter a1) (1 : Int) (100000 : Int) (fun r6 =>
   bif !r6 then
    k (50 : Int)
   else
    newelref05_within N (api_Lift.Rated a1) (0 : Int) (100000 : Int) (fun r7 =>
    bif !r7 then
     k (50 : Int)
    else
     newelref05_within N (api_Lift.Rope a1) (0 : Int) (100 : Int) (fun r8 =>
     bif !r8 then
      k (50 : Int)
     else
      newelref05_within N ((↑(Arr.n (api_Lift.Floors a1)) : Int)) (2 : Int) (16 : Int) (fun r9 =>
      bif !r9 then
       k (50 : Int)
      else
       bif decide ((0 : Int) < (↑(Arr.n (api_Lift.Floors a1)) : Int)) then
        bif Arr.f (api_Lift.Floors a1) (Int.toNat (0 : Int)) != (0 : Int) then
         k (50 : Int)
        else
         newelref05_Check_l6 N N (1 : Int) a1 (fun r12 =>
          k r12) (fun (_ : Unit) =>
          newelref05_within N (api_Lift.Den a1) (1 : Int) (api_Lift.Num a1) (fun r13 =>
          bif !r13 then
           k (50 : Int)
          else
           bif decide (api_Lift.Num a1 > (100 : Int)) then
            k (50 : Int)
           else
            newelref05_within N (api_Lift.Speed a1) (1 : Int) (100 : Int) (fun r14 =>
            bif !r14 then
             k (50 : Int)
            else
             newelref05_within N (api_Lift.Accel a1) (1 : Int) (100 : Int) (fun r15 =>
             bif !r15 then
              k (50 : Int)
             else
              newelref05_within N (api_Lift.Over a1) (0 : Int) (1000 : Int) (fun r16 =>
              bif !r16 then
               k (50 : Int)
              else
               newelref05_within N (api_Lift.Stiff a1) (1 : Int) (10000000 : Int) (fun r17 =>
               bif !r17 then
                k (50 : Int)
               else
                newelref05_within N (api_Lift.Level a1) (0 : Int) (1000 : Int) (fun r18 =>
                bif !r18 then
                 k (50 : Int)
                else
                 k (0 : Int))))))))
       else
        Option.none)))))
noncomputable def newelref05_Check {R : Type} : Nat → api_Lift → (Int → Option R) → Option R := lock (@newelref05_Check_m R)
theorem newelref05_Check_def {R : Type} (N : Nat) (a1 : api_Lift) (k : Int → Option R) : newelref05_Check N a1 k = newelref05_Check_m N a1 k := by unfold newelref05_Check; rw [lock_eq]
def newelref05_Check_sp : Sp := ⟨[rAgg api_LiftC], []⟩
theorem newelref05_Check_sp_ok : newelref05_Check_sp.Ok := ⟨(allCons (rAgg_ok api_LiftC_ok api_LiftC_len) allNil), eNil⟩
def newelref05_Check_rs : Sp := ⟨[rInt .i64], []⟩
theorem newelref05_Check_rs_ok : newelref05_Check_rs.Ok := ⟨(allCons (rInt_ok .i64) allNil), eNil⟩
def newelref05_Check_run {R : Type} (N : Nat) (args : List SV) (T : Tab) (kf : SV × Tab → Option R) : Option R :=
  newelref05_Check_m N (Cod.dec api_LiftC (lget (toCs (lget args 0)))) (fun q0 => kf (lget [.int .i64 q0] 0, []))
def newelref05_Check_d6 {R : Type} (N : Nat) (S0 : St) (k : Exit → St → Option R) : Option R :=
  newelref05_Check_l6 N N (toI (lget S0.tmps 3)) (Cod.dec api_LiftC (lget (entCs (entAt S0.tab 0)))) (fun q0 => k .ret (newelref05_Check_x6_r q0)) (fun (_ : Unit) => k (.exit 0) (newelref05_Check_x6_0 (Cod.dec api_LiftC (lget (entCs (entAt S0.tab 0))))))
def newelref05_Check_lp {R : Type} (N : Nat) : Lp R := fun body S k => bif (Go.Sx.keyOf body).getD 0 == 6 then newelref05_Check_L6.head.raw 0 S (fun S0 => newelref05_Check_d6 N S0 k) else Option.none
theorem newelref05_Check_l6_eq {R : Type} (N : Nat) (k : Exit → St → Option R) (n : Nat) : ∀ (v0 : Int) (v1 : api_Lift), loopM E.Θ (newelref05_within_cal N) (newelref05_Check_lp N) (noJn) 0 newelref05_Check_L6 (bodyAt E 9 6) n (newelref05_Check_h6 v0 v1) k = newelref05_Check_l6 N n v0 v1 (fun q0 => k .ret (newelref05_Check_x6_r q0)) (fun (_ : Unit) => k (.exit 0) (newelref05_Check_x6_0 v1)) := by
  induction n with
  | zero => intro v0 v1; rfl
  | succ n ih =>
    intro v0 v1
    refine Eq.trans (b := newelref05_Check_b6 N (fun v0 v1 => loopM E.Θ (newelref05_within_cal N) (newelref05_Check_lp N) (noJn) 0 newelref05_Check_L6 (bodyAt E 9 6) n (newelref05_Check_h6 v0 v1) k) v0 v1 (fun q0 => k .ret (newelref05_Check_x6_r q0)) (fun (_ : Unit) => k (.exit 0) (newelref05_Check_x6_0 v1))) (by kernel_rfl) ?_
    have h : (fun (v0 : Int) (v1 : api_Lift) => loopM E.Θ (newelref05_within_cal N) (newelref05_Check_lp N) (noJn) 0 newelref05_Check_L6 (bodyAt E 9 6) n (newelref05_Check_h6 v0 v1) k) = (fun (v0 : Int) (v1 : api_Lift) => newelref05_Check_l6 N n v0 v1 (fun q0 => k .ret (newelref05_Check_x6_r q0)) (fun (_ : Unit) => k (.exit 0) (newelref05_Check_x6_0 v1))) := funext fun v0 => funext fun v1 => ih v0 v1
    rw [h]
    rfl
theorem newelref05_Check_k6 {R : Type} (N : Nat) : LpKey (R := R) E 9 0 (newelref05_Check_lp N) 6 :=
  lpKey_of hE (newelref05_within_cal_ok N) (jn := noJn) newelref05_Check_L6_ok [] kNil (by kernel_rfl) [] jNil (by kernel_rfl) N fun S k =>
    Eq.trans (b := newelref05_Check_L6.head.raw 0 S (fun S0 => newelref05_Check_d6 N S0 k)) (by kernel_rfl) (congrArg (newelref05_Check_L6.head.raw 0 S) (funext fun S0 => Eq.trans (newelref05_Check_l6_eq N k N (toI (lget S0.tmps 3)) (Cod.dec api_LiftC (lget (entCs (entAt S0.tab 0))))).symm (by kernel_rfl)))
noncomputable def newelref05_Check_go {R : Type} (N : Nat) (args : List SV) (T : Tab) (kf : SV × Tab → Option R) : Option R :=
  newelref05_Check N (Cod.dec api_LiftC (lget (toCs (lget args 0)))) (fun q0 => kf (lget [.int .i64 q0] 0, []))
noncomputable def newelref05_Check_cal {R : Type} (N : Nat) : Cal R := callM (newelref05_within_cal N) 9 0 newelref05_Check_sp (newelref05_Check_go N)
theorem newelref05_Check_cal_ok {R : Type} (N : Nat) : CalOk E.P (newelref05_Check_cal (R := R) N) :=
  callM_ok hE (newelref05_within_cal_ok N) (lp := newelref05_Check_lp N) (jn := noJn) (keys := [6]) (kCons (newelref05_Check_k6 N) kNil) (by kernel_rfl) (js := []) jNil (by kernel_rfl) newelref05_Check_sp_ok newelref05_Check_rs_ok (fun args T kf => Eq.trans (newelref05_Check_def N (Cod.dec api_LiftC (lget (toCs (lget args 0)))) (fun q0 => kf (lget [.int .i64 q0] 0, []))) (by kernel_rfl : newelref05_Check_run N args T kf = fnM E (newelref05_within_cal N) (newelref05_Check_lp N) (noJn) 9 (newelref05_Check_sp.vs args) (newelref05_Check_sp.tab T) 0 (resK newelref05_Check_rs kf)))


def newelref05_CheckDoor_m {R : Type} (N : Nat) (a19 : api_Door) (k : Int → Option R) : Option R :=
  newelref05_within N (api_Door.Wide a19) (1 : Int) (50 : Int) (fun r20 =>
  bif !r20 then
   k (51 : Int)
  else
   newelref05_within N (api_Door.Wait a19) (0 : Int) (200 : Int) (fun r21 =>
   bif !r21 then
    k (51 : Int)
   else
    k (0 : Int)))
noncomputable def newelref05_CheckDoor {R : Type} : Nat → api_Door → (Int → Option R) → Option R := lock (@newelref05_CheckDoor_m R)
theorem newelref05_CheckDoor_def {R : Type} (N : Nat) (a19 : api_Door) (k : Int → Option R) : newelref05_CheckDoor N a19 k = newelref05_CheckDoor_m N a19 k := by unfold newelref05_CheckDoor; rw [lock_eq]
def newelref05_CheckDoor_sp : Sp := ⟨[rAgg api_DoorC], []⟩
theorem newelref05_CheckDoor_sp_ok : newelref05_CheckDoor_sp.Ok := ⟨(allCons (rAgg_ok api_DoorC_ok api_DoorC_len) allNil), eNil⟩
def newelref05_CheckDoor_rs : Sp := ⟨[rInt .i64], []⟩
theorem newelref05_CheckDoor_rs_ok : newelref05_CheckDoor_rs.Ok := ⟨(allCons (rInt_ok .i64) allNil), eNil⟩
def newelref05_CheckDoor_run {R : Type} (N : Nat) (args : List SV) (T : Tab) (kf : SV × Tab → Option R) : Option R :=
  newelref05_CheckDoor_m N (Cod.dec api_DoorC (lget (toCs (lget args 0)))) (fun q0 => kf (lget [.int .i64 q0] 0, []))
def newelref05_CheckDoor_lp {R : Type} (N : Nat) : Lp R := fun body S k => Option.none
noncomputable def newelref05_CheckDoor_go {R : Type} (N : Nat) (args : List SV) (T : Tab) (kf : SV × Tab → Option R) : Option R :=
  newelref05_CheckDoor N (Cod.dec api_DoorC (lget (toCs (lget args 0)))) (fun q0 => kf (lget [.int .i64 q0] 0, []))
noncomputable def newelref05_CheckDoor_cal {R : Type} (N : Nat) : Cal R := callM (newelref05_Check_cal N) 10 0 newelref05_CheckDoor_sp (newelref05_CheckDoor_go N)
theorem newelref05_CheckDoor_cal_ok {R : Type} (N : Nat) : CalOk E.P (newelref05_CheckDoor_cal (R := R) N) :=
  callM_ok hE (newelref05_Check_cal_ok N) (lp := newelref05_CheckDoor_lp N) (jn := noJn) (keys := []) kNil (by kernel_rfl) (js := []) jNil (by kernel_rfl) newelref05_CheckDoor_sp_ok newelref05_CheckDoor_rs_ok (fun args T kf => Eq.trans (newelref05_CheckDoor_def N (Cod.dec api_DoorC (lget (toCs (lget args 0)))) (fun q0 => kf (lget [.int .i64 q0] 0, []))) (by kernel_rfl : newelref05_CheckDoor_run N args T kf = fnM E (newelref05_Check_cal N) (newelref05_CheckDoor_lp N) (noJn) 10 (newelref05_CheckDoor_sp.vs args) (newelref05_CheckDoor_sp.tab T) 0 (resK newelref05_CheckDoor_rs kf)))


def newelref05_Floors_m {R : Type} (N : Nat) (a22 : api_Lift) (a23 : Int) (a24 : Int) (k : Bool → Option R) : Option R :=
  newelref05_within N a23 (0 : Int) (w64 ((↑(Arr.n (api_Lift.Floors a22)) : Int) - (1 : Int))) (fun r25 =>
  bif r25 then
   newelref05_within N a24 (0 : Int) (w64 ((↑(Arr.n (api_Lift.Floors a22)) : Int) - (1 : Int))) (fun r26 =>
   k r26)
  else
   k false)
noncomputable def newelref05_Floors {R : Type} : Nat → api_Lift → Int → Int → (Bool → Option R) → Option R := lock (@newelref05_Floors_m R)
theorem newelref05_Floors_def {R : Type} (N : Nat) (a22 : api_Lift) (a23 : Int) (a24 : Int) (k : Bool → Option R) : newelref05_Floors N a22 a23 a24 k = newelref05_Floors_m N a22 a23 a24 k := by unfold newelref05_Floors; rw [lock_eq]
def newelref05_Floors_sp : Sp := ⟨[rAgg api_LiftC, rInt .i64, rInt .i64], []⟩
theorem newelref05_Floors_sp_ok : newelref05_Floors_sp.Ok := ⟨(allCons (rAgg_ok api_LiftC_ok api_LiftC_len) (allCons (rInt_ok .i64) (allCons (rInt_ok .i64) allNil))), eNil⟩
def newelref05_Floors_rs : Sp := ⟨[rBool], []⟩
theorem newelref05_Floors_rs_ok : newelref05_Floors_rs.Ok := ⟨(allCons rBool_ok allNil), eNil⟩
def newelref05_Floors_run {R : Type} (N : Nat) (args : List SV) (T : Tab) (kf : SV × Tab → Option R) : Option R :=
  newelref05_Floors_m N (Cod.dec api_LiftC (lget (toCs (lget args 0)))) (toI (lget args 1)) (toI (lget args 2)) (fun q0 => kf (lget [.bool q0] 0, []))
def newelref05_Floors_lp {R : Type} (N : Nat) : Lp R := fun body S k => Option.none
noncomputable def newelref05_Floors_go {R : Type} (N : Nat) (args : List SV) (T : Tab) (kf : SV × Tab → Option R) : Option R :=
  newelref05_Floors N (Cod.dec api_LiftC (lget (toCs (lget args 0)))) (toI (lget args 1)) (toI (lget args 2)) (fun q0 => kf (lget [.bool q0] 0, []))
noncomputable def newelref05_Floors_cal {R : Type} (N : Nat) : Cal R := callM (newelref05_CheckDoor_cal N) 11 0 newelref05_Floors_sp (newelref05_Floors_go N)
theorem newelref05_Floors_cal_ok {R : Type} (N : Nat) : CalOk E.P (newelref05_Floors_cal (R := R) N) :=
  callM_ok hE (newelref05_CheckDoor_cal_ok N) (lp := newelref05_Floors_lp N) (jn := noJn) (keys := []) kNil (by kernel_rfl) (js := []) jNil (by kernel_rfl) newelref05_Floors_sp_ok newelref05_Floors_rs_ok (fun args T kf => Eq.trans (newelref05_Floors_def N (Cod.dec api_LiftC (lget (toCs (lget args 0)))) (toI (lget args 1)) (toI (lget args 2)) (fun q0 => kf (lget [.bool q0] 0, []))) (by kernel_rfl : newelref05_Floors_run N args T kf = fnM E (newelref05_CheckDoor_cal N) (newelref05_Floors_lp N) (noJn) 11 (newelref05_Floors_sp.vs args) (newelref05_Floors_sp.tab T) 0 (resK newelref05_Floors_rs kf)))

def newelref05_Breaks_L3 : LoopSp := ⟨⟨[0, 3, 4], ⟨((rSl intC) :: (dr 2 ((rInt .i64) :: (rInt .i64) :: (dr 21 [])))), []⟩, 0⟩, [(Option.none, ⟨[2], ⟨(dr 2 ((rBool) :: (dr 23 []))), []⟩, 0⟩), (some 0, ⟨[0], ⟨((rSl intC) :: (dr 25 [])), []⟩, 0⟩)]⟩
theorem newelref05_Breaks_L3_ok : newelref05_Breaks_L3.Ok := ⟨⟨(allCons (rSl_ok intC_ok) (drCons 2 (allCons (rInt_ok .i64) (allCons (rInt_ok .i64) (drCons 21 allNil))))), eNil⟩, (xCons ⟨(drCons 2 (allCons rBool_ok (drCons 23 allNil))), eNil⟩ (xCons ⟨(allCons (rSl_ok intC_ok) (drCons 25 allNil)), eNil⟩ xNil))⟩
def newelref05_Breaks_h3 (v28 : Arr Int) (v29 : Int) (v30 : Int) : St := ⟨((slC intC v28) :: (un 2 ((.int .i64 v29) :: (.int .i64 v30) :: (un 21 [])))), [], 0⟩
def newelref05_Breaks_x3_r (q0 : Bool) : St := ⟨(un 2 ((.bool q0) :: (un 23 []))), [], 0⟩
def newelref05_Breaks_x3_0 (v28 : Arr Int) : St := ⟨((slC intC v28) :: (un 25 [])), [], 0⟩
def newelref05_Breaks_b3 {R : Type} (N : Nat) (rc : Arr Int → Int → Int → Option R) (v28 : Arr Int) (v29 : Int) (v30 : Int) (kr : Bool → Option R) (k0 : Unit → Option R) : Option R :=
  bif decide (v30 < (↑(Arr.n v28) : Int)) then
   bif decide ((0 : Int) ≤ v30) && decide (v30 < (↑(Arr.n v28) : Int)) then
    newelref05_within N (Arr.f v28 (Int.toNat v30)) (w64 (v29 + (1 : Int))) (100000 : Int) (fun r31 =>
    bif !r31 then
     kr false
    else
     bif decide ((0 : Int) ≤ v30) && decide (v30 < (↑(Arr.n v28) : Int)) then
      rc v28 (Arr.f v28 (Int.toNat v30)) (w64 (v30 + (1 : Int)))
     else
      Option.none)
   else
    Option.none
  else
   k0 ()
def newelref05_Breaks_l3 {R : Type} (N : Nat) : Nat → Arr Int → Int → Int → (Bool → Option R) → (Unit → Option R) → Option R
  | 0, _, _, _, _, _ => Option.none
  | n + 1, v28, v29, v30, kr, k0 => newelref05_Breaks_b3 N (fun v28 v29 v30 => newelref05_Breaks_l3 N n v28 v29 v30 kr k0) v28 v29 v30 kr k0


def newelref05_Breaks_m {R : Type} (N : Nat) (a27 : Arr Int) (k : Bool → Option R) : Option R :=
  newelref05_Breaks_l3 N N a27 (-1 : Int) (0 : Int) (fun r32 =>
   k r32) (fun (_ : Unit) =>
   k (decide ((↑(Arr.n a27) : Int) ≤ (20 : Int))))
noncomputable def newelref05_Breaks {R : Type} : Nat → Arr Int → (Bool → Option R) → Option R := lock (@newelref05_Breaks_m R)
theorem newelref05_Breaks_def {R : Type} (N : Nat) (a27 : Arr Int) (k : Bool → Option R) : newelref05_Breaks N a27 k = newelref05_Breaks_m N a27 k := by unfold newelref05_Breaks; rw [lock_eq]
def newelref05_Breaks_sp : Sp := ⟨[rSl intC], []⟩
theorem newelref05_Breaks_sp_ok : newelref05_Breaks_sp.Ok := ⟨(allCons (rSl_ok intC_ok) allNil), eNil⟩
def newelref05_Breaks_rs : Sp := ⟨[rBool], []⟩
theorem newelref05_Breaks_rs_ok : newelref05_Breaks_rs.Ok := ⟨(allCons rBool_ok allNil), eNil⟩
def newelref05_Breaks_run {R : Type} (N : Nat) (args : List SV) (T : Tab) (kf : SV × Tab → Option R) : Option R :=
  newelref05_Breaks_m N (lstC intC (lget args 0)) (fun q0 => kf (lget [.bool q0] 0, []))
def newelref05_Breaks_d3 {R : Type} (N : Nat) (S0 : St) (k : Exit → St → Option R) : Option R :=
  newelref05_Breaks_l3 N N (lstC intC (lget S0.tmps 0)) (toI (lget S0.tmps 3)) (toI (lget S0.tmps 4)) (fun q0 => k .ret (newelref05_Breaks_x3_r q0)) (fun (_ : Unit) => k (.exit 0) (newelref05_Breaks_x3_0 (lstC intC (lget S0.tmps 0))))
def newelref05_Breaks_lp {R : Type} (N : Nat) : Lp R := fun body S k => bif (Go.Sx.keyOf body).getD 0 == 3 then newelref05_Breaks_L3.head.raw 0 S (fun S0 => newelref05_Breaks_d3 N S0 k) else Option.none
theorem newelref05_Breaks_l3_eq {R : Type} (N : Nat) (k : Exit → St → Option R) (n : Nat) : ∀ (v0 : Arr Int) (v1 : Int) (v2 : Int), loopM E.Θ (newelref05_Floors_cal N) (newelref05_Breaks_lp N) (noJn) 0 newelref05_Breaks_L3 (bodyAt E 12 3) n (newelref05_Breaks_h3 v0 v1 v2) k = newelref05_Breaks_l3 N n v0 v1 v2 (fun q0 => k .ret (newelref05_Breaks_x3_r q0)) (fun (_ : Unit) => k (.exit 0) (newelref05_Breaks_x3_0 v0)) := by
  induction n with
  | zero => intro v0 v1 v2; rfl
  | succ n ih =>
    intro v0 v1 v2
    refine Eq.trans (b := newelref05_Breaks_b3 N (fun v0 v1 v2 => loopM E.Θ (newelref05_Floors_cal N) (newelref05_Breaks_lp N) (noJn) 0 newelref05_Breaks_L3 (bodyAt E 12 3) n (newelref05_Breaks_h3 v0 v1 v2) k) v0 v1 v2 (fun q0 => k .ret (newelref05_Breaks_x3_r q0)) (fun (_ : Unit) => k (.exit 0) (newelref05_Breaks_x3_0 v0))) (by kernel_rfl) ?_
    have h : (fun (v0 : Arr Int) (v1 : Int) (v2 : Int) => loopM E.Θ (newelref05_Floors_cal N) (newelref05_Breaks_lp N) (noJn) 0 newelref05_Breaks_L3 (bodyAt E 12 3) n (newelref05_Breaks_h3 v0 v1 v2) k) = (fun (v0 : Arr Int) (v1 : Int) (v2 : Int) => newelref05_Breaks_l3 N n v0 v1 v2 (fun q0 => k .ret (newelref05_Breaks_x3_r q0)) (fun (_ : Unit) => k (.exit 0) (newelref05_Breaks_x3_0 v0))) := funext fun v0 => funext fun v1 => funext fun v2 => ih v0 v1 v2
    rw [h]
    rfl
theorem newelref05_Breaks_k3 {R : Type} (N : Nat) : LpKey (R := R) E 12 0 (newelref05_Breaks_lp N) 3 :=
  lpKey_of hE (newelref05_Floors_cal_ok N) (jn := noJn) newelref05_Breaks_L3_ok [] kNil (by kernel_rfl) [] jNil (by kernel_rfl) N fun S k =>
    Eq.trans (b := newelref05_Breaks_L3.head.raw 0 S (fun S0 => newelref05_Breaks_d3 N S0 k)) (by kernel_rfl) (congrArg (newelref05_Breaks_L3.head.raw 0 S) (funext fun S0 => Eq.trans (newelref05_Breaks_l3_eq N k N (lstC intC (lget S0.tmps 0)) (toI (lget S0.tmps 3)) (toI (lget S0.tmps 4))).symm (by kernel_rfl)))
noncomputable def newelref05_Breaks_go {R : Type} (N : Nat) (args : List SV) (T : Tab) (kf : SV × Tab → Option R) : Option R :=
  newelref05_Breaks N (lstC intC (lget args 0)) (fun q0 => kf (lget [.bool q0] 0, []))
noncomputable def newelref05_Breaks_cal {R : Type} (N : Nat) : Cal R := callM (newelref05_Floors_cal N) 12 0 newelref05_Breaks_sp (newelref05_Breaks_go N)
theorem newelref05_Breaks_cal_ok {R : Type} (N : Nat) : CalOk E.P (newelref05_Breaks_cal (R := R) N) :=
  callM_ok hE (newelref05_Floors_cal_ok N) (lp := newelref05_Breaks_lp N) (jn := noJn) (keys := [3]) (kCons (newelref05_Breaks_k3 N) kNil) (by kernel_rfl) (js := []) jNil (by kernel_rfl) newelref05_Breaks_sp_ok newelref05_Breaks_rs_ok (fun args T kf => Eq.trans (newelref05_Breaks_def N (lstC intC (lget args 0)) (fun q0 => kf (lget [.bool q0] 0, []))) (by kernel_rfl : newelref05_Breaks_run N args T kf = fnM E (newelref05_Floors_cal N) (newelref05_Breaks_lp N) (noJn) 12 (newelref05_Breaks_sp.vs args) (newelref05_Breaks_sp.tab T) 0 (resK newelref05_Breaks_rs kf)))


def lift_between_m {R : Type} (N : Nat) (a37 : Int) (a38 : Int) (a39 : Int) (k : Bool → Option R) : Option R :=
  bif decide (a38 ≤ a37) then
   k (decide (a37 ≤ a39))
  else
   k false
noncomputable def lift_between {R : Type} : Nat → Int → Int → Int → (Bool → Option R) → Option R := lock (@lift_between_m R)
theorem lift_between_def {R : Type} (N : Nat) (a37 : Int) (a38 : Int) (a39 : Int) (k : Bool → Option R) : lift_between N a37 a38 a39 k = lift_between_m N a37 a38 a39 k := by unfold lift_between; rw [lock_eq]
def lift_between_sp : Sp := ⟨[rInt .i64, rInt .i64, rInt .i64], []⟩
theorem lift_between_sp_ok : lift_between_sp.Ok := ⟨(allCons (rInt_ok .i64) (allCons (rInt_ok .i64) (allCons (rInt_ok .i64) allNil))), eNil⟩
def lift_between_rs : Sp := ⟨[rBool], []⟩
theorem lift_between_rs_ok : lift_between_rs.Ok := ⟨(allCons rBool_ok allNil), eNil⟩
def lift_between_run {R : Type} (N : Nat) (args : List SV) (T : Tab) (kf : SV × Tab → Option R) : Option R :=
  lift_between_m N (toI (lget args 0)) (toI (lget args 1)) (toI (lget args 2)) (fun q0 => kf (lget [.bool q0] 0, []))
def lift_between_lp {R : Type} (N : Nat) : Lp R := fun body S k => Option.none
noncomputable def lift_between_go {R : Type} (N : Nat) (args : List SV) (T : Tab) (kf : SV × Tab → Option R) : Option R :=
  lift_between N (toI (lget args 0)) (toI (lget args 1)) (toI (lget args 2)) (fun q0 => kf (lget [.bool q0] 0, []))
noncomputable def lift_between_cal {R : Type} (N : Nat) : Cal R := callM (newelref05_Breaks_cal N) 48 0 lift_between_sp (lift_between_go N)
theorem lift_between_cal_ok {R : Type} (N : Nat) : CalOk E.P (lift_between_cal (R := R) N) :=
  callM_ok hE (newelref05_Breaks_cal_ok N) (lp := lift_between_lp N) (jn := noJn) (keys := []) kNil (by kernel_rfl) (js := []) jNil (by kernel_rfl) lift_between_sp_ok lift_between_rs_ok (fun args T kf => Eq.trans (lift_between_def N (toI (lget args 0)) (toI (lget args 1)) (toI (lget args 2)) (fun q0 => kf (lget [.bool q0] 0, []))) (by kernel_rfl : lift_between_run N args T kf = fnM E (newelref05_Breaks_cal N) (lift_between_lp N) (noJn) 48 (lift_between_sp.vs args) (lift_between_sp.tab T) 0 (resK lift_between_rs kf)))

def lift_Check_L6 : LoopSp := ⟨⟨[1, 52, 53, 54], ⟨(dr 1 ((rPtr 0 0) :: (dr 50 ((rSl intC) :: (rInt .i64) :: (rInt .i64) :: (dr 55 []))))), [(0, eBlkC api_LiftC)]⟩, 1⟩, [(Option.none, ⟨[2], ⟨(dr 2 ((rInt .i64) :: (dr 107 []))), []⟩, 0⟩), (some 0, ⟨[1], ⟨(dr 1 ((rPtr 0 0) :: (dr 108 []))), [(0, eBlkC api_LiftC)]⟩, 1⟩)]⟩
theorem lift_Check_L6_ok : lift_Check_L6.Ok := ⟨⟨(drCons 1 (allCons (rPtr_ok 0 0) (drCons 50 (allCons (rSl_ok intC_ok) (allCons (rInt_ok .i64) (allCons (rInt_ok .i64) (drCons 55 allNil))))))), (eCons (eBlkC_ok api_LiftC_ok api_LiftC_len) eNil)⟩, (xCons ⟨(drCons 2 (allCons (rInt_ok .i64) (drCons 107 allNil))), eNil⟩ (xCons ⟨(drCons 1 (allCons (rPtr_ok 0 0) (drCons 108 allNil))), (eCons (eBlkC_ok api_LiftC_ok api_LiftC_len) eNil)⟩ xNil))⟩
def lift_Check_h6 (v45 : Arr Int) (v46 : Int) (v47 : Int) (v48 : api_Lift) : St := ⟨(un 1 ((.ptr 0 0) :: (un 50 ((slC intC v45) :: (.int .i64 v46) :: (.int .i64 v47) :: (un 55 []))))), [(0, .blk (Cod.enc api_LiftC v48))], 1⟩
def lift_Check_x6_r (q0 : Int) : St := ⟨(un 2 ((.int .i64 q0) :: (un 107 []))), [], 0⟩
def lift_Check_x6_0 (v48 : api_Lift) : St := ⟨(un 1 ((.ptr 0 0) :: (un 108 []))), [(0, .blk (Cod.enc api_LiftC v48))], 1⟩
def lift_Check_b6 {R : Type} (N : Nat) (rc : Arr Int → Int → Int → api_Lift → Option R) (v45 : Arr Int) (v46 : Int) (v47 : Int) (v48 : api_Lift) (kr : Int → Option R) (k0 : Unit → Option R) : Option R :=
  bif decide (v47 < v46) then
   bif decide ((0 : Int) ≤ v47) && decide (v47 < (↑(Arr.n v45) : Int)) then
    bif decide ((0 : Int) ≤ v47) && decide (v47 < (↑(Arr.n (api_Lift.Floors v48)) : Int)) then
     bif decide (Arr.f v45 (Int.toNat v47) ≤ Arr.f (api_Lift.Floors v48) (Int.toNat v47)) then
      kr (50 : Int)
     else
      rc v45 v46 (w64 (v47 + (1 : Int))) v48
    else
     Option.none
   else
    Option.none
  else
   k0 ()
def lift_Check_l6 {R : Type} (N : Nat) : Nat → Arr Int → Int → Int → api_Lift → (Int → Option R) → (Unit → Option R) → Option R
  | 0, _, _, _, _, _, _ => Option.none
  | n + 1, v45, v46, v47, v48, kr, k0 => lift_Check_b6 N (fun v45 v46 v47 v48 => lift_Check_l6 N n v45 v46 v47 v48 kr k0) v45 v46 v47 v48 kr k0


def lift_Check_m {R : Type} (N : Nat) (a36 : api_Lift) (k : Int → Option R) : Option R :=
  lift_between N (api_Lift.Car a36) (1 : Int) (100000 : Int) (fun r40 =>
  bif !r40 then
   k (50 : Int)
  else
   lift_between N (api_Lift.Counter a36) (1 : Int) (100000 : Int) (fun r41 =>
   bif !r41 then
    k (50 : Int)
   else
    lift_between N (api_Lift.Rated a36) (0 : Int) (100000 : Int) (fun r42 =>
    bif !r42 then
     k (50 : Int)
    else
     lift_between N (api_Lift.Rope a36) (0 : Int) (100 : Int) (fun r43 =>
     bif !r43 then
      k (50 : Int)
     else
      lift_between N ((↑(Arr.n (api_Lift.Floors a36)) : Int)) (2 : Int) (16 : Int) (fun r44 =>
      bif !r44 then
       k (50 : Int)
      else
       bif decide ((0 : Int) < (↑(Arr.n (api_Lift.Floors a36)) : Int)) then
        bif Arr.f (api_Lift.Floors a36) (Int.toNat (0 : Int)) != (0 : Int) then
         k (50 : Int)
        else
         bif decide ((0 : Int) ≤ w64 ((↑(Arr.n (api_Lift.Floors a36)) : Int) - (1 : Int))) && decide (w64 ((↑(Arr.n (api_Lift.Floors a36)) : Int) - (1 : Int)) < (↑(Arr.n (api_Lift.Floors a36)) : Int)) then
          bif decide (Arr.f (api_Lift.Floors a36) (Int.toNat (w64 ((↑(Arr.n (api_Lift.Floors a36)) : Int) - (1 : Int)))) > (1000 : Int)) then
           k (50 : Int)
          else
           bif decide ((1 : Int) ≤ (↑(Arr.n (api_Lift.Floors a36)) : Int)) && decide ((↑(Arr.n (api_Lift.Floors a36)) : Int) ≤ (↑(Arr.n (api_Lift.Floors a36)) : Int)) then
            lift_Check_l6 N N (lst intC (Int.toNat (↑(Arr.n (api_Lift.Floors a36)) : Int) - Int.toNat (1 : Int)) fun (i j : Nat) ↦ Cod.cell intC (Arr.f (api_Lift.Floors a36)) (Int.toNat (1 : Int) + i) j) ((↑(Int.toNat (↑(Arr.n (api_Lift.Floors a36)) : Int) - Int.toNat (1 : Int)) : Int)) (0 : Int) a36 (fun r49 =>
             k r49) (fun (_ : Unit) =>
             bif decide (api_Lift.Den a36 < (1 : Int)) then
              k (50 : Int)
             else
              bif decide (api_Lift.Num a36 < api_Lift.Den a36) then
               k (50 : Int)
              else
               bif decide (api_Lift.Num a36 > (100 : Int)) then
                k (50 : Int)
               else
                lift_between N (api_Lift.Speed a36) (1 : Int) (100 : Int) (fun r50 =>
                bif !r50 then
                 k (50 : Int)
                else
                 lift_between N (api_Lift.Accel a36) (1 : Int) (100 : Int) (fun r51 =>
                 bif !r51 then
                  k (50 : Int)
                 else
                  lift_between N (api_Lift.Over a36) (0 : Int) (1000 : Int) (fun r52 =>
                  bif !r52 then
                   k (50 : Int)
                  else
                   lift_between N (api_Lift.Stiff a36) (1 : Int) (10000000 : Int) (fun r53 =>
                   bif !r53 then
                    k (50 : Int)
                   else
                    lift_between N (api_Lift.Level a36) (0 : Int) (1000 : Int) (fun r54 =>
                    bif !r54 then
                     k (50 : Int)
                    else
                     k (0 : Int)))))))
           else
            Option.none
         else
          Option.none
       else
        Option.none)))))
noncomputable def lift_Check {R : Type} : Nat → api_Lift → (Int → Option R) → Option R := lock (@lift_Check_m R)
theorem lift_Check_def {R : Type} (N : Nat) (a36 : api_Lift) (k : Int → Option R) : lift_Check N a36 k = lift_Check_m N a36 k := by unfold lift_Check; rw [lock_eq]
def lift_Check_sp : Sp := ⟨[rAgg api_LiftC], []⟩
theorem lift_Check_sp_ok : lift_Check_sp.Ok := ⟨(allCons (rAgg_ok api_LiftC_ok api_LiftC_len) allNil), eNil⟩
def lift_Check_rs : Sp := ⟨[rInt .i64], []⟩
theorem lift_Check_rs_ok : lift_Check_rs.Ok := ⟨(allCons (rInt_ok .i64) allNil), eNil⟩
def lift_Check_run {R : Type} (N : Nat) (args : List SV) (T : Tab) (kf : SV × Tab → Option R) : Option R :=
  lift_Check_m N (Cod.dec api_LiftC (lget (toCs (lget args 0)))) (fun q0 => kf (lget [.int .i64 q0] 0, []))
def lift_Check_d6 {R : Type} (N : Nat) (S0 : St) (k : Exit → St → Option R) : Option R :=
  lift_Check_l6 N N (lstC intC (lget S0.tmps 52)) (toI (lget S0.tmps 53)) (toI (lget S0.tmps 54)) (Cod.dec api_LiftC (lget (entCs (entAt S0.tab 0)))) (fun q0 => k .ret (lift_Check_x6_r q0)) (fun (_ : Unit) => k (.exit 0) (lift_Check_x6_0 (Cod.dec api_LiftC (lget (entCs (entAt S0.tab 0))))))
def lift_Check_lp {R : Type} (N : Nat) : Lp R := fun body S k => bif (Go.Sx.keyOf body).getD 0 == 6 then lift_Check_L6.head.raw 0 S (fun S0 => lift_Check_d6 N S0 k) else Option.none
theorem lift_Check_l6_eq {R : Type} (N : Nat) (k : Exit → St → Option R) (n : Nat) : ∀ (v0 : Arr Int) (v1 : Int) (v2 : Int) (v3 : api_Lift), loopM E.Θ (lift_between_cal N) (lift_Check_lp N) (noJn) 0 lift_Check_L6 (bodyAt E 44 6) n (lift_Check_h6 v0 v1 v2 v3) k = lift_Check_l6 N n v0 v1 v2 v3 (fun q0 => k .ret (lift_Check_x6_r q0)) (fun (_ : Unit) => k (.exit 0) (lift_Check_x6_0 v3)) := by
  induction n with
  | zero => intro v0 v1 v2 v3; rfl
  | succ n ih =>
    intro v0 v1 v2 v3
    refine Eq.trans (b := lift_Check_b6 N (fun v0 v1 v2 v3 => loopM E.Θ (lift_between_cal N) (lift_Check_lp N) (noJn) 0 lift_Check_L6 (bodyAt E 44 6) n (lift_Check_h6 v0 v1 v2 v3) k) v0 v1 v2 v3 (fun q0 => k .ret (lift_Check_x6_r q0)) (fun (_ : Unit) => k (.exit 0) (lift_Check_x6_0 v3))) (by kernel_rfl) ?_
    have h : (fun (v0 : Arr Int) (v1 : Int) (v2 : Int) (v3 : api_Lift) => loopM E.Θ (lift_between_cal N) (lift_Check_lp N) (noJn) 0 lift_Check_L6 (bodyAt E 44 6) n (lift_Check_h6 v0 v1 v2 v3) k) = (fun (v0 : Arr Int) (v1 : Int) (v2 : Int) (v3 : api_Lift) => lift_Check_l6 N n v0 v1 v2 v3 (fun q0 => k .ret (lift_Check_x6_r q0)) (fun (_ : Unit) => k (.exit 0) (lift_Check_x6_0 v3))) := funext fun v0 => funext fun v1 => funext fun v2 => funext fun v3 => ih v0 v1 v2 v3
    rw [h]
    rfl
theorem lift_Check_k6 {R : Type} (N : Nat) : LpKey (R := R) E 44 0 (lift_Check_lp N) 6 :=
  lpKey_of hE (lift_between_cal_ok N) (jn := noJn) lift_Check_L6_ok [] kNil (by kernel_rfl) [] jNil (by kernel_rfl) N fun S k =>
    Eq.trans (b := lift_Check_L6.head.raw 0 S (fun S0 => lift_Check_d6 N S0 k)) (by kernel_rfl) (congrArg (lift_Check_L6.head.raw 0 S) (funext fun S0 => Eq.trans (lift_Check_l6_eq N k N (lstC intC (lget S0.tmps 52)) (toI (lget S0.tmps 53)) (toI (lget S0.tmps 54)) (Cod.dec api_LiftC (lget (entCs (entAt S0.tab 0))))).symm (by kernel_rfl)))
noncomputable def lift_Check_go {R : Type} (N : Nat) (args : List SV) (T : Tab) (kf : SV × Tab → Option R) : Option R :=
  lift_Check N (Cod.dec api_LiftC (lget (toCs (lget args 0)))) (fun q0 => kf (lget [.int .i64 q0] 0, []))
noncomputable def lift_Check_cal {R : Type} (N : Nat) : Cal R := callM (lift_between_cal N) 44 0 lift_Check_sp (lift_Check_go N)
theorem lift_Check_cal_ok {R : Type} (N : Nat) : CalOk E.P (lift_Check_cal (R := R) N) :=
  callM_ok hE (lift_between_cal_ok N) (lp := lift_Check_lp N) (jn := noJn) (keys := [6]) (kCons (lift_Check_k6 N) kNil) (by kernel_rfl) (js := []) jNil (by kernel_rfl) lift_Check_sp_ok lift_Check_rs_ok (fun args T kf => Eq.trans (lift_Check_def N (Cod.dec api_LiftC (lget (toCs (lget args 0)))) (fun q0 => kf (lget [.int .i64 q0] 0, []))) (by kernel_rfl : lift_Check_run N args T kf = fnM E (lift_between_cal N) (lift_Check_lp N) (noJn) 44 (lift_Check_sp.vs args) (lift_Check_sp.tab T) 0 (resK lift_Check_rs kf)))


def lift_distance_m {R : Type} (N : Nat) (a56 : api_Lift) (a57 : Int) (a58 : Int) (k : Int → Bool → Option R) : Option R :=
  lift_between N a57 (0 : Int) (w64 ((↑(Arr.n (api_Lift.Floors a56)) : Int) - (1 : Int))) (fun r59 =>
  bif !r59 then
   k (0 : Int) false
  else
   lift_between N a58 (0 : Int) (w64 ((↑(Arr.n (api_Lift.Floors a56)) : Int) - (1 : Int))) (fun r60 =>
   bif !r60 then
    k (0 : Int) false
   else
    bif decide ((0 : Int) ≤ a57) && decide (a57 < (↑(Arr.n (api_Lift.Floors a56)) : Int)) then
     bif decide ((0 : Int) ≤ a58) && decide (a58 < (↑(Arr.n (api_Lift.Floors a56)) : Int)) then
      k (if w64 ((0 : Int) - w64 (Arr.f (api_Lift.Floors a56) (Int.toNat a57) - Arr.f (api_Lift.Floors a56) (Int.toNat a58))) > w64 (Arr.f (api_Lift.Floors a56) (Int.toNat a57) - Arr.f (api_Lift.Floors a56) (Int.toNat a58)) then w64 ((0 : Int) - w64 (Arr.f (api_Lift.Floors a56) (Int.toNat a57) - Arr.f (api_Lift.Floors a56) (Int.toNat a58))) else w64 (Arr.f (api_Lift.Floors a56) (Int.toNat a57) - Arr.f (api_Lift.Floors a56) (Int.toNat a58))) true
     else
      Option.none
    else
     Option.none))
noncomputable def lift_distance {R : Type} : Nat → api_Lift → Int → Int → (Int → Bool → Option R) → Option R := lock (@lift_distance_m R)
theorem lift_distance_def {R : Type} (N : Nat) (a56 : api_Lift) (a57 : Int) (a58 : Int) (k : Int → Bool → Option R) : lift_distance N a56 a57 a58 k = lift_distance_m N a56 a57 a58 k := by unfold lift_distance; rw [lock_eq]
def lift_distance_sp : Sp := ⟨[rAgg api_LiftC, rInt .i64, rInt .i64], []⟩
theorem lift_distance_sp_ok : lift_distance_sp.Ok := ⟨(allCons (rAgg_ok api_LiftC_ok api_LiftC_len) (allCons (rInt_ok .i64) (allCons (rInt_ok .i64) allNil))), eNil⟩
def lift_distance_rs : Sp := ⟨[rTup [rInt .i64, rBool]], []⟩
theorem lift_distance_rs_ok : lift_distance_rs.Ok := ⟨(allCons (rTup_ok (allCons (rInt_ok .i64) (allCons rBool_ok allNil))) allNil), eNil⟩
def lift_distance_run {R : Type} (N : Nat) (args : List SV) (T : Tab) (kf : SV × Tab → Option R) : Option R :=
  lift_distance_m N (Cod.dec api_LiftC (lget (toCs (lget args 0)))) (toI (lget args 1)) (toI (lget args 2)) (fun q0 q1 => kf (lget [.tup [.int .i64 q0, .bool q1]] 0, []))
def lift_distance_lp {R : Type} (N : Nat) : Lp R := fun body S k => Option.none
noncomputable def lift_distance_go {R : Type} (N : Nat) (args : List SV) (T : Tab) (kf : SV × Tab → Option R) : Option R :=
  lift_distance N (Cod.dec api_LiftC (lget (toCs (lget args 0)))) (toI (lget args 1)) (toI (lget args 2)) (fun q0 q1 => kf (lget [.tup [.int .i64 q0, .bool q1]] 0, []))
noncomputable def lift_distance_cal {R : Type} (N : Nat) : Cal R := callM (lift_Check_cal N) 45 0 lift_distance_sp (lift_distance_go N)
theorem lift_distance_cal_ok {R : Type} (N : Nat) : CalOk E.P (lift_distance_cal (R := R) N) :=
  callM_ok hE (lift_Check_cal_ok N) (lp := lift_distance_lp N) (jn := noJn) (keys := []) kNil (by kernel_rfl) (js := []) jNil (by kernel_rfl) lift_distance_sp_ok lift_distance_rs_ok (fun args T kf => Eq.trans (lift_distance_def N (Cod.dec api_LiftC (lget (toCs (lget args 0)))) (toI (lget args 1)) (toI (lget args 2)) (fun q0 q1 => kf (lget [.tup [.int .i64 q0, .bool q1]] 0, []))) (by kernel_rfl : lift_distance_run N args T kf = fnM E (lift_Check_cal N) (lift_distance_lp N) (noJn) 45 (lift_distance_sp.vs args) (lift_distance_sp.tab T) 0 (resK lift_distance_rs kf)))

def lift_most_L3 : LoopSp := ⟨⟨[1, 2, 3, 7, 8], ⟨(dr 1 ((rInt .i64) :: (rInt .i64) :: (rPtr 0 0) :: (dr 3 ((rInt .i64) :: (rInt .i64) :: (dr 24 []))))), [(0, eBlkC api_LiftC)]⟩, 1⟩, [(some 0, ⟨[7], ⟨(dr 7 ((rInt .i64) :: (dr 25 []))), []⟩, 0⟩)]⟩
theorem lift_most_L3_ok : lift_most_L3.Ok := ⟨⟨(drCons 1 (allCons (rInt_ok .i64) (allCons (rInt_ok .i64) (allCons (rPtr_ok 0 0) (drCons 3 (allCons (rInt_ok .i64) (allCons (rInt_ok .i64) (drCons 24 allNil)))))))), (eCons (eBlkC_ok api_LiftC_ok api_LiftC_len) eNil)⟩, (xCons ⟨(drCons 7 (allCons (rInt_ok .i64) (drCons 25 allNil))), eNil⟩ xNil)⟩
def lift_most_h3 (v71 : Int) (v72 : Int) (v73 : Int) (v74 : Int) (v75 : api_Lift) : St := ⟨(un 1 ((.int .i64 v71) :: (.int .i64 v72) :: (.ptr 0 0) :: (un 3 ((.int .i64 v73) :: (.int .i64 v74) :: (un 24 []))))), [(0, .blk (Cod.enc api_LiftC v75))], 1⟩
def lift_most_x3_0 (q0 : Int) : St := ⟨(un 7 ((.int .i64 q0) :: (un 25 []))), [], 0⟩
def lift_most_b3 {R : Type} (N : Nat) (rc : Int → Int → Int → Int → api_Lift → Option R) (v71 : Int) (v72 : Int) (v73 : Int) (v74 : Int) (v75 : api_Lift) (k0 : Int → Option R) : Option R :=
  bif decide (v74 ≤ v72) then
   rc v71 v72 (w64 (v73 + if w64 (w64 (w64 (v72 - v74) + (1 : Int)) * api_Lift.Accel v75) < if w64 (v71 + w64 (v74 * api_Lift.Accel v75)) < api_Lift.Speed v75 then w64 (v71 + w64 (v74 * api_Lift.Accel v75)) else api_Lift.Speed v75 then w64 (w64 (w64 (v72 - v74) + (1 : Int)) * api_Lift.Accel v75) else if w64 (v71 + w64 (v74 * api_Lift.Accel v75)) < api_Lift.Speed v75 then w64 (v71 + w64 (v74 * api_Lift.Accel v75)) else api_Lift.Speed v75)) (w64 (v74 + (1 : Int))) v75
  else
   k0 v73
def lift_most_l3 {R : Type} (N : Nat) : Nat → Int → Int → Int → Int → api_Lift → (Int → Option R) → Option R
  | 0, _, _, _, _, _, _ => Option.none
  | n + 1, v71, v72, v73, v74, v75, k0 => lift_most_b3 N (fun v71 v72 v73 v74 v75 => lift_most_l3 N n v71 v72 v73 v74 v75 k0) v71 v72 v73 v74 v75 k0


def lift_most_m {R : Type} (N : Nat) (a68 : api_Lift) (a69 : Int) (a70 : Int) (k : Int → Option R) : Option R :=
  lift_most_l3 N N a69 a70 (0 : Int) (1 : Int) a68 (fun r76 =>
   k r76)
noncomputable def lift_most {R : Type} : Nat → api_Lift → Int → Int → (Int → Option R) → Option R := lock (@lift_most_m R)
theorem lift_most_def {R : Type} (N : Nat) (a68 : api_Lift) (a69 : Int) (a70 : Int) (k : Int → Option R) : lift_most N a68 a69 a70 k = lift_most_m N a68 a69 a70 k := by unfold lift_most; rw [lock_eq]
def lift_most_sp : Sp := ⟨[rAgg api_LiftC, rInt .i64, rInt .i64], []⟩
theorem lift_most_sp_ok : lift_most_sp.Ok := ⟨(allCons (rAgg_ok api_LiftC_ok api_LiftC_len) (allCons (rInt_ok .i64) (allCons (rInt_ok .i64) allNil))), eNil⟩
def lift_most_rs : Sp := ⟨[rInt .i64], []⟩
theorem lift_most_rs_ok : lift_most_rs.Ok := ⟨(allCons (rInt_ok .i64) allNil), eNil⟩
def lift_most_run {R : Type} (N : Nat) (args : List SV) (T : Tab) (kf : SV × Tab → Option R) : Option R :=
  lift_most_m N (Cod.dec api_LiftC (lget (toCs (lget args 0)))) (toI (lget args 1)) (toI (lget args 2)) (fun q0 => kf (lget [.int .i64 q0] 0, []))
def lift_most_d3 {R : Type} (N : Nat) (S0 : St) (k : Exit → St → Option R) : Option R :=
  lift_most_l3 N N (toI (lget S0.tmps 1)) (toI (lget S0.tmps 2)) (toI (lget S0.tmps 7)) (toI (lget S0.tmps 8)) (Cod.dec api_LiftC (lget (entCs (entAt S0.tab 0)))) (fun q0 => k (.exit 0) (lift_most_x3_0 q0))
def lift_most_lp {R : Type} (N : Nat) : Lp R := fun body S k => bif (Go.Sx.keyOf body).getD 0 == 3 then lift_most_L3.head.raw 0 S (fun S0 => lift_most_d3 N S0 k) else Option.none
theorem lift_most_l3_eq {R : Type} (N : Nat) (k : Exit → St → Option R) (n : Nat) : ∀ (v0 : Int) (v1 : Int) (v2 : Int) (v3 : Int) (v4 : api_Lift), loopM E.Θ (lift_distance_cal N) (lift_most_lp N) (noJn) 0 lift_most_L3 (bodyAt E 95 3) n (lift_most_h3 v0 v1 v2 v3 v4) k = lift_most_l3 N n v0 v1 v2 v3 v4 (fun q0 => k (.exit 0) (lift_most_x3_0 q0)) := by
  induction n with
  | zero => intro v0 v1 v2 v3 v4; rfl
  | succ n ih =>
    intro v0 v1 v2 v3 v4
    refine Eq.trans (b := lift_most_b3 N (fun v0 v1 v2 v3 v4 => loopM E.Θ (lift_distance_cal N) (lift_most_lp N) (noJn) 0 lift_most_L3 (bodyAt E 95 3) n (lift_most_h3 v0 v1 v2 v3 v4) k) v0 v1 v2 v3 v4 (fun q0 => k (.exit 0) (lift_most_x3_0 q0))) (by kernel_rfl) ?_
    have h : (fun (v0 : Int) (v1 : Int) (v2 : Int) (v3 : Int) (v4 : api_Lift) => loopM E.Θ (lift_distance_cal N) (lift_most_lp N) (noJn) 0 lift_most_L3 (bodyAt E 95 3) n (lift_most_h3 v0 v1 v2 v3 v4) k) = (fun (v0 : Int) (v1 : Int) (v2 : Int) (v3 : Int) (v4 : api_Lift) => lift_most_l3 N n v0 v1 v2 v3 v4 (fun q0 => k (.exit 0) (lift_most_x3_0 q0))) := funext fun v0 => funext fun v1 => funext fun v2 => funext fun v3 => funext fun v4 => ih v0 v1 v2 v3 v4
    rw [h]
    rfl
theorem lift_most_k3 {R : Type} (N : Nat) : LpKey (R := R) E 95 0 (lift_most_lp N) 3 :=
  lpKey_of hE (lift_distance_cal_ok N) (jn := noJn) lift_most_L3_ok [] kNil (by kernel_rfl) [] jNil (by kernel_rfl) N fun S k =>
    Eq.trans (b := lift_most_L3.head.raw 0 S (fun S0 => lift_most_d3 N S0 k)) (by kernel_rfl) (congrArg (lift_most_L3.head.raw 0 S) (funext fun S0 => Eq.trans (lift_most_l3_eq N k N (toI (lget S0.tmps 1)) (toI (lget S0.tmps 2)) (toI (lget S0.tmps 7)) (toI (lget S0.tmps 8)) (Cod.dec api_LiftC (lget (entCs (entAt S0.tab 0))))).symm (by kernel_rfl)))
noncomputable def lift_most_go {R : Type} (N : Nat) (args : List SV) (T : Tab) (kf : SV × Tab → Option R) : Option R :=
  lift_most N (Cod.dec api_LiftC (lget (toCs (lget args 0)))) (toI (lget args 1)) (toI (lget args 2)) (fun q0 => kf (lget [.int .i64 q0] 0, []))
noncomputable def lift_most_cal {R : Type} (N : Nat) : Cal R := callM (lift_distance_cal N) 95 0 lift_most_sp (lift_most_go N)
theorem lift_most_cal_ok {R : Type} (N : Nat) : CalOk E.P (lift_most_cal (R := R) N) :=
  callM_ok hE (lift_distance_cal_ok N) (lp := lift_most_lp N) (jn := noJn) (keys := [3]) (kCons (lift_most_k3 N) kNil) (by kernel_rfl) (js := []) jNil (by kernel_rfl) lift_most_sp_ok lift_most_rs_ok (fun args T kf => Eq.trans (lift_most_def N (Cod.dec api_LiftC (lget (toCs (lget args 0)))) (toI (lget args 1)) (toI (lget args 2)) (fun q0 => kf (lget [.int .i64 q0] 0, []))) (by kernel_rfl : lift_most_run N args T kf = fnM E (lift_distance_cal N) (lift_most_lp N) (noJn) 95 (lift_most_sp.vs args) (lift_most_sp.tab T) 0 (resK lift_most_rs kf)))

def lift_least_L3 : LoopSp := ⟨⟨[1, 2, 3, 7, 8], ⟨(dr 1 ((rInt .i64) :: (rInt .i64) :: (rPtr 0 0) :: (dr 3 ((rInt .i64) :: (rInt .i64) :: (dr 15 []))))), [(0, eBlkC api_LiftC)]⟩, 1⟩, [(some 0, ⟨[7], ⟨(dr 7 ((rInt .i64) :: (dr 16 []))), []⟩, 0⟩)]⟩
theorem lift_least_L3_ok : lift_least_L3.Ok := ⟨⟨(drCons 1 (allCons (rInt_ok .i64) (allCons (rInt_ok .i64) (allCons (rPtr_ok 0 0) (drCons 3 (allCons (rInt_ok .i64) (allCons (rInt_ok .i64) (drCons 15 allNil)))))))), (eCons (eBlkC_ok api_LiftC_ok api_LiftC_len) eNil)⟩, (xCons ⟨(drCons 7 (allCons (rInt_ok .i64) (drCons 16 allNil))), eNil⟩ xNil)⟩
def lift_least_h3 (v94 : Int) (v95 : Int) (v96 : Int) (v97 : Int) (v98 : api_Lift) : St := ⟨(un 1 ((.int .i64 v94) :: (.int .i64 v95) :: (.ptr 0 0) :: (un 3 ((.int .i64 v96) :: (.int .i64 v97) :: (un 15 []))))), [(0, .blk (Cod.enc api_LiftC v98))], 1⟩
def lift_least_x3_0 (q0 : Int) : St := ⟨(un 7 ((.int .i64 q0) :: (un 16 []))), [], 0⟩
def lift_least_b3 {R : Type} (N : Nat) (rc : Int → Int → Int → Int → api_Lift → Option R) (v94 : Int) (v95 : Int) (v96 : Int) (v97 : Int) (v98 : api_Lift) (k0 : Int → Option R) : Option R :=
  bif decide (v97 ≤ v95) then
   rc v94 v95 (w64 (v96 + if w64 (v94 - w64 (v97 * api_Lift.Accel v98)) > (0 : Int) then w64 (v94 - w64 (v97 * api_Lift.Accel v98)) else (0 : Int))) (w64 (v97 + (1 : Int))) v98
  else
   k0 v96
def lift_least_l3 {R : Type} (N : Nat) : Nat → Int → Int → Int → Int → api_Lift → (Int → Option R) → Option R
  | 0, _, _, _, _, _, _ => Option.none
  | n + 1, v94, v95, v96, v97, v98, k0 => lift_least_b3 N (fun v94 v95 v96 v97 v98 => lift_least_l3 N n v94 v95 v96 v97 v98 k0) v94 v95 v96 v97 v98 k0


def lift_least_m {R : Type} (N : Nat) (a91 : api_Lift) (a92 : Int) (a93 : Int) (k : Int → Option R) : Option R :=
  lift_least_l3 N N a92 a93 (0 : Int) (1 : Int) a91 (fun r99 =>
   k r99)
noncomputable def lift_least {R : Type} : Nat → api_Lift → Int → Int → (Int → Option R) → Option R := lock (@lift_least_m R)
theorem lift_least_def {R : Type} (N : Nat) (a91 : api_Lift) (a92 : Int) (a93 : Int) (k : Int → Option R) : lift_least N a91 a92 a93 k = lift_least_m N a91 a92 a93 k := by unfold lift_least; rw [lock_eq]
def lift_least_sp : Sp := ⟨[rAgg api_LiftC, rInt .i64, rInt .i64], []⟩
theorem lift_least_sp_ok : lift_least_sp.Ok := ⟨(allCons (rAgg_ok api_LiftC_ok api_LiftC_len) (allCons (rInt_ok .i64) (allCons (rInt_ok .i64) allNil))), eNil⟩
def lift_least_rs : Sp := ⟨[rInt .i64], []⟩
theorem lift_least_rs_ok : lift_least_rs.Ok := ⟨(allCons (rInt_ok .i64) allNil), eNil⟩
def lift_least_run {R : Type} (N : Nat) (args : List SV) (T : Tab) (kf : SV × Tab → Option R) : Option R :=
  lift_least_m N (Cod.dec api_LiftC (lget (toCs (lget args 0)))) (toI (lget args 1)) (toI (lget args 2)) (fun q0 => kf (lget [.int .i64 q0] 0, []))
def lift_least_d3 {R : Type} (N : Nat) (S0 : St) (k : Exit → St → Option R) : Option R :=
  lift_least_l3 N N (toI (lget S0.tmps 1)) (toI (lget S0.tmps 2)) (toI (lget S0.tmps 7)) (toI (lget S0.tmps 8)) (Cod.dec api_LiftC (lget (entCs (entAt S0.tab 0)))) (fun q0 => k (.exit 0) (lift_least_x3_0 q0))
def lift_least_lp {R : Type} (N : Nat) : Lp R := fun body S k => bif (Go.Sx.keyOf body).getD 0 == 3 then lift_least_L3.head.raw 0 S (fun S0 => lift_least_d3 N S0 k) else Option.none
theorem lift_least_l3_eq {R : Type} (N : Nat) (k : Exit → St → Option R) (n : Nat) : ∀ (v0 : Int) (v1 : Int) (v2 : Int) (v3 : Int) (v4 : api_Lift), loopM E.Θ (lift_most_cal N) (lift_least_lp N) (noJn) 0 lift_least_L3 (bodyAt E 96 3) n (lift_least_h3 v0 v1 v2 v3 v4) k = lift_least_l3 N n v0 v1 v2 v3 v4 (fun q0 => k (.exit 0) (lift_least_x3_0 q0)) := by
  induction n with
  | zero => intro v0 v1 v2 v3 v4; rfl
  | succ n ih =>
    intro v0 v1 v2 v3 v4
    refine Eq.trans (b := lift_least_b3 N (fun v0 v1 v2 v3 v4 => loopM E.Θ (lift_most_cal N) (lift_least_lp N) (noJn) 0 lift_least_L3 (bodyAt E 96 3) n (lift_least_h3 v0 v1 v2 v3 v4) k) v0 v1 v2 v3 v4 (fun q0 => k (.exit 0) (lift_least_x3_0 q0))) (by kernel_rfl) ?_
    have h : (fun (v0 : Int) (v1 : Int) (v2 : Int) (v3 : Int) (v4 : api_Lift) => loopM E.Θ (lift_most_cal N) (lift_least_lp N) (noJn) 0 lift_least_L3 (bodyAt E 96 3) n (lift_least_h3 v0 v1 v2 v3 v4) k) = (fun (v0 : Int) (v1 : Int) (v2 : Int) (v3 : Int) (v4 : api_Lift) => lift_least_l3 N n v0 v1 v2 v3 v4 (fun q0 => k (.exit 0) (lift_least_x3_0 q0))) := funext fun v0 => funext fun v1 => funext fun v2 => funext fun v3 => funext fun v4 => ih v0 v1 v2 v3 v4
    rw [h]
    rfl
theorem lift_least_k3 {R : Type} (N : Nat) : LpKey (R := R) E 96 0 (lift_least_lp N) 3 :=
  lpKey_of hE (lift_most_cal_ok N) (jn := noJn) lift_least_L3_ok [] kNil (by kernel_rfl) [] jNil (by kernel_rfl) N fun S k =>
    Eq.trans (b := lift_least_L3.head.raw 0 S (fun S0 => lift_least_d3 N S0 k)) (by kernel_rfl) (congrArg (lift_least_L3.head.raw 0 S) (funext fun S0 => Eq.trans (lift_least_l3_eq N k N (toI (lget S0.tmps 1)) (toI (lget S0.tmps 2)) (toI (lget S0.tmps 7)) (toI (lget S0.tmps 8)) (Cod.dec api_LiftC (lget (entCs (entAt S0.tab 0))))).symm (by kernel_rfl)))
noncomputable def lift_least_go {R : Type} (N : Nat) (args : List SV) (T : Tab) (kf : SV × Tab → Option R) : Option R :=
  lift_least N (Cod.dec api_LiftC (lget (toCs (lget args 0)))) (toI (lget args 1)) (toI (lget args 2)) (fun q0 => kf (lget [.int .i64 q0] 0, []))
noncomputable def lift_least_cal {R : Type} (N : Nat) : Cal R := callM (lift_most_cal N) 96 0 lift_least_sp (lift_least_go N)
theorem lift_least_cal_ok {R : Type} (N : Nat) : CalOk E.P (lift_least_cal (R := R) N) :=
  callM_ok hE (lift_most_cal_ok N) (lp := lift_least_lp N) (jn := noJn) (keys := [3]) (kCons (lift_least_k3 N) kNil) (by kernel_rfl) (js := []) jNil (by kernel_rfl) lift_least_sp_ok lift_least_rs_ok (fun args T kf => Eq.trans (lift_least_def N (Cod.dec api_LiftC (lget (toCs (lget args 0)))) (toI (lget args 1)) (toI (lget args 2)) (fun q0 => kf (lget [.int .i64 q0] 0, []))) (by kernel_rfl : lift_least_run N args T kf = fnM E (lift_most_cal N) (lift_least_lp N) (noJn) 96 (lift_least_sp.vs args) (lift_least_sp.tab T) 0 (resK lift_least_rs kf)))

def lift_trip_L2 : LoopSp := ⟨⟨[1, 2, 5], ⟨(dr 1 ((rInt .i64) :: (rPtr 0 0) :: (dr 2 ((rInt .i64) :: (dr 48 []))))), [(0, eBlkC api_LiftC)]⟩, 1⟩, [(some 0, ⟨[1, 2, 5], ⟨(dr 1 ((rInt .i64) :: (rPtr 0 0) :: (dr 2 ((rInt .i64) :: (dr 48 []))))), [(0, eBlkC api_LiftC)]⟩, 1⟩)]⟩
theorem lift_trip_L2_ok : lift_trip_L2.Ok := ⟨⟨(drCons 1 (allCons (rInt_ok .i64) (allCons (rPtr_ok 0 0) (drCons 2 (allCons (rInt_ok .i64) (drCons 48 allNil)))))), (eCons (eBlkC_ok api_LiftC_ok api_LiftC_len) eNil)⟩, (xCons ⟨(drCons 1 (allCons (rInt_ok .i64) (allCons (rPtr_ok 0 0) (drCons 2 (allCons (rInt_ok .i64) (drCons 48 allNil)))))), (eCons (eBlkC_ok api_LiftC_ok api_LiftC_len) eNil)⟩ xNil)⟩
def lift_trip_h2 (v65 : Int) (v66 : Int) (v67 : api_Lift) : St := ⟨(un 1 ((.int .i64 v65) :: (.ptr 0 0) :: (un 2 ((.int .i64 v66) :: (un 48 []))))), [(0, .blk (Cod.enc api_LiftC v67))], 1⟩
def lift_trip_x2_0 (v65 : Int) (v67 : api_Lift) (q1 : Int) : St := ⟨(un 1 ((.int .i64 v65) :: (.ptr 0 0) :: (un 2 ((.int .i64 q1) :: (un 48 []))))), [(0, .blk (Cod.enc api_LiftC v67))], 1⟩
def lift_trip_b2 {R : Type} (N : Nat) (rc : Int → Int → api_Lift → Option R) (v65 : Int) (v66 : Int) (v67 : api_Lift) (k0 : Int → Option R) : Option R :=
  lift_most N v67 (0 : Int) v66 (fun r77 =>
  bif decide (r77 < v65) then
   rc v65 (w64 (v66 + (1 : Int))) v67
  else
   k0 v66)
def lift_trip_l2 {R : Type} (N : Nat) : Nat → Int → Int → api_Lift → (Int → Option R) → Option R
  | 0, _, _, _, _ => Option.none
  | n + 1, v65, v66, v67, k0 => lift_trip_b2 N (fun v65 v66 v67 => lift_trip_l2 N n v65 v66 v67 k0) v65 v66 v67 k0

def lift_trip_L10 : LoopSp := ⟨⟨[1, 2, 6, 8, 9], ⟨(dr 1 ((rInt .i64) :: (rPtr 0 0) :: (dr 3 ((rRow 1) :: (dr 1 ((rInt .i64) :: (rInt .i64) :: (dr 44 []))))))), [(0, eBlkC api_LiftC), (1, eRow intC)]⟩, 2⟩, [(some 4, ⟨[1, 2, 6, 8, 9], ⟨(dr 1 ((rInt .i64) :: (rPtr 0 0) :: (dr 3 ((rRow 1) :: (dr 1 ((rInt .i64) :: (rInt .i64) :: (dr 44 []))))))), [(0, eBlkC api_LiftC), (1, eRow intC)]⟩, 2⟩)]⟩
theorem lift_trip_L10_ok : lift_trip_L10.Ok := ⟨⟨(drCons 1 (allCons (rInt_ok .i64) (allCons (rPtr_ok 0 0) (drCons 3 (allCons (rRow_ok 1) (drCons 1 (allCons (rInt_ok .i64) (allCons (rInt_ok .i64) (drCons 44 allNil))))))))), (eCons (eBlkC_ok api_LiftC_ok api_LiftC_len) (eCons (eRow_ok intC_ok) eNil))⟩, (xCons ⟨(drCons 1 (allCons (rInt_ok .i64) (allCons (rPtr_ok 0 0) (drCons 3 (allCons (rRow_ok 1) (drCons 1 (allCons (rInt_ok .i64) (allCons (rInt_ok .i64) (drCons 44 allNil))))))))), (eCons (eBlkC_ok api_LiftC_ok api_LiftC_len) (eCons (eRow_ok intC_ok) eNil))⟩ xNil)⟩
def lift_trip_h10 (v85 : Int) (v86 : Int) (v87 : Int) (v88 : api_Lift) (v89 : Bool) (v90 : Arr Int) : St := ⟨(un 1 ((.int .i64 v85) :: (.ptr 0 0) :: (un 3 ((.row 1) :: (un 1 ((.int .i64 v86) :: (.int .i64 v87) :: (un 44 []))))))), [(0, .blk (Cod.enc api_LiftC v88)), (1, rowE intC v89 v90)], 2⟩
def lift_trip_x10_4 (v85 : Int) (v86 : Int) (v88 : api_Lift) (v89 : Bool) (v90 : Arr Int) (q2 : Int) : St := ⟨(un 1 ((.int .i64 v85) :: (.ptr 0 0) :: (un 3 ((.row 1) :: (un 1 ((.int .i64 v86) :: (.int .i64 q2) :: (un 44 []))))))), [(0, .blk (Cod.enc api_LiftC v88)), (1, rowE intC v89 v90)], 2⟩
def lift_trip_b10 {R : Type} (N : Nat) (rc : Int → Int → Int → api_Lift → Bool → Arr Int → Option R) (v85 : Int) (v86 : Int) (v87 : Int) (v88 : api_Lift) (v89 : Bool) (v90 : Arr Int) (k4 : Int → Option R) : Option R :=
  lift_least N v88 v87 v86 (fun r100 =>
  bif decide (w64 (v87 + r100) > v85) then
   rc v85 v86 (w64 (v87 - (1 : Int))) v88 v89 v90
  else
   k4 v87)
def lift_trip_l10 {R : Type} (N : Nat) : Nat → Int → Int → Int → api_Lift → Bool → Arr Int → (Int → Option R) → Option R
  | 0, _, _, _, _, _, _, _ => Option.none
  | n + 1, v85, v86, v87, v88, v89, v90, k4 => lift_trip_b10 N (fun v85 v86 v87 v88 v89 v90 => lift_trip_l10 N n v85 v86 v87 v88 v89 v90 k4) v85 v86 v87 v88 v89 v90 k4

def lift_trip_L7 : LoopSp := ⟨⟨[1, 2, 6, 7, 8], ⟨(dr 1 ((rInt .i64) :: (rPtr 0 0) :: (dr 3 ((rRow 1) :: (rInt .i64) :: (rInt .i64) :: (dr 45 []))))), [(0, eBlkC api_LiftC), (1, eRow intC)]⟩, 2⟩, [(some 2, ⟨[6], ⟨(dr 6 ((rRow 0) :: (dr 47 []))), [(0, eRow intC)]⟩, 1⟩)]⟩
theorem lift_trip_L7_ok : lift_trip_L7.Ok := ⟨⟨(drCons 1 (allCons (rInt_ok .i64) (allCons (rPtr_ok 0 0) (drCons 3 (allCons (rRow_ok 1) (allCons (rInt_ok .i64) (allCons (rInt_ok .i64) (drCons 45 allNil)))))))), (eCons (eBlkC_ok api_LiftC_ok api_LiftC_len) (eCons (eRow_ok intC_ok) eNil))⟩, (xCons ⟨(drCons 6 (allCons (rRow_ok 0) (drCons 47 allNil))), (eCons (eRow_ok intC_ok) eNil)⟩ xNil)⟩
def lift_trip_h7 (v79 : Int) (v80 : Int) (v81 : Int) (v82 : api_Lift) (v83 : Bool) (v84 : Arr Int) : St := ⟨(un 1 ((.int .i64 v79) :: (.ptr 0 0) :: (un 3 ((.row 1) :: (.int .i64 v80) :: (.int .i64 v81) :: (un 45 []))))), [(0, .blk (Cod.enc api_LiftC v82)), (1, rowE intC v83 v84)], 2⟩
def lift_trip_x7_2 (q0 : Bool) (q1 : Arr Int) : St := ⟨(un 6 ((.row 0) :: (un 47 []))), [(0, rowE intC q0 q1)], 1⟩
def lift_trip_b7 {R : Type} (N : Nat) (rc : Int → Int → Int → api_Lift → Bool → Arr Int → Option R) (v79 : Int) (v80 : Int) (v81 : Int) (v82 : api_Lift) (v83 : Bool) (v84 : Arr Int) (k2 : Bool → Arr Int → Option R) : Option R :=
  bif decide (v81 ≥ (0 : Int)) then
   lift_trip_l10 N N v79 v81 (if w64 (w64 (v81 + (1 : Int)) * api_Lift.Accel v82) < if w64 (v80 + api_Lift.Accel v82) < api_Lift.Speed v82 then w64 (v80 + api_Lift.Accel v82) else api_Lift.Speed v82 then w64 (w64 (v81 + (1 : Int)) * api_Lift.Accel v82) else if w64 (v80 + api_Lift.Accel v82) < api_Lift.Speed v82 then w64 (v80 + api_Lift.Accel v82) else api_Lift.Speed v82) v82 v83 v84 (fun r101 =>
    bif room (Arr.n v84 + (1 : Nat)) then
     rc (w64 (v79 - r101)) r101 (w64 (v81 - (1 : Int))) v82 false (lst intC (Arr.n v84 + (1 : Nat)) (catC (Arr.n v84) (Cod.cell intC (Arr.f v84)) (litC [SV.int IntKind.i64 (0 : Int)] [[SV.int IntKind.i64 r101]])))
    else
     Option.none)
  else
   k2 v83 v84
def lift_trip_l7 {R : Type} (N : Nat) : Nat → Int → Int → Int → api_Lift → Bool → Arr Int → (Bool → Arr Int → Option R) → Option R
  | 0, _, _, _, _, _, _, _ => Option.none
  | n + 1, v79, v80, v81, v82, v83, v84, k2 => lift_trip_b7 N (fun v79 v80 v81 v82 v83 v84 => lift_trip_l7 N n v79 v80 v81 v82 v83 v84 k2) v79 v80 v81 v82 v83 v84 k2


def lift_trip_m {R : Type} (N : Nat) (a63 : api_Lift) (a64 : Int) (k : Bool → Arr Int → Option R) : Option R :=
  lift_trip_l2 N N a64 (0 : Int) a63 (fun r78 =>
   lift_trip_l7 N N a64 (0 : Int) (w64 (r78 - (1 : Int))) a63 true (lst intC (0 : Nat) (zeroC [SV.int IntKind.i64 (0 : Int)])) (fun r102 r103 =>
    k r102 r103))
noncomputable def lift_trip {R : Type} : Nat → api_Lift → Int → (Bool → Arr Int → Option R) → Option R := lock (@lift_trip_m R)
theorem lift_trip_def {R : Type} (N : Nat) (a63 : api_Lift) (a64 : Int) (k : Bool → Arr Int → Option R) : lift_trip N a63 a64 k = lift_trip_m N a63 a64 k := by unfold lift_trip; rw [lock_eq]
def lift_trip_sp : Sp := ⟨[rAgg api_LiftC, rInt .i64], []⟩
theorem lift_trip_sp_ok : lift_trip_sp.Ok := ⟨(allCons (rAgg_ok api_LiftC_ok api_LiftC_len) (allCons (rInt_ok .i64) allNil)), eNil⟩
def lift_trip_rs : Sp := ⟨[rRow 0], [(0, eRow intC)]⟩
theorem lift_trip_rs_ok : lift_trip_rs.Ok := ⟨(allCons (rRow_ok 0) allNil), (eCons (eRow_ok intC_ok) eNil)⟩
def lift_trip_run {R : Type} (N : Nat) (args : List SV) (T : Tab) (kf : SV × Tab → Option R) : Option R :=
  lift_trip_m N (Cod.dec api_LiftC (lget (toCs (lget args 0)))) (toI (lget args 1)) (fun q0 q1 => kf (lget [.row 0] 0, [(0, rowE intC q0 q1)]))
def lift_trip_d10 {R : Type} (N : Nat) (S0 : St) (k : Exit → St → Option R) : Option R :=
  lift_trip_l10 N N (toI (lget S0.tmps 1)) (toI (lget S0.tmps 8)) (toI (lget S0.tmps 9)) (Cod.dec api_LiftC (lget (entCs (entAt S0.tab 0)))) (entNl (entAt S0.tab 1)) (lst intC (entN (entAt S0.tab 1)) (entC (entAt S0.tab 1))) (fun q2 => k (.exit 4) (lift_trip_x10_4 (toI (lget S0.tmps 1)) (toI (lget S0.tmps 8)) (Cod.dec api_LiftC (lget (entCs (entAt S0.tab 0)))) (entNl (entAt S0.tab 1)) (lst intC (entN (entAt S0.tab 1)) (entC (entAt S0.tab 1))) q2))
def lift_trip_d7 {R : Type} (N : Nat) (S0 : St) (k : Exit → St → Option R) : Option R :=
  lift_trip_l7 N N (toI (lget S0.tmps 1)) (toI (lget S0.tmps 7)) (toI (lget S0.tmps 8)) (Cod.dec api_LiftC (lget (entCs (entAt S0.tab 0)))) (entNl (entAt S0.tab 1)) (lst intC (entN (entAt S0.tab 1)) (entC (entAt S0.tab 1))) (fun q0 q1 => k (.exit 2) (lift_trip_x7_2 q0 q1))
def lift_trip_d2 {R : Type} (N : Nat) (S0 : St) (k : Exit → St → Option R) : Option R :=
  lift_trip_l2 N N (toI (lget S0.tmps 1)) (toI (lget S0.tmps 5)) (Cod.dec api_LiftC (lget (entCs (entAt S0.tab 0)))) (fun q1 => k (.exit 0) (lift_trip_x2_0 (toI (lget S0.tmps 1)) (Cod.dec api_LiftC (lget (entCs (entAt S0.tab 0)))) q1))
def lift_trip_lp {R : Type} (N : Nat) : Lp R := fun body S k => bif (Go.Sx.keyOf body).getD 0 == 2 then lift_trip_L2.head.raw 0 S (fun S0 => lift_trip_d2 N S0 k) else bif (Go.Sx.keyOf body).getD 0 == 7 then lift_trip_L7.head.raw 0 S (fun S0 => lift_trip_d7 N S0 k) else bif (Go.Sx.keyOf body).getD 0 == 10 then lift_trip_L10.head.raw 0 S (fun S0 => lift_trip_d10 N S0 k) else Option.none
theorem lift_trip_l2_eq {R : Type} (N : Nat) (k : Exit → St → Option R) (n : Nat) : ∀ (v0 : Int) (v1 : Int) (v2 : api_Lift), loopM E.Θ (lift_least_cal N) (lift_trip_lp N) (noJn) 0 lift_trip_L2 (bodyAt E 46 2) n (lift_trip_h2 v0 v1 v2) k = lift_trip_l2 N n v0 v1 v2 (fun q1 => k (.exit 0) (lift_trip_x2_0 v0 v2 q1)) := by
  induction n with
  | zero => intro v0 v1 v2; rfl
  | succ n ih =>
    intro v0 v1 v2
    refine Eq.trans (b := lift_trip_b2 N (fun v0 v1 v2 => loopM E.Θ (lift_least_cal N) (lift_trip_lp N) (noJn) 0 lift_trip_L2 (bodyAt E 46 2) n (lift_trip_h2 v0 v1 v2) k) v0 v1 v2 (fun q1 => k (.exit 0) (lift_trip_x2_0 v0 v2 q1))) (by kernel_rfl) ?_
    have h : (fun (v0 : Int) (v1 : Int) (v2 : api_Lift) => loopM E.Θ (lift_least_cal N) (lift_trip_lp N) (noJn) 0 lift_trip_L2 (bodyAt E 46 2) n (lift_trip_h2 v0 v1 v2) k) = (fun (v0 : Int) (v1 : Int) (v2 : api_Lift) => lift_trip_l2 N n v0 v1 v2 (fun q1 => k (.exit 0) (lift_trip_x2_0 v0 v2 q1))) := funext fun v0 => funext fun v1 => funext fun v2 => ih v0 v1 v2
    rw [h]
    rfl
theorem lift_trip_l7_eq {R : Type} (N : Nat) (k : Exit → St → Option R) (n : Nat) : ∀ (v0 : Int) (v1 : Int) (v2 : Int) (v3 : api_Lift) (v4 : Bool) (v5 : Arr Int), loopM E.Θ (lift_least_cal N) (lift_trip_lp N) (noJn) 0 lift_trip_L7 (bodyAt E 46 7) n (lift_trip_h7 v0 v1 v2 v3 v4 v5) k = lift_trip_l7 N n v0 v1 v2 v3 v4 v5 (fun q0 q1 => k (.exit 2) (lift_trip_x7_2 q0 q1)) := by
  induction n with
  | zero => intro v0 v1 v2 v3 v4 v5; rfl
  | succ n ih =>
    intro v0 v1 v2 v3 v4 v5
    refine Eq.trans (b := lift_trip_b7 N (fun v0 v1 v2 v3 v4 v5 => loopM E.Θ (lift_least_cal N) (lift_trip_lp N) (noJn) 0 lift_trip_L7 (bodyAt E 46 7) n (lift_trip_h7 v0 v1 v2 v3 v4 v5) k) v0 v1 v2 v3 v4 v5 (fun q0 q1 => k (.exit 2) (lift_trip_x7_2 q0 q1))) (by kernel_rfl) ?_
    have h : (fun (v0 : Int) (v1 : Int) (v2 : Int) (v3 : api_Lift) (v4 : Bool) (v5 : Arr Int) => loopM E.Θ (lift_least_cal N) (lift_trip_lp N) (noJn) 0 lift_trip_L7 (bodyAt E 46 7) n (lift_trip_h7 v0 v1 v2 v3 v4 v5) k) = (fun (v0 : Int) (v1 : Int) (v2 : Int) (v3 : api_Lift) (v4 : Bool) (v5 : Arr Int) => lift_trip_l7 N n v0 v1 v2 v3 v4 v5 (fun q0 q1 => k (.exit 2) (lift_trip_x7_2 q0 q1))) := funext fun v0 => funext fun v1 => funext fun v2 => funext fun v3 => funext fun v4 => funext fun v5 => ih v0 v1 v2 v3 v4 v5
    rw [h]
    rfl
theorem lift_trip_l10_eq {R : Type} (N : Nat) (k : Exit → St → Option R) (n : Nat) : ∀ (v0 : Int) (v1 : Int) (v2 : Int) (v3 : api_Lift) (v4 : Bool) (v5 : Arr Int), loopM E.Θ (lift_least_cal N) (lift_trip_lp N) (noJn) 0 lift_trip_L10 (bodyAt E 46 10) n (lift_trip_h10 v0 v1 v2 v3 v4 v5) k = lift_trip_l10 N n v0 v1 v2 v3 v4 v5 (fun q2 => k (.exit 4) (lift_trip_x10_4 v0 v1 v3 v4 v5 q2)) := by
  induction n with
  | zero => intro v0 v1 v2 v3 v4 v5; rfl
  | succ n ih =>
    intro v0 v1 v2 v3 v4 v5
    refine Eq.trans (b := lift_trip_b10 N (fun v0 v1 v2 v3 v4 v5 => loopM E.Θ (lift_least_cal N) (lift_trip_lp N) (noJn) 0 lift_trip_L10 (bodyAt E 46 10) n (lift_trip_h10 v0 v1 v2 v3 v4 v5) k) v0 v1 v2 v3 v4 v5 (fun q2 => k (.exit 4) (lift_trip_x10_4 v0 v1 v3 v4 v5 q2))) (by kernel_rfl) ?_
    have h : (fun (v0 : Int) (v1 : Int) (v2 : Int) (v3 : api_Lift) (v4 : Bool) (v5 : Arr Int) => loopM E.Θ (lift_least_cal N) (lift_trip_lp N) (noJn) 0 lift_trip_L10 (bodyAt E 46 10) n (lift_trip_h10 v0 v1 v2 v3 v4 v5) k) = (fun (v0 : Int) (v1 : Int) (v2 : Int) (v3 : api_Lift) (v4 : Bool) (v5 : Arr Int) => lift_trip_l10 N n v0 v1 v2 v3 v4 v5 (fun q2 => k (.exit 4) (lift_trip_x10_4 v0 v1 v3 v4 v5 q2))) := funext fun v0 => funext fun v1 => funext fun v2 => funext fun v3 => funext fun v4 => funext fun v5 => ih v0 v1 v2 v3 v4 v5
    rw [h]
    rfl
theorem lift_trip_k10 {R : Type} (N : Nat) : LpKey (R := R) E 46 0 (lift_trip_lp N) 10 :=
  lpKey_of hE (lift_least_cal_ok N) (jn := noJn) lift_trip_L10_ok [] kNil (by kernel_rfl) [] jNil (by kernel_rfl) N fun S k =>
    Eq.trans (b := lift_trip_L10.head.raw 0 S (fun S0 => lift_trip_d10 N S0 k)) (by kernel_rfl) (congrArg (lift_trip_L10.head.raw 0 S) (funext fun S0 => Eq.trans (lift_trip_l10_eq N k N (toI (lget S0.tmps 1)) (toI (lget S0.tmps 8)) (toI (lget S0.tmps 9)) (Cod.dec api_LiftC (lget (entCs (entAt S0.tab 0)))) (entNl (entAt S0.tab 1)) (lst intC (entN (entAt S0.tab 1)) (entC (entAt S0.tab 1)))).symm (by kernel_rfl)))
theorem lift_trip_k2 {R : Type} (N : Nat) : LpKey (R := R) E 46 0 (lift_trip_lp N) 2 :=
  lpKey_of hE (lift_least_cal_ok N) (jn := noJn) lift_trip_L2_ok [] kNil (by kernel_rfl) [] jNil (by kernel_rfl) N fun S k =>
    Eq.trans (b := lift_trip_L2.head.raw 0 S (fun S0 => lift_trip_d2 N S0 k)) (by kernel_rfl) (congrArg (lift_trip_L2.head.raw 0 S) (funext fun S0 => Eq.trans (lift_trip_l2_eq N k N (toI (lget S0.tmps 1)) (toI (lget S0.tmps 5)) (Cod.dec api_LiftC (lget (entCs (entAt S0.tab 0))))).symm (by kernel_rfl)))
theorem lift_trip_k7 {R : Type} (N : Nat) : LpKey (R := R) E 46 0 (lift_trip_lp N) 7 :=
  lpKey_of hE (lift_least_cal_ok N) (jn := noJn) lift_trip_L7_ok [10] (kCons (lift_trip_k10 N) kNil) (by kernel_rfl) [] jNil (by kernel_rfl) N fun S k =>
    Eq.trans (b := lift_trip_L7.head.raw 0 S (fun S0 => lift_trip_d7 N S0 k)) (by kernel_rfl) (congrArg (lift_trip_L7.head.raw 0 S) (funext fun S0 => Eq.trans (lift_trip_l7_eq N k N (toI (lget S0.tmps 1)) (toI (lget S0.tmps 7)) (toI (lget S0.tmps 8)) (Cod.dec api_LiftC (lget (entCs (entAt S0.tab 0)))) (entNl (entAt S0.tab 1)) (lst intC (entN (entAt S0.tab 1)) (entC (entAt S0.tab 1)))).symm (by kernel_rfl)))
noncomputable def lift_trip_go {R : Type} (N : Nat) (args : List SV) (T : Tab) (kf : SV × Tab → Option R) : Option R :=
  lift_trip N (Cod.dec api_LiftC (lget (toCs (lget args 0)))) (toI (lget args 1)) (fun q0 q1 => kf (lget [.row 0] 0, [(0, rowE intC q0 q1)]))
noncomputable def lift_trip_cal {R : Type} (N : Nat) : Cal R := callM (lift_least_cal N) 46 0 lift_trip_sp (lift_trip_go N)
theorem lift_trip_cal_ok {R : Type} (N : Nat) : CalOk E.P (lift_trip_cal (R := R) N) :=
  callM_ok hE (lift_least_cal_ok N) (lp := lift_trip_lp N) (jn := noJn) (keys := [2, 7, 10]) (kCons (lift_trip_k2 N) (kCons (lift_trip_k7 N) (kCons (lift_trip_k10 N) kNil))) (by kernel_rfl) (js := []) jNil (by kernel_rfl) lift_trip_sp_ok lift_trip_rs_ok (fun args T kf => Eq.trans (lift_trip_def N (Cod.dec api_LiftC (lget (toCs (lget args 0)))) (toI (lget args 1)) (fun q0 q1 => kf (lget [.row 0] 0, [(0, rowE intC q0 q1)]))) (by kernel_rfl : lift_trip_run N args T kf = fnM E (lift_least_cal N) (lift_trip_lp N) (noJn) 46 (lift_trip_sp.vs args) (lift_trip_sp.tab T) 0 (resK lift_trip_rs kf)))


def lift_Trip_m {R : Type} (N : Nat) (a33 : api_Lift) (a34 : Int) (a35 : Int) (k : Int → Bool → Arr Int → Option R) : Option R :=
  lift_Check N a33 (fun r55 =>
  bif r55 != (0 : Int) then
   k r55 true (lst intC (0 : Nat) (zeroC [SV.int IntKind.i64 (0 : Int)]))
  else
   lift_distance N a33 a34 a35 (fun r61 r62 =>
   bif !r62 then
    k (1 : Int) true (lst intC (0 : Nat) (zeroC [SV.int IntKind.i64 (0 : Int)]))
   else
    lift_trip N a33 r61 (fun r104 r105 =>
    k (0 : Int) r104 r105)))
noncomputable def lift_Trip {R : Type} : Nat → api_Lift → Int → Int → (Int → Bool → Arr Int → Option R) → Option R := lock (@lift_Trip_m R)
theorem lift_Trip_def {R : Type} (N : Nat) (a33 : api_Lift) (a34 : Int) (a35 : Int) (k : Int → Bool → Arr Int → Option R) : lift_Trip N a33 a34 a35 k = lift_Trip_m N a33 a34 a35 k := by unfold lift_Trip; rw [lock_eq]
def lift_Trip_sp : Sp := ⟨[rAgg api_LiftC, rInt .i64, rInt .i64], []⟩
theorem lift_Trip_sp_ok : lift_Trip_sp.Ok := ⟨(allCons (rAgg_ok api_LiftC_ok api_LiftC_len) (allCons (rInt_ok .i64) (allCons (rInt_ok .i64) allNil))), eNil⟩
def lift_Trip_rs : Sp := ⟨[rTup [rRow 0, rInt .i64]], [(0, eRow intC)]⟩
theorem lift_Trip_rs_ok : lift_Trip_rs.Ok := ⟨(allCons (rTup_ok (allCons (rRow_ok 0) (allCons (rInt_ok .i64) allNil))) allNil), (eCons (eRow_ok intC_ok) eNil)⟩
def lift_Trip_run {R : Type} (N : Nat) (args : List SV) (T : Tab) (kf : SV × Tab → Option R) : Option R :=
  lift_Trip_m N (Cod.dec api_LiftC (lget (toCs (lget args 0)))) (toI (lget args 1)) (toI (lget args 2)) (fun q0 q1 q2 => kf (lget [.tup [.row 0, .int .i64 q0]] 0, [(0, rowE intC q1 q2)]))
def lift_Trip_lp {R : Type} (N : Nat) : Lp R := fun body S k => Option.none
noncomputable def lift_Trip_go {R : Type} (N : Nat) (args : List SV) (T : Tab) (kf : SV × Tab → Option R) : Option R :=
  lift_Trip N (Cod.dec api_LiftC (lget (toCs (lget args 0)))) (toI (lget args 1)) (toI (lget args 2)) (fun q0 q1 q2 => kf (lget [.tup [.row 0, .int .i64 q0]] 0, [(0, rowE intC q1 q2)]))
noncomputable def lift_Trip_cal {R : Type} (N : Nat) : Cal R := callM (lift_trip_cal N) 14 0 lift_Trip_sp (lift_Trip_go N)
theorem lift_Trip_cal_ok {R : Type} (N : Nat) : CalOk E.P (lift_Trip_cal (R := R) N) :=
  callM_ok hE (lift_trip_cal_ok N) (lp := lift_Trip_lp N) (jn := noJn) (keys := []) kNil (by kernel_rfl) (js := []) jNil (by kernel_rfl) lift_Trip_sp_ok lift_Trip_rs_ok (fun args T kf => Eq.trans (lift_Trip_def N (Cod.dec api_LiftC (lget (toCs (lget args 0)))) (toI (lget args 1)) (toI (lget args 2)) (fun q0 q1 q2 => kf (lget [.tup [.row 0, .int .i64 q0]] 0, [(0, rowE intC q1 q2)]))) (by kernel_rfl : lift_Trip_run N args T kf = fnM E (lift_trip_cal N) (lift_Trip_lp N) (noJn) 14 (lift_Trip_sp.vs args) (lift_Trip_sp.tab T) 0 (resK lift_Trip_rs kf)))


def lift_checkDoor_m {R : Type} (N : Nat) (a108 : api_Door) (k : Int → Option R) : Option R :=
  lift_between N (api_Door.Wide a108) (1 : Int) (50 : Int) (fun r109 =>
  bif !r109 then
   k (51 : Int)
  else
   lift_between N (api_Door.Wait a108) (0 : Int) (200 : Int) (fun r110 =>
   bif !r110 then
    k (51 : Int)
   else
    k (0 : Int)))
noncomputable def lift_checkDoor {R : Type} : Nat → api_Door → (Int → Option R) → Option R := lock (@lift_checkDoor_m R)
theorem lift_checkDoor_def {R : Type} (N : Nat) (a108 : api_Door) (k : Int → Option R) : lift_checkDoor N a108 k = lift_checkDoor_m N a108 k := by unfold lift_checkDoor; rw [lock_eq]
def lift_checkDoor_sp : Sp := ⟨[rAgg api_DoorC], []⟩
theorem lift_checkDoor_sp_ok : lift_checkDoor_sp.Ok := ⟨(allCons (rAgg_ok api_DoorC_ok api_DoorC_len) allNil), eNil⟩
def lift_checkDoor_rs : Sp := ⟨[rInt .i64], []⟩
theorem lift_checkDoor_rs_ok : lift_checkDoor_rs.Ok := ⟨(allCons (rInt_ok .i64) allNil), eNil⟩
def lift_checkDoor_run {R : Type} (N : Nat) (args : List SV) (T : Tab) (kf : SV × Tab → Option R) : Option R :=
  lift_checkDoor_m N (Cod.dec api_DoorC (lget (toCs (lget args 0)))) (fun q0 => kf (lget [.int .i64 q0] 0, []))
def lift_checkDoor_lp {R : Type} (N : Nat) : Lp R := fun body S k => Option.none
noncomputable def lift_checkDoor_go {R : Type} (N : Nat) (args : List SV) (T : Tab) (kf : SV × Tab → Option R) : Option R :=
  lift_checkDoor N (Cod.dec api_DoorC (lget (toCs (lget args 0)))) (fun q0 => kf (lget [.int .i64 q0] 0, []))
noncomputable def lift_checkDoor_cal {R : Type} (N : Nat) : Cal R := callM (lift_Trip_cal N) 47 0 lift_checkDoor_sp (lift_checkDoor_go N)
theorem lift_checkDoor_cal_ok {R : Type} (N : Nat) : CalOk E.P (lift_checkDoor_cal (R := R) N) :=
  callM_ok hE (lift_Trip_cal_ok N) (lp := lift_checkDoor_lp N) (jn := noJn) (keys := []) kNil (by kernel_rfl) (js := []) jNil (by kernel_rfl) lift_checkDoor_sp_ok lift_checkDoor_rs_ok (fun args T kf => Eq.trans (lift_checkDoor_def N (Cod.dec api_DoorC (lget (toCs (lget args 0)))) (fun q0 => kf (lget [.int .i64 q0] 0, []))) (by kernel_rfl : lift_checkDoor_run N args T kf = fnM E (lift_Trip_cal N) (lift_checkDoor_lp N) (noJn) 47 (lift_checkDoor_sp.vs args) (lift_checkDoor_sp.tab T) 0 (resK lift_checkDoor_rs kf)))


def lift_dwell_m {R : Type} (N : Nat) (a113 : api_Door) (a114 : Int) (k : Int → Option R) : Option R :=
  k (w64 (w64 (w64 ((2 : Int) * api_Door.Wide a113) + api_Door.Wait a113) + w64 (a114 * w64 (w64 (w64 ((2 : Int) * api_Door.Wide a113) + api_Door.Wait a113) - (2 : Int)))))
noncomputable def lift_dwell {R : Type} : Nat → api_Door → Int → (Int → Option R) → Option R := lock (@lift_dwell_m R)
theorem lift_dwell_def {R : Type} (N : Nat) (a113 : api_Door) (a114 : Int) (k : Int → Option R) : lift_dwell N a113 a114 k = lift_dwell_m N a113 a114 k := by unfold lift_dwell; rw [lock_eq]
def lift_dwell_sp : Sp := ⟨[rAgg api_DoorC, rInt .i64], []⟩
theorem lift_dwell_sp_ok : lift_dwell_sp.Ok := ⟨(allCons (rAgg_ok api_DoorC_ok api_DoorC_len) (allCons (rInt_ok .i64) allNil)), eNil⟩
def lift_dwell_rs : Sp := ⟨[rInt .i64], []⟩
theorem lift_dwell_rs_ok : lift_dwell_rs.Ok := ⟨(allCons (rInt_ok .i64) allNil), eNil⟩
def lift_dwell_run {R : Type} (N : Nat) (args : List SV) (T : Tab) (kf : SV × Tab → Option R) : Option R :=
  lift_dwell_m N (Cod.dec api_DoorC (lget (toCs (lget args 0)))) (toI (lget args 1)) (fun q0 => kf (lget [.int .i64 q0] 0, []))
def lift_dwell_lp {R : Type} (N : Nat) : Lp R := fun body S k => Option.none
noncomputable def lift_dwell_go {R : Type} (N : Nat) (args : List SV) (T : Tab) (kf : SV × Tab → Option R) : Option R :=
  lift_dwell N (Cod.dec api_DoorC (lget (toCs (lget args 0)))) (toI (lget args 1)) (fun q0 => kf (lget [.int .i64 q0] 0, []))
noncomputable def lift_dwell_cal {R : Type} (N : Nat) : Cal R := callM (lift_checkDoor_cal N) 49 0 lift_dwell_sp (lift_dwell_go N)
theorem lift_dwell_cal_ok {R : Type} (N : Nat) : CalOk E.P (lift_dwell_cal (R := R) N) :=
  callM_ok hE (lift_checkDoor_cal_ok N) (lp := lift_dwell_lp N) (jn := noJn) (keys := []) kNil (by kernel_rfl) (js := []) jNil (by kernel_rfl) lift_dwell_sp_ok lift_dwell_rs_ok (fun args T kf => Eq.trans (lift_dwell_def N (Cod.dec api_DoorC (lget (toCs (lget args 0)))) (toI (lget args 1)) (fun q0 => kf (lget [.int .i64 q0] 0, []))) (by kernel_rfl : lift_dwell_run N args T kf = fnM E (lift_checkDoor_cal N) (lift_dwell_lp N) (noJn) 49 (lift_dwell_sp.vs args) (lift_dwell_sp.tab T) 0 (resK lift_dwell_rs kf)))


def lift_Dwell_m {R : Type} (N : Nat) (a106 : api_Door) (a107 : Int) (k : Int → Int → Option R) : Option R :=
  lift_checkDoor N a106 (fun r111 =>
  bif r111 != (0 : Int) then
   k (0 : Int) r111
  else
   lift_between N a107 (0 : Int) (20 : Int) (fun r112 =>
   bif !r112 then
    k (0 : Int) (1 : Int)
   else
    lift_dwell N a106 a107 (fun r115 =>
    k r115 (0 : Int))))
noncomputable def lift_Dwell {R : Type} : Nat → api_Door → Int → (Int → Int → Option R) → Option R := lock (@lift_Dwell_m R)
theorem lift_Dwell_def {R : Type} (N : Nat) (a106 : api_Door) (a107 : Int) (k : Int → Int → Option R) : lift_Dwell N a106 a107 k = lift_Dwell_m N a106 a107 k := by unfold lift_Dwell; rw [lock_eq]
def lift_Dwell_sp : Sp := ⟨[rAgg api_DoorC, rInt .i64], []⟩
theorem lift_Dwell_sp_ok : lift_Dwell_sp.Ok := ⟨(allCons (rAgg_ok api_DoorC_ok api_DoorC_len) (allCons (rInt_ok .i64) allNil)), eNil⟩
def lift_Dwell_rs : Sp := ⟨[rTup [rInt .i64, rInt .i64]], []⟩
theorem lift_Dwell_rs_ok : lift_Dwell_rs.Ok := ⟨(allCons (rTup_ok (allCons (rInt_ok .i64) (allCons (rInt_ok .i64) allNil))) allNil), eNil⟩
def lift_Dwell_run {R : Type} (N : Nat) (args : List SV) (T : Tab) (kf : SV × Tab → Option R) : Option R :=
  lift_Dwell_m N (Cod.dec api_DoorC (lget (toCs (lget args 0)))) (toI (lget args 1)) (fun q0 q1 => kf (lget [.tup [.int .i64 q0, .int .i64 q1]] 0, []))
def lift_Dwell_lp {R : Type} (N : Nat) : Lp R := fun body S k => Option.none
noncomputable def lift_Dwell_go {R : Type} (N : Nat) (args : List SV) (T : Tab) (kf : SV × Tab → Option R) : Option R :=
  lift_Dwell N (Cod.dec api_DoorC (lget (toCs (lget args 0)))) (toI (lget args 1)) (fun q0 q1 => kf (lget [.tup [.int .i64 q0, .int .i64 q1]] 0, []))
noncomputable def lift_Dwell_cal {R : Type} (N : Nat) : Cal R := callM (lift_dwell_cal N) 15 0 lift_Dwell_sp (lift_Dwell_go N)
theorem lift_Dwell_cal_ok {R : Type} (N : Nat) : CalOk E.P (lift_Dwell_cal (R := R) N) :=
  callM_ok hE (lift_dwell_cal_ok N) (lp := lift_Dwell_lp N) (jn := noJn) (keys := []) kNil (by kernel_rfl) (js := []) jNil (by kernel_rfl) lift_Dwell_sp_ok lift_Dwell_rs_ok (fun args T kf => Eq.trans (lift_Dwell_def N (Cod.dec api_DoorC (lget (toCs (lget args 0)))) (toI (lget args 1)) (fun q0 q1 => kf (lget [.tup [.int .i64 q0, .int .i64 q1]] 0, []))) (by kernel_rfl : lift_Dwell_run N args T kf = fnM E (lift_dwell_cal N) (lift_Dwell_lp N) (noJn) 15 (lift_Dwell_sp.vs args) (lift_Dwell_sp.tab T) 0 (resK lift_Dwell_rs kf)))

def slices_Index___int_int__L2 : LoopSp := ⟨⟨[0, 1, 7, 8], ⟨((rSl intC) :: (rInt .i64) :: (dr 5 ((rInt .i64) :: (rInt .i64) :: (dr 10 [])))), []⟩, 0⟩, [(Option.none, ⟨[4], ⟨(dr 4 ((rInt .i64) :: (dr 14 []))), []⟩, 0⟩), (some 0, ⟨[], ⟨(dr 19 []), []⟩, 0⟩)]⟩
theorem slices_Index___int_int__L2_ok : slices_Index___int_int__L2.Ok := ⟨⟨(allCons (rSl_ok intC_ok) (allCons (rInt_ok .i64) (drCons 5 (allCons (rInt_ok .i64) (allCons (rInt_ok .i64) (drCons 10 allNil)))))), eNil⟩, (xCons ⟨(drCons 4 (allCons (rInt_ok .i64) (drCons 14 allNil))), eNil⟩ (xCons ⟨(drCons 19 allNil), eNil⟩ xNil))⟩
def slices_Index___int_int__h2 (v137 : Arr Int) (v138 : Int) (v139 : Int) (v140 : Int) : St := ⟨((slC intC v137) :: (.int .i64 v138) :: (un 5 ((.int .i64 v139) :: (.int .i64 v140) :: (un 10 [])))), [], 0⟩
def slices_Index___int_int__x2_r (q0 : Int) : St := ⟨(un 4 ((.int .i64 q0) :: (un 14 []))), [], 0⟩
def slices_Index___int_int__x2_0  : St := ⟨(un 19 []), [], 0⟩
def slices_Index___int_int__b2 {R : Type} (N : Nat) (rc : Arr Int → Int → Int → Int → Option R) (v137 : Arr Int) (v138 : Int) (v139 : Int) (v140 : Int) (kr : Int → Option R) (k0 : Unit → Option R) : Option R :=
  bif decide (v140 < v139) then
   bif decide ((0 : Int) ≤ v140) && decide (v140 < (↑(Arr.n v137) : Int)) then
    bif v138 == Arr.f v137 (Int.toNat v140) then
     kr v140
    else
     rc v137 v138 v139 (w64 (v140 + (1 : Int)))
   else
    Option.none
  else
   k0 ()
def slices_Index___int_int__l2 {R : Type} (N : Nat) : Nat → Arr Int → Int → Int → Int → (Int → Option R) → (Unit → Option R) → Option R
  | 0, _, _, _, _, _, _ => Option.none
  | n + 1, v137, v138, v139, v140, kr, k0 => slices_Index___int_int__b2 N (fun v137 v138 v139 v140 => slices_Index___int_int__l2 N n v137 v138 v139 v140 kr k0) v137 v138 v139 v140 kr k0


def slices_Index___int_int__m {R : Type} (N : Nat) (a135 : Arr Int) (a136 : Int) (k : Int → Option R) : Option R :=
  slices_Index___int_int__l2 N N a135 a136 ((↑(Arr.n a135) : Int)) (0 : Int) (fun r141 =>
   k r141) (fun (_ : Unit) =>
   k (-1 : Int))
noncomputable def slices_Index___int_int_ {R : Type} : Nat → Arr Int → Int → (Int → Option R) → Option R := lock (@slices_Index___int_int__m R)
theorem slices_Index___int_int__def {R : Type} (N : Nat) (a135 : Arr Int) (a136 : Int) (k : Int → Option R) : slices_Index___int_int_ N a135 a136 k = slices_Index___int_int__m N a135 a136 k := by unfold slices_Index___int_int_; rw [lock_eq]
def slices_Index___int_int__sp : Sp := ⟨[rSl intC, rInt .i64], []⟩
theorem slices_Index___int_int__sp_ok : slices_Index___int_int__sp.Ok := ⟨(allCons (rSl_ok intC_ok) (allCons (rInt_ok .i64) allNil)), eNil⟩
def slices_Index___int_int__rs : Sp := ⟨[rInt .i64], []⟩
theorem slices_Index___int_int__rs_ok : slices_Index___int_int__rs.Ok := ⟨(allCons (rInt_ok .i64) allNil), eNil⟩
def slices_Index___int_int__run {R : Type} (N : Nat) (args : List SV) (T : Tab) (kf : SV × Tab → Option R) : Option R :=
  slices_Index___int_int__m N (lstC intC (lget args 0)) (toI (lget args 1)) (fun q0 => kf (lget [.int .i64 q0] 0, []))
def slices_Index___int_int__d2 {R : Type} (N : Nat) (S0 : St) (k : Exit → St → Option R) : Option R :=
  slices_Index___int_int__l2 N N (lstC intC (lget S0.tmps 0)) (toI (lget S0.tmps 1)) (toI (lget S0.tmps 7)) (toI (lget S0.tmps 8)) (fun q0 => k .ret (slices_Index___int_int__x2_r q0)) (fun (_ : Unit) => k (.exit 0) (slices_Index___int_int__x2_0 ))
def slices_Index___int_int__lp {R : Type} (N : Nat) : Lp R := fun body S k => bif (Go.Sx.keyOf body).getD 0 == 2 then slices_Index___int_int__L2.head.raw 0 S (fun S0 => slices_Index___int_int__d2 N S0 k) else Option.none
theorem slices_Index___int_int__l2_eq {R : Type} (N : Nat) (k : Exit → St → Option R) (n : Nat) : ∀ (v0 : Arr Int) (v1 : Int) (v2 : Int) (v3 : Int), loopM E.Θ (lift_Dwell_cal N) (slices_Index___int_int__lp N) (noJn) 0 slices_Index___int_int__L2 (bodyAt E 98 2) n (slices_Index___int_int__h2 v0 v1 v2 v3) k = slices_Index___int_int__l2 N n v0 v1 v2 v3 (fun q0 => k .ret (slices_Index___int_int__x2_r q0)) (fun (_ : Unit) => k (.exit 0) (slices_Index___int_int__x2_0 )) := by
  induction n with
  | zero => intro v0 v1 v2 v3; rfl
  | succ n ih =>
    intro v0 v1 v2 v3
    refine Eq.trans (b := slices_Index___int_int__b2 N (fun v0 v1 v2 v3 => loopM E.Θ (lift_Dwell_cal N) (slices_Index___int_int__lp N) (noJn) 0 slices_Index___int_int__L2 (bodyAt E 98 2) n (slices_Index___int_int__h2 v0 v1 v2 v3) k) v0 v1 v2 v3 (fun q0 => k .ret (slices_Index___int_int__x2_r q0)) (fun (_ : Unit) => k (.exit 0) (slices_Index___int_int__x2_0 ))) (by kernel_rfl) ?_
    have h : (fun (v0 : Arr Int) (v1 : Int) (v2 : Int) (v3 : Int) => loopM E.Θ (lift_Dwell_cal N) (slices_Index___int_int__lp N) (noJn) 0 slices_Index___int_int__L2 (bodyAt E 98 2) n (slices_Index___int_int__h2 v0 v1 v2 v3) k) = (fun (v0 : Arr Int) (v1 : Int) (v2 : Int) (v3 : Int) => slices_Index___int_int__l2 N n v0 v1 v2 v3 (fun q0 => k .ret (slices_Index___int_int__x2_r q0)) (fun (_ : Unit) => k (.exit 0) (slices_Index___int_int__x2_0 ))) := funext fun v0 => funext fun v1 => funext fun v2 => funext fun v3 => ih v0 v1 v2 v3
    rw [h]
    rfl
theorem slices_Index___int_int__k2 {R : Type} (N : Nat) : LpKey (R := R) E 98 0 (slices_Index___int_int__lp N) 2 :=
  lpKey_of hE (lift_Dwell_cal_ok N) (jn := noJn) slices_Index___int_int__L2_ok [] kNil (by kernel_rfl) [] jNil (by kernel_rfl) N fun S k =>
    Eq.trans (b := slices_Index___int_int__L2.head.raw 0 S (fun S0 => slices_Index___int_int__d2 N S0 k)) (by kernel_rfl) (congrArg (slices_Index___int_int__L2.head.raw 0 S) (funext fun S0 => Eq.trans (slices_Index___int_int__l2_eq N k N (lstC intC (lget S0.tmps 0)) (toI (lget S0.tmps 1)) (toI (lget S0.tmps 7)) (toI (lget S0.tmps 8))).symm (by kernel_rfl)))
noncomputable def slices_Index___int_int__go {R : Type} (N : Nat) (args : List SV) (T : Tab) (kf : SV × Tab → Option R) : Option R :=
  slices_Index___int_int_ N (lstC intC (lget args 0)) (toI (lget args 1)) (fun q0 => kf (lget [.int .i64 q0] 0, []))
noncomputable def slices_Index___int_int__cal {R : Type} (N : Nat) : Cal R := callM (lift_Dwell_cal N) 98 0 slices_Index___int_int__sp (slices_Index___int_int__go N)
theorem slices_Index___int_int__cal_ok {R : Type} (N : Nat) : CalOk E.P (slices_Index___int_int__cal (R := R) N) :=
  callM_ok hE (lift_Dwell_cal_ok N) (lp := slices_Index___int_int__lp N) (jn := noJn) (keys := [2]) (kCons (slices_Index___int_int__k2 N) kNil) (by kernel_rfl) (js := []) jNil (by kernel_rfl) slices_Index___int_int__sp_ok slices_Index___int_int__rs_ok (fun args T kf => Eq.trans (slices_Index___int_int__def N (lstC intC (lget args 0)) (toI (lget args 1)) (fun q0 => kf (lget [.int .i64 q0] 0, []))) (by kernel_rfl : slices_Index___int_int__run N args T kf = fnM E (lift_Dwell_cal N) (slices_Index___int_int__lp N) (noJn) 98 (slices_Index___int_int__sp.vs args) (slices_Index___int_int__sp.tab T) 0 (resK slices_Index___int_int__rs kf)))


def slices_Contains___int_int__m {R : Type} (N : Nat) (a133 : Arr Int) (a134 : Int) (k : Bool → Option R) : Option R :=
  slices_Index___int_int_ N a133 a134 (fun r142 =>
  k (decide (r142 ≥ (0 : Int))))
noncomputable def slices_Contains___int_int_ {R : Type} : Nat → Arr Int → Int → (Bool → Option R) → Option R := lock (@slices_Contains___int_int__m R)
theorem slices_Contains___int_int__def {R : Type} (N : Nat) (a133 : Arr Int) (a134 : Int) (k : Bool → Option R) : slices_Contains___int_int_ N a133 a134 k = slices_Contains___int_int__m N a133 a134 k := by unfold slices_Contains___int_int_; rw [lock_eq]
def slices_Contains___int_int__sp : Sp := ⟨[rSl intC, rInt .i64], []⟩
theorem slices_Contains___int_int__sp_ok : slices_Contains___int_int__sp.Ok := ⟨(allCons (rSl_ok intC_ok) (allCons (rInt_ok .i64) allNil)), eNil⟩
def slices_Contains___int_int__rs : Sp := ⟨[rBool], []⟩
theorem slices_Contains___int_int__rs_ok : slices_Contains___int_int__rs.Ok := ⟨(allCons rBool_ok allNil), eNil⟩
def slices_Contains___int_int__run {R : Type} (N : Nat) (args : List SV) (T : Tab) (kf : SV × Tab → Option R) : Option R :=
  slices_Contains___int_int__m N (lstC intC (lget args 0)) (toI (lget args 1)) (fun q0 => kf (lget [.bool q0] 0, []))
def slices_Contains___int_int__lp {R : Type} (N : Nat) : Lp R := fun body S k => Option.none
noncomputable def slices_Contains___int_int__go {R : Type} (N : Nat) (args : List SV) (T : Tab) (kf : SV × Tab → Option R) : Option R :=
  slices_Contains___int_int_ N (lstC intC (lget args 0)) (toI (lget args 1)) (fun q0 => kf (lget [.bool q0] 0, []))
noncomputable def slices_Contains___int_int__cal {R : Type} (N : Nat) : Cal R := callM (slices_Index___int_int__cal N) 51 0 slices_Contains___int_int__sp (slices_Contains___int_int__go N)
theorem slices_Contains___int_int__cal_ok {R : Type} (N : Nat) : CalOk E.P (slices_Contains___int_int__cal (R := R) N) :=
  callM_ok hE (slices_Index___int_int__cal_ok N) (lp := slices_Contains___int_int__lp N) (jn := noJn) (keys := []) kNil (by kernel_rfl) (js := []) jNil (by kernel_rfl) slices_Contains___int_int__sp_ok slices_Contains___int_int__rs_ok (fun args T kf => Eq.trans (slices_Contains___int_int__def N (lstC intC (lget args 0)) (toI (lget args 1)) (fun q0 => kf (lget [.bool q0] 0, []))) (by kernel_rfl : slices_Contains___int_int__run N args T kf = fnM E (slices_Index___int_int__cal N) (slices_Contains___int_int__lp N) (noJn) 51 (slices_Contains___int_int__sp.vs args) (slices_Contains___int_int__sp.tab T) 0 (resK slices_Contains___int_int__rs kf)))


def lift_leaf_hold_m {R : Type} (N : Nat) (a146 : lift_leaf) (k : lift_leaf → Option R) : Option R :=
  bif api_Door.Wait (lift_leaf.Door a146) == (0 : Int) then
   k (lift_leaf.mk (lift_leaf.Door a146) (lift_leaf.f_at a146) (2 : Int) (api_Door.Wait (lift_leaf.Door a146)))
  else
   k (lift_leaf.mk (lift_leaf.Door a146) (lift_leaf.f_at a146) (1 : Int) (api_Door.Wait (lift_leaf.Door a146)))
noncomputable def lift_leaf_hold {R : Type} : Nat → lift_leaf → (lift_leaf → Option R) → Option R := lock (@lift_leaf_hold_m R)
theorem lift_leaf_hold_def {R : Type} (N : Nat) (a146 : lift_leaf) (k : lift_leaf → Option R) : lift_leaf_hold N a146 k = lift_leaf_hold_m N a146 k := by unfold lift_leaf_hold; rw [lock_eq]
def lift_leaf_hold_sp : Sp := ⟨[rPtr 0 0], [(0, eBlkC lift_leafC)]⟩
theorem lift_leaf_hold_sp_ok : lift_leaf_hold_sp.Ok := ⟨(allCons (rPtr_ok 0 0) allNil), (eCons (eBlkC_ok lift_leafC_ok lift_leafC_len) eNil)⟩
def lift_leaf_hold_rs : Sp := ⟨[rTup []], [(0, eBlkC lift_leafC)]⟩
theorem lift_leaf_hold_rs_ok : lift_leaf_hold_rs.Ok := ⟨(allCons (rTup_ok allNil) allNil), (eCons (eBlkC_ok lift_leafC_ok lift_leafC_len) eNil)⟩
def lift_leaf_hold_run {R : Type} (N : Nat) (args : List SV) (T : Tab) (kf : SV × Tab → Option R) : Option R :=
  lift_leaf_hold_m N (Cod.dec lift_leafC (lget (entCs (entAt T 0)))) (fun q0 => kf (lget [.tup []] 0, [(0, .blk (Cod.enc lift_leafC q0))]))
def lift_leaf_hold_lp {R : Type} (N : Nat) : Lp R := fun body S k => Option.none
noncomputable def lift_leaf_hold_go {R : Type} (N : Nat) (args : List SV) (T : Tab) (kf : SV × Tab → Option R) : Option R :=
  lift_leaf_hold N (Cod.dec lift_leafC (lget (entCs (entAt T 0)))) (fun q0 => kf (lget [.tup []] 0, [(0, .blk (Cod.enc lift_leafC q0))]))
noncomputable def lift_leaf_hold_cal {R : Type} (N : Nat) : Cal R := callM (slices_Contains___int_int__cal N) 97 1 lift_leaf_hold_sp (lift_leaf_hold_go N)
theorem lift_leaf_hold_cal_ok {R : Type} (N : Nat) : CalOk E.P (lift_leaf_hold_cal (R := R) N) :=
  callM_ok hE (slices_Contains___int_int__cal_ok N) (lp := lift_leaf_hold_lp N) (jn := noJn) (keys := []) kNil (by kernel_rfl) (js := []) jNil (by kernel_rfl) lift_leaf_hold_sp_ok lift_leaf_hold_rs_ok (fun args T kf => Eq.trans (lift_leaf_hold_def N (Cod.dec lift_leafC (lget (entCs (entAt T 0)))) (fun q0 => kf (lget [.tup []] 0, [(0, .blk (Cod.enc lift_leafC q0))]))) (by kernel_rfl : lift_leaf_hold_run N args T kf = fnM E (slices_Contains___int_int__cal N) (lift_leaf_hold_lp N) (noJn) 97 (lift_leaf_hold_sp.vs args) (lift_leaf_hold_sp.tab T) 1 (resK lift_leaf_hold_rs kf)))


def lift_leaf_tick_m {R : Type} (N : Nat) (a144 : Bool) (a145 : lift_leaf) (k : lift_leaf → Option R) : Option R :=
  bif a144 then
   bif lift_leaf.f_does a145 != (0 : Int) then
    bif decide (lift_leaf.f_at a145 < api_Door.Wide (lift_leaf.Door a145)) then
     bif w64 (lift_leaf.f_at a145 + (1 : Int)) == api_Door.Wide (lift_leaf.Door a145) then
      lift_leaf_hold N (lift_leaf.mk (lift_leaf.Door a145) (w64 (lift_leaf.f_at a145 + (1 : Int))) (0 : Int) (lift_leaf.f_left a145)) (fun r147 =>
      k r147)
     else
      k (lift_leaf.mk (lift_leaf.Door a145) (w64 (lift_leaf.f_at a145 + (1 : Int))) (0 : Int) (lift_leaf.f_left a145))
    else
     lift_leaf_hold N a145 (fun r148 =>
     bif lift_leaf.f_does r148 == (0 : Int) then
      bif w64 (lift_leaf.f_at r148 + (1 : Int)) == api_Door.Wide (lift_leaf.Door r148) then
       lift_leaf_hold N (lift_leaf.mk (lift_leaf.Door r148) (w64 (lift_leaf.f_at r148 + (1 : Int))) (lift_leaf.f_does r148) (lift_leaf.f_left r148)) (fun r149 =>
       k r149)
      else
       k (lift_leaf.mk (lift_leaf.Door r148) (w64 (lift_leaf.f_at r148 + (1 : Int))) (lift_leaf.f_does r148) (lift_leaf.f_left r148))
     else
      bif lift_leaf.f_does r148 == (1 : Int) then
       bif w64 (lift_leaf.f_left r148 - (1 : Int)) == (0 : Int) then
        k (lift_leaf.mk (lift_leaf.Door r148) (lift_leaf.f_at r148) (2 : Int) (w64 (lift_leaf.f_left r148 - (1 : Int))))
       else
        k (lift_leaf.mk (lift_leaf.Door r148) (lift_leaf.f_at r148) (lift_leaf.f_does r148) (w64 (lift_leaf.f_left r148 - (1 : Int))))
      else
       bif lift_leaf.f_does r148 == (2 : Int) then
        k (lift_leaf.mk (lift_leaf.Door r148) (w64 (lift_leaf.f_at r148 - (1 : Int))) (lift_leaf.f_does r148) (lift_leaf.f_left r148))
       else
        k r148)
   else
    bif lift_leaf.f_does a145 == (0 : Int) then
     bif w64 (lift_leaf.f_at a145 + (1 : Int)) == api_Door.Wide (lift_leaf.Door a145) then
      lift_leaf_hold N (lift_leaf.mk (lift_leaf.Door a145) (w64 (lift_leaf.f_at a145 + (1 : Int))) (lift_leaf.f_does a145) (lift_leaf.f_left a145)) (fun r150 =>
      k r150)
     else
      k (lift_leaf.mk (lift_leaf.Door a145) (w64 (lift_leaf.f_at a145 + (1 : Int))) (lift_leaf.f_does a145) (lift_leaf.f_left a145))
    else
     bif lift_leaf.f_does a145 == (1 : Int) then
      bif w64 (lift_leaf.f_left a145 - (1 : Int)) == (0 : Int) then
       k (lift_leaf.mk (lift_leaf.Door a145) (lift_leaf.f_at a145) (2 : Int) (w64 (lift_leaf.f_left a145 - (1 : Int))))
      else
       k (lift_leaf.mk (lift_leaf.Door a145) (lift_leaf.f_at a145) (lift_leaf.f_does a145) (w64 (lift_leaf.f_left a145 - (1 : Int))))
     else
      bif lift_leaf.f_does a145 == (2 : Int) then
       k (lift_leaf.mk (lift_leaf.Door a145) (w64 (lift_leaf.f_at a145 - (1 : Int))) (lift_leaf.f_does a145) (lift_leaf.f_left a145))
      else
       k a145
  else
   bif lift_leaf.f_does a145 == (0 : Int) then
    bif w64 (lift_leaf.f_at a145 + (1 : Int)) == api_Door.Wide (lift_leaf.Door a145) then
     lift_leaf_hold N (lift_leaf.mk (lift_leaf.Door a145) (w64 (lift_leaf.f_at a145 + (1 : Int))) (lift_leaf.f_does a145) (lift_leaf.f_left a145)) (fun r151 =>
     k r151)
    else
     k (lift_leaf.mk (lift_leaf.Door a145) (w64 (lift_leaf.f_at a145 + (1 : Int))) (lift_leaf.f_does a145) (lift_leaf.f_left a145))
   else
    bif lift_leaf.f_does a145 == (1 : Int) then
     bif w64 (lift_leaf.f_left a145 - (1 : Int)) == (0 : Int) then
      k (lift_leaf.mk (lift_leaf.Door a145) (lift_leaf.f_at a145) (2 : Int) (w64 (lift_leaf.f_left a145 - (1 : Int))))
     else
      k (lift_leaf.mk (lift_leaf.Door a145) (lift_leaf.f_at a145) (lift_leaf.f_does a145) (w64 (lift_leaf.f_left a145 - (1 : Int))))
    else
     bif lift_leaf.f_does a145 == (2 : Int) then
      k (lift_leaf.mk (lift_leaf.Door a145) (w64 (lift_leaf.f_at a145 - (1 : Int))) (lift_leaf.f_does a145) (lift_leaf.f_left a145))
     else
      k a145
noncomputable def lift_leaf_tick {R : Type} : Nat → Bool → lift_leaf → (lift_leaf → Option R) → Option R := lock (@lift_leaf_tick_m R)
theorem lift_leaf_tick_def {R : Type} (N : Nat) (a144 : Bool) (a145 : lift_leaf) (k : lift_leaf → Option R) : lift_leaf_tick N a144 a145 k = lift_leaf_tick_m N a144 a145 k := by unfold lift_leaf_tick; rw [lock_eq]
def lift_leaf_tick_sp : Sp := ⟨[rPtr 0 0, rBool], [(0, eBlkC lift_leafC)]⟩
theorem lift_leaf_tick_sp_ok : lift_leaf_tick_sp.Ok := ⟨(allCons (rPtr_ok 0 0) (allCons rBool_ok allNil)), (eCons (eBlkC_ok lift_leafC_ok lift_leafC_len) eNil)⟩
def lift_leaf_tick_rs : Sp := ⟨[rTup []], [(0, eBlkC lift_leafC)]⟩
theorem lift_leaf_tick_rs_ok : lift_leaf_tick_rs.Ok := ⟨(allCons (rTup_ok allNil) allNil), (eCons (eBlkC_ok lift_leafC_ok lift_leafC_len) eNil)⟩
def lift_leaf_tick_run {R : Type} (N : Nat) (args : List SV) (T : Tab) (kf : SV × Tab → Option R) : Option R :=
  lift_leaf_tick_m N (toB (lget args 1)) (Cod.dec lift_leafC (lget (entCs (entAt T 0)))) (fun q0 => kf (lget [.tup []] 0, [(0, .blk (Cod.enc lift_leafC q0))]))
def lift_leaf_tick_lp {R : Type} (N : Nat) : Lp R := fun body S k => Option.none
noncomputable def lift_leaf_tick_go {R : Type} (N : Nat) (args : List SV) (T : Tab) (kf : SV × Tab → Option R) : Option R :=
  lift_leaf_tick N (toB (lget args 1)) (Cod.dec lift_leafC (lget (entCs (entAt T 0)))) (fun q0 => kf (lget [.tup []] 0, [(0, .blk (Cod.enc lift_leafC q0))]))
noncomputable def lift_leaf_tick_cal {R : Type} (N : Nat) : Cal R := callM (lift_leaf_hold_cal N) 50 1 lift_leaf_tick_sp (lift_leaf_tick_go N)
theorem lift_leaf_tick_cal_ok {R : Type} (N : Nat) : CalOk E.P (lift_leaf_tick_cal (R := R) N) :=
  callM_ok hE (lift_leaf_hold_cal_ok N) (lp := lift_leaf_tick_lp N) (jn := noJn) (keys := []) kNil (by kernel_rfl) (js := []) jNil (by kernel_rfl) lift_leaf_tick_sp_ok lift_leaf_tick_rs_ok (fun args T kf => Eq.trans (lift_leaf_tick_def N (toB (lget args 1)) (Cod.dec lift_leafC (lget (entCs (entAt T 0)))) (fun q0 => kf (lget [.tup []] 0, [(0, .blk (Cod.enc lift_leafC q0))]))) (by kernel_rfl : lift_leaf_tick_run N args T kf = fnM E (lift_leaf_hold_cal N) (lift_leaf_tick_lp N) (noJn) 50 (lift_leaf_tick_sp.vs args) (lift_leaf_tick_sp.tab T) 1 (resK lift_leaf_tick_rs kf)))

def lift_Doors_L7 : LoopSp := ⟨⟨[1, 2, 20, 21, 22], ⟨(dr 1 ((rSl intC) :: (rPtr 0 0) :: (dr 17 ((rSl intC) :: (rInt .i64) :: (rInt .i64) :: (dr 42 []))))), [(0, eBlkC api_DoorC)]⟩, 1⟩, [(Option.none, ⟨[4, 5], ⟨(dr 4 ((rRow 0) :: (rInt .i64) :: (dr 59 []))), [(0, eRow intC)]⟩, 1⟩), (some 0, ⟨[1, 2], ⟨(dr 1 ((rSl intC) :: (rPtr 0 0) :: (dr 62 []))), [(0, eBlkC api_DoorC)]⟩, 1⟩)]⟩
theorem lift_Doors_L7_ok : lift_Doors_L7.Ok := ⟨⟨(drCons 1 (allCons (rSl_ok intC_ok) (allCons (rPtr_ok 0 0) (drCons 17 (allCons (rSl_ok intC_ok) (allCons (rInt_ok .i64) (allCons (rInt_ok .i64) (drCons 42 allNil)))))))), (eCons (eBlkC_ok api_DoorC_ok api_DoorC_len) eNil)⟩, (xCons ⟨(drCons 4 (allCons (rRow_ok 0) (allCons (rInt_ok .i64) (drCons 59 allNil)))), (eCons (eRow_ok intC_ok) eNil)⟩ (xCons ⟨(drCons 1 (allCons (rSl_ok intC_ok) (allCons (rPtr_ok 0 0) (drCons 62 allNil)))), (eCons (eBlkC_ok api_DoorC_ok api_DoorC_len) eNil)⟩ xNil))⟩
def lift_Doors_h7 (v119 : Arr Int) (v120 : Arr Int) (v121 : Int) (v122 : Int) (v123 : api_Door) : St := ⟨(un 1 ((slC intC v119) :: (.ptr 0 0) :: (un 17 ((slC intC v120) :: (.int .i64 v121) :: (.int .i64 v122) :: (un 42 []))))), [(0, .blk (Cod.enc api_DoorC v123))], 1⟩
def lift_Doors_x7_r (q0 : Int) (q1 : Bool) (q2 : Arr Int) : St := ⟨(un 4 ((.row 0) :: (.int .i64 q0) :: (un 59 []))), [(0, rowE intC q1 q2)], 1⟩
def lift_Doors_x7_0 (v119 : Arr Int) (v123 : api_Door) : St := ⟨(un 1 ((slC intC v119) :: (.ptr 0 0) :: (un 62 []))), [(0, .blk (Cod.enc api_DoorC v123))], 1⟩
def lift_Doors_b7 {R : Type} (N : Nat) (rc : Arr Int → Arr Int → Int → Int → api_Door → Option R) (v119 : Arr Int) (v120 : Arr Int) (v121 : Int) (v122 : Int) (v123 : api_Door) (kr : Int → Bool → Arr Int → Option R) (k0 : Unit → Option R) : Option R :=
  bif decide (v122 < v121) then
   bif decide ((0 : Int) ≤ v122) && decide (v122 < (↑(Arr.n v120) : Int)) then
    lift_between N (Arr.f v120 (Int.toNat v122)) (0 : Int) (100000 : Int) (fun r124 =>
    bif !r124 then
     kr (1 : Int) true (lst intC (0 : Nat) (zeroC [SV.int IntKind.i64 (0 : Int)]))
    else
     bif decide (v122 > (0 : Int)) then
      bif decide ((0 : Int) ≤ w64 (v122 - (1 : Int))) && decide (w64 (v122 - (1 : Int)) < (↑(Arr.n v119) : Int)) then
       bif decide (Arr.f v120 (Int.toNat v122) ≤ Arr.f v119 (Int.toNat (w64 (v122 - (1 : Int))))) then
        kr (1 : Int) true (lst intC (0 : Nat) (zeroC [SV.int IntKind.i64 (0 : Int)]))
       else
        rc v119 v120 v121 (w64 (v122 + (1 : Int))) v123
      else
       Option.none
     else
      rc v119 v120 v121 (w64 (v122 + (1 : Int))) v123)
   else
    Option.none
  else
   k0 ()
def lift_Doors_l7 {R : Type} (N : Nat) : Nat → Arr Int → Arr Int → Int → Int → api_Door → (Int → Bool → Arr Int → Option R) → (Unit → Option R) → Option R
  | 0, _, _, _, _, _, _, _ => Option.none
  | n + 1, v119, v120, v121, v122, v123, kr, k0 => lift_Doors_b7 N (fun v119 v120 v121 v122 v123 => lift_Doors_l7 N n v119 v120 v121 v122 v123 kr k0) v119 v120 v121 v122 v123 kr k0

def lift_Doors_L15 : LoopSp := ⟨⟨[1, 9, 10, 11], ⟨(dr 1 ((rSl intC) :: (dr 7 ((rPtr 0 0) :: (rRow 1) :: (rInt .i64) :: (dr 53 []))))), [(0, eBlkC lift_leafC), (1, eRow intC)]⟩, 2⟩, [(some 2, ⟨[10], ⟨(dr 10 ((rRow 0) :: (dr 54 []))), [(0, eRow intC)]⟩, 1⟩)]⟩
theorem lift_Doors_L15_ok : lift_Doors_L15.Ok := ⟨⟨(drCons 1 (allCons (rSl_ok intC_ok) (drCons 7 (allCons (rPtr_ok 0 0) (allCons (rRow_ok 1) (allCons (rInt_ok .i64) (drCons 53 allNil))))))), (eCons (eBlkC_ok lift_leafC_ok lift_leafC_len) (eCons (eRow_ok intC_ok) eNil))⟩, (xCons ⟨(drCons 10 (allCons (rRow_ok 0) (drCons 54 allNil))), (eCons (eRow_ok intC_ok) eNil)⟩ xNil)⟩
def lift_Doors_h15 (v128 : Arr Int) (v129 : Int) (v130 : lift_leaf) (v131 : Bool) (v132 : Arr Int) : St := ⟨(un 1 ((slC intC v128) :: (un 7 ((.ptr 0 0) :: (.row 1) :: (.int .i64 v129) :: (un 53 []))))), [(0, .blk (Cod.enc lift_leafC v130)), (1, rowE intC v131 v132)], 2⟩
def lift_Doors_x15_2 (q0 : Bool) (q1 : Arr Int) : St := ⟨(un 10 ((.row 0) :: (un 54 []))), [(0, rowE intC q0 q1)], 1⟩
def lift_Doors_b15 {R : Type} (N : Nat) (rc : Arr Int → Int → lift_leaf → Bool → Arr Int → Option R) (v128 : Arr Int) (v129 : Int) (v130 : lift_leaf) (v131 : Bool) (v132 : Arr Int) (k2 : Bool → Arr Int → Option R) : Option R :=
  bif v129 == (0 : Int) then
   slices_Contains___int_int_ N v128 v129 (fun r143 =>
   lift_leaf_tick N r143 v130 (fun r152 =>
   bif room (Arr.n v132 + (1 : Nat)) then
    rc v128 (w64 (v129 + (1 : Int))) r152 false (lst intC (Arr.n v132 + (1 : Nat)) (catC (Arr.n v132) (Cod.cell intC (Arr.f v132)) (litC [SV.int IntKind.i64 (0 : Int)] [[SV.int IntKind.i64 (lift_leaf.f_at r152)]])))
   else
    Option.none))
  else
   bif decide (lift_leaf.f_at v130 > (0 : Int)) then
    slices_Contains___int_int_ N v128 v129 (fun r153 =>
    lift_leaf_tick N r153 v130 (fun r154 =>
    bif room (Arr.n v132 + (1 : Nat)) then
     rc v128 (w64 (v129 + (1 : Int))) r154 false (lst intC (Arr.n v132 + (1 : Nat)) (catC (Arr.n v132) (Cod.cell intC (Arr.f v132)) (litC [SV.int IntKind.i64 (0 : Int)] [[SV.int IntKind.i64 (lift_leaf.f_at r154)]])))
    else
     Option.none))
   else
    k2 v131 v132
def lift_Doors_l15 {R : Type} (N : Nat) : Nat → Arr Int → Int → lift_leaf → Bool → Arr Int → (Bool → Arr Int → Option R) → Option R
  | 0, _, _, _, _, _, _ => Option.none
  | n + 1, v128, v129, v130, v131, v132, k2 => lift_Doors_b15 N (fun v128 v129 v130 v131 v132 => lift_Doors_l15 N n v128 v129 v130 v131 v132 k2) v128 v129 v130 v131 v132 k2


def lift_Doors_m {R : Type} (N : Nat) (a116 : api_Door) (a117 : Arr Int) (k : Int → Bool → Arr Int → Option R) : Option R :=
  lift_checkDoor N a116 (fun r118 =>
  bif r118 != (0 : Int) then
   k r118 true (lst intC (0 : Nat) (zeroC [SV.int IntKind.i64 (0 : Int)]))
  else
   bif decide ((↑(Arr.n a117) : Int) > (20 : Int)) then
    k (1 : Int) true (lst intC (0 : Nat) (zeroC [SV.int IntKind.i64 (0 : Int)]))
   else
    lift_Doors_l7 N N a117 a117 ((↑(Arr.n a117) : Int)) (0 : Int) a116 (fun r125 r126 r127 =>
     k r125 r126 r127) (fun (_ : Unit) =>
     lift_Doors_l15 N N a117 (0 : Int) (lift_leaf.mk a116 (0 : Int) (0 : Int) (0 : Int)) true (lst intC (0 : Nat) (zeroC [SV.int IntKind.i64 (0 : Int)])) (fun r155 r156 =>
      k (0 : Int) r155 r156)))
noncomputable def lift_Doors {R : Type} : Nat → api_Door → Arr Int → (Int → Bool → Arr Int → Option R) → Option R := lock (@lift_Doors_m R)
theorem lift_Doors_def {R : Type} (N : Nat) (a116 : api_Door) (a117 : Arr Int) (k : Int → Bool → Arr Int → Option R) : lift_Doors N a116 a117 k = lift_Doors_m N a116 a117 k := by unfold lift_Doors; rw [lock_eq]
def lift_Doors_sp : Sp := ⟨[rAgg api_DoorC, rSl intC], []⟩
theorem lift_Doors_sp_ok : lift_Doors_sp.Ok := ⟨(allCons (rAgg_ok api_DoorC_ok api_DoorC_len) (allCons (rSl_ok intC_ok) allNil)), eNil⟩
def lift_Doors_rs : Sp := ⟨[rTup [rRow 0, rInt .i64]], [(0, eRow intC)]⟩
theorem lift_Doors_rs_ok : lift_Doors_rs.Ok := ⟨(allCons (rTup_ok (allCons (rRow_ok 0) (allCons (rInt_ok .i64) allNil))) allNil), (eCons (eRow_ok intC_ok) eNil)⟩
def lift_Doors_run {R : Type} (N : Nat) (args : List SV) (T : Tab) (kf : SV × Tab → Option R) : Option R :=
  lift_Doors_m N (Cod.dec api_DoorC (lget (toCs (lget args 0)))) (lstC intC (lget args 1)) (fun q0 q1 q2 => kf (lget [.tup [.row 0, .int .i64 q0]] 0, [(0, rowE intC q1 q2)]))
def lift_Doors_d15 {R : Type} (N : Nat) (S0 : St) (k : Exit → St → Option R) : Option R :=
  lift_Doors_l15 N N (lstC intC (lget S0.tmps 1)) (toI (lget S0.tmps 11)) (Cod.dec lift_leafC (lget (entCs (entAt S0.tab 0)))) (entNl (entAt S0.tab 1)) (lst intC (entN (entAt S0.tab 1)) (entC (entAt S0.tab 1))) (fun q0 q1 => k (.exit 2) (lift_Doors_x15_2 q0 q1))
def lift_Doors_d7 {R : Type} (N : Nat) (S0 : St) (k : Exit → St → Option R) : Option R :=
  lift_Doors_l7 N N (lstC intC (lget S0.tmps 1)) (lstC intC (lget S0.tmps 20)) (toI (lget S0.tmps 21)) (toI (lget S0.tmps 22)) (Cod.dec api_DoorC (lget (entCs (entAt S0.tab 0)))) (fun q0 q1 q2 => k .ret (lift_Doors_x7_r q0 q1 q2)) (fun (_ : Unit) => k (.exit 0) (lift_Doors_x7_0 (lstC intC (lget S0.tmps 1)) (Cod.dec api_DoorC (lget (entCs (entAt S0.tab 0))))))
def lift_Doors_lp {R : Type} (N : Nat) : Lp R := fun body S k => bif (Go.Sx.keyOf body).getD 0 == 7 then lift_Doors_L7.head.raw 0 S (fun S0 => lift_Doors_d7 N S0 k) else bif (Go.Sx.keyOf body).getD 0 == 15 then lift_Doors_L15.head.raw 0 S (fun S0 => lift_Doors_d15 N S0 k) else Option.none
theorem lift_Doors_l7_eq {R : Type} (N : Nat) (k : Exit → St → Option R) (n : Nat) : ∀ (v0 : Arr Int) (v1 : Arr Int) (v2 : Int) (v3 : Int) (v4 : api_Door), loopM E.Θ (lift_leaf_tick_cal N) (lift_Doors_lp N) (noJn) 0 lift_Doors_L7 (bodyAt E 16 7) n (lift_Doors_h7 v0 v1 v2 v3 v4) k = lift_Doors_l7 N n v0 v1 v2 v3 v4 (fun q0 q1 q2 => k .ret (lift_Doors_x7_r q0 q1 q2)) (fun (_ : Unit) => k (.exit 0) (lift_Doors_x7_0 v0 v4)) := by
  induction n with
  | zero => intro v0 v1 v2 v3 v4; rfl
  | succ n ih =>
    intro v0 v1 v2 v3 v4
    refine Eq.trans (b := lift_Doors_b7 N (fun v0 v1 v2 v3 v4 => loopM E.Θ (lift_leaf_tick_cal N) (lift_Doors_lp N) (noJn) 0 lift_Doors_L7 (bodyAt E 16 7) n (lift_Doors_h7 v0 v1 v2 v3 v4) k) v0 v1 v2 v3 v4 (fun q0 q1 q2 => k .ret (lift_Doors_x7_r q0 q1 q2)) (fun (_ : Unit) => k (.exit 0) (lift_Doors_x7_0 v0 v4))) (by kernel_rfl) ?_
    have h : (fun (v0 : Arr Int) (v1 : Arr Int) (v2 : Int) (v3 : Int) (v4 : api_Door) => loopM E.Θ (lift_leaf_tick_cal N) (lift_Doors_lp N) (noJn) 0 lift_Doors_L7 (bodyAt E 16 7) n (lift_Doors_h7 v0 v1 v2 v3 v4) k) = (fun (v0 : Arr Int) (v1 : Arr Int) (v2 : Int) (v3 : Int) (v4 : api_Door) => lift_Doors_l7 N n v0 v1 v2 v3 v4 (fun q0 q1 q2 => k .ret (lift_Doors_x7_r q0 q1 q2)) (fun (_ : Unit) => k (.exit 0) (lift_Doors_x7_0 v0 v4))) := funext fun v0 => funext fun v1 => funext fun v2 => funext fun v3 => funext fun v4 => ih v0 v1 v2 v3 v4
    rw [h]
    rfl
theorem lift_Doors_l15_eq {R : Type} (N : Nat) (k : Exit → St → Option R) (n : Nat) : ∀ (v0 : Arr Int) (v1 : Int) (v2 : lift_leaf) (v3 : Bool) (v4 : Arr Int), loopM E.Θ (lift_leaf_tick_cal N) (lift_Doors_lp N) (noJn) 0 lift_Doors_L15 (bodyAt E 16 15) n (lift_Doors_h15 v0 v1 v2 v3 v4) k = lift_Doors_l15 N n v0 v1 v2 v3 v4 (fun q0 q1 => k (.exit 2) (lift_Doors_x15_2 q0 q1)) := by
  induction n with
  | zero => intro v0 v1 v2 v3 v4; rfl
  | succ n ih =>
    intro v0 v1 v2 v3 v4
    refine Eq.trans (b := lift_Doors_b15 N (fun v0 v1 v2 v3 v4 => loopM E.Θ (lift_leaf_tick_cal N) (lift_Doors_lp N) (noJn) 0 lift_Doors_L15 (bodyAt E 16 15) n (lift_Doors_h15 v0 v1 v2 v3 v4) k) v0 v1 v2 v3 v4 (fun q0 q1 => k (.exit 2) (lift_Doors_x15_2 q0 q1))) (by kernel_rfl) ?_
    have h : (fun (v0 : Arr Int) (v1 : Int) (v2 : lift_leaf) (v3 : Bool) (v4 : Arr Int) => loopM E.Θ (lift_leaf_tick_cal N) (lift_Doors_lp N) (noJn) 0 lift_Doors_L15 (bodyAt E 16 15) n (lift_Doors_h15 v0 v1 v2 v3 v4) k) = (fun (v0 : Arr Int) (v1 : Int) (v2 : lift_leaf) (v3 : Bool) (v4 : Arr Int) => lift_Doors_l15 N n v0 v1 v2 v3 v4 (fun q0 q1 => k (.exit 2) (lift_Doors_x15_2 q0 q1))) := funext fun v0 => funext fun v1 => funext fun v2 => funext fun v3 => funext fun v4 => ih v0 v1 v2 v3 v4
    rw [h]
    rfl
theorem lift_Doors_k15 {R : Type} (N : Nat) : LpKey (R := R) E 16 0 (lift_Doors_lp N) 15 :=
  lpKey_of hE (lift_leaf_tick_cal_ok N) (jn := noJn) lift_Doors_L15_ok [] kNil (by kernel_rfl) [] jNil (by kernel_rfl) N fun S k =>
    Eq.trans (b := lift_Doors_L15.head.raw 0 S (fun S0 => lift_Doors_d15 N S0 k)) (by kernel_rfl) (congrArg (lift_Doors_L15.head.raw 0 S) (funext fun S0 => Eq.trans (lift_Doors_l15_eq N k N (lstC intC (lget S0.tmps 1)) (toI (lget S0.tmps 11)) (Cod.dec lift_leafC (lget (entCs (entAt S0.tab 0)))) (entNl (entAt S0.tab 1)) (lst intC (entN (entAt S0.tab 1)) (entC (entAt S0.tab 1)))).symm (by kernel_rfl)))
theorem lift_Doors_k7 {R : Type} (N : Nat) : LpKey (R := R) E 16 0 (lift_Doors_lp N) 7 :=
  lpKey_of hE (lift_leaf_tick_cal_ok N) (jn := noJn) lift_Doors_L7_ok [] kNil (by kernel_rfl) [] jNil (by kernel_rfl) N fun S k =>
    Eq.trans (b := lift_Doors_L7.head.raw 0 S (fun S0 => lift_Doors_d7 N S0 k)) (by kernel_rfl) (congrArg (lift_Doors_L7.head.raw 0 S) (funext fun S0 => Eq.trans (lift_Doors_l7_eq N k N (lstC intC (lget S0.tmps 1)) (lstC intC (lget S0.tmps 20)) (toI (lget S0.tmps 21)) (toI (lget S0.tmps 22)) (Cod.dec api_DoorC (lget (entCs (entAt S0.tab 0))))).symm (by kernel_rfl)))
noncomputable def lift_Doors_go {R : Type} (N : Nat) (args : List SV) (T : Tab) (kf : SV × Tab → Option R) : Option R :=
  lift_Doors N (Cod.dec api_DoorC (lget (toCs (lget args 0)))) (lstC intC (lget args 1)) (fun q0 q1 q2 => kf (lget [.tup [.row 0, .int .i64 q0]] 0, [(0, rowE intC q1 q2)]))
noncomputable def lift_Doors_cal {R : Type} (N : Nat) : Cal R := callM (lift_leaf_tick_cal N) 16 0 lift_Doors_sp (lift_Doors_go N)
theorem lift_Doors_cal_ok {R : Type} (N : Nat) : CalOk E.P (lift_Doors_cal (R := R) N) :=
  callM_ok hE (lift_leaf_tick_cal_ok N) (lp := lift_Doors_lp N) (jn := noJn) (keys := [7, 15]) (kCons (lift_Doors_k7 N) (kCons (lift_Doors_k15 N) kNil)) (by kernel_rfl) (js := []) jNil (by kernel_rfl) lift_Doors_sp_ok lift_Doors_rs_ok (fun args T kf => Eq.trans (lift_Doors_def N (Cod.dec api_DoorC (lget (toCs (lget args 0)))) (lstC intC (lget args 1)) (fun q0 q1 q2 => kf (lget [.tup [.row 0, .int .i64 q0]] 0, [(0, rowE intC q1 q2)]))) (by kernel_rfl : lift_Doors_run N args T kf = fnM E (lift_leaf_tick_cal N) (lift_Doors_lp N) (noJn) 16 (lift_Doors_sp.vs args) (lift_Doors_sp.tab T) 0 (resK lift_Doors_rs kf)))


def newelref07_from_m {R : Type} (N : Nat) (a158 : Int) (a159 : Int) (a160 : Int) (k : Bool → Option R) : Option R :=
  bif decide (a158 ≥ a159) then
   k (decide (a158 ≤ a160))
  else
   k false
noncomputable def newelref07_from {R : Type} : Nat → Int → Int → Int → (Bool → Option R) → Option R := lock (@newelref07_from_m R)
theorem newelref07_from_def {R : Type} (N : Nat) (a158 : Int) (a159 : Int) (a160 : Int) (k : Bool → Option R) : newelref07_from N a158 a159 a160 k = newelref07_from_m N a158 a159 a160 k := by unfold newelref07_from; rw [lock_eq]
def newelref07_from_sp : Sp := ⟨[rInt .i64, rInt .i64, rInt .i64], []⟩
theorem newelref07_from_sp_ok : newelref07_from_sp.Ok := ⟨(allCons (rInt_ok .i64) (allCons (rInt_ok .i64) (allCons (rInt_ok .i64) allNil))), eNil⟩
def newelref07_from_rs : Sp := ⟨[rBool], []⟩
theorem newelref07_from_rs_ok : newelref07_from_rs.Ok := ⟨(allCons rBool_ok allNil), eNil⟩
def newelref07_from_run {R : Type} (N : Nat) (args : List SV) (T : Tab) (kf : SV × Tab → Option R) : Option R :=
  newelref07_from_m N (toI (lget args 0)) (toI (lget args 1)) (toI (lget args 2)) (fun q0 => kf (lget [.bool q0] 0, []))
def newelref07_from_lp {R : Type} (N : Nat) : Lp R := fun body S k => Option.none
noncomputable def newelref07_from_go {R : Type} (N : Nat) (args : List SV) (T : Tab) (kf : SV × Tab → Option R) : Option R :=
  newelref07_from N (toI (lget args 0)) (toI (lget args 1)) (toI (lget args 2)) (fun q0 => kf (lget [.bool q0] 0, []))
noncomputable def newelref07_from_cal {R : Type} (N : Nat) : Cal R := callM (lift_Doors_cal N) 52 0 newelref07_from_sp (newelref07_from_go N)
theorem newelref07_from_cal_ok {R : Type} (N : Nat) : CalOk E.P (newelref07_from_cal (R := R) N) :=
  callM_ok hE (lift_Doors_cal_ok N) (lp := newelref07_from_lp N) (jn := noJn) (keys := []) kNil (by kernel_rfl) (js := []) jNil (by kernel_rfl) newelref07_from_sp_ok newelref07_from_rs_ok (fun args T kf => Eq.trans (newelref07_from_def N (toI (lget args 0)) (toI (lget args 1)) (toI (lget args 2)) (fun q0 => kf (lget [.bool q0] 0, []))) (by kernel_rfl : newelref07_from_run N args T kf = fnM E (lift_Doors_cal N) (newelref07_from_lp N) (noJn) 52 (newelref07_from_sp.vs args) (newelref07_from_sp.tab T) 0 (resK newelref07_from_rs kf)))


def newelref07_CheckCar_m {R : Type} (N : Nat) (a157 : api_Car) (k : Int → Option R) : Option R :=
  bif decide (api_Car.Low a157 < (0 : Int)) then
   k (70 : Int)
  else
   newelref07_from N (api_Car.Start a157) (api_Car.Low a157) (api_Car.High a157) (fun r161 =>
   bif !r161 then
    k (70 : Int)
   else
    bif decide (api_Car.High a157 > (5 : Int)) then
     k (70 : Int)
    else
     newelref07_from N (api_Car.Move a157) (1 : Int) (3 : Int) (fun r162 =>
     bif !r162 then
      k (70 : Int)
     else
      newelref07_from N (api_Car.Stop a157) (1 : Int) (4 : Int) (fun r163 =>
      bif !r163 then
       k (70 : Int)
      else
       k (0 : Int))))
noncomputable def newelref07_CheckCar {R : Type} : Nat → api_Car → (Int → Option R) → Option R := lock (@newelref07_CheckCar_m R)
theorem newelref07_CheckCar_def {R : Type} (N : Nat) (a157 : api_Car) (k : Int → Option R) : newelref07_CheckCar N a157 k = newelref07_CheckCar_m N a157 k := by unfold newelref07_CheckCar; rw [lock_eq]
def newelref07_CheckCar_sp : Sp := ⟨[rAgg api_CarC], []⟩
theorem newelref07_CheckCar_sp_ok : newelref07_CheckCar_sp.Ok := ⟨(allCons (rAgg_ok api_CarC_ok api_CarC_len) allNil), eNil⟩
def newelref07_CheckCar_rs : Sp := ⟨[rInt .i64], []⟩
theorem newelref07_CheckCar_rs_ok : newelref07_CheckCar_rs.Ok := ⟨(allCons (rInt_ok .i64) allNil), eNil⟩
def newelref07_CheckCar_run {R : Type} (N : Nat) (args : List SV) (T : Tab) (kf : SV × Tab → Option R) : Option R :=
  newelref07_CheckCar_m N (Cod.dec api_CarC (lget (toCs (lget args 0)))) (fun q0 => kf (lget [.int .i64 q0] 0, []))
def newelref07_CheckCar_lp {R : Type} (N : Nat) : Lp R := fun body S k => Option.none
noncomputable def newelref07_CheckCar_go {R : Type} (N : Nat) (args : List SV) (T : Tab) (kf : SV × Tab → Option R) : Option R :=
  newelref07_CheckCar N (Cod.dec api_CarC (lget (toCs (lget args 0)))) (fun q0 => kf (lget [.int .i64 q0] 0, []))
noncomputable def newelref07_CheckCar_cal {R : Type} (N : Nat) : Cal R := callM (newelref07_from_cal N) 17 0 newelref07_CheckCar_sp (newelref07_CheckCar_go N)
theorem newelref07_CheckCar_cal_ok {R : Type} (N : Nat) : CalOk E.P (newelref07_CheckCar_cal (R := R) N) :=
  callM_ok hE (newelref07_from_cal_ok N) (lp := newelref07_CheckCar_lp N) (jn := noJn) (keys := []) kNil (by kernel_rfl) (js := []) jNil (by kernel_rfl) newelref07_CheckCar_sp_ok newelref07_CheckCar_rs_ok (fun args T kf => Eq.trans (newelref07_CheckCar_def N (Cod.dec api_CarC (lget (toCs (lget args 0)))) (fun q0 => kf (lget [.int .i64 q0] 0, []))) (by kernel_rfl : newelref07_CheckCar_run N args T kf = fnM E (newelref07_from_cal N) (newelref07_CheckCar_lp N) (noJn) 17 (newelref07_CheckCar_sp.vs args) (newelref07_CheckCar_sp.tab T) 0 (resK newelref07_CheckCar_rs kf)))


def calls_within_m {R : Type} (N : Nat) (a169 : Int) (a170 : Int) (a171 : Int) (k : Bool → Option R) : Option R :=
  bif decide (a169 ≥ a170) then
   k (decide (a169 ≤ a171))
  else
   k false
noncomputable def calls_within {R : Type} : Nat → Int → Int → Int → (Bool → Option R) → Option R := lock (@calls_within_m R)
theorem calls_within_def {R : Type} (N : Nat) (a169 : Int) (a170 : Int) (a171 : Int) (k : Bool → Option R) : calls_within N a169 a170 a171 k = calls_within_m N a169 a170 a171 k := by unfold calls_within; rw [lock_eq]
def calls_within_sp : Sp := ⟨[rInt .i64, rInt .i64, rInt .i64], []⟩
theorem calls_within_sp_ok : calls_within_sp.Ok := ⟨(allCons (rInt_ok .i64) (allCons (rInt_ok .i64) (allCons (rInt_ok .i64) allNil))), eNil⟩
def calls_within_rs : Sp := ⟨[rBool], []⟩
theorem calls_within_rs_ok : calls_within_rs.Ok := ⟨(allCons rBool_ok allNil), eNil⟩
def calls_within_run {R : Type} (N : Nat) (args : List SV) (T : Tab) (kf : SV × Tab → Option R) : Option R :=
  calls_within_m N (toI (lget args 0)) (toI (lget args 1)) (toI (lget args 2)) (fun q0 => kf (lget [.bool q0] 0, []))
def calls_within_lp {R : Type} (N : Nat) : Lp R := fun body S k => Option.none
noncomputable def calls_within_go {R : Type} (N : Nat) (args : List SV) (T : Tab) (kf : SV × Tab → Option R) : Option R :=
  calls_within N (toI (lget args 0)) (toI (lget args 1)) (toI (lget args 2)) (fun q0 => kf (lget [.bool q0] 0, []))
noncomputable def calls_within_cal {R : Type} (N : Nat) : Cal R := callM (newelref07_CheckCar_cal N) 82 0 calls_within_sp (calls_within_go N)
theorem calls_within_cal_ok {R : Type} (N : Nat) : CalOk E.P (calls_within_cal (R := R) N) :=
  callM_ok hE (newelref07_CheckCar_cal_ok N) (lp := calls_within_lp N) (jn := noJn) (keys := []) kNil (by kernel_rfl) (js := []) jNil (by kernel_rfl) calls_within_sp_ok calls_within_rs_ok (fun args T kf => Eq.trans (calls_within_def N (toI (lget args 0)) (toI (lget args 1)) (toI (lget args 2)) (fun q0 => kf (lget [.bool q0] 0, []))) (by kernel_rfl : calls_within_run N args T kf = fnM E (newelref07_CheckCar_cal N) (calls_within_lp N) (noJn) 82 (calls_within_sp.vs args) (calls_within_sp.tab T) 0 (resK calls_within_rs kf)))


def calls_valid_m {R : Type} (N : Nat) (a168 : api_Car) (k : Bool → Option R) : Option R :=
  calls_within N (api_Car.Start a168) (api_Car.Low a168) (api_Car.High a168) (fun r172 =>
  bif r172 then
   bif decide (api_Car.Low a168 ≥ (0 : Int)) then
    bif decide (api_Car.High a168 ≤ (5 : Int)) then
     calls_within N (api_Car.Move a168) (1 : Int) (3 : Int) (fun r173 =>
     bif r173 then
      calls_within N (api_Car.Stop a168) (1 : Int) (4 : Int) (fun r174 =>
      k r174)
     else
      k false)
    else
     k false
   else
    k false
  else
   k false)
noncomputable def calls_valid {R : Type} : Nat → api_Car → (Bool → Option R) → Option R := lock (@calls_valid_m R)
theorem calls_valid_def {R : Type} (N : Nat) (a168 : api_Car) (k : Bool → Option R) : calls_valid N a168 k = calls_valid_m N a168 k := by unfold calls_valid; rw [lock_eq]
def calls_valid_sp : Sp := ⟨[rAgg api_CarC], []⟩
theorem calls_valid_sp_ok : calls_valid_sp.Ok := ⟨(allCons (rAgg_ok api_CarC_ok api_CarC_len) allNil), eNil⟩
def calls_valid_rs : Sp := ⟨[rBool], []⟩
theorem calls_valid_rs_ok : calls_valid_rs.Ok := ⟨(allCons rBool_ok allNil), eNil⟩
def calls_valid_run {R : Type} (N : Nat) (args : List SV) (T : Tab) (kf : SV × Tab → Option R) : Option R :=
  calls_valid_m N (Cod.dec api_CarC (lget (toCs (lget args 0)))) (fun q0 => kf (lget [.bool q0] 0, []))
def calls_valid_lp {R : Type} (N : Nat) : Lp R := fun body S k => Option.none
noncomputable def calls_valid_go {R : Type} (N : Nat) (args : List SV) (T : Tab) (kf : SV × Tab → Option R) : Option R :=
  calls_valid N (Cod.dec api_CarC (lget (toCs (lget args 0)))) (fun q0 => kf (lget [.bool q0] 0, []))
noncomputable def calls_valid_cal {R : Type} (N : Nat) : Cal R := callM (calls_within_cal N) 99 0 calls_valid_sp (calls_valid_go N)
theorem calls_valid_cal_ok {R : Type} (N : Nat) : CalOk E.P (calls_valid_cal (R := R) N) :=
  callM_ok hE (calls_within_cal_ok N) (lp := calls_valid_lp N) (jn := noJn) (keys := []) kNil (by kernel_rfl) (js := []) jNil (by kernel_rfl) calls_valid_sp_ok calls_valid_rs_ok (fun args T kf => Eq.trans (calls_valid_def N (Cod.dec api_CarC (lget (toCs (lget args 0)))) (fun q0 => kf (lget [.bool q0] 0, []))) (by kernel_rfl : calls_valid_run N args T kf = fnM E (calls_within_cal N) (calls_valid_lp N) (noJn) 99 (calls_valid_sp.vs args) (calls_valid_sp.tab T) 0 (resK calls_valid_rs kf)))


def calls_serves_m {R : Type} (N : Nat) (a166 : api_Car) (a167 : Int) (k : Int → Option R) : Option R :=
  calls_valid N a166 (fun r175 =>
  bif !r175 then
   k (70 : Int)
  else
   calls_within N a167 (api_Car.Low a166) (api_Car.High a166) (fun r176 =>
   bif !r176 then
    k (1 : Int)
   else
    k (0 : Int)))
noncomputable def calls_serves {R : Type} : Nat → api_Car → Int → (Int → Option R) → Option R := lock (@calls_serves_m R)
theorem calls_serves_def {R : Type} (N : Nat) (a166 : api_Car) (a167 : Int) (k : Int → Option R) : calls_serves N a166 a167 k = calls_serves_m N a166 a167 k := by unfold calls_serves; rw [lock_eq]
def calls_serves_sp : Sp := ⟨[rAgg api_CarC, rInt .i64], []⟩
theorem calls_serves_sp_ok : calls_serves_sp.Ok := ⟨(allCons (rAgg_ok api_CarC_ok api_CarC_len) (allCons (rInt_ok .i64) allNil)), eNil⟩
def calls_serves_rs : Sp := ⟨[rInt .i64], []⟩
theorem calls_serves_rs_ok : calls_serves_rs.Ok := ⟨(allCons (rInt_ok .i64) allNil), eNil⟩
def calls_serves_run {R : Type} (N : Nat) (args : List SV) (T : Tab) (kf : SV × Tab → Option R) : Option R :=
  calls_serves_m N (Cod.dec api_CarC (lget (toCs (lget args 0)))) (toI (lget args 1)) (fun q0 => kf (lget [.int .i64 q0] 0, []))
def calls_serves_lp {R : Type} (N : Nat) : Lp R := fun body S k => Option.none
noncomputable def calls_serves_go {R : Type} (N : Nat) (args : List SV) (T : Tab) (kf : SV × Tab → Option R) : Option R :=
  calls_serves N (Cod.dec api_CarC (lget (toCs (lget args 0)))) (toI (lget args 1)) (fun q0 => kf (lget [.int .i64 q0] 0, []))
noncomputable def calls_serves_cal {R : Type} (N : Nat) : Cal R := callM (calls_valid_cal N) 53 0 calls_serves_sp (calls_serves_go N)
theorem calls_serves_cal_ok {R : Type} (N : Nat) : CalOk E.P (calls_serves_cal (R := R) N) :=
  callM_ok hE (calls_valid_cal_ok N) (lp := calls_serves_lp N) (jn := noJn) (keys := []) kNil (by kernel_rfl) (js := []) jNil (by kernel_rfl) calls_serves_sp_ok calls_serves_rs_ok (fun args T kf => Eq.trans (calls_serves_def N (Cod.dec api_CarC (lget (toCs (lget args 0)))) (toI (lget args 1)) (fun q0 => kf (lget [.int .i64 q0] 0, []))) (by kernel_rfl : calls_serves_run N args T kf = fnM E (calls_valid_cal N) (calls_serves_lp N) (noJn) 53 (calls_serves_sp.vs args) (calls_serves_sp.tab T) 0 (resK calls_serves_rs kf)))


def calls_far_m {R : Type} (N : Nat) (a180 : api_Car) (a181 : Int) (k : Int → Bool → Option R) : Option R :=
  k (if w64 (a181 - api_Car.Low a180) > w64 (api_Car.High a180 - a181) then w64 (a181 - api_Car.Low a180) else w64 (api_Car.High a180 - a181)) (decide (w64 (api_Car.High a180 - a181) ≥ w64 (a181 - api_Car.Low a180)))
noncomputable def calls_far {R : Type} : Nat → api_Car → Int → (Int → Bool → Option R) → Option R := lock (@calls_far_m R)
theorem calls_far_def {R : Type} (N : Nat) (a180 : api_Car) (a181 : Int) (k : Int → Bool → Option R) : calls_far N a180 a181 k = calls_far_m N a180 a181 k := by unfold calls_far; rw [lock_eq]
def calls_far_sp : Sp := ⟨[rAgg api_CarC, rInt .i64], []⟩
theorem calls_far_sp_ok : calls_far_sp.Ok := ⟨(allCons (rAgg_ok api_CarC_ok api_CarC_len) (allCons (rInt_ok .i64) allNil)), eNil⟩
def calls_far_rs : Sp := ⟨[rTup [rInt .i64, rBool]], []⟩
theorem calls_far_rs_ok : calls_far_rs.Ok := ⟨(allCons (rTup_ok (allCons (rInt_ok .i64) (allCons rBool_ok allNil))) allNil), eNil⟩
def calls_far_run {R : Type} (N : Nat) (args : List SV) (T : Tab) (kf : SV × Tab → Option R) : Option R :=
  calls_far_m N (Cod.dec api_CarC (lget (toCs (lget args 0)))) (toI (lget args 1)) (fun q0 q1 => kf (lget [.tup [.int .i64 q0, .bool q1]] 0, []))
def calls_far_lp {R : Type} (N : Nat) : Lp R := fun body S k => Option.none
noncomputable def calls_far_go {R : Type} (N : Nat) (args : List SV) (T : Tab) (kf : SV × Tab → Option R) : Option R :=
  calls_far N (Cod.dec api_CarC (lget (toCs (lget args 0)))) (toI (lget args 1)) (fun q0 q1 => kf (lget [.tup [.int .i64 q0, .bool q1]] 0, []))
noncomputable def calls_far_cal {R : Type} (N : Nat) : Cal R := callM (calls_serves_cal N) 100 0 calls_far_sp (calls_far_go N)
theorem calls_far_cal_ok {R : Type} (N : Nat) : CalOk E.P (calls_far_cal (R := R) N) :=
  callM_ok hE (calls_serves_cal_ok N) (lp := calls_far_lp N) (jn := noJn) (keys := []) kNil (by kernel_rfl) (js := []) jNil (by kernel_rfl) calls_far_sp_ok calls_far_rs_ok (fun args T kf => Eq.trans (calls_far_def N (Cod.dec api_CarC (lget (toCs (lget args 0)))) (toI (lget args 1)) (fun q0 q1 => kf (lget [.tup [.int .i64 q0, .bool q1]] 0, []))) (by kernel_rfl : calls_far_run N args T kf = fnM E (calls_serves_cal N) (calls_far_lp N) (noJn) 100 (calls_far_sp.vs args) (calls_far_sp.tab T) 0 (resK calls_far_rs kf)))


def calls_worst_m {R : Type} (N : Nat) (a178 : api_Car) (a179 : Int) (k : Int → Option R) : Option R :=
  calls_far N a178 a179 (fun r182 r183 =>
  bif r182 == (0 : Int) then
   k (0 : Int)
  else
   k (w64 (w64 (w64 ((2 : Int) * r182) * api_Car.Move a178) + w64 (w64 (w64 ((2 : Int) * r182) - (1 : Int)) * api_Car.Stop a178))))
noncomputable def calls_worst {R : Type} : Nat → api_Car → Int → (Int → Option R) → Option R := lock (@calls_worst_m R)
theorem calls_worst_def {R : Type} (N : Nat) (a178 : api_Car) (a179 : Int) (k : Int → Option R) : calls_worst N a178 a179 k = calls_worst_m N a178 a179 k := by unfold calls_worst; rw [lock_eq]
def calls_worst_sp : Sp := ⟨[rAgg api_CarC, rInt .i64], []⟩
theorem calls_worst_sp_ok : calls_worst_sp.Ok := ⟨(allCons (rAgg_ok api_CarC_ok api_CarC_len) (allCons (rInt_ok .i64) allNil)), eNil⟩
def calls_worst_rs : Sp := ⟨[rInt .i64], []⟩
theorem calls_worst_rs_ok : calls_worst_rs.Ok := ⟨(allCons (rInt_ok .i64) allNil), eNil⟩
def calls_worst_run {R : Type} (N : Nat) (args : List SV) (T : Tab) (kf : SV × Tab → Option R) : Option R :=
  calls_worst_m N (Cod.dec api_CarC (lget (toCs (lget args 0)))) (toI (lget args 1)) (fun q0 => kf (lget [.int .i64 q0] 0, []))
def calls_worst_lp {R : Type} (N : Nat) : Lp R := fun body S k => Option.none
noncomputable def calls_worst_go {R : Type} (N : Nat) (args : List SV) (T : Tab) (kf : SV × Tab → Option R) : Option R :=
  calls_worst N (Cod.dec api_CarC (lget (toCs (lget args 0)))) (toI (lget args 1)) (fun q0 => kf (lget [.int .i64 q0] 0, []))
noncomputable def calls_worst_cal {R : Type} (N : Nat) : Cal R := callM (calls_far_cal N) 54 0 calls_worst_sp (calls_worst_go N)
theorem calls_worst_cal_ok {R : Type} (N : Nat) : CalOk E.P (calls_worst_cal (R := R) N) :=
  callM_ok hE (calls_far_cal_ok N) (lp := calls_worst_lp N) (jn := noJn) (keys := []) kNil (by kernel_rfl) (js := []) jNil (by kernel_rfl) calls_worst_sp_ok calls_worst_rs_ok (fun args T kf => Eq.trans (calls_worst_def N (Cod.dec api_CarC (lget (toCs (lget args 0)))) (toI (lget args 1)) (fun q0 => kf (lget [.int .i64 q0] 0, []))) (by kernel_rfl : calls_worst_run N args T kf = fnM E (calls_far_cal N) (calls_worst_lp N) (noJn) 54 (calls_worst_sp.vs args) (calls_worst_sp.tab T) 0 (resK calls_worst_rs kf)))


def calls_Worst_m {R : Type} (N : Nat) (a164 : api_Car) (a165 : Int) (k : Int → Int → Option R) : Option R :=
  calls_serves N a164 a165 (fun r177 =>
  bif r177 != (0 : Int) then
   k (0 : Int) r177
  else
   calls_worst N a164 a165 (fun r184 =>
   k r184 (0 : Int)))
noncomputable def calls_Worst {R : Type} : Nat → api_Car → Int → (Int → Int → Option R) → Option R := lock (@calls_Worst_m R)
theorem calls_Worst_def {R : Type} (N : Nat) (a164 : api_Car) (a165 : Int) (k : Int → Int → Option R) : calls_Worst N a164 a165 k = calls_Worst_m N a164 a165 k := by unfold calls_Worst; rw [lock_eq]
def calls_Worst_sp : Sp := ⟨[rAgg api_CarC, rInt .i64], []⟩
theorem calls_Worst_sp_ok : calls_Worst_sp.Ok := ⟨(allCons (rAgg_ok api_CarC_ok api_CarC_len) (allCons (rInt_ok .i64) allNil)), eNil⟩
def calls_Worst_rs : Sp := ⟨[rTup [rInt .i64, rInt .i64]], []⟩
theorem calls_Worst_rs_ok : calls_Worst_rs.Ok := ⟨(allCons (rTup_ok (allCons (rInt_ok .i64) (allCons (rInt_ok .i64) allNil))) allNil), eNil⟩
def calls_Worst_run {R : Type} (N : Nat) (args : List SV) (T : Tab) (kf : SV × Tab → Option R) : Option R :=
  calls_Worst_m N (Cod.dec api_CarC (lget (toCs (lget args 0)))) (toI (lget args 1)) (fun q0 q1 => kf (lget [.tup [.int .i64 q0, .int .i64 q1]] 0, []))
def calls_Worst_lp {R : Type} (N : Nat) : Lp R := fun body S k => Option.none
noncomputable def calls_Worst_go {R : Type} (N : Nat) (args : List SV) (T : Tab) (kf : SV × Tab → Option R) : Option R :=
  calls_Worst N (Cod.dec api_CarC (lget (toCs (lget args 0)))) (toI (lget args 1)) (fun q0 q1 => kf (lget [.tup [.int .i64 q0, .int .i64 q1]] 0, []))
noncomputable def calls_Worst_cal {R : Type} (N : Nat) : Cal R := callM (calls_worst_cal N) 18 0 calls_Worst_sp (calls_Worst_go N)
theorem calls_Worst_cal_ok {R : Type} (N : Nat) : CalOk E.P (calls_Worst_cal (R := R) N) :=
  callM_ok hE (calls_worst_cal_ok N) (lp := calls_Worst_lp N) (jn := noJn) (keys := []) kNil (by kernel_rfl) (js := []) jNil (by kernel_rfl) calls_Worst_sp_ok calls_Worst_rs_ok (fun args T kf => Eq.trans (calls_Worst_def N (Cod.dec api_CarC (lget (toCs (lget args 0)))) (toI (lget args 1)) (fun q0 q1 => kf (lget [.tup [.int .i64 q0, .int .i64 q1]] 0, []))) (by kernel_rfl : calls_Worst_run N args T kf = fnM E (calls_worst_cal N) (calls_Worst_lp N) (noJn) 18 (calls_Worst_sp.vs args) (calls_Worst_sp.tab T) 0 (resK calls_Worst_rs kf)))


def lift_Turn_m {R : Type} (N : Nat) (a185 : api_Lift) (a186 : api_Door) (a187 : Int) (a188 : Int) (a189 : Int) (k : Int → Int → Option R) : Option R :=
  lift_Check N a185 (fun r190 =>
  bif r190 != (0 : Int) then
   k (0 : Int) r190
  else
   lift_checkDoor N a186 (fun r191 =>
   bif r191 != (0 : Int) then
    k (0 : Int) r191
   else
    lift_distance N a185 a187 a188 (fun r192 r193 =>
    bif !r193 then
     k (0 : Int) (1 : Int)
    else
     lift_between N a189 (0 : Int) (20 : Int) (fun r194 =>
     bif !r194 then
      k (0 : Int) (1 : Int)
     else
      lift_trip N a185 r192 (fun r195 r196 =>
      lift_dwell N a186 a189 (fun r197 =>
      k (w64 ((↑(Arr.n r196) : Int) + r197)) (0 : Int)))))))
noncomputable def lift_Turn {R : Type} : Nat → api_Lift → api_Door → Int → Int → Int → (Int → Int → Option R) → Option R := lock (@lift_Turn_m R)
theorem lift_Turn_def {R : Type} (N : Nat) (a185 : api_Lift) (a186 : api_Door) (a187 : Int) (a188 : Int) (a189 : Int) (k : Int → Int → Option R) : lift_Turn N a185 a186 a187 a188 a189 k = lift_Turn_m N a185 a186 a187 a188 a189 k := by unfold lift_Turn; rw [lock_eq]
def lift_Turn_sp : Sp := ⟨[rAgg api_LiftC, rAgg api_DoorC, rInt .i64, rInt .i64, rInt .i64], []⟩
theorem lift_Turn_sp_ok : lift_Turn_sp.Ok := ⟨(allCons (rAgg_ok api_LiftC_ok api_LiftC_len) (allCons (rAgg_ok api_DoorC_ok api_DoorC_len) (allCons (rInt_ok .i64) (allCons (rInt_ok .i64) (allCons (rInt_ok .i64) allNil))))), eNil⟩
def lift_Turn_rs : Sp := ⟨[rTup [rInt .i64, rInt .i64]], []⟩
theorem lift_Turn_rs_ok : lift_Turn_rs.Ok := ⟨(allCons (rTup_ok (allCons (rInt_ok .i64) (allCons (rInt_ok .i64) allNil))) allNil), eNil⟩
def lift_Turn_run {R : Type} (N : Nat) (args : List SV) (T : Tab) (kf : SV × Tab → Option R) : Option R :=
  lift_Turn_m N (Cod.dec api_LiftC (lget (toCs (lget args 0)))) (Cod.dec api_DoorC (lget (toCs (lget args 1)))) (toI (lget args 2)) (toI (lget args 3)) (toI (lget args 4)) (fun q0 q1 => kf (lget [.tup [.int .i64 q0, .int .i64 q1]] 0, []))
def lift_Turn_lp {R : Type} (N : Nat) : Lp R := fun body S k => Option.none
noncomputable def lift_Turn_go {R : Type} (N : Nat) (args : List SV) (T : Tab) (kf : SV × Tab → Option R) : Option R :=
  lift_Turn N (Cod.dec api_LiftC (lget (toCs (lget args 0)))) (Cod.dec api_DoorC (lget (toCs (lget args 1)))) (toI (lget args 2)) (toI (lget args 3)) (toI (lget args 4)) (fun q0 q1 => kf (lget [.tup [.int .i64 q0, .int .i64 q1]] 0, []))
noncomputable def lift_Turn_cal {R : Type} (N : Nat) : Cal R := callM (calls_Worst_cal N) 19 0 lift_Turn_sp (lift_Turn_go N)
theorem lift_Turn_cal_ok {R : Type} (N : Nat) : CalOk E.P (lift_Turn_cal (R := R) N) :=
  callM_ok hE (calls_Worst_cal_ok N) (lp := lift_Turn_lp N) (jn := noJn) (keys := []) kNil (by kernel_rfl) (js := []) jNil (by kernel_rfl) lift_Turn_sp_ok lift_Turn_rs_ok (fun args T kf => Eq.trans (lift_Turn_def N (Cod.dec api_LiftC (lget (toCs (lget args 0)))) (Cod.dec api_DoorC (lget (toCs (lget args 1)))) (toI (lget args 2)) (toI (lget args 3)) (toI (lget args 4)) (fun q0 q1 => kf (lget [.tup [.int .i64 q0, .int .i64 q1]] 0, []))) (by kernel_rfl : lift_Turn_run N args T kf = fnM E (calls_Worst_cal N) (lift_Turn_lp N) (noJn) 19 (lift_Turn_sp.vs args) (lift_Turn_sp.tab T) 0 (resK lift_Turn_rs kf)))



end
end Go.Proofs.Ytpillmoddoccfab
