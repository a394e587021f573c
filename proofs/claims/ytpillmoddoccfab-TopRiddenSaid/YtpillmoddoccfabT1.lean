import Derived.Test.YtpillmoddoccfabWr0
set_option maxRecDepth 100000
set_option maxHeartbeats 0
set_option linter.unusedVariables false
namespace Go.Proofs.Ytpillmoddoccfab
open Go.Sx
noncomputable section
def newellaw05_Far_m {R : Type} (N : Nat) (a0 : api_Lift) (k : Bool → Option R) : Option R :=
  k (decide ((↑(Arr.n (api_Lift.Floors a0)) : Int) > (30 : Int)))
noncomputable def newellaw05_Far {R : Type} : Nat → api_Lift → (Bool → Option R) → Option R := lock (@newellaw05_Far_m R)
theorem newellaw05_Far_def {R : Type} (N : Nat) (a0 : api_Lift) (k : Bool → Option R) : newellaw05_Far N a0 k = newellaw05_Far_m N a0 k := by unfold newellaw05_Far; rw [lock_eq]
def newellaw05_Far_sp : Sp := ⟨[rAgg api_LiftC], []⟩
theorem newellaw05_Far_sp_ok : newellaw05_Far_sp.Ok := ⟨(allCons (rAgg_ok api_LiftC_ok api_LiftC_len) allNil), eNil⟩
def newellaw05_Far_rs : Sp := ⟨[rBool], []⟩
theorem newellaw05_Far_rs_ok : newellaw05_Far_rs.Ok := ⟨(allCons rBool_ok allNil), eNil⟩
def newellaw05_Far_run {R : Type} (N : Nat) (args : List SV) (T : Tab) (kf : SV × Tab → Option R) : Option R :=
  newellaw05_Far_m N (Cod.dec api_LiftC (lget (toCs (lget args 0)))) (fun q0 => kf (lget [.bool q0] 0, []))
def newellaw05_Far_lp {R : Type} (N : Nat) : Lp R := fun body S k => Option.none
noncomputable def newellaw05_Far_go {R : Type} (N : Nat) (args : List SV) (T : Tab) (kf : SV × Tab → Option R) : Option R :=
  newellaw05_Far N (Cod.dec api_LiftC (lget (toCs (lget args 0)))) (fun q0 => kf (lget [.bool q0] 0, []))
noncomputable def newellaw05_Far_cal {R : Type} (N : Nat) : Cal R := callM (noCal E) 8 0 newellaw05_Far_sp (newellaw05_Far_go N)
theorem newellaw05_Far_cal_ok {R : Type} (N : Nat) : CalOk E.P (newellaw05_Far_cal (R := R) N) :=
  callM_ok hE (noCal_ok E) (lp := newellaw05_Far_lp N) (jn := noJn) (keys := []) kNil (by kernel_rfl) (js := []) jNil (by kernel_rfl) newellaw05_Far_sp_ok newellaw05_Far_rs_ok (fun args T kf => Eq.trans (newellaw05_Far_def N (Cod.dec api_LiftC (lget (toCs (lget args 0)))) (fun q0 => kf (lget [.bool q0] 0, []))) (by kernel_rfl : newellaw05_Far_run N args T kf = fnM E (noCal E) (newellaw05_Far_lp N) (noJn) 8 (newellaw05_Far_sp.vs args) (newellaw05_Far_sp.tab T) 0 (resK newellaw05_Far_rs kf)))
def newelref05_within_m {R : Type} (N : Nat) (a2 : Int) (a3 : Int) (a4 : Int) (k : Bool → Option R) : Option R :=
  bif decide (a2 ≥ a3) then
   k (decide (a2 ≤ a4))
  else
   k false
noncomputable def newelref05_within {R : Type} : Nat → Int → Int → Int → (Bool → Option R) → Option R := lock (@newelref05_within_m R)
theorem newelref05_within_def {R : Type} (N : Nat) (a2 : Int) (a3 : Int) (a4 : Int) (k : Bool → Option R) : newelref05_within N a2 a3 a4 k = newelref05_within_m N a2 a3 a4 k := by unfold newelref05_within; rw [lock_eq]
def newelref05_within_sp : Sp := ⟨[rInt .i64, rInt .i64, rInt .i64], []⟩
theorem newelref05_within_sp_ok : newelref05_within_sp.Ok := ⟨(allCons (rInt_ok .i64) (allCons (rInt_ok .i64) (allCons (rInt_ok .i64) allNil))), eNil⟩
def newelref05_within_rs : Sp := ⟨[rBool], []⟩
theorem newelref05_within_rs_ok : newelref05_within_rs.Ok := ⟨(allCons rBool_ok allNil), eNil⟩
def newelref05_within_run {R : Type} (N : Nat) (args : List SV) (T : Tab) (kf : SV × Tab → Option R) : Option R :=
  newelref05_within_m N (toI (lget args 0)) (toI (lget args 1)) (toI (lget args 2)) (fun q0 => kf (lget [.bool q0] 0, []))
def newelref05_within_lp {R : Type} (N : Nat) : Lp R := fun body S k => Option.none
noncomputable def newelref05_within_go {R : Type} (N : Nat) (args : List SV) (T : Tab) (kf : SV × Tab → Option R) : Option R :=
  newelref05_within N (toI (lget args 0)) (toI (lget args 1)) (toI (lget args 2)) (fun q0 => kf (lget [.bool q0] 0, []))
noncomputable def newelref05_within_cal {R : Type} (N : Nat) : Cal R := callM (newellaw05_Far_cal N) 39 0 newelref05_within_sp (newelref05_within_go N)
theorem newelref05_within_cal_ok {R : Type} (N : Nat) : CalOk E.P (newelref05_within_cal (R := R) N) :=
  callM_ok hE (newellaw05_Far_cal_ok N) (lp := newelref05_within_lp N) (jn := noJn) (keys := []) kNil (by kernel_rfl) (js := []) jNil (by kernel_rfl) newelref05_within_sp_ok newelref05_within_rs_ok (fun args T kf => Eq.trans (newelref05_within_def N (toI (lget args 0)) (toI (lget args 1)) (toI (lget args 2)) (fun q0 => kf (lget [.bool q0] 0, []))) (by kernel_rfl : newelref05_within_run N args T kf = fnM E (newellaw05_Far_cal N) (newelref05_within_lp N) (noJn) 39 (newelref05_within_sp.vs args) (newelref05_within_sp.tab T) 0 (resK newelref05_within_rs kf)))
def newelref05_Check_L6 : LoopSp := ⟨⟨[1, 3], ⟨(dr 1 ((rPtr 0 0) :: (dr 1 ((rInt .i64) :: (dr 100 []))))), [(0, eBlkC api_LiftC)]⟩, 1⟩, [(Option.none, ⟨[2], ⟨(dr 2 ((rInt .i64) :: (dr 101 []))), []⟩, 0⟩), (some 0, ⟨[1], ⟨(dr 1 ((rPtr 0 0) :: (dr 102 []))), [(0, eBlkC api_LiftC)]⟩, 1⟩)]⟩
theorem newelref05_Check_L6_ok : newelref05_Check_L6.Ok := ⟨⟨(drCons 1 (allCons (rPtr_ok 0 0) (drCons 1 (allCons (rInt_ok .i64) (drCons 100 allNil))))), (eCons (eBlkC_ok api_LiftC_ok api_LiftC_len) eNil)⟩, (xCons ⟨(drCons 2 (allCons (rInt_ok .i64) (drCons 101 allNil))), eNil⟩ (xCons ⟨(drCons 1 (allCons (rPtr_ok 0 0) (drCons 102 allNil))), (eCons (eBlkC_ok api_LiftC_ok api_LiftC_len) eNil)⟩ xNil))⟩
def newelref05_Check_h6 (v10 : Int) (v11 : api_Lift) : St := ⟨(un 1 ((.ptr 0 0) :: (un 1 ((.int .i64 v10) :: (un 100 []))))), [(0, .blk (Cod.enc api_LiftC v11))], 1⟩
def newelref05_Check_x6_r (q0 : Int) : St := ⟨(un 2 ((.int .i64 q0) :: (un 101 []))), [], 0⟩
def newelref05_Check_x6_0 (v11 : api_Lift) : St := ⟨(un 1 ((.ptr 0 0) :: (un 102 []))), [(0, .blk (Cod.enc api_LiftC v11))], 1⟩
def newelref05_Check_b6 {R : Type} (N : Nat) (rc : Int → api_Lift → Option R) (v10 : Int) (v11 : api_Lift) (kr : Int → Option R) (k0 : Unit → Option R) : Option R :=
  bif decide (v10 < (↑(Arr.n (api_Lift.Floors v11)) : Int)) then
   bif decide ((0 : Int) ≤ v10) && decide (v10 < (↑(Arr.n (api_Lift.Floors v11)) : Int)) then
    bif decide ((0 : Int) ≤ w64 (v10 - (1 : Int))) && decide (w64 (v10 - (1 : Int)) < (↑(Arr.n (api_Lift.Floors v11)) : Int)) then
     bif decide (Arr.f (api_Lift.Floors v11) (Int.toNat v10) ≤ Arr.f (api_Lift.Floors v11) (Int.toNat (w64 (v10 - (1 : Int))))) then
      kr (50 : Int)
     else
      bif decide ((0 : Int) ≤ v10) && decide (v10 < (↑(Arr.n (api_Lift.Floors v11)) : Int)) then
       bif decide (Arr.f (api_Lift.Floors v11) (Int.toNat v10) > (1000 : Int)) then
        kr (50 : Int)
       else
        rc (w64 (v10 + (1 : Int))) v11
      else
       Option.none
    else
     Option.none
   else
    Option.none
  else
   k0 ()
def newelref05_Check_l6 {R : Type} (N : Nat) : Nat → Int → api_Lift → (Int → Option R) → (Unit → Option R) → Option R
  | 0, _, _, _, _ => Option.none
  | n + 1, v10, v11, kr, k0 => newelref05_Check_b6 N (fun v10 v11 => newelref05_Check_l6 N n v10 v11 kr k0) v10 v11 kr k0
def newelref05_Check_m {R : Type} (N : Nat) (a1 : api_Lift) (k : Int → Option R) : Option R :=
  newelref05_within N (api_Lift.Car a1) (1 : Int) (100000 : Int) (fun r5 =>
  bif !r5 then
   k (50 : Int)
  else
   newelref05_within N (api_Lift.Counter a1) (1 : Int) (100000 : Int) (fun r6 =>
   bif !r6 then
    k (50 : Int)
   else
    newelref05_within N (api_Lift.Rated a1) (0 : Int) (100000 : Int) (fun r7 =>
    bif !r7 then
     k (50 : Int)
    else
     newelref05_within N (api_Lift.Rope a1) (0 : Int) (100 : Int) (fun r8 =>
     bif !r8 then
      k (50 : Int)
     else
      newelref05_within N ((↑(Arr.n (api_Lift.Floors a1)) : Int)) (2 : Int) (16 : Int) (fun r9 =>
      bif !r9 then
       k (50 : Int)
      else
       bif decide ((0 : Int) < (↑(Arr.n (api_Lift.Floors a1)) : Int)) then
        bif Arr.f (api_Lift.Floors a1) (Int.toNat (0 : Int)) != (0 : Int) then
         k (50 : Int)
        else
         newelref05_Check_l6 N N (1 : Int) a1 (fun r12 =>
          k r12) (fun (_ : Unit) =>
          newelref05_within N (api_Lift.Den a1) (1 : Int) (api_Lift.Num a1) (fun r13 =>
          bif !r13 then
           k (50 : Int)
          else
           bif decide (api_Lift.Num a1 > (100 : Int)) then
            k (50 : Int)
           else
            newelref05_within N (api_Lift.Speed a1) (1 : Int) (100 : Int) (fun r14 =>
            bif !r14 then
             k (50 : Int)
            else
             newelref05_within N (api_Lift.Accel a1) (1 : Int) (100 : Int) (fun r15 =>
             bif !r15 then
              k (50 : Int)
             else
              newelref05_within N (api_Lift.Over a1) (0 : Int) (1000 : Int) (fun r16 =>
              bif !r16 then
               k (50 : Int)
              else
               newelref05_within N (api_Lift.Stiff a1) (1 : Int) (10000000 : Int) (fun r17 =>
               bif !r17 then
                k (50 : Int)
               else
                newelref05_within N (api_Lift.Level a1) (0 : Int) (1000 : Int) (fun r18 =>
                bif !r18 then
                 k (50 : Int)
                else
                 k (0 : Int))))))))
       else
        Option.none)))))
noncomputable def newelref05_Check {R : Type} : Nat → api_Lift → (Int → Option R) → Option R := lock (@newelref05_Check_m R)
theorem newelref05_Check_def {R : Type} (N : Nat) (a1 : api_Lift) (k : Int → Option R) : newelref05_Check N a1 k = newelref05_Check_m N a1 k := by unfold newelref05_Check; rw [lock_eq]
def newelref05_Check_sp : Sp := ⟨[rAgg api_LiftC], []⟩
theorem newelref05_Check_sp_ok : newelref05_Check_sp.Ok := ⟨(allCons (rAgg_ok api_LiftC_ok api_LiftC_len) allNil), eNil⟩
def newelref05_Check_rs : Sp := ⟨[rInt .i64], []⟩
theorem newelref05_Check_rs_ok : newelref05_Check_rs.Ok := ⟨(allCons (rInt_ok .i64) allNil), eNil⟩
def newelref05_Check_run {R : Type} (N : Nat) (args : List SV) (T : Tab) (kf : SV × Tab → Option R) : Option R :=
  newelref05_Check_m N (Cod.dec api_LiftC (lget (toCs (lget args 0)))) (fun q0 => kf (lget [.int .i64 q0] 0, []))
def newelref05_Check_d6 {R : Type} (N : Nat) (S0 : St) (k : Exit → St → Option R) : Option R :=
  newelref05_Check_l6 N N (toI (lget S0.tmps 3)) (Cod.dec api_LiftC (lget (entCs (entAt S0.tab 0)))) (fun q0 => k .ret (newelref05_Check_x6_r q0)) (fun (_ : Unit) => k (.exit 0) (newelref05_Check_x6_0 (Cod.dec api_LiftC (lget (entCs (entAt S0.tab 0))))))
def newelref05_Check_lp {R : Type} (N : Nat) : Lp R := fun body S k => bif (Go.Sx.keyOf body).getD 0 == 6 then (newelref05_Check_L6.head.raw 0 S (fun S0 => newelref05_Check_d6 N S0 k)) else Option.none
theorem newelref05_Check_l6_eq {R : Type} (N : Nat) (k : Exit → St → Option R) (n : Nat) : ∀ (v0 : Int) (v1 : api_Lift), loopM E.Θ (newelref05_within_cal N) (newelref05_Check_lp N) (noJn) 0 newelref05_Check_L6 (bodyAt E 9 6) n (newelref05_Check_h6 v0 v1) k = newelref05_Check_l6 N n v0 v1 (fun q0 => k .ret (newelref05_Check_x6_r q0)) (fun (_ : Unit) => k (.exit 0) (newelref05_Check_x6_0 v1)) := by
  induction n with
  | zero => intro v0 v1; rfl
  | succ n ih =>
    intro v0 v1
    refine Eq.trans (b := newelref05_Check_b6 N (fun v0 v1 => loopM E.Θ (newelref05_within_cal N) (newelref05_Check_lp N) (noJn) 0 newelref05_Check_L6 (bodyAt E 9 6) n (newelref05_Check_h6 v0 v1) k) v0 v1 (fun q0 => k .ret (newelref05_Check_x6_r q0)) (fun (_ : Unit) => k (.exit 0) (newelref05_Check_x6_0 v1))) (by kernel_rfl) ?_
    have h : (fun (v0 : Int) (v1 : api_Lift) => loopM E.Θ (newelref05_within_cal N) (newelref05_Check_lp N) (noJn) 0 newelref05_Check_L6 (bodyAt E 9 6) n (newelref05_Check_h6 v0 v1) k) = (fun (v0 : Int) (v1 : api_Lift) => newelref05_Check_l6 N n v0 v1 (fun q0 => k .ret (newelref05_Check_x6_r q0)) (fun (_ : Unit) => k (.exit 0) (newelref05_Check_x6_0 v1))) := funext fun v0 => funext fun v1 => ih v0 v1
    rw [h]
    rfl
theorem newelref05_Check_k6 {R : Type} (N : Nat) : LpKey (R := R) E 9 0 (newelref05_Check_lp N) 6 :=
  lpKey_of hE (newelref05_within_cal_ok N) (lp := newelref05_Check_lp N) (jn := noJn) newelref05_Check_L6_ok [] kNil (by kernel_rfl) [] jNil (by kernel_rfl) N fun S k =>
    Eq.trans (b := newelref05_Check_L6.head.raw 0 S (fun S0 => newelref05_Check_d6 N S0 k)) (by kernel_rfl) (congrArg (newelref05_Check_L6.head.raw 0 S) (funext fun S0 => Eq.trans (newelref05_Check_l6_eq N k N (toI (lget S0.tmps 3)) (Cod.dec api_LiftC (lget (entCs (entAt S0.tab 0))))).symm (by kernel_rfl)))
noncomputable def newelref05_Check_go {R : Type} (N : Nat) (args : List SV) (T : Tab) (kf : SV × Tab → Option R) : Option R :=
  newelref05_Check N (Cod.dec api_LiftC (lget (toCs (lget args 0)))) (fun q0 => kf (lget [.int .i64 q0] 0, []))
noncomputable def newelref05_Check_cal {R : Type} (N : Nat) : Cal R := callM (newelref05_within_cal N) 9 0 newelref05_Check_sp (newelref05_Check_go N)
theorem newelref05_Check_cal_ok {R : Type} (N : Nat) : CalOk E.P (newelref05_Check_cal (R := R) N) :=
  callM_ok hE (newelref05_within_cal_ok N) (lp := newelref05_Check_lp N) (jn := noJn) (keys := [6]) (kCons (newelref05_Check_k6 N) kNil) (by kernel_rfl) (js := []) jNil (by kernel_rfl) newelref05_Check_sp_ok newelref05_Check_rs_ok (fun args T kf => Eq.trans (newelref05_Check_def N (Cod.dec api_LiftC (lget (toCs (lget args 0)))) (fun q0 => kf (lget [.int .i64 q0] 0, []))) (by kernel_rfl : newelref05_Check_run N args T kf = fnM E (newelref05_within_cal N) (newelref05_Check_lp N) (noJn) 9 (newelref05_Check_sp.vs args) (newelref05_Check_sp.tab T) 0 (resK newelref05_Check_rs kf)))
def newelref05_CheckDoor_m {R : Type} (N : Nat) (a19 : api_Door) (k : Int → Option R) : Option R :=
  newelref05_within N (api_Door.Wide a19) (1 : Int) (50 : Int) (fun r20 =>
  bif !r20 then
   k (51 : Int)
  else
   newelref05_within N (api_Door.Wait a19) (0 : Int) (200 : Int) (fun r21 =>
   bif !r21 then
    k (51 : Int)
   else
    k (0 : Int)))
noncomputable def newelref05_CheckDoor {R : Type} : Nat → api_Door → (Int → Option R) → Option R := lock (@newelref05_CheckDoor_m R)
theorem newelref05_CheckDoor_def {R : Type} (N : Nat) (a19 : api_Door) (k : Int → Option R) : newelref05_CheckDoor N a19 k = newelref05_CheckDoor_m N a19 k := by unfold newelref05_CheckDoor; rw [lock_eq]
def newelref05_CheckDoor_sp : Sp := ⟨[rAgg api_DoorC], []⟩
theorem newelref05_CheckDoor_sp_ok : newelref05_CheckDoor_sp.Ok := ⟨(allCons (rAgg_ok api_DoorC_ok api_DoorC_len) allNil), eNil⟩
def newelref05_CheckDoor_rs : Sp := ⟨[rInt .i64], []⟩
theorem newelref05_CheckDoor_rs_ok : newelref05_CheckDoor_rs.Ok := ⟨(allCons (rInt_ok .i64) allNil), eNil⟩
def newelref05_CheckDoor_run {R : Type} (N : Nat) (args : List SV) (T : Tab) (kf : SV × Tab → Option R) : Option R :=
  newelref05_CheckDoor_m N (Cod.dec api_DoorC (lget (toCs (lget args 0)))) (fun q0 => kf (lget [.int .i64 q0] 0, []))
def newelref05_CheckDoor_lp {R : Type} (N : Nat) : Lp R := fun body S k => Option.none
noncomputable def newelref05_CheckDoor_go {R : Type} (N : Nat) (args : List SV) (T : Tab) (kf : SV × Tab → Option R) : Option R :=
  newelref05_CheckDoor N (Cod.dec api_DoorC (lget (toCs (lget args 0)))) (fun q0 => kf (lget [.int .i64 q0] 0, []))
noncomputable def newelref05_CheckDoor_cal {R : Type} (N : Nat) : Cal R := callM (newelref05_Check_cal N) 10 0 newelref05_CheckDoor_sp (newelref05_CheckDoor_go N)
theorem newelref05_CheckDoor_cal_ok {R : Type} (N : Nat) : CalOk E.P (newelref05_CheckDoor_cal (R := R) N) :=
  callM_ok hE (newelref05_Check_cal_ok N) (lp := newelref05_CheckDoor_lp N) (jn := noJn) (keys := []) kNil (by kernel_rfl) (js := []) jNil (by kernel_rfl) newelref05_CheckDoor_sp_ok newelref05_CheckDoor_rs_ok (fun args T kf => Eq.trans (newelref05_CheckDoor_def N (Cod.dec api_DoorC (lget (toCs (lget args 0)))) (fun q0 => kf (lget [.int .i64 q0] 0, []))) (by kernel_rfl : newelref05_CheckDoor_run N args T kf = fnM E (newelref05_Check_cal N) (newelref05_CheckDoor_lp N) (noJn) 10 (newelref05_CheckDoor_sp.vs args) (newelref05_CheckDoor_sp.tab T) 0 (resK newelref05_CheckDoor_rs kf)))
def newelref05_Floors_m {R : Type} (N : Nat) (a22 : api_Lift) (a23 : Int) (a24 : Int) (k : Bool → Option R) : Option R :=
  newelref05_within N a23 (0 : Int) (w64 ((↑(Arr.n (api_Lift.Floors a22)) : Int) - (1 : Int))) (fun r25 =>
  bif r25 then
   newelref05_within N a24 (0 : Int) (w64 ((↑(Arr.n (api_Lift.Floors a22)) : Int) - (1 : Int))) (fun r26 =>
   k r26)
  else
   k false)
noncomputable def newelref05_Floors {R : Type} : Nat → api_Lift → Int → Int → (Bool → Option R) → Option R := lock (@newelref05_Floors_m R)
theorem newelref05_Floors_def {R : Type} (N : Nat) (a22 : api_Lift) (a23 : Int) (a24 : Int) (k : Bool → Option R) : newelref05_Floors N a22 a23 a24 k = newelref05_Floors_m N a22 a23 a24 k := by unfold newelref05_Floors; rw [lock_eq]
def newelref05_Floors_sp : Sp := ⟨[rAgg api_LiftC, rInt .i64, rInt .i64], []⟩
theorem newelref05_Floors_sp_ok : newelref05_Floors_sp.Ok := ⟨(allCons (rAgg_ok api_LiftC_ok api_LiftC_len) (allCons (rInt_ok .i64) (allCons (rInt_ok .i64) allNil))), eNil⟩
def newelref05_Floors_rs : Sp := ⟨[rBool], []⟩
theorem newelref05_Floors_rs_ok : newelref05_Floors_rs.Ok := ⟨(allCons rBool_ok allNil), eNil⟩
def newelref05_Floors_run {R : Type} (N : Nat) (args : List SV) (T : Tab) (kf : SV × Tab → Option R) : Option R :=
  newelref05_Floors_m N (Cod.dec api_LiftC (lget (toCs (lget args 0)))) (toI (lget args 1)) (toI (lget args 2)) (fun q0 => kf (lget [.bool q0] 0, []))
def newelref05_Floors_lp {R : Type} (N : Nat) : Lp R := fun body S k => Option.none
noncomputable def newelref05_Floors_go {R : Type} (N : Nat) (args : List SV) (T : Tab) (kf : SV × Tab → Option R) : Option R :=
  newelref05_Floors N (Cod.dec api_LiftC (lget (toCs (lget args 0)))) (toI (lget args 1)) (toI (lget args 2)) (fun q0 => kf (lget [.bool q0] 0, []))
noncomputable def newelref05_Floors_cal {R : Type} (N : Nat) : Cal R := callM (newelref05_CheckDoor_cal N) 11 0 newelref05_Floors_sp (newelref05_Floors_go N)
theorem newelref05_Floors_cal_ok {R : Type} (N : Nat) : CalOk E.P (newelref05_Floors_cal (R := R) N) :=
  callM_ok hE (newelref05_CheckDoor_cal_ok N) (lp := newelref05_Floors_lp N) (jn := noJn) (keys := []) kNil (by kernel_rfl) (js := []) jNil (by kernel_rfl) newelref05_Floors_sp_ok newelref05_Floors_rs_ok (fun args T kf => Eq.trans (newelref05_Floors_def N (Cod.dec api_LiftC (lget (toCs (lget args 0)))) (toI (lget args 1)) (toI (lget args 2)) (fun q0 => kf (lget [.bool q0] 0, []))) (by kernel_rfl : newelref05_Floors_run N args T kf = fnM E (newelref05_CheckDoor_cal N) (newelref05_Floors_lp N) (noJn) 11 (newelref05_Floors_sp.vs args) (newelref05_Floors_sp.tab T) 0 (resK newelref05_Floors_rs kf)))
def newelref05_Breaks_L3 : LoopSp := ⟨⟨[0, 3, 4], ⟨((rSl intC) :: (dr 2 ((rInt .i64) :: (rInt .i64) :: (dr 21 [])))), []⟩, 0⟩, [(Option.none, ⟨[2], ⟨(dr 2 ((rBool) :: (dr 23 []))), []⟩, 0⟩), (some 0, ⟨[0], ⟨((rSl intC) :: (dr 25 [])), []⟩, 0⟩)]⟩
theorem newelref05_Breaks_L3_ok : newelref05_Breaks_L3.Ok := ⟨⟨(allCons (rSl_ok intC_ok) (drCons 2 (allCons (rInt_ok .i64) (allCons (rInt_ok .i64) (drCons 21 allNil))))), eNil⟩, (xCons ⟨(drCons 2 (allCons rBool_ok (drCons 23 allNil))), eNil⟩ (xCons ⟨(allCons (rSl_ok intC_ok) (drCons 25 allNil)), eNil⟩ xNil))⟩
def newelref05_Breaks_h3 (v28 : Arr Int) (v29 : Int) (v30 : Int) : St := ⟨((slC intC v28) :: (un 2 ((.int .i64 v29) :: (.int .i64 v30) :: (un 21 [])))), [], 0⟩
def newelref05_Breaks_x3_r (q0 : Bool) : St := ⟨(un 2 ((.bool q0) :: (un 23 []))), [], 0⟩
def newelref05_Breaks_x3_0 (v28 : Arr Int) : St := ⟨((slC intC v28) :: (un 25 [])), [], 0⟩
def newelref05_Breaks_b3 {R : Type} (N : Nat) (rc : Arr Int → Int → Int → Option R) (v28 : Arr Int) (v29 : Int) (v30 : Int) (kr : Bool → Option R) (k0 : Unit → Option R) : Option R :=
  bif decide (v30 < (↑(Arr.n v28) : Int)) then
   bif decide ((0 : Int) ≤ v30) && decide (v30 < (↑(Arr.n v28) : Int)) then
    newelref05_within N (Arr.f v28 (Int.toNat v30)) (w64 (v29 + (1 : Int))) (100000 : Int) (fun r31 =>
    bif !r31 then
     kr false
    else
     bif decide ((0 : Int) ≤ v30) && decide (v30 < (↑(Arr.n v28) : Int)) then
      rc v28 (Arr.f v28 (Int.toNat v30)) (w64 (v30 + (1 : Int)))
     else
      Option.none)
   else
    Option.none
  else
   k0 ()
def newelref05_Breaks_l3 {R : Type} (N : Nat) : Nat → Arr Int → Int → Int → (Bool → Option R) → (Unit → Option R) → Option R
  | 0, _, _, _, _, _ => Option.none
  | n + 1, v28, v29, v30, kr, k0 => newelref05_Breaks_b3 N (fun v28 v29 v30 => newelref05_Breaks_l3 N n v28 v29 v30 kr k0) v28 v29 v30 kr k0
def newelref05_Breaks_m {R : Type} (N : Nat) (a27 : Arr Int) (k : Bool → Option R) : Option R :=
  newelref05_Breaks_l3 N N a27 (-1 : Int) (0 : Int) (fun r32 =>
   k r32) (fun (_ : Unit) =>
   k (decide ((↑(Arr.n a27) : Int) ≤ (20 : Int))))
noncomputable def newelref05_Breaks {R : Type} : Nat → Arr Int → (Bool → Option R) → Option R := lock (@newelref05_Breaks_m R)
theorem newelref05_Breaks_def {R : Type} (N : Nat) (a27 : Arr Int) (k : Bool → Option R) : newelref05_Breaks N a27 k = newelref05_Breaks_m N a27 k := by unfold newelref05_Breaks; rw [lock_eq]
def newelref05_Breaks_sp : Sp := ⟨[rSl intC], []⟩
theorem newelref05_Breaks_sp_ok : newelref05_Breaks_sp.Ok := ⟨(allCons (rSl_ok intC_ok) allNil), eNil⟩
def newelref05_Breaks_rs : Sp := ⟨[rBool], []⟩
theorem newelref05_Breaks_rs_ok : newelref05_Breaks_rs.Ok := ⟨(allCons rBool_ok allNil), eNil⟩
def newelref05_Breaks_run {R : Type} (N : Nat) (args : List SV) (T : Tab) (kf : SV × Tab → Option R) : Option R :=
  newelref05_Breaks_m N (lstC intC (lget args 0)) (fun q0 => kf (lget [.bool q0] 0, []))
def newelref05_Breaks_d3 {R : Type} (N : Nat) (S0 : St) (k : Exit → St → Option R) : Option R :=
  newelref05_Breaks_l3 N N (lstC intC (lget S0.tmps 0)) (toI (lget S0.tmps 3)) (toI (lget S0.tmps 4)) (fun q0 => k .ret (newelref05_Breaks_x3_r q0)) (fun (_ : Unit) => k (.exit 0) (newelref05_Breaks_x3_0 (lstC intC (lget S0.tmps 0))))
def newelref05_Breaks_lp {R : Type} (N : Nat) : Lp R := fun body S k => bif (Go.Sx.keyOf body).getD 0 == 3 then (newelref05_Breaks_L3.head.raw 0 S (fun S0 => newelref05_Breaks_d3 N S0 k)) else Option.none
theorem newelref05_Breaks_l3_eq {R : Type} (N : Nat) (k : Exit → St → Option R) (n : Nat) : ∀ (v0 : Arr Int) (v1 : Int) (v2 : Int), loopM E.Θ (newelref05_Floors_cal N) (newelref05_Breaks_lp N) (noJn) 0 newelref05_Breaks_L3 (bodyAt E 12 3) n (newelref05_Breaks_h3 v0 v1 v2) k = newelref05_Breaks_l3 N n v0 v1 v2 (fun q0 => k .ret (newelref05_Breaks_x3_r q0)) (fun (_ : Unit) => k (.exit 0) (newelref05_Breaks_x3_0 v0)) := by
  induction n with
  | zero => intro v0 v1 v2; rfl
  | succ n ih =>
    intro v0 v1 v2
    refine Eq.trans (b := newelref05_Breaks_b3 N (fun v0 v1 v2 => loopM E.Θ (newelref05_Floors_cal N) (newelref05_Breaks_lp N) (noJn) 0 newelref05_Breaks_L3 (bodyAt E 12 3) n (newelref05_Breaks_h3 v0 v1 v2) k) v0 v1 v2 (fun q0 => k .ret (newelref05_Breaks_x3_r q0)) (fun (_ : Unit) => k (.exit 0) (newelref05_Breaks_x3_0 v0))) (by kernel_rfl) ?_
    have h : (fun (v0 : Arr Int) (v1 : Int) (v2 : Int) => loopM E.Θ (newelref05_Floors_cal N) (newelref05_Breaks_lp N) (noJn) 0 newelref05_Breaks_L3 (bodyAt E 12 3) n (newelref05_Breaks_h3 v0 v1 v2) k) = (fun (v0 : Arr Int) (v1 : Int) (v2 : Int) => newelref05_Breaks_l3 N n v0 v1 v2 (fun q0 => k .ret (newelref05_Breaks_x3_r q0)) (fun (_ : Unit) => k (.exit 0) (newelref05_Breaks_x3_0 v0))) := funext fun v0 => funext fun v1 => funext fun v2 => ih v0 v1 v2
    rw [h]
    rfl
theorem newelref05_Breaks_k3 {R : Type} (N : Nat) : LpKey (R := R) E 12 0 (newelref05_Breaks_lp N) 3 :=
  lpKey_of hE (newelref05_Floors_cal_ok N) (lp := newelref05_Breaks_lp N) (jn := noJn) newelref05_Breaks_L3_ok [] kNil (by kernel_rfl) [] jNil (by kernel_rfl) N fun S k =>
    Eq.trans (b := newelref05_Breaks_L3.head.raw 0 S (fun S0 => newelref05_Breaks_d3 N S0 k)) (by kernel_rfl) (congrArg (newelref05_Breaks_L3.head.raw 0 S) (funext fun S0 => Eq.trans (newelref05_Breaks_l3_eq N k N (lstC intC (lget S0.tmps 0)) (toI (lget S0.tmps 3)) (toI (lget S0.tmps 4))).symm (by kernel_rfl)))
noncomputable def newelref05_Breaks_go {R : Type} (N : Nat) (args : List SV) (T : Tab) (kf : SV × Tab → Option R) : Option R :=
  newelref05_Breaks N (lstC intC (lget args 0)) (fun q0 => kf (lget [.bool q0] 0, []))
noncomputable def newelref05_Breaks_cal {R : Type} (N : Nat) : Cal R := callM (newelref05_Floors_cal N) 12 0 newelref05_Breaks_sp (newelref05_Breaks_go N)
theorem newelref05_Breaks_cal_ok {R : Type} (N : Nat) : CalOk E.P (newelref05_Breaks_cal (R := R) N) :=
  callM_ok hE (newelref05_Floors_cal_ok N) (lp := newelref05_Breaks_lp N) (jn := noJn) (keys := [3]) (kCons (newelref05_Breaks_k3 N) kNil) (by kernel_rfl) (js := []) jNil (by kernel_rfl) newelref05_Breaks_sp_ok newelref05_Breaks_rs_ok (fun args T kf => Eq.trans (newelref05_Breaks_def N (lstC intC (lget args 0)) (fun q0 => kf (lget [.bool q0] 0, []))) (by kernel_rfl : newelref05_Breaks_run N args T kf = fnM E (newelref05_Floors_cal N) (newelref05_Breaks_lp N) (noJn) 12 (newelref05_Breaks_sp.vs args) (newelref05_Breaks_sp.tab T) 0 (resK newelref05_Breaks_rs kf)))
def lift_between_m {R : Type} (N : Nat) (a37 : Int) (a38 : Int) (a39 : Int) (k : Bool → Option R) : Option R :=
  bif decide (a38 ≤ a37) then
   k (decide (a37 ≤ a39))
  else
   k false
noncomputable def lift_between {R : Type} : Nat → Int → Int → Int → (Bool → Option R) → Option R := lock (@lift_between_m R)
theorem lift_between_def {R : Type} (N : Nat) (a37 : Int) (a38 : Int) (a39 : Int) (k : Bool → Option R) : lift_between N a37 a38 a39 k = lift_between_m N a37 a38 a39 k := by unfold lift_between; rw [lock_eq]
def lift_between_sp : Sp := ⟨[rInt .i64, rInt .i64, rInt .i64], []⟩
theorem lift_between_sp_ok : lift_between_sp.Ok := ⟨(allCons (rInt_ok .i64) (allCons (rInt_ok .i64) (allCons (rInt_ok .i64) allNil))), eNil⟩
def lift_between_rs : Sp := ⟨[rBool], []⟩
theorem lift_between_rs_ok : lift_between_rs.Ok := ⟨(allCons rBool_ok allNil), eNil⟩
def lift_between_run {R : Type} (N : Nat) (args : List SV) (T : Tab) (kf : SV × Tab → Option R) : Option R :=
  lift_between_m N (toI (lget args 0)) (toI (lget args 1)) (toI (lget args 2)) (fun q0 => kf (lget [.bool q0] 0, []))
def lift_between_lp {R : Type} (N : Nat) : Lp R := fun body S k => Option.none
noncomputable def lift_between_go {R : Type} (N : Nat) (args : List SV) (T : Tab) (kf : SV × Tab → Option R) : Option R :=
  lift_between N (toI (lget args 0)) (toI (lget args 1)) (toI (lget args 2)) (fun q0 => kf (lget [.bool q0] 0, []))
noncomputable def lift_between_cal {R : Type} (N : Nat) : Cal R := callM (newelref05_Breaks_cal N) 48 0 lift_between_sp (lift_between_go N)
theorem lift_between_cal_ok {R : Type} (N : Nat) : CalOk E.P (lift_between_cal (R := R) N) :=
  callM_ok hE (newelref05_Breaks_cal_ok N) (lp := lift_between_lp N) (jn := noJn) (keys := []) kNil (by kernel_rfl) (js := []) jNil (by kernel_rfl) lift_between_sp_ok lift_between_rs_ok (fun args T kf => Eq.trans (lift_between_def N (toI (lget args 0)) (toI (lget args 1)) (toI (lget args 2)) (fun q0 => kf (lget [.bool q0] 0, []))) (by kernel_rfl : lift_between_run N args T kf = fnM E (newelref05_Breaks_cal N) (lift_between_lp N) (noJn) 48 (lift_between_sp.vs args) (lift_between_sp.tab T) 0 (resK lift_between_rs kf)))
def lift_Check_L6 : LoopSp := ⟨⟨[1, 52, 53, 54], ⟨(dr 1 ((rPtr 0 0) :: (dr 50 ((rSl intC) :: (rInt .i64) :: (rInt .i64) :: (dr 55 []))))), [(0, eBlkC api_LiftC)]⟩, 1⟩, [(Option.none, ⟨[2], ⟨(dr 2 ((rInt .i64) :: (dr 107 []))), []⟩, 0⟩), (some 0, ⟨[1], ⟨(dr 1 ((rPtr 0 0) :: (dr 108 []))), [(0, eBlkC api_LiftC)]⟩, 1⟩)]⟩
theorem lift_Check_L6_ok : lift_Check_L6.Ok := ⟨⟨(drCons 1 (allCons (rPtr_ok 0 0) (drCons 50 (allCons (rSl_ok intC_ok) (allCons (rInt_ok .i64) (allCons (rInt_ok .i64) (drCons 55 allNil))))))), (eCons (eBlkC_ok api_LiftC_ok api_LiftC_len) eNil)⟩, (xCons ⟨(drCons 2 (allCons (rInt_ok .i64) (drCons 107 allNil))), eNil⟩ (xCons ⟨(drCons 1 (allCons (rPtr_ok 0 0) (drCons 108 allNil))), (eCons (eBlkC_ok api_LiftC_ok api_LiftC_len) eNil)⟩ xNil))⟩
def lift_Check_h6 (v45 : Arr Int) (v46 : Int) (v47 : Int) (v48 : api_Lift) : St := ⟨(un 1 ((.ptr 0 0) :: (un 50 ((slC intC v45) :: (.int .i64 v46) :: (.int .i64 v47) :: (un 55 []))))), [(0, .blk (Cod.enc api_LiftC v48))], 1⟩
def lift_Check_x6_r (q0 : Int) : St := ⟨(un 2 ((.int .i64 q0) :: (un 107 []))), [], 0⟩
def lift_Check_x6_0 (v48 : api_Lift) : St := ⟨(un 1 ((.ptr 0 0) :: (un 108 []))), [(0, .blk (Cod.enc api_LiftC v48))], 1⟩
def lift_Check_b6 {R : Type} (N : Nat) (rc : Arr Int → Int → Int → api_Lift → Option R) (v45 : Arr Int) (v46 : Int) (v47 : Int) (v48 : api_Lift) (kr : Int → Option R) (k0 : Unit → Option R) : Option R :=
  bif decide (v47 < v46) then
   bif decide ((0 : Int) ≤ v47) && decide (v47 < (↑(Arr.n v45) : Int)) then
    bif decide ((0 : Int) ≤ v47) && decide (v47 < (↑(Arr.n (api_Lift.Floors v48)) : Int)) then
     bif decide (Arr.f v45 (Int.toNat v47) ≤ Arr.f (api_Lift.Floors v48) (Int.toNat v47)) then
      kr (50 : Int)
     else
      rc v45 v46 (w64 (v47 + (1 : Int))) v48
    else
     Option.none
   else
    Option.none
  else
   k0 ()
def lift_Check_l6 {R : Type} (N : Nat) : Nat → Arr Int → Int → Int → api_Lift → (Int → Option R) → (Unit → Option R) → Option R
  | 0, _, _, _, _, _, _ => Option.none
  | n + 1, v45, v46, v47, v48, kr, k0 => lift_Check_b6 N (fun v45 v46 v47 v48 => lift_Check_l6 N n v45 v46 v47 v48 kr k0) v45 v46 v47 v48 kr k0
def lift_Check_m {R : Type} (N : Nat) (a36 : api_Lift) (k : Int → Option R) : Option R :=
  lift_between N (api_Lift.Car a36) (1 : Int) (100000 : Int) (fun r40 =>
  bif !r40 then
   k (50 : Int)
  else
   lift_between N (api_Lift.Counter a36) (1 : Int) (100000 : Int) (fun r41 =>
   bif !r41 then
    k (50 : Int)
   else
    lift_between N (api_Lift.Rated a36) (0 : Int) (100000 : Int) (fun r42 =>
    bif !r42 then
     k (50 : Int)
    else
     lift_between N (api_Lift.Rope a36) (0 : Int) (100 : Int) (fun r43 =>
     bif !r43 then
      k (50 : Int)
     else
      lift_between N ((↑(Arr.n (api_Lift.Floors a36)) : Int)) (2 : Int) (16 : Int) (fun r44 =>
      bif !r44 then
       k (50 : Int)
      else
       bif decide ((0 : Int) < (↑(Arr.n (api_Lift.Floors a36)) : Int)) then
        bif Arr.f (api_Lift.Floors a36) (Int.toNat (0 : Int)) != (0 : Int) then
         k (50 : Int)
        else
         bif decide ((0 : Int) ≤ w64 ((↑(Arr.n (api_Lift.Floors a36)) : Int) - (1 : Int))) && decide (w64 ((↑(Arr.n (api_Lift.Floors a36)) : Int) - (1 : Int)) < (↑(Arr.n (api_Lift.Floors a36)) : Int)) then
          bif decide (Arr.f (api_Lift.Floors a36) (Int.toNat (w64 ((↑(Arr.n (api_Lift.Floors a36)) : Int) - (1 : Int)))) > (1000 : Int)) then
           k (50 : Int)
          else
           bif decide ((1 : Int) ≤ (↑(Arr.n (api_Lift.Floors a36)) : Int)) && decide ((↑(Arr.n (api_Lift.Floors a36)) : Int) ≤ (↑(Arr.n (api_Lift.Floors a36)) : Int)) then
            lift_Check_l6 N N (lst intC (Int.toNat (↑(Arr.n (api_Lift.Floors a36)) : Int) - Int.toNat (1 : Int)) fun (i j : Nat) ↦ Cod.cell intC (Arr.f (api_Lift.Floors a36)) (Int.toNat (1 : Int) + i) j) ((↑(Int.toNat (↑(Arr.n (api_Lift.Floors a36)) : Int) - Int.toNat (1 : Int)) : Int)) (0 : Int) a36 (fun r49 =>
             k r49) (fun (_ : Unit) =>
             bif decide (api_Lift.Den a36 < (1 : Int)) then
              k (50 : Int)
             else
              bif decide (api_Lift.Num a36 < api_Lift.Den a36) then
               k (50 : Int)
              else
               bif decide (api_Lift.Num a36 > (100 : Int)) then
                k (50 : Int)
               else
                lift_between N (api_Lift.Speed a36) (1 : Int) (100 : Int) (fun r50 =>
                bif !r50 then
                 k (50 : Int)
                else
                 lift_between N (api_Lift.Accel a36) (1 : Int) (100 : Int) (fun r51 =>
                 bif !r51 then
                  k (50 : Int)
                 else
                  lift_between N (api_Lift.Over a36) (0 : Int) (1000 : Int) (fun r52 =>
                  bif !r52 then
                   k (50 : Int)
                  else
                   lift_between N (api_Lift.Stiff a36) (1 : Int) (10000000 : Int) (fun r53 =>
                   bif !r53 then
                    k (50 : Int)
                   else
                    lift_between N (api_Lift.Level a36) (0 : Int) (1000 : Int) (fun r54 =>
                    bif !r54 then
                     k (50 : Int)
                    else
                     k (0 : Int)))))))
           else
            Option.none
         else
          Option.none
       else
        Option.none)))))
noncomputable def lift_Check {R : Type} : Nat → api_Lift → (Int → Option R) → Option R := lock (@lift_Check_m R)
theorem lift_Check_def {R : Type} (N : Nat) (a36 : api_Lift) (k : Int → Option R) : lift_Check N a36 k = lift_Check_m N a36 k := by unfold lift_Check; rw [lock_eq]
def lift_Check_sp : Sp := ⟨[rAgg api_LiftC], []⟩
theorem lift_Check_sp_ok : lift_Check_sp.Ok := ⟨(allCons (rAgg_ok api_LiftC_ok api_LiftC_len) allNil), eNil⟩
def lift_Check_rs : Sp := ⟨[rInt .i64], []⟩
theorem lift_Check_rs_ok : lift_Check_rs.Ok := ⟨(allCons (rInt_ok .i64) allNil), eNil⟩
def lift_Check_run {R : Type} (N : Nat) (args : List SV) (T : Tab) (kf : SV × Tab → Option R) : Option R :=
  lift_Check_m N (Cod.dec api_LiftC (lget (toCs (lget args 0)))) (fun q0 => kf (lget [.int .i64 q0] 0, []))
def lift_Check_d6 {R : Type} (N : Nat) (S0 : St) (k : Exit → St → Option R) : Option R :=
  lift_Check_l6 N N (lstC intC (lget S0.tmps 52)) (toI (lget S0.tmps 53)) (toI (lget S0.tmps 54)) (Cod.dec api_LiftC (lget (entCs (entAt S0.tab 0)))) (fun q0 => k .ret (lift_Check_x6_r q0)) (fun (_ : Unit) => k (.exit 0) (lift_Check_x6_0 (Cod.dec api_LiftC (lget (entCs (entAt S0.tab 0))))))
def lift_Check_lp {R : Type} (N : Nat) : Lp R := fun body S k => bif (Go.Sx.keyOf body).getD 0 == 6 then (lift_Check_L6.head.raw 0 S (fun S0 => lift_Check_d6 N S0 k)) else Option.none
theorem lift_Check_l6_eq {R : Type} (N : Nat) (k : Exit → St → Option R) (n : Nat) : ∀ (v0 : Arr Int) (v1 : Int) (v2 : Int) (v3 : api_Lift), loopM E.Θ (lift_between_cal N) (lift_Check_lp N) (noJn) 0 lift_Check_L6 (bodyAt E 44 6) n (lift_Check_h6 v0 v1 v2 v3) k = lift_Check_l6 N n v0 v1 v2 v3 (fun q0 => k .ret (lift_Check_x6_r q0)) (fun (_ : Unit) => k (.exit 0) (lift_Check_x6_0 v3)) := by
  induction n with
  | zero => intro v0 v1 v2 v3; rfl
  | succ n ih =>
    intro v0 v1 v2 v3
    refine Eq.trans (b := lift_Check_b6 N (fun v0 v1 v2 v3 => loopM E.Θ (lift_between_cal N) (lift_Check_lp N) (noJn) 0 lift_Check_L6 (bodyAt E 44 6) n (lift_Check_h6 v0 v1 v2 v3) k) v0 v1 v2 v3 (fun q0 => k .ret (lift_Check_x6_r q0)) (fun (_ : Unit) => k (.exit 0) (lift_Check_x6_0 v3))) (by kernel_rfl) ?_
    have h : (fun (v0 : Arr Int) (v1 : Int) (v2 : Int) (v3 : api_Lift) => loopM E.Θ (lift_between_cal N) (lift_Check_lp N) (noJn) 0 lift_Check_L6 (bodyAt E 44 6) n (lift_Check_h6 v0 v1 v2 v3) k) = (fun (v0 : Arr Int) (v1 : Int) (v2 : Int) (v3 : api_Lift) => lift_Check_l6 N n v0 v1 v2 v3 (fun q0 => k .ret (lift_Check_x6_r q0)) (fun (_ : Unit) => k (.exit 0) (lift_Check_x6_0 v3))) := funext fun v0 => funext fun v1 => funext fun v2 => funext fun v3 => ih v0 v1 v2 v3
    rw [h]
    rfl
theorem lift_Check_k6 {R : Type} (N : Nat) : LpKey (R := R) E 44 0 (lift_Check_lp N) 6 :=
  lpKey_of hE (lift_between_cal_ok N) (lp := lift_Check_lp N) (jn := noJn) lift_Check_L6_ok [] kNil (by kernel_rfl) [] jNil (by kernel_rfl) N fun S k =>
    Eq.trans (b := lift_Check_L6.head.raw 0 S (fun S0 => lift_Check_d6 N S0 k)) (by kernel_rfl) (congrArg (lift_Check_L6.head.raw 0 S) (funext fun S0 => Eq.trans (lift_Check_l6_eq N k N (lstC intC (lget S0.tmps 52)) (toI (lget S0.tmps 53)) (toI (lget S0.tmps 54)) (Cod.dec api_LiftC (lget (entCs (entAt S0.tab 0))))).symm (by kernel_rfl)))
noncomputable def lift_Check_go {R : Type} (N : Nat) (args : List SV) (T : Tab) (kf : SV × Tab → Option R) : Option R :=
  lift_Check N (Cod.dec api_LiftC (lget (toCs (lget args 0)))) (fun q0 => kf (lget [.int .i64 q0] 0, []))
noncomputable def lift_Check_cal {R : Type} (N : Nat) : Cal R := callM (lift_between_cal N) 44 0 lift_Check_sp (lift_Check_go N)
theorem lift_Check_cal_ok {R : Type} (N : Nat) : CalOk E.P (lift_Check_cal (R := R) N) :=
  callM_ok hE (lift_between_cal_ok N) (lp := lift_Check_lp N) (jn := noJn) (keys := [6]) (kCons (lift_Check_k6 N) kNil) (by kernel_rfl) (js := []) jNil (by kernel_rfl) lift_Check_sp_ok lift_Check_rs_ok (fun args T kf => Eq.trans (lift_Check_def N (Cod.dec api_LiftC (lget (toCs (lget args 0)))) (fun q0 => kf (lget [.int .i64 q0] 0, []))) (by kernel_rfl : lift_Check_run N args T kf = fnM E (lift_between_cal N) (lift_Check_lp N) (noJn) 44 (lift_Check_sp.vs args) (lift_Check_sp.tab T) 0 (resK lift_Check_rs kf)))
def lift_distance_m {R : Type} (N : Nat) (a56 : api_Lift) (a57 : Int) (a58 : Int) (k : Int → Bool → Option R) : Option R :=
  lift_between N a57 (0 : Int) (w64 ((↑(Arr.n (api_Lift.Floors a56)) : Int) - (1 : Int))) (fun r59 =>
  bif !r59 then
   k (0 : Int) false
  else
   lift_between N a58 (0 : Int) (w64 ((↑(Arr.n (api_Lift.Floors a56)) : Int) - (1 : Int))) (fun r60 =>
   bif !r60 then
    k (0 : Int) false
   else
    bif decide ((0 : Int) ≤ a57) && decide (a57 < (↑(Arr.n (api_Lift.Floors a56)) : Int)) then
     bif decide ((0 : Int) ≤ a58) && decide (a58 < (↑(Arr.n (api_Lift.Floors a56)) : Int)) then
      k (mxI (w64 (Arr.f (api_Lift.Floors a56) (Int.toNat a57) - Arr.f (api_Lift.Floors a56) (Int.toNat a58))) (w64 ((0 : Int) - w64 (Arr.f (api_Lift.Floors a56) (Int.toNat a57) - Arr.f (api_Lift.Floors a56) (Int.toNat a58))))) true
     else
      Option.none
    else
     Option.none))
noncomputable def lift_distance {R : Type} : Nat → api_Lift → Int → Int → (Int → Bool → Option R) → Option R := lock (@lift_distance_m R)
theorem lift_distance_def {R : Type} (N : Nat) (a56 : api_Lift) (a57 : Int) (a58 : Int) (k : Int → Bool → Option R) : lift_distance N a56 a57 a58 k = lift_distance_m N a56 a57 a58 k := by unfold lift_distance; rw [lock_eq]
def lift_distance_sp : Sp := ⟨[rAgg api_LiftC, rInt .i64, rInt .i64], []⟩
theorem lift_distance_sp_ok : lift_distance_sp.Ok := ⟨(allCons (rAgg_ok api_LiftC_ok api_LiftC_len) (allCons (rInt_ok .i64) (allCons (rInt_ok .i64) allNil))), eNil⟩
def lift_distance_rs : Sp := ⟨[rTup [rInt .i64, rBool]], []⟩
theorem lift_distance_rs_ok : lift_distance_rs.Ok := ⟨(allCons (rTup_ok (allCons (rInt_ok .i64) (allCons rBool_ok allNil))) allNil), eNil⟩
def lift_distance_run {R : Type} (N : Nat) (args : List SV) (T : Tab) (kf : SV × Tab → Option R) : Option R :=
  lift_distance_m N (Cod.dec api_LiftC (lget (toCs (lget args 0)))) (toI (lget args 1)) (toI (lget args 2)) (fun q0 q1 => kf (lget [.tup [.int .i64 q0, .bool q1]] 0, []))
def lift_distance_lp {R : Type} (N : Nat) : Lp R := fun body S k => Option.none
noncomputable def lift_distance_go {R : Type} (N : Nat) (args : List SV) (T : Tab) (kf : SV × Tab → Option R) : Option R :=
  lift_distance N (Cod.dec api_LiftC (lget (toCs (lget args 0)))) (toI (lget args 1)) (toI (lget args 2)) (fun q0 q1 => kf (lget [.tup [.int .i64 q0, .bool q1]] 0, []))
noncomputable def lift_distance_cal {R : Type} (N : Nat) : Cal R := callM (lift_Check_cal N) 45 0 lift_distance_sp (lift_distance_go N)
theorem lift_distance_cal_ok {R : Type} (N : Nat) : CalOk E.P (lift_distance_cal (R := R) N) :=
  callM_ok hE (lift_Check_cal_ok N) (lp := lift_distance_lp N) (jn := noJn) (keys := []) kNil (by kernel_rfl) (js := []) jNil (by kernel_rfl) lift_distance_sp_ok lift_distance_rs_ok (fun args T kf => Eq.trans (lift_distance_def N (Cod.dec api_LiftC (lget (toCs (lget args 0)))) (toI (lget args 1)) (toI (lget args 2)) (fun q0 q1 => kf (lget [.tup [.int .i64 q0, .bool q1]] 0, []))) (by kernel_rfl : lift_distance_run N args T kf = fnM E (lift_Check_cal N) (lift_distance_lp N) (noJn) 45 (lift_distance_sp.vs args) (lift_distance_sp.tab T) 0 (resK lift_distance_rs kf)))
def lift_most_L3 : LoopSp := ⟨⟨[1, 2, 3, 7, 8], ⟨(dr 1 ((rInt .i64) :: (rInt .i64) :: (rPtr 0 0) :: (dr 3 ((rInt .i64) :: (rInt .i64) :: (dr 24 []))))), [(0, eBlkC api_LiftC)]⟩, 1⟩, [(some 0, ⟨[7], ⟨(dr 7 ((rInt .i64) :: (dr 25 []))), []⟩, 0⟩)]⟩
theorem lift_most_L3_ok : lift_most_L3.Ok := ⟨⟨(drCons 1 (allCons (rInt_ok .i64) (allCons (rInt_ok .i64) (allCons (rPtr_ok 0 0) (drCons 3 (allCons (rInt_ok .i64) (allCons (rInt_ok .i64) (drCons 24 allNil)))))))), (eCons (eBlkC_ok api_LiftC_ok api_LiftC_len) eNil)⟩, (xCons ⟨(drCons 7 (allCons (rInt_ok .i64) (drCons 25 allNil))), eNil⟩ xNil)⟩
def lift_most_h3 (v71 : Int) (v72 : Int) (v73 : Int) (v74 : Int) (v75 : api_Lift) : St := ⟨(un 1 ((.int .i64 v71) :: (.int .i64 v72) :: (.ptr 0 0) :: (un 3 ((.int .i64 v73) :: (.int .i64 v74) :: (un 24 []))))), [(0, .blk (Cod.enc api_LiftC v75))], 1⟩
def lift_most_x3_0 (q0 : Int) : St := ⟨(un 7 ((.int .i64 q0) :: (un 25 []))), [], 0⟩
def lift_most_b3 {R : Type} (N : Nat) (rc : Int → Int → Int → Int → api_Lift → Option R) (v71 : Int) (v72 : Int) (v73 : Int) (v74 : Int) (v75 : api_Lift) (k0 : Int → Option R) : Option R :=
  bif decide (v74 ≤ v72) then
   rc v71 v72 (w64 (v73 + mnI (mnI (api_Lift.Speed v75) (w64 (v71 + w64 (v74 * api_Lift.Accel v75)))) (w64 (w64 (w64 (v72 - v74) + (1 : Int)) * api_Lift.Accel v75)))) (w64 (v74 + (1 : Int))) v75
  else
   k0 v73
def lift_most_l3 {R : Type} (N : Nat) : Nat → Int → Int → Int → Int → api_Lift → (Int → Option R) → Option R
  | 0, _, _, _, _, _, _ => Option.none
  | n + 1, v71, v72, v73, v74, v75, k0 => lift_most_b3 N (fun v71 v72 v73 v74 v75 => lift_most_l3 N n v71 v72 v73 v74 v75 k0) v71 v72 v73 v74 v75 k0
def lift_most_m {R : Type} (N : Nat) (a68 : api_Lift) (a69 : Int) (a70 : Int) (k : Int → Option R) : Option R :=
  lift_most_l3 N N a69 a70 (0 : Int) (1 : Int) a68 (fun r76 =>
   k r76)
noncomputable def lift_most {R : Type} : Nat → api_Lift → Int → Int → (Int → Option R) → Option R := lock (@lift_most_m R)
theorem lift_most_def {R : Type} (N : Nat) (a68 : api_Lift) (a69 : Int) (a70 : Int) (k : Int → Option R) : lift_most N a68 a69 a70 k = lift_most_m N a68 a69 a70 k := by unfold lift_most; rw [lock_eq]
def lift_most_sp : Sp := ⟨[rAgg api_LiftC, rInt .i64, rInt .i64], []⟩
theorem lift_most_sp_ok : lift_most_sp.Ok := ⟨(allCons (rAgg_ok api_LiftC_ok api_LiftC_len) (allCons (rInt_ok .i64) (allCons (rInt_ok .i64) allNil))), eNil⟩
def lift_most_rs : Sp := ⟨[rInt .i64], []⟩
theorem lift_most_rs_ok : lift_most_rs.Ok := ⟨(allCons (rInt_ok .i64) allNil), eNil⟩
def lift_most_run {R : Type} (N : Nat) (args : List SV) (T : Tab) (kf : SV × Tab → Option R) : Option R :=
  lift_most_m N (Cod.dec api_LiftC (lget (toCs (lget args 0)))) (toI (lget args 1)) (toI (lget args 2)) (fun q0 => kf (lget [.int .i64 q0] 0, []))
def lift_most_d3 {R : Type} (N : Nat) (S0 : St) (k : Exit → St → Option R) : Option R :=
  lift_most_l3 N N (toI (lget S0.tmps 1)) (toI (lget S0.tmps 2)) (toI (lget S0.tmps 7)) (toI (lget S0.tmps 8)) (Cod.dec api_LiftC (lget (entCs (entAt S0.tab 0)))) (fun q0 => k (.exit 0) (lift_most_x3_0 q0))
def lift_most_lp {R : Type} (N : Nat) : Lp R := fun body S k => bif (Go.Sx.keyOf body).getD 0 == 3 then (lift_most_L3.head.raw 0 S (fun S0 => lift_most_d3 N S0 k)) else Option.none
theorem lift_most_l3_eq {R : Type} (N : Nat) (k : Exit → St → Option R) (n : Nat) : ∀ (v0 : Int) (v1 : Int) (v2 : Int) (v3 : Int) (v4 : api_Lift), loopM E.Θ (lift_distance_cal N) (lift_most_lp N) (noJn) 0 lift_most_L3 (bodyAt E 95 3) n (lift_most_h3 v0 v1 v2 v3 v4) k = lift_most_l3 N n v0 v1 v2 v3 v4 (fun q0 => k (.exit 0) (lift_most_x3_0 q0)) := by
  induction n with
  | zero => intro v0 v1 v2 v3 v4; rfl
  | succ n ih =>
    intro v0 v1 v2 v3 v4
    refine Eq.trans (b := lift_most_b3 N (fun v0 v1 v2 v3 v4 => loopM E.Θ (lift_distance_cal N) (lift_most_lp N) (noJn) 0 lift_most_L3 (bodyAt E 95 3) n (lift_most_h3 v0 v1 v2 v3 v4) k) v0 v1 v2 v3 v4 (fun q0 => k (.exit 0) (lift_most_x3_0 q0))) (by kernel_rfl) ?_
    have h : (fun (v0 : Int) (v1 : Int) (v2 : Int) (v3 : Int) (v4 : api_Lift) => loopM E.Θ (lift_distance_cal N) (lift_most_lp N) (noJn) 0 lift_most_L3 (bodyAt E 95 3) n (lift_most_h3 v0 v1 v2 v3 v4) k) = (fun (v0 : Int) (v1 : Int) (v2 : Int) (v3 : Int) (v4 : api_Lift) => lift_most_l3 N n v0 v1 v2 v3 v4 (fun q0 => k (.exit 0) (lift_most_x3_0 q0))) := funext fun v0 => funext fun v1 => funext fun v2 => funext fun v3 => funext fun v4 => ih v0 v1 v2 v3 v4
    rw [h]
    rfl
theorem lift_most_k3 {R : Type} (N : Nat) : LpKey (R := R) E 95 0 (lift_most_lp N) 3 :=
  lpKey_of hE (lift_distance_cal_ok N) (lp := lift_most_lp N) (jn := noJn) lift_most_L3_ok [] kNil (by kernel_rfl) [] jNil (by kernel_rfl) N fun S k =>
    Eq.trans (b := lift_most_L3.head.raw 0 S (fun S0 => lift_most_d3 N S0 k)) (by kernel_rfl) (congrArg (lift_most_L3.head.raw 0 S) (funext fun S0 => Eq.trans (lift_most_l3_eq N k N (toI (lget S0.tmps 1)) (toI (lget S0.tmps 2)) (toI (lget S0.tmps 7)) (toI (lget S0.tmps 8)) (Cod.dec api_LiftC (lget (entCs (entAt S0.tab 0))))).symm (by kernel_rfl)))
noncomputable def lift_most_go {R : Type} (N : Nat) (args : List SV) (T : Tab) (kf : SV × Tab → Option R) : Option R :=
  lift_most N (Cod.dec api_LiftC (lget (toCs (lget args 0)))) (toI (lget args 1)) (toI (lget args 2)) (fun q0 => kf (lget [.int .i64 q0] 0, []))
noncomputable def lift_most_cal {R : Type} (N : Nat) : Cal R := callM (lift_distance_cal N) 95 0 lift_most_sp (lift_most_go N)
theorem lift_most_cal_ok {R : Type} (N : Nat) : CalOk E.P (lift_most_cal (R := R) N) :=
  callM_ok hE (lift_distance_cal_ok N) (lp := lift_most_lp N) (jn := noJn) (keys := [3]) (kCons (lift_most_k3 N) kNil) (by kernel_rfl) (js := []) jNil (by kernel_rfl) lift_most_sp_ok lift_most_rs_ok (fun args T kf => Eq.trans (lift_most_def N (Cod.dec api_LiftC (lget (toCs (lget args 0)))) (toI (lget args 1)) (toI (lget args 2)) (fun q0 => kf (lget [.int .i64 q0] 0, []))) (by kernel_rfl : lift_most_run N args T kf = fnM E (lift_distance_cal N) (lift_most_lp N) (noJn) 95 (lift_most_sp.vs args) (lift_most_sp.tab T) 0 (resK lift_most_rs kf)))
def lift_least_L3 : LoopSp := ⟨⟨[1, 2, 3, 7, 8], ⟨(dr 1 ((rInt .i64) :: (rInt .i64) :: (rPtr 0 0) :: (dr 3 ((rInt .i64) :: (rInt .i64) :: (dr 15 []))))), [(0, eBlkC api_LiftC)]⟩, 1⟩, [(some 0, ⟨[7], ⟨(dr 7 ((rInt .i64) :: (dr 16 []))), []⟩, 0⟩)]⟩
theorem lift_least_L3_ok : lift_least_L3.Ok := ⟨⟨(drCons 1 (allCons (rInt_ok .i64) (allCons (rInt_ok .i64) (allCons (rPtr_ok 0 0) (drCons 3 (allCons (rInt_ok .i64) (allCons (rInt_ok .i64) (drCons 15 allNil)))))))), (eCons (eBlkC_ok api_LiftC_ok api_LiftC_len) eNil)⟩, (xCons ⟨(drCons 7 (allCons (rInt_ok .i64) (drCons 16 allNil))), eNil⟩ xNil)⟩
def lift_least_h3 (v94 : Int) (v95 : Int) (v96 : Int) (v97 : Int) (v98 : api_Lift) : St := ⟨(un 1 ((.int .i64 v94) :: (.int .i64 v95) :: (.ptr 0 0) :: (un 3 ((.int .i64 v96) :: (.int .i64 v97) :: (un 15 []))))), [(0, .blk (Cod.enc api_LiftC v98))], 1⟩
def lift_least_x3_0 (q0 : Int) : St := ⟨(un 7 ((.int .i64 q0) :: (un 16 []))), [], 0⟩
def lift_least_b3 {R : Type} (N : Nat) (rc : Int → Int → Int → Int → api_Lift → Option R) (v94 : Int) (v95 : Int) (v96 : Int) (v97 : Int) (v98 : api_Lift) (k0 : Int → Option R) : Option R :=
  bif decide (v97 ≤ v95) then
   rc v94 v95 (w64 (v96 + mxI (0 : Int) (w64 (v94 - w64 (v97 * api_Lift.Accel v98))))) (w64 (v97 + (1 : Int))) v98
  else
   k0 v96
def lift_least_l3 {R : Type} (N : Nat) : Nat → Int → Int → Int → Int → api_Lift → (Int → Option R) → Option R
  | 0, _, _, _, _, _, _ => Option.none
  | n + 1, v94, v95, v96, v97, v98, k0 => lift_least_b3 N (fun v94 v95 v96 v97 v98 => lift_least_l3 N n v94 v95 v96 v97 v98 k0) v94 v95 v96 v97 v98 k0
def lift_least_m {R : Type} (N : Nat) (a91 : api_Lift) (a92 : Int) (a93 : Int) (k : Int → Option R) : Option R :=
  lift_least_l3 N N a92 a93 (0 : Int) (1 : Int) a91 (fun r99 =>
   k r99)
noncomputable def lift_least {R : Type} : Nat → api_Lift → Int → Int → (Int → Option R) → Option R := lock (@lift_least_m R)
theorem lift_least_def {R : Type} (N : Nat) (a91 : api_Lift) (a92 : Int) (a93 : Int) (k : Int → Option R) : lift_least N a91 a92 a93 k = lift_least_m N a91 a92 a93 k := by unfold lift_least; rw [lock_eq]
def lift_least_sp : Sp := ⟨[rAgg api_LiftC, rInt .i64, rInt .i64], []⟩
theorem lift_least_sp_ok : lift_least_sp.Ok := ⟨(allCons (rAgg_ok api_LiftC_ok api_LiftC_len) (allCons (rInt_ok .i64) (allCons (rInt_ok .i64) allNil))), eNil⟩
def lift_least_rs : Sp := ⟨[rInt .i64], []⟩
theorem lift_least_rs_ok : lift_least_rs.Ok := ⟨(allCons (rInt_ok .i64) allNil), eNil⟩
def lift_least_run {R : Type} (N : Nat) (args : List SV) (T : Tab) (kf : SV × Tab → Option R) : Option R :=
  lift_least_m N (Cod.dec api_LiftC (lget (toCs (lget args 0)))) (toI (lget args 1)) (toI (lget args 2)) (fun q0 => kf (lget [.int .i64 q0] 0, []))
def lift_least_d3 {R : Type} (N : Nat) (S0 : St) (k : Exit → St → Option R) : Option R :=
  lift_least_l3 N N (toI (lget S0.tmps 1)) (toI (lget S0.tmps 2)) (toI (lget S0.tmps 7)) (toI (lget S0.tmps 8)) (Cod.dec api_LiftC (lget (entCs (entAt S0.tab 0)))) (fun q0 => k (.exit 0) (lift_least_x3_0 q0))
def lift_least_lp {R : Type} (N : Nat) : Lp R := fun body S k => bif (Go.Sx.keyOf body).getD 0 == 3 then (lift_least_L3.head.raw 0 S (fun S0 => lift_least_d3 N S0 k)) else Option.none
theorem lift_least_l3_eq {R : Type} (N : Nat) (k : Exit → St → Option R) (n : Nat) : ∀ (v0 : Int) (v1 : Int) (v2 : Int) (v3 : Int) (v4 : api_Lift), loopM E.Θ (lift_most_cal N) (lift_least_lp N) (noJn) 0 lift_least_L3 (bodyAt E 96 3) n (lift_least_h3 v0 v1 v2 v3 v4) k = lift_least_l3 N n v0 v1 v2 v3 v4 (fun q0 => k (.exit 0) (lift_least_x3_0 q0)) := by
  induction n with
  | zero => intro v0 v1 v2 v3 v4; rfl
  | succ n ih =>
    intro v0 v1 v2 v3 v4
    refine Eq.trans (b := lift_least_b3 N (fun v0 v1 v2 v3 v4 => loopM E.Θ (lift_most_cal N) (lift_least_lp N) (noJn) 0 lift_least_L3 (bodyAt E 96 3) n (lift_least_h3 v0 v1 v2 v3 v4) k) v0 v1 v2 v3 v4 (fun q0 => k (.exit 0) (lift_least_x3_0 q0))) (by kernel_rfl) ?_
    have h : (fun (v0 : Int) (v1 : Int) (v2 : Int) (v3 : Int) (v4 : api_Lift) => loopM E.Θ (lift_most_cal N) (lift_least_lp N) (noJn) 0 lift_least_L3 (bodyAt E 96 3) n (lift_least_h3 v0 v1 v2 v3 v4) k) = (fun (v0 : Int) (v1 : Int) (v2 : Int) (v3 : Int) (v4 : api_Lift) => lift_least_l3 N n v0 v1 v2 v3 v4 (fun q0 => k (.exit 0) (lift_least_x3_0 q0))) := funext fun v0 => funext fun v1 => funext fun v2 => funext fun v3 => funext fun v4 => ih v0 v1 v2 v3 v4
    rw [h]
    rfl
theorem lift_least_k3 {R : Type} (N : Nat) : LpKey (R := R) E 96 0 (lift_least_lp N) 3 :=
  lpKey_of hE (lift_most_cal_ok N) (lp := lift_least_lp N) (jn := noJn) lift_least_L3_ok [] kNil (by kernel_rfl) [] jNil (by kernel_rfl) N fun S k =>
    Eq.trans (b := lift_least_L3.head.raw 0 S (fun S0 => lift_least_d3 N S0 k)) (by kernel_rfl) (congrArg (lift_least_L3.head.raw 0 S) (funext fun S0 => Eq.trans (lift_least_l3_eq N k N (toI (lget S0.tmps 1)) (toI (lget S0.tmps 2)) (toI (lget S0.tmps 7)) (toI (lget S0.tmps 8)) (Cod.dec api_LiftC (lget (entCs (entAt S0.tab 0))))).symm (by kernel_rfl)))
noncomputable def lift_least_go {R : Type} (N : Nat) (args : List SV) (T : Tab) (kf : SV × Tab → Option R) : Option R :=
  lift_least N (Cod.dec api_LiftC (lget (toCs (lget args 0)))) (toI (lget args 1)) (toI (lget args 2)) (fun q0 => kf (lget [.int .i64 q0] 0, []))
noncomputable def lift_least_cal {R : Type} (N : Nat) : Cal R := callM (lift_most_cal N) 96 0 lift_least_sp (lift_least_go N)
theorem lift_least_cal_ok {R : Type} (N : Nat) : CalOk E.P (lift_least_cal (R := R) N) :=
  callM_ok hE (lift_most_cal_ok N) (lp := lift_least_lp N) (jn := noJn) (keys := [3]) (kCons (lift_least_k3 N) kNil) (by kernel_rfl) (js := []) jNil (by kernel_rfl) lift_least_sp_ok lift_least_rs_ok (fun args T kf => Eq.trans (lift_least_def N (Cod.dec api_LiftC (lget (toCs (lget args 0)))) (toI (lget args 1)) (toI (lget args 2)) (fun q0 => kf (lget [.int .i64 q0] 0, []))) (by kernel_rfl : lift_least_run N args T kf = fnM E (lift_most_cal N) (lift_least_lp N) (noJn) 96 (lift_least_sp.vs args) (lift_least_sp.tab T) 0 (resK lift_least_rs kf)))
def lift_trip_L2 : LoopSp := ⟨⟨[1, 2, 5], ⟨(dr 1 ((rInt .i64) :: (rPtr 0 0) :: (dr 2 ((rInt .i64) :: (dr 48 []))))), [(0, eBlkC api_LiftC)]⟩, 1⟩, [(some 0, ⟨[1, 2, 5], ⟨(dr 1 ((rInt .i64) :: (rPtr 0 0) :: (dr 2 ((rInt .i64) :: (dr 48 []))))), [(0, eBlkC api_LiftC)]⟩, 1⟩)]⟩
theorem lift_trip_L2_ok : lift_trip_L2.Ok := ⟨⟨(drCons 1 (allCons (rInt_ok .i64) (allCons (rPtr_ok 0 0) (drCons 2 (allCons (rInt_ok .i64) (drCons 48 allNil)))))), (eCons (eBlkC_ok api_LiftC_ok api_LiftC_len) eNil)⟩, (xCons ⟨(drCons 1 (allCons (rInt_ok .i64) (allCons (rPtr_ok 0 0) (drCons 2 (allCons (rInt_ok .i64) (drCons 48 allNil)))))), (eCons (eBlkC_ok api_LiftC_ok api_LiftC_len) eNil)⟩ xNil)⟩
def lift_trip_h2 (v65 : Int) (v66 : Int) (v67 : api_Lift) : St := ⟨(un 1 ((.int .i64 v65) :: (.ptr 0 0) :: (un 2 ((.int .i64 v66) :: (un 48 []))))), [(0, .blk (Cod.enc api_LiftC v67))], 1⟩
def lift_trip_x2_0 (v65 : Int) (v67 : api_Lift) (q1 : Int) : St := ⟨(un 1 ((.int .i64 v65) :: (.ptr 0 0) :: (un 2 ((.int .i64 q1) :: (un 48 []))))), [(0, .blk (Cod.enc api_LiftC v67))], 1⟩
def lift_trip_b2 {R : Type} (N : Nat) (rc : Int → Int → api_Lift → Option R) (v65 : Int) (v66 : Int) (v67 : api_Lift) (k0 : Int → Option R) : Option R :=
  lift_most N v67 (0 : Int) v66 (fun r77 =>
  bif decide (r77 < v65) then
   rc v65 (w64 (v66 + (1 : Int))) v67
  else
   k0 v66)
def lift_trip_l2 {R : Type} (N : Nat) : Nat → Int → Int → api_Lift → (Int → Option R) → Option R
  | 0, _, _, _, _ => Option.none
  | n + 1, v65, v66, v67, k0 => lift_trip_b2 N (fun v65 v66 v67 => lift_trip_l2 N n v65 v66 v67 k0) v65 v66 v67 k0
def lift_trip_L10 : LoopSp := ⟨⟨[1, 2, 6, 8, 9], ⟨(dr 1 ((rInt .i64) :: (rPtr 0 0) :: (dr 3 ((rRow 1) :: (dr 1 ((rInt .i64) :: (rInt .i64) :: (dr 44 []))))))), [(0, eBlkC api_LiftC), (1, eRow intC)]⟩, 2⟩, [(some 4, ⟨[1, 2, 6, 8, 9], ⟨(dr 1 ((rInt .i64) :: (rPtr 0 0) :: (dr 3 ((rRow 1) :: (dr 1 ((rInt .i64) :: (rInt .i64) :: (dr 44 []))))))), [(0, eBlkC api_LiftC), (1, eRow intC)]⟩, 2⟩)]⟩
theorem lift_trip_L10_ok : lift_trip_L10.Ok := ⟨⟨(drCons 1 (allCons (rInt_ok .i64) (allCons (rPtr_ok 0 0) (drCons 3 (allCons (rRow_ok 1) (drCons 1 (allCons (rInt_ok .i64) (allCons (rInt_ok .i64) (drCons 44 allNil))))))))), (eCons (eBlkC_ok api_LiftC_ok api_LiftC_len) (eCons (eRow_ok intC_ok) eNil))⟩, (xCons ⟨(drCons 1 (allCons (rInt_ok .i64) (allCons (rPtr_ok 0 0) (drCons 3 (allCons (rRow_ok 1) (drCons 1 (allCons (rInt_ok .i64) (allCons (rInt_ok .i64) (drCons 44 allNil))))))))), (eCons (eBlkC_ok api_LiftC_ok api_LiftC_len) (eCons (eRow_ok intC_ok) eNil))⟩ xNil)⟩
def lift_trip_h10 (v85 : Int) (v86 : Int) (v87 : Int) (v88 : api_Lift) (v89 : Bool) (v90 : Arr Int) : St := ⟨(un 1 ((.int .i64 v85) :: (.ptr 0 0) :: (un 3 ((.row 1) :: (un 1 ((.int .i64 v86) :: (.int .i64 v87) :: (un 44 []))))))), [(0, .blk (Cod.enc api_LiftC v88)), (1, rowE intC v89 v90)], 2⟩
def lift_trip_x10_4 (v85 : Int) (v86 : Int) (v88 : api_Lift) (v89 : Bool) (v90 : Arr Int) (q2 : Int) : St := ⟨(un 1 ((.int .i64 v85) :: (.ptr 0 0) :: (un 3 ((.row 1) :: (un 1 ((.int .i64 v86) :: (.int .i64 q2) :: (un 44 []))))))), [(0, .blk (Cod.enc api_LiftC v88)), (1, rowE intC v89 v90)], 2⟩
def lift_trip_b10 {R : Type} (N : Nat) (rc : Int → Int → Int → api_Lift → Bool → Arr Int → Option R) (v85 : Int) (v86 : Int) (v87 : Int) (v88 : api_Lift) (v89 : Bool) (v90 : Arr Int) (k4 : Int → Option R) : Option R :=
  lift_least N v88 v87 v86 (fun r100 =>
  bif decide (w64 (v87 + r100) > v85) then
   rc v85 v86 (w64 (v87 - (1 : Int))) v88 v89 v90
  else
   k4 v87)
def lift_trip_l10 {R : Type} (N : Nat) : Nat → Int → Int → Int → api_Lift → Bool → Arr Int → (Int → Option R) → Option R
  | 0, _, _, _, _, _, _, _ => Option.none
  | n + 1, v85, v86, v87, v88, v89, v90, k4 => lift_trip_b10 N (fun v85 v86 v87 v88 v89 v90 => lift_trip_l10 N n v85 v86 v87 v88 v89 v90 k4) v85 v86 v87 v88 v89 v90 k4
def lift_trip_L7 : LoopSp := ⟨⟨[1, 2, 6, 7, 8], ⟨(dr 1 ((rInt .i64) :: (rPtr 0 0) :: (dr 3 ((rRow 1) :: (rInt .i64) :: (rInt .i64) :: (dr 45 []))))), [(0, eBlkC api_LiftC), (1, eRow intC)]⟩, 2⟩, [(some 2, ⟨[6], ⟨(dr 6 ((rRow 0) :: (dr 47 []))), [(0, eRow intC)]⟩, 1⟩)]⟩
theorem lift_trip_L7_ok : lift_trip_L7.Ok := ⟨⟨(drCons 1 (allCons (rInt_ok .i64) (allCons (rPtr_ok 0 0) (drCons 3 (allCons (rRow_ok 1) (allCons (rInt_ok .i64) (allCons (rInt_ok .i64) (drCons 45 allNil)))))))), (eCons (eBlkC_ok api_LiftC_ok api_LiftC_len) (eCons (eRow_ok intC_ok) eNil))⟩, (xCons ⟨(drCons 6 (allCons (rRow_ok 0) (drCons 47 allNil))), (eCons (eRow_ok intC_ok) eNil)⟩ xNil)⟩
def lift_trip_h7 (v79 : Int) (v80 : Int) (v81 : Int) (v82 : api_Lift) (v83 : Bool) (v84 : Arr Int) : St := ⟨(un 1 ((.int .i64 v79) :: (.ptr 0 0) :: (un 3 ((.row 1) :: (.int .i64 v80) :: (.int .i64 v81) :: (un 45 []))))), [(0, .blk (Cod.enc api_LiftC v82)), (1, rowE intC v83 v84)], 2⟩
def lift_trip_x7_2 (q0 : Bool) (q1 : Arr Int) : St := ⟨(un 6 ((.row 0) :: (un 47 []))), [(0, rowE intC q0 q1)], 1⟩
def lift_trip_b7 {R : Type} (N : Nat) (rc : Int → Int → Int → api_Lift → Bool → Arr Int → Option R) (v79 : Int) (v80 : Int) (v81 : Int) (v82 : api_Lift) (v83 : Bool) (v84 : Arr Int) (k2 : Bool → Arr Int → Option R) : Option R :=
  bif decide (v81 ≥ (0 : Int)) then
   lift_trip_l10 N N v79 v81 (mnI (mnI (api_Lift.Speed v82) (w64 (v80 + api_Lift.Accel v82))) (w64 (w64 (v81 + (1 : Int)) * api_Lift.Accel v82))) v82 v83 v84 (fun r101 =>
    bif room (Arr.n v84 + (1 : Nat)) then
     rc (w64 (v79 - r101)) r101 (w64 (v81 - (1 : Int))) v82 false (lst intC (Arr.n v84 + (1 : Nat)) (catC (Arr.n v84) (Cod.cell intC (Arr.f v84)) (litC [SV.int IntKind.i64 (0 : Int)] [[SV.int IntKind.i64 r101]])))
    else
     Option.none)
  else
   k2 v83 v84
def lift_trip_l7 {R : Type} (N : Nat) : Nat → Int → Int → Int → api_Lift → Bool → Arr Int → (Bool → Arr Int → Option R) → Option R
  | 0, _, _, _, _, _, _, _ => Option.none
  | n + 1, v79, v80, v81, v82, v83, v84, k2 => lift_trip_b7 N (fun v79 v80 v81 v82 v83 v84 => lift_trip_l7 N n v79 v80 v81 v82 v83 v84 k2) v79 v80 v81 v82 v83 v84 k2
def lift_trip_m {R : Type} (N : Nat) (a63 : api_Lift) (a64 : Int) (k : Bool → Arr Int → Option R) : Option R :=
  lift_trip_l2 N N a64 (0 : Int) a63 (fun r78 =>
   lift_trip_l7 N N a64 (0 : Int) (w64 (r78 - (1 : Int))) a63 true (lst intC (0 : Nat) (zeroC [SV.int IntKind.i64 (0 : Int)])) (fun r102 r103 =>
    k r102 r103))
noncomputable def lift_trip {R : Type} : Nat → api_Lift → Int → (Bool → Arr Int → Option R) → Option R := lock (@lift_trip_m R)
theorem lift_trip_def {R : Type} (N : Nat) (a63 : api_Lift) (a64 : Int) (k : Bool → Arr Int → Option R) : lift_trip N a63 a64 k = lift_trip_m N a63 a64 k := by unfold lift_trip; rw [lock_eq]
def lift_trip_sp : Sp := ⟨[rAgg api_LiftC, rInt .i64], []⟩
theorem lift_trip_sp_ok : lift_trip_sp.Ok := ⟨(allCons (rAgg_ok api_LiftC_ok api_LiftC_len) (allCons (rInt_ok .i64) allNil)), eNil⟩
def lift_trip_rs : Sp := ⟨[rRow 0], [(0, eRow intC)]⟩
theorem lift_trip_rs_ok : lift_trip_rs.Ok := ⟨(allCons (rRow_ok 0) allNil), (eCons (eRow_ok intC_ok) eNil)⟩
def lift_trip_run {R : Type} (N : Nat) (args : List SV) (T : Tab) (kf : SV × Tab → Option R) : Option R :=
  lift_trip_m N (Cod.dec api_LiftC (lget (toCs (lget args 0)))) (toI (lget args 1)) (fun q0 q1 => kf (lget [.row 0] 0, [(0, rowE intC q0 q1)]))
def lift_trip_d10 {R : Type} (N : Nat) (S0 : St) (k : Exit → St → Option R) : Option R :=
  lift_trip_l10 N N (toI (lget S0.tmps 1)) (toI (lget S0.tmps 8)) (toI (lget S0.tmps 9)) (Cod.dec api_LiftC (lget (entCs (entAt S0.tab 0)))) (entNl (entAt S0.tab 1)) (lst intC (entN (entAt S0.tab 1)) (entC (entAt S0.tab 1))) (fun q2 => k (.exit 4) (lift_trip_x10_4 (toI (lget S0.tmps 1)) (toI (lget S0.tmps 8)) (Cod.dec api_LiftC (lget (entCs (entAt S0.tab 0)))) (entNl (entAt S0.tab 1)) (lst intC (entN (entAt S0.tab 1)) (entC (entAt S0.tab 1))) q2))
def lift_trip_d7 {R : Type} (N : Nat) (S0 : St) (k : Exit → St → Option R) : Option R :=
  lift_trip_l7 N N (toI (lget S0.tmps 1)) (toI (lget S0.tmps 7)) (toI (lget S0.tmps 8)) (Cod.dec api_LiftC (lget (entCs (entAt S0.tab 0)))) (entNl (entAt S0.tab 1)) (lst intC (entN (entAt S0.tab 1)) (entC (entAt S0.tab 1))) (fun q0 q1 => k (.exit 2) (lift_trip_x7_2 q0 q1))
def lift_trip_d2 {R : Type} (N : Nat) (S0 : St) (k : Exit → St → Option R) : Option R :=
  lift_trip_l2 N N (toI (lget S0.tmps 1)) (toI (lget S0.tmps 5)) (Cod.dec api_LiftC (lget (entCs (entAt S0.tab 0)))) (fun q1 => k (.exit 0) (lift_trip_x2_0 (toI (lget S0.tmps 1)) (Cod.dec api_LiftC (lget (entCs (entAt S0.tab 0)))) q1))
def lift_trip_lp {R : Type} (N : Nat) : Lp R := fun body S k => bif (Go.Sx.keyOf body).getD 0 == 2 then (lift_trip_L2.head.raw 0 S (fun S0 => lift_trip_d2 N S0 k)) else bif (Go.Sx.keyOf body).getD 0 == 7 then (lift_trip_L7.head.raw 0 S (fun S0 => lift_trip_d7 N S0 k)) else bif (Go.Sx.keyOf body).getD 0 == 10 then (lift_trip_L10.head.raw 0 S (fun S0 => lift_trip_d10 N S0 k)) else Option.none
theorem lift_trip_l2_eq {R : Type} (N : Nat) (k : Exit → St → Option R) (n : Nat) : ∀ (v0 : Int) (v1 : Int) (v2 : api_Lift), loopM E.Θ (lift_least_cal N) (lift_trip_lp N) (noJn) 0 lift_trip_L2 (bodyAt E 46 2) n (lift_trip_h2 v0 v1 v2) k = lift_trip_l2 N n v0 v1 v2 (fun q1 => k (.exit 0) (lift_trip_x2_0 v0 v2 q1)) := by
  induction n with
  | zero => intro v0 v1 v2; rfl
  | succ n ih =>
    intro v0 v1 v2
    refine Eq.trans (b := lift_trip_b2 N (fun v0 v1 v2 => loopM E.Θ (lift_least_cal N) (lift_trip_lp N) (noJn) 0 lift_trip_L2 (bodyAt E 46 2) n (lift_trip_h2 v0 v1 v2) k) v0 v1 v2 (fun q1 => k (.exit 0) (lift_trip_x2_0 v0 v2 q1))) (by kernel_rfl) ?_
    have h : (fun (v0 : Int) (v1 : Int) (v2 : api_Lift) => loopM E.Θ (lift_least_cal N) (lift_trip_lp N) (noJn) 0 lift_trip_L2 (bodyAt E 46 2) n (lift_trip_h2 v0 v1 v2) k) = (fun (v0 : Int) (v1 : Int) (v2 : api_Lift) => lift_trip_l2 N n v0 v1 v2 (fun q1 => k (.exit 0) (lift_trip_x2_0 v0 v2 q1))) := funext fun v0 => funext fun v1 => funext fun v2 => ih v0 v1 v2
    rw [h]
    rfl
theorem lift_trip_l7_eq {R : Type} (N : Nat) (k : Exit → St → Option R) (n : Nat) : ∀ (v0 : Int) (v1 : Int) (v2 : Int) (v3 : api_Lift) (v4 : Bool) (v5 : Arr Int), loopM E.Θ (lift_least_cal N) (lift_trip_lp N) (noJn) 0 lift_trip_L7 (bodyAt E 46 7) n (lift_trip_h7 v0 v1 v2 v3 v4 v5) k = lift_trip_l7 N n v0 v1 v2 v3 v4 v5 (fun q0 q1 => k (.exit 2) (lift_trip_x7_2 q0 q1)) := by
  induction n with
  | zero => intro v0 v1 v2 v3 v4 v5; rfl
  | succ n ih =>
    intro v0 v1 v2 v3 v4 v5
    refine Eq.trans (b := lift_trip_b7 N (fun v0 v1 v2 v3 v4 v5 => loopM E.Θ (lift_least_cal N) (lift_trip_lp N) (noJn) 0 lift_trip_L7 (bodyAt E 46 7) n (lift_trip_h7 v0 v1 v2 v3 v4 v5) k) v0 v1 v2 v3 v4 v5 (fun q0 q1 => k (.exit 2) (lift_trip_x7_2 q0 q1))) (by kernel_rfl) ?_
    have h : (fun (v0 : Int) (v1 : Int) (v2 : Int) (v3 : api_Lift) (v4 : Bool) (v5 : Arr Int) => loopM E.Θ (lift_least_cal N) (lift_trip_lp N) (noJn) 0 lift_trip_L7 (bodyAt E 46 7) n (lift_trip_h7 v0 v1 v2 v3 v4 v5) k) = (fun (v0 : Int) (v1 : Int) (v2 : Int) (v3 : api_Lift) (v4 : Bool) (v5 : Arr Int) => lift_trip_l7 N n v0 v1 v2 v3 v4 v5 (fun q0 q1 => k (.exit 2) (lift_trip_x7_2 q0 q1))) := funext fun v0 => funext fun v1 => funext fun v2 => funext fun v3 => funext fun v4 => funext fun v5 => ih v0 v1 v2 v3 v4 v5
    rw [h]
    rfl
theorem lift_trip_l10_eq {R : Type} (N : Nat) (k : Exit → St → Option R) (n : Nat) : ∀ (v0 : Int) (v1 : Int) (v2 : Int) (v3 : api_Lift) (v4 : Bool) (v5 : Arr Int), loopM E.Θ (lift_least_cal N) (lift_trip_lp N) (noJn) 0 lift_trip_L10 (bodyAt E 46 10) n (lift_trip_h10 v0 v1 v2 v3 v4 v5) k = lift_trip_l10 N n v0 v1 v2 v3 v4 v5 (fun q2 => k (.exit 4) (lift_trip_x10_4 v0 v1 v3 v4 v5 q2)) := by
  induction n with
  | zero => intro v0 v1 v2 v3 v4 v5; rfl
  | succ n ih =>
    intro v0 v1 v2 v3 v4 v5
    refine Eq.trans (b := lift_trip_b10 N (fun v0 v1 v2 v3 v4 v5 => loopM E.Θ (lift_least_cal N) (lift_trip_lp N) (noJn) 0 lift_trip_L10 (bodyAt E 46 10) n (lift_trip_h10 v0 v1 v2 v3 v4 v5) k) v0 v1 v2 v3 v4 v5 (fun q2 => k (.exit 4) (lift_trip_x10_4 v0 v1 v3 v4 v5 q2))) (by kernel_rfl) ?_
    have h : (fun (v0 : Int) (v1 : Int) (v2 : Int) (v3 : api_Lift) (v4 : Bool) (v5 : Arr Int) => loopM E.Θ (lift_least_cal N) (lift_trip_lp N) (noJn) 0 lift_trip_L10 (bodyAt E 46 10) n (lift_trip_h10 v0 v1 v2 v3 v4 v5) k) = (fun (v0 : Int) (v1 : Int) (v2 : Int) (v3 : api_Lift) (v4 : Bool) (v5 : Arr Int) => lift_trip_l10 N n v0 v1 v2 v3 v4 v5 (fun q2 => k (.exit 4) (lift_trip_x10_4 v0 v1 v3 v4 v5 q2))) := funext fun v0 => funext fun v1 => funext fun v2 => funext fun v3 => funext fun v4 => funext fun v5 => ih v0 v1 v2 v3 v4 v5
    rw [h]
    rfl
theorem lift_trip_k10 {R : Type} (N : Nat) : LpKey (R := R) E 46 0 (lift_trip_lp N) 10 :=
  lpKey_of hE (lift_least_cal_ok N) (lp := lift_trip_lp N) (jn := noJn) lift_trip_L10_ok [] kNil (by kernel_rfl) [] jNil (by kernel_rfl) N fun S k =>
    Eq.trans (b := lift_trip_L10.head.raw 0 S (fun S0 => lift_trip_d10 N S0 k)) (by kernel_rfl) (congrArg (lift_trip_L10.head.raw 0 S) (funext fun S0 => Eq.trans (lift_trip_l10_eq N k N (toI (lget S0.tmps 1)) (toI (lget S0.tmps 8)) (toI (lget S0.tmps 9)) (Cod.dec api_LiftC (lget (entCs (entAt S0.tab 0)))) (entNl (entAt S0.tab 1)) (lst intC (entN (entAt S0.tab 1)) (entC (entAt S0.tab 1)))).symm (by kernel_rfl)))
theorem lift_trip_k2 {R : Type} (N : Nat) : LpKey (R := R) E 46 0 (lift_trip_lp N) 2 :=
  lpKey_of hE (lift_least_cal_ok N) (lp := lift_trip_lp N) (jn := noJn) lift_trip_L2_ok [] kNil (by kernel_rfl) [] jNil (by kernel_rfl) N fun S k =>
    Eq.trans (b := lift_trip_L2.head.raw 0 S (fun S0 => lift_trip_d2 N S0 k)) (by kernel_rfl) (congrArg (lift_trip_L2.head.raw 0 S) (funext fun S0 => Eq.trans (lift_trip_l2_eq N k N (toI (lget S0.tmps 1)) (toI (lget S0.tmps 5)) (Cod.dec api_LiftC (lget (entCs (entAt S0.tab 0))))).symm (by kernel_rfl)))
theorem lift_trip_k7 {R : Type} (N : Nat) : LpKey (R := R) E 46 0 (lift_trip_lp N) 7 :=
  lpKey_of hE (lift_least_cal_ok N) (lp := lift_trip_lp N) (jn := noJn) lift_trip_L7_ok [10] (kCons (lift_trip_k10 N) kNil) (by kernel_rfl) [] jNil (by kernel_rfl) N fun S k =>
    Eq.trans (b := lift_trip_L7.head.raw 0 S (fun S0 => lift_trip_d7 N S0 k)) (by kernel_rfl) (congrArg (lift_trip_L7.head.raw 0 S) (funext fun S0 => Eq.trans (lift_trip_l7_eq N k N (toI (lget S0.tmps 1)) (toI (lget S0.tmps 7)) (toI (lget S0.tmps 8)) (Cod.dec api_LiftC (lget (entCs (entAt S0.tab 0)))) (entNl (entAt S0.tab 1)) (lst intC (entN (entAt S0.tab 1)) (entC (entAt S0.tab 1)))).symm (by kernel_rfl)))
noncomputable def lift_trip_go {R : Type} (N : Nat) (args : List SV) (T : Tab) (kf : SV × Tab → Option R) : Option R :=
  lift_trip N (Cod.dec api_LiftC (lget (toCs (lget args 0)))) (toI (lget args 1)) (fun q0 q1 => kf (lget [.row 0] 0, [(0, rowE intC q0 q1)]))
noncomputable def lift_trip_cal {R : Type} (N : Nat) : Cal R := callM (lift_least_cal N) 46 0 lift_trip_sp (lift_trip_go N)
theorem lift_trip_cal_ok {R : Type} (N : Nat) : CalOk E.P (lift_trip_cal (R := R) N) :=
  callM_ok hE (lift_least_cal_ok N) (lp := lift_trip_lp N) (jn := noJn) (keys := [2, 7, 10]) (kCons (lift_trip_k2 N) (kCons (lift_trip_k7 N) (kCons (lift_trip_k10 N) kNil))) (by kernel_rfl) (js := []) jNil (by kernel_rfl) lift_trip_sp_ok lift_trip_rs_ok (fun args T kf => Eq.trans (lift_trip_def N (Cod.dec api_LiftC (lget (toCs (lget args 0)))) (toI (lget args 1)) (fun q0 q1 => kf (lget [.row 0] 0, [(0, rowE intC q0 q1)]))) (by kernel_rfl : lift_trip_run N args T kf = fnM E (lift_least_cal N) (lift_trip_lp N) (noJn) 46 (lift_trip_sp.vs args) (lift_trip_sp.tab T) 0 (resK lift_trip_rs kf)))
def lift_Trip_m {R : Type} (N : Nat) (a33 : api_Lift) (a34 : Int) (a35 : Int) (k : Int → Bool → Arr Int → Option R) : Option R :=
  lift_Check N a33 (fun r55 =>
  bif r55 != (0 : Int) then
   k r55 true (lst intC (0 : Nat) (zeroC [SV.int IntKind.i64 (0 : Int)]))
  else
   lift_distance N a33 a34 a35 (fun r61 r62 =>
   bif !r62 then
    k (1 : Int) true (lst intC (0 : Nat) (zeroC [SV.int IntKind.i64 (0 : Int)]))
   else
    lift_trip N a33 r61 (fun r104 r105 =>
    k (0 : Int) r104 r105)))
noncomputable def lift_Trip {R : Type} : Nat → api_Lift → Int → Int → (Int → Bool → Arr Int → Option R) → Option R := lock (@lift_Trip_m R)
theorem lift_Trip_def {R : Type} (N : Nat) (a33 : api_Lift) (a34 : Int) (a35 : Int) (k : Int → Bool → Arr Int → Option R) : lift_Trip N a33 a34 a35 k = lift_Trip_m N a33 a34 a35 k := by unfold lift_Trip; rw [lock_eq]
def lift_Trip_sp : Sp := ⟨[rAgg api_LiftC, rInt .i64, rInt .i64], []⟩
theorem lift_Trip_sp_ok : lift_Trip_sp.Ok := ⟨(allCons (rAgg_ok api_LiftC_ok api_LiftC_len) (allCons (rInt_ok .i64) (allCons (rInt_ok .i64) allNil))), eNil⟩
def lift_Trip_rs : Sp := ⟨[rTup [rRow 0, rInt .i64]], [(0, eRow intC)]⟩
theorem lift_Trip_rs_ok : lift_Trip_rs.Ok := ⟨(allCons (rTup_ok (allCons (rRow_ok 0) (allCons (rInt_ok .i64) allNil))) allNil), (eCons (eRow_ok intC_ok) eNil)⟩
def lift_Trip_run {R : Type} (N : Nat) (args : List SV) (T : Tab) (kf : SV × Tab → Option R) : Option R :=
  lift_Trip_m N (Cod.dec api_LiftC (lget (toCs (lget args 0)))) (toI (lget args 1)) (toI (lget args 2)) (fun q0 q1 q2 => kf (lget [.tup [.row 0, .int .i64 q0]] 0, [(0, rowE intC q1 q2)]))
def lift_Trip_lp {R : Type} (N : Nat) : Lp R := fun body S k => Option.none
noncomputable def lift_Trip_go {R : Type} (N : Nat) (args : List SV) (T : Tab) (kf : SV × Tab → Option R) : Option R :=
  lift_Trip N (Cod.dec api_LiftC (lget (toCs (lget args 0)))) (toI (lget args 1)) (toI (lget args 2)) (fun q0 q1 q2 => kf (lget [.tup [.row 0, .int .i64 q0]] 0, [(0, rowE intC q1 q2)]))
noncomputable def lift_Trip_cal {R : Type} (N : Nat) : Cal R := callM (lift_trip_cal N) 14 0 lift_Trip_sp (lift_Trip_go N)
theorem lift_Trip_cal_ok {R : Type} (N : Nat) : CalOk E.P (lift_Trip_cal (R := R) N) :=
  callM_ok hE (lift_trip_cal_ok N) (lp := lift_Trip_lp N) (jn := noJn) (keys := []) kNil (by kernel_rfl) (js := []) jNil (by kernel_rfl) lift_Trip_sp_ok lift_Trip_rs_ok (fun args T kf => Eq.trans (lift_Trip_def N (Cod.dec api_LiftC (lget (toCs (lget args 0)))) (toI (lget args 1)) (toI (lget args 2)) (fun q0 q1 q2 => kf (lget [.tup [.row 0, .int .i64 q0]] 0, [(0, rowE intC q1 q2)]))) (by kernel_rfl : lift_Trip_run N args T kf = fnM E (lift_trip_cal N) (lift_Trip_lp N) (noJn) 14 (lift_Trip_sp.vs args) (lift_Trip_sp.tab T) 0 (resK lift_Trip_rs kf)))
def lift_checkDoor_m {R : Type} (N : Nat) (a108 : api_Door) (k : Int → Option R) : Option R :=
  lift_between N (api_Door.Wide a108) (1 : Int) (50 : Int) (fun r109 =>
  bif !r109 then
   k (51 : Int)
  else
   lift_between N (api_Door.Wait a108) (0 : Int) (200 : Int) (fun r110 =>
   bif !r110 then
    k (51 : Int)
   else
    k (0 : Int)))
noncomputable def lift_checkDoor {R : Type} : Nat → api_Door → (Int → Option R) → Option R := lock (@lift_checkDoor_m R)
theorem lift_checkDoor_def {R : Type} (N : Nat) (a108 : api_Door) (k : Int → Option R) : lift_checkDoor N a108 k = lift_checkDoor_m N a108 k := by unfold lift_checkDoor; rw [lock_eq]
def lift_checkDoor_sp : Sp := ⟨[rAgg api_DoorC], []⟩
theorem lift_checkDoor_sp_ok : lift_checkDoor_sp.Ok := ⟨(allCons (rAgg_ok api_DoorC_ok api_DoorC_len) allNil), eNil⟩
def lift_checkDoor_rs : Sp := ⟨[rInt .i64], []⟩
theorem lift_checkDoor_rs_ok : lift_checkDoor_rs.Ok := ⟨(allCons (rInt_ok .i64) allNil), eNil⟩
def lift_checkDoor_run {R : Type} (N : Nat) (args : List SV) (T : Tab) (kf : SV × Tab → Option R) : Option R :=
  lift_checkDoor_m N (Cod.dec api_DoorC (lget (toCs (lget args 0)))) (fun q0 => kf (lget [.int .i64 q0] 0, []))
def lift_checkDoor_lp {R : Type} (N : Nat) : Lp R := fun body S k => Option.none
noncomputable def lift_checkDoor_go {R : Type} (N : Nat) (args : List SV) (T : Tab) (kf : SV × Tab → Option R) : Option R :=
  lift_checkDoor N (Cod.dec api_DoorC (lget (toCs (lget args 0)))) (fun q0 => kf (lget [.int .i64 q0] 0, []))
noncomputable def lift_checkDoor_cal {R : Type} (N : Nat) : Cal R := callM (lift_Trip_cal N) 47 0 lift_checkDoor_sp (lift_checkDoor_go N)
theorem lift_checkDoor_cal_ok {R : Type} (N : Nat) : CalOk E.P (lift_checkDoor_cal (R := R) N) :=
  callM_ok hE (lift_Trip_cal_ok N) (lp := lift_checkDoor_lp N) (jn := noJn) (keys := []) kNil (by kernel_rfl) (js := []) jNil (by kernel_rfl) lift_checkDoor_sp_ok lift_checkDoor_rs_ok (fun args T kf => Eq.trans (lift_checkDoor_def N (Cod.dec api_DoorC (lget (toCs (lget args 0)))) (fun q0 => kf (lget [.int .i64 q0] 0, []))) (by kernel_rfl : lift_checkDoor_run N args T kf = fnM E (lift_Trip_cal N) (lift_checkDoor_lp N) (noJn) 47 (lift_checkDoor_sp.vs args) (lift_checkDoor_sp.tab T) 0 (resK lift_checkDoor_rs kf)))
def slices_Index___int_int__L2 : LoopSp := ⟨⟨[0, 1, 7, 8], ⟨((rSl intC) :: (rInt .i64) :: (dr 5 ((rInt .i64) :: (rInt .i64) :: (dr 10 [])))), []⟩, 0⟩, [(Option.none, ⟨[4], ⟨(dr 4 ((rInt .i64) :: (dr 14 []))), []⟩, 0⟩), (some 0, ⟨[], ⟨(dr 19 []), []⟩, 0⟩)]⟩
theorem slices_Index___int_int__L2_ok : slices_Index___int_int__L2.Ok := ⟨⟨(allCons (rSl_ok intC_ok) (allCons (rInt_ok .i64) (drCons 5 (allCons (rInt_ok .i64) (allCons (rInt_ok .i64) (drCons 10 allNil)))))), eNil⟩, (xCons ⟨(drCons 4 (allCons (rInt_ok .i64) (drCons 14 allNil))), eNil⟩ (xCons ⟨(drCons 19 allNil), eNil⟩ xNil))⟩
def slices_Index___int_int__h2 (v130 : Arr Int) (v131 : Int) (v132 : Int) (v133 : Int) : St := ⟨((slC intC v130) :: (.int .i64 v131) :: (un 5 ((.int .i64 v132) :: (.int .i64 v133) :: (un 10 [])))), [], 0⟩
def slices_Index___int_int__x2_r (q0 : Int) : St := ⟨(un 4 ((.int .i64 q0) :: (un 14 []))), [], 0⟩
def slices_Index___int_int__x2_0  : St := ⟨(un 19 []), [], 0⟩
def slices_Index___int_int__b2 {R : Type} (N : Nat) (rc : Arr Int → Int → Int → Int → Option R) (v130 : Arr Int) (v131 : Int) (v132 : Int) (v133 : Int) (kr : Int → Option R) (k0 : Unit → Option R) : Option R :=
  bif decide (v133 < v132) then
   bif decide ((0 : Int) ≤ v133) && decide (v133 < (↑(Arr.n v130) : Int)) then
    bif v131 == Arr.f v130 (Int.toNat v133) then
     kr v133
    else
     rc v130 v131 v132 (w64 (v133 + (1 : Int)))
   else
    Option.none
  else
   k0 ()
def slices_Index___int_int__l2 {R : Type} (N : Nat) : Nat → Arr Int → Int → Int → Int → (Int → Option R) → (Unit → Option R) → Option R
  | 0, _, _, _, _, _, _ => Option.none
  | n + 1, v130, v131, v132, v133, kr, k0 => slices_Index___int_int__b2 N (fun v130 v131 v132 v133 => slices_Index___int_int__l2 N n v130 v131 v132 v133 kr k0) v130 v131 v132 v133 kr k0
def slices_Index___int_int__m {R : Type} (N : Nat) (a128 : Arr Int) (a129 : Int) (k : Int → Option R) : Option R :=
  slices_Index___int_int__l2 N N a128 a129 ((↑(Arr.n a128) : Int)) (0 : Int) (fun r134 =>
   k r134) (fun (_ : Unit) =>
   k (-1 : Int))
noncomputable def slices_Index___int_int_ {R : Type} : Nat → Arr Int → Int → (Int → Option R) → Option R := lock (@slices_Index___int_int__m R)
theorem slices_Index___int_int__def {R : Type} (N : Nat) (a128 : Arr Int) (a129 : Int) (k : Int → Option R) : slices_Index___int_int_ N a128 a129 k = slices_Index___int_int__m N a128 a129 k := by unfold slices_Index___int_int_; rw [lock_eq]
def slices_Index___int_int__sp : Sp := ⟨[rSl intC, rInt .i64], []⟩
theorem slices_Index___int_int__sp_ok : slices_Index___int_int__sp.Ok := ⟨(allCons (rSl_ok intC_ok) (allCons (rInt_ok .i64) allNil)), eNil⟩
def slices_Index___int_int__rs : Sp := ⟨[rInt .i64], []⟩
theorem slices_Index___int_int__rs_ok : slices_Index___int_int__rs.Ok := ⟨(allCons (rInt_ok .i64) allNil), eNil⟩
def slices_Index___int_int__run {R : Type} (N : Nat) (args : List SV) (T : Tab) (kf : SV × Tab → Option R) : Option R :=
  slices_Index___int_int__m N (lstC intC (lget args 0)) (toI (lget args 1)) (fun q0 => kf (lget [.int .i64 q0] 0, []))
def slices_Index___int_int__d2 {R : Type} (N : Nat) (S0 : St) (k : Exit → St → Option R) : Option R :=
  slices_Index___int_int__l2 N N (lstC intC (lget S0.tmps 0)) (toI (lget S0.tmps 1)) (toI (lget S0.tmps 7)) (toI (lget S0.tmps 8)) (fun q0 => k .ret (slices_Index___int_int__x2_r q0)) (fun (_ : Unit) => k (.exit 0) (slices_Index___int_int__x2_0 ))
def slices_Index___int_int__lp {R : Type} (N : Nat) : Lp R := fun body S k => bif (Go.Sx.keyOf body).getD 0 == 2 then (slices_Index___int_int__L2.head.raw 0 S (fun S0 => slices_Index___int_int__d2 N S0 k)) else Option.none
theorem slices_Index___int_int__l2_eq {R : Type} (N : Nat) (k : Exit → St → Option R) (n : Nat) : ∀ (v0 : Arr Int) (v1 : Int) (v2 : Int) (v3 : Int), loopM E.Θ (lift_checkDoor_cal N) (slices_Index___int_int__lp N) (noJn) 0 slices_Index___int_int__L2 (bodyAt E 98 2) n (slices_Index___int_int__h2 v0 v1 v2 v3) k = slices_Index___int_int__l2 N n v0 v1 v2 v3 (fun q0 => k .ret (slices_Index___int_int__x2_r q0)) (fun (_ : Unit) => k (.exit 0) (slices_Index___int_int__x2_0 )) := by
  induction n with
  | zero => intro v0 v1 v2 v3; rfl
  | succ n ih =>
    intro v0 v1 v2 v3
    refine Eq.trans (b := slices_Index___int_int__b2 N (fun v0 v1 v2 v3 => loopM E.Θ (lift_checkDoor_cal N) (slices_Index___int_int__lp N) (noJn) 0 slices_Index___int_int__L2 (bodyAt E 98 2) n (slices_Index___int_int__h2 v0 v1 v2 v3) k) v0 v1 v2 v3 (fun q0 => k .ret (slices_Index___int_int__x2_r q0)) (fun (_ : Unit) => k (.exit 0) (slices_Index___int_int__x2_0 ))) (by kernel_rfl) ?_
    have h : (fun (v0 : Arr Int) (v1 : Int) (v2 : Int) (v3 : Int) => loopM E.Θ (lift_checkDoor_cal N) (slices_Index___int_int__lp N) (noJn) 0 slices_Index___int_int__L2 (bodyAt E 98 2) n (slices_Index___int_int__h2 v0 v1 v2 v3) k) = (fun (v0 : Arr Int) (v1 : Int) (v2 : Int) (v3 : Int) => slices_Index___int_int__l2 N n v0 v1 v2 v3 (fun q0 => k .ret (slices_Index___int_int__x2_r q0)) (fun (_ : Unit) => k (.exit 0) (slices_Index___int_int__x2_0 ))) := funext fun v0 => funext fun v1 => funext fun v2 => funext fun v3 => ih v0 v1 v2 v3
    rw [h]
    rfl
theorem slices_Index___int_int__k2 {R : Type} (N : Nat) : LpKey (R := R) E 98 0 (slices_Index___int_int__lp N) 2 :=
  lpKey_of hE (lift_checkDoor_cal_ok N) (lp := slices_Index___int_int__lp N) (jn := noJn) slices_Index___int_int__L2_ok [] kNil (by kernel_rfl) [] jNil (by kernel_rfl) N fun S k =>
    Eq.trans (b := slices_Index___int_int__L2.head.raw 0 S (fun S0 => slices_Index___int_int__d2 N S0 k)) (by kernel_rfl) (congrArg (slices_Index___int_int__L2.head.raw 0 S) (funext fun S0 => Eq.trans (slices_Index___int_int__l2_eq N k N (lstC intC (lget S0.tmps 0)) (toI (lget S0.tmps 1)) (toI (lget S0.tmps 7)) (toI (lget S0.tmps 8))).symm (by kernel_rfl)))
noncomputable def slices_Index___int_int__go {R : Type} (N : Nat) (args : List SV) (T : Tab) (kf : SV × Tab → Option R) : Option R :=
  slices_Index___int_int_ N (lstC intC (lget args 0)) (toI (lget args 1)) (fun q0 => kf (lget [.int .i64 q0] 0, []))
noncomputable def slices_Index___int_int__cal {R : Type} (N : Nat) : Cal R := callM (lift_checkDoor_cal N) 98 0 slices_Index___int_int__sp (slices_Index___int_int__go N)
theorem slices_Index___int_int__cal_ok {R : Type} (N : Nat) : CalOk E.P (slices_Index___int_int__cal (R := R) N) :=
  callM_ok hE (lift_checkDoor_cal_ok N) (lp := slices_Index___int_int__lp N) (jn := noJn) (keys := [2]) (kCons (slices_Index___int_int__k2 N) kNil) (by kernel_rfl) (js := []) jNil (by kernel_rfl) slices_Index___int_int__sp_ok slices_Index___int_int__rs_ok (fun args T kf => Eq.trans (slices_Index___int_int__def N (lstC intC (lget args 0)) (toI (lget args 1)) (fun q0 => kf (lget [.int .i64 q0] 0, []))) (by kernel_rfl : slices_Index___int_int__run N args T kf = fnM E (lift_checkDoor_cal N) (slices_Index___int_int__lp N) (noJn) 98 (slices_Index___int_int__sp.vs args) (slices_Index___int_int__sp.tab T) 0 (resK slices_Index___int_int__rs kf)))
def slices_Contains___int_int__m {R : Type} (N : Nat) (a126 : Arr Int) (a127 : Int) (k : Bool → Option R) : Option R :=
  slices_Index___int_int_ N a126 a127 (fun r135 =>
  k (decide (r135 ≥ (0 : Int))))
noncomputable def slices_Contains___int_int_ {R : Type} : Nat → Arr Int → Int → (Bool → Option R) → Option R := lock (@slices_Contains___int_int__m R)
theorem slices_Contains___int_int__def {R : Type} (N : Nat) (a126 : Arr Int) (a127 : Int) (k : Bool → Option R) : slices_Contains___int_int_ N a126 a127 k = slices_Contains___int_int__m N a126 a127 k := by unfold slices_Contains___int_int_; rw [lock_eq]
def slices_Contains___int_int__sp : Sp := ⟨[rSl intC, rInt .i64], []⟩
theorem slices_Contains___int_int__sp_ok : slices_Contains___int_int__sp.Ok := ⟨(allCons (rSl_ok intC_ok) (allCons (rInt_ok .i64) allNil)), eNil⟩
def slices_Contains___int_int__rs : Sp := ⟨[rBool], []⟩
theorem slices_Contains___int_int__rs_ok : slices_Contains___int_int__rs.Ok := ⟨(allCons rBool_ok allNil), eNil⟩
def slices_Contains___int_int__run {R : Type} (N : Nat) (args : List SV) (T : Tab) (kf : SV × Tab → Option R) : Option R :=
  slices_Contains___int_int__m N (lstC intC (lget args 0)) (toI (lget args 1)) (fun q0 => kf (lget [.bool q0] 0, []))
def slices_Contains___int_int__lp {R : Type} (N : Nat) : Lp R := fun body S k => Option.none
noncomputable def slices_Contains___int_int__go {R : Type} (N : Nat) (args : List SV) (T : Tab) (kf : SV × Tab → Option R) : Option R :=
  slices_Contains___int_int_ N (lstC intC (lget args 0)) (toI (lget args 1)) (fun q0 => kf (lget [.bool q0] 0, []))
noncomputable def slices_Contains___int_int__cal {R : Type} (N : Nat) : Cal R := callM (slices_Index___int_int__cal N) 51 0 slices_Contains___int_int__sp (slices_Contains___int_int__go N)
theorem slices_Contains___int_int__cal_ok {R : Type} (N : Nat) : CalOk E.P (slices_Contains___int_int__cal (R := R) N) :=
  callM_ok hE (slices_Index___int_int__cal_ok N) (lp := slices_Contains___int_int__lp N) (jn := noJn) (keys := []) kNil (by kernel_rfl) (js := []) jNil (by kernel_rfl) slices_Contains___int_int__sp_ok slices_Contains___int_int__rs_ok (fun args T kf => Eq.trans (slices_Contains___int_int__def N (lstC intC (lget args 0)) (toI (lget args 1)) (fun q0 => kf (lget [.bool q0] 0, []))) (by kernel_rfl : slices_Contains___int_int__run N args T kf = fnM E (slices_Index___int_int__cal N) (slices_Contains___int_int__lp N) (noJn) 51 (slices_Contains___int_int__sp.vs args) (slices_Contains___int_int__sp.tab T) 0 (resK slices_Contains___int_int__rs kf)))
def lift_leaf_hold_m {R : Type} (N : Nat) (a139 : lift_leaf) (k : lift_leaf → Option R) : Option R :=
  bif api_Door.Wait (lift_leaf.Door a139) == (0 : Int) then
   k (lift_leaf.mk (lift_leaf.Door a139) (lift_leaf.f_at a139) (2 : Int) (api_Door.Wait (lift_leaf.Door a139)))
  else
   k (lift_leaf.mk (lift_leaf.Door a139) (lift_leaf.f_at a139) (1 : Int) (api_Door.Wait (lift_leaf.Door a139)))
noncomputable def lift_leaf_hold {R : Type} : Nat → lift_leaf → (lift_leaf → Option R) → Option R := lock (@lift_leaf_hold_m R)
theorem lift_leaf_hold_def {R : Type} (N : Nat) (a139 : lift_leaf) (k : lift_leaf → Option R) : lift_leaf_hold N a139 k = lift_leaf_hold_m N a139 k := by unfold lift_leaf_hold; rw [lock_eq]
def lift_leaf_hold_sp : Sp := ⟨[rPtr 0 0], [(0, eBlkC lift_leafC)]⟩
theorem lift_leaf_hold_sp_ok : lift_leaf_hold_sp.Ok := ⟨(allCons (rPtr_ok 0 0) allNil), (eCons (eBlkC_ok lift_leafC_ok lift_leafC_len) eNil)⟩
def lift_leaf_hold_rs : Sp := ⟨[rTup []], [(0, eBlkC lift_leafC)]⟩
theorem lift_leaf_hold_rs_ok : lift_leaf_hold_rs.Ok := ⟨(allCons (rTup_ok allNil) allNil), (eCons (eBlkC_ok lift_leafC_ok lift_leafC_len) eNil)⟩
def lift_leaf_hold_run {R : Type} (N : Nat) (args : List SV) (T : Tab) (kf : SV × Tab → Option R) : Option R :=
  lift_leaf_hold_m N (Cod.dec lift_leafC (lget (entCs (entAt T 0)))) (fun q0 => kf (lget [.tup []] 0, [(0, .blk (Cod.enc lift_leafC q0))]))
def lift_leaf_hold_lp {R : Type} (N : Nat) : Lp R := fun body S k => Option.none
noncomputable def lift_leaf_hold_go {R : Type} (N : Nat) (args : List SV) (T : Tab) (kf : SV × Tab → Option R) : Option R :=
  lift_leaf_hold N (Cod.dec lift_leafC (lget (entCs (entAt T 0)))) (fun q0 => kf (lget [.tup []] 0, [(0, .blk (Cod.enc lift_leafC q0))]))
noncomputable def lift_leaf_hold_cal {R : Type} (N : Nat) : Cal R := callM (slices_Contains___int_int__cal N) 97 1 lift_leaf_hold_sp (lift_leaf_hold_go N)
theorem lift_leaf_hold_cal_ok {R : Type} (N : Nat) : CalOk E.P (lift_leaf_hold_cal (R := R) N) :=
  callM_ok hE (slices_Contains___int_int__cal_ok N) (lp := lift_leaf_hold_lp N) (jn := noJn) (keys := []) kNil (by kernel_rfl) (js := []) jNil (by kernel_rfl) lift_leaf_hold_sp_ok lift_leaf_hold_rs_ok (fun args T kf => Eq.trans (lift_leaf_hold_def N (Cod.dec lift_leafC (lget (entCs (entAt T 0)))) (fun q0 => kf (lget [.tup []] 0, [(0, .blk (Cod.enc lift_leafC q0))]))) (by kernel_rfl : lift_leaf_hold_run N args T kf = fnM E (slices_Contains___int_int__cal N) (lift_leaf_hold_lp N) (noJn) 97 (lift_leaf_hold_sp.vs args) (lift_leaf_hold_sp.tab T) 1 (resK lift_leaf_hold_rs kf)))
def lift_leaf_tick_m {R : Type} (N : Nat) (a137 : Bool) (a138 : lift_leaf) (k : lift_leaf → Option R) : Option R :=
  bif a137 then
   bif lift_leaf.f_does a138 != (0 : Int) then
    bif decide (lift_leaf.f_at a138 < api_Door.Wide (lift_leaf.Door a138)) then
     bif w64 (lift_leaf.f_at a138 + (1 : Int)) == api_Door.Wide (lift_leaf.Door a138) then
      lift_leaf_hold N (lift_leaf.mk (lift_leaf.Door a138) (w64 (lift_leaf.f_at a138 + (1 : Int))) (0 : Int) (lift_leaf.f_left a138)) (fun r140 =>
      k r140)
     else
      k (lift_leaf.mk (lift_leaf.Door a138) (w64 (lift_leaf.f_at a138 + (1 : Int))) (0 : Int) (lift_leaf.f_left a138))
    else
     lift_leaf_hold N a138 (fun r141 =>
     bif lift_leaf.f_does r141 == (0 : Int) then
      bif w64 (lift_leaf.f_at r141 + (1 : Int)) == api_Door.Wide (lift_leaf.Door r141) then
       lift_leaf_hold N (lift_leaf.mk (lift_leaf.Door r141) (w64 (lift_leaf.f_at r141 + (1 : Int))) (lift_leaf.f_does r141) (lift_leaf.f_left r141)) (fun r142 =>
       k r142)
      else
       k (lift_leaf.mk (lift_leaf.Door r141) (w64 (lift_leaf.f_at r141 + (1 : Int))) (lift_leaf.f_does r141) (lift_leaf.f_left r141))
     else
      bif lift_leaf.f_does r141 == (1 : Int) then
       bif w64 (lift_leaf.f_left r141 - (1 : Int)) == (0 : Int) then
        k (lift_leaf.mk (lift_leaf.Door r141) (lift_leaf.f_at r141) (2 : Int) (w64 (lift_leaf.f_left r141 - (1 : Int))))
       else
        k (lift_leaf.mk (lift_leaf.Door r141) (lift_leaf.f_at r141) (lift_leaf.f_does r141) (w64 (lift_leaf.f_left r141 - (1 : Int))))
      else
       bif lift_leaf.f_does r141 == (2 : Int) then
        k (lift_leaf.mk (lift_leaf.Door r141) (w64 (lift_leaf.f_at r141 - (1 : Int))) (lift_leaf.f_does r141) (lift_leaf.f_left r141))
       else
        k r141)
   else
    bif lift_leaf.f_does a138 == (0 : Int) then
     bif w64 (lift_leaf.f_at a138 + (1 : Int)) == api_Door.Wide (lift_leaf.Door a138) then
      lift_leaf_hold N (lift_leaf.mk (lift_leaf.Door a138) (w64 (lift_leaf.f_at a138 + (1 : Int))) (lift_leaf.f_does a138) (lift_leaf.f_left a138)) (fun r143 =>
      k r143)
     else
      k (lift_leaf.mk (lift_leaf.Door a138) (w64 (lift_leaf.f_at a138 + (1 : Int))) (lift_leaf.f_does a138) (lift_leaf.f_left a138))
    else
     bif lift_leaf.f_does a138 == (1 : Int) then
      bif w64 (lift_leaf.f_left a138 - (1 : Int)) == (0 : Int) then
       k (lift_leaf.mk (lift_leaf.Door a138) (lift_leaf.f_at a138) (2 : Int) (w64 (lift_leaf.f_left a138 - (1 : Int))))
      else
       k (lift_leaf.mk (lift_leaf.Door a138) (lift_leaf.f_at a138) (lift_leaf.f_does a138) (w64 (lift_leaf.f_left a138 - (1 : Int))))
     else
      bif lift_leaf.f_does a138 == (2 : Int) then
       k (lift_leaf.mk (lift_leaf.Door a138) (w64 (lift_leaf.f_at a138 - (1 : Int))) (lift_leaf.f_does a138) (lift_leaf.f_left a138))
      else
       k a138
  else
   bif lift_leaf.f_does a138 == (0 : Int) then
    bif w64 (lift_leaf.f_at a138 + (1 : Int)) == api_Door.Wide (lift_leaf.Door a138) then
     lift_leaf_hold N (lift_leaf.mk (lift_leaf.Door a138) (w64 (lift_leaf.f_at a138 + (1 : Int))) (lift_leaf.f_does a138) (lift_leaf.f_left a138)) (fun r144 =>
     k r144)
    else
     k (lift_leaf.mk (lift_leaf.Door a138) (w64 (lift_leaf.f_at a138 + (1 : Int))) (lift_leaf.f_does a138) (lift_leaf.f_left a138))
   else
    bif lift_leaf.f_does a138 == (1 : Int) then
     bif w64 (lift_leaf.f_left a138 - (1 : Int)) == (0 : Int) then
      k (lift_leaf.mk (lift_leaf.Door a138) (lift_leaf.f_at a138) (2 : Int) (w64 (lift_leaf.f_left a138 - (1 : Int))))
     else
      k (lift_leaf.mk (lift_leaf.Door a138) (lift_leaf.f_at a138) (lift_leaf.f_does a138) (w64 (lift_leaf.f_left a138 - (1 : Int))))
    else
     bif lift_leaf.f_does a138 == (2 : Int) then
      k (lift_leaf.mk (lift_leaf.Door a138) (w64 (lift_leaf.f_at a138 - (1 : Int))) (lift_leaf.f_does a138) (lift_leaf.f_left a138))
     else
      k a138
noncomputable def lift_leaf_tick {R : Type} : Nat → Bool → lift_leaf → (lift_leaf → Option R) → Option R := lock (@lift_leaf_tick_m R)
theorem lift_leaf_tick_def {R : Type} (N : Nat) (a137 : Bool) (a138 : lift_leaf) (k : lift_leaf → Option R) : lift_leaf_tick N a137 a138 k = lift_leaf_tick_m N a137 a138 k := by unfold lift_leaf_tick; rw [lock_eq]
def lift_leaf_tick_sp : Sp := ⟨[rPtr 0 0, rBool], [(0, eBlkC lift_leafC)]⟩
theorem lift_leaf_tick_sp_ok : lift_leaf_tick_sp.Ok := ⟨(allCons (rPtr_ok 0 0) (allCons rBool_ok allNil)), (eCons (eBlkC_ok lift_leafC_ok lift_leafC_len) eNil)⟩
def lift_leaf_tick_rs : Sp := ⟨[rTup []], [(0, eBlkC lift_leafC)]⟩
theorem lift_leaf_tick_rs_ok : lift_leaf_tick_rs.Ok := ⟨(allCons (rTup_ok allNil) allNil), (eCons (eBlkC_ok lift_leafC_ok lift_leafC_len) eNil)⟩
def lift_leaf_tick_run {R : Type} (N : Nat) (args : List SV) (T : Tab) (kf : SV × Tab → Option R) : Option R :=
  lift_leaf_tick_m N (toB (lget args 1)) (Cod.dec lift_leafC (lget (entCs (entAt T 0)))) (fun q0 => kf (lget [.tup []] 0, [(0, .blk (Cod.enc lift_leafC q0))]))
def lift_leaf_tick_lp {R : Type} (N : Nat) : Lp R := fun body S k => Option.none
noncomputable def lift_leaf_tick_go {R : Type} (N : Nat) (args : List SV) (T : Tab) (kf : SV × Tab → Option R) : Option R :=
  lift_leaf_tick N (toB (lget args 1)) (Cod.dec lift_leafC (lget (entCs (entAt T 0)))) (fun q0 => kf (lget [.tup []] 0, [(0, .blk (Cod.enc lift_leafC q0))]))
noncomputable def lift_leaf_tick_cal {R : Type} (N : Nat) : Cal R := callM (lift_leaf_hold_cal N) 50 1 lift_leaf_tick_sp (lift_leaf_tick_go N)
theorem lift_leaf_tick_cal_ok {R : Type} (N : Nat) : CalOk E.P (lift_leaf_tick_cal (R := R) N) :=
  callM_ok hE (lift_leaf_hold_cal_ok N) (lp := lift_leaf_tick_lp N) (jn := noJn) (keys := []) kNil (by kernel_rfl) (js := []) jNil (by kernel_rfl) lift_leaf_tick_sp_ok lift_leaf_tick_rs_ok (fun args T kf => Eq.trans (lift_leaf_tick_def N (toB (lget args 1)) (Cod.dec lift_leafC (lget (entCs (entAt T 0)))) (fun q0 => kf (lget [.tup []] 0, [(0, .blk (Cod.enc lift_leafC q0))]))) (by kernel_rfl : lift_leaf_tick_run N args T kf = fnM E (lift_leaf_hold_cal N) (lift_leaf_tick_lp N) (noJn) 50 (lift_leaf_tick_sp.vs args) (lift_leaf_tick_sp.tab T) 1 (resK lift_leaf_tick_rs kf)))
def lift_Doors_L7 : LoopSp := ⟨⟨[1, 2, 20, 21, 22], ⟨(dr 1 ((rSl intC) :: (rPtr 0 0) :: (dr 17 ((rSl intC) :: (rInt .i64) :: (rInt .i64) :: (dr 42 []))))), [(0, eBlkC api_DoorC)]⟩, 1⟩, [(Option.none, ⟨[4, 5], ⟨(dr 4 ((rRow 0) :: (rInt .i64) :: (dr 59 []))), [(0, eRow intC)]⟩, 1⟩), (some 0, ⟨[1, 2], ⟨(dr 1 ((rSl intC) :: (rPtr 0 0) :: (dr 62 []))), [(0, eBlkC api_DoorC)]⟩, 1⟩)]⟩
theorem lift_Doors_L7_ok : lift_Doors_L7.Ok := ⟨⟨(drCons 1 (allCons (rSl_ok intC_ok) (allCons (rPtr_ok 0 0) (drCons 17 (allCons (rSl_ok intC_ok) (allCons (rInt_ok .i64) (allCons (rInt_ok .i64) (drCons 42 allNil)))))))), (eCons (eBlkC_ok api_DoorC_ok api_DoorC_len) eNil)⟩, (xCons ⟨(drCons 4 (allCons (rRow_ok 0) (allCons (rInt_ok .i64) (drCons 59 allNil)))), (eCons (eRow_ok intC_ok) eNil)⟩ (xCons ⟨(drCons 1 (allCons (rSl_ok intC_ok) (allCons (rPtr_ok 0 0) (drCons 62 allNil)))), (eCons (eBlkC_ok api_DoorC_ok api_DoorC_len) eNil)⟩ xNil))⟩
def lift_Doors_h7 (v112 : Arr Int) (v113 : Arr Int) (v114 : Int) (v115 : Int) (v116 : api_Door) : St := ⟨(un 1 ((slC intC v112) :: (.ptr 0 0) :: (un 17 ((slC intC v113) :: (.int .i64 v114) :: (.int .i64 v115) :: (un 42 []))))), [(0, .blk (Cod.enc api_DoorC v116))], 1⟩
def lift_Doors_x7_r (q0 : Int) (q1 : Bool) (q2 : Arr Int) : St := ⟨(un 4 ((.row 0) :: (.int .i64 q0) :: (un 59 []))), [(0, rowE intC q1 q2)], 1⟩
def lift_Doors_x7_0 (v112 : Arr Int) (v116 : api_Door) : St := ⟨(un 1 ((slC intC v112) :: (.ptr 0 0) :: (un 62 []))), [(0, .blk (Cod.enc api_DoorC v116))], 1⟩
def lift_Doors_b7 {R : Type} (N : Nat) (rc : Arr Int → Arr Int → Int → Int → api_Door → Option R) (v112 : Arr Int) (v113 : Arr Int) (v114 : Int) (v115 : Int) (v116 : api_Door) (kr : Int → Bool → Arr Int → Option R) (k0 : Unit → Option R) : Option R :=
  bif decide (v115 < v114) then
   bif decide ((0 : Int) ≤ v115) && decide (v115 < (↑(Arr.n v113) : Int)) then
    lift_between N (Arr.f v113 (Int.toNat v115)) (0 : Int) (100000 : Int) (fun r117 =>
    bif !r117 then
     kr (1 : Int) true (lst intC (0 : Nat) (zeroC [SV.int IntKind.i64 (0 : Int)]))
    else
     bif decide (v115 > (0 : Int)) then
      bif decide ((0 : Int) ≤ w64 (v115 - (1 : Int))) && decide (w64 (v115 - (1 : Int)) < (↑(Arr.n v112) : Int)) then
       bif decide (Arr.f v113 (Int.toNat v115) ≤ Arr.f v112 (Int.toNat (w64 (v115 - (1 : Int))))) then
        kr (1 : Int) true (lst intC (0 : Nat) (zeroC [SV.int IntKind.i64 (0 : Int)]))
       else
        rc v112 v113 v114 (w64 (v115 + (1 : Int))) v116
      else
       Option.none
     else
      rc v112 v113 v114 (w64 (v115 + (1 : Int))) v116)
   else
    Option.none
  else
   k0 ()
def lift_Doors_l7 {R : Type} (N : Nat) : Nat → Arr Int → Arr Int → Int → Int → api_Door → (Int → Bool → Arr Int → Option R) → (Unit → Option R) → Option R
  | 0, _, _, _, _, _, _, _ => Option.none
  | n + 1, v112, v113, v114, v115, v116, kr, k0 => lift_Doors_b7 N (fun v112 v113 v114 v115 v116 => lift_Doors_l7 N n v112 v113 v114 v115 v116 kr k0) v112 v113 v114 v115 v116 kr k0
def lift_Doors_L15 : LoopSp := ⟨⟨[1, 9, 10, 11], ⟨(dr 1 ((rSl intC) :: (dr 7 ((rPtr 0 0) :: (rRow 1) :: (rInt .i64) :: (dr 53 []))))), [(0, eBlkC lift_leafC), (1, eRow intC)]⟩, 2⟩, [(some 2, ⟨[10], ⟨(dr 10 ((rRow 0) :: (dr 54 []))), [(0, eRow intC)]⟩, 1⟩)]⟩
theorem lift_Doors_L15_ok : lift_Doors_L15.Ok := ⟨⟨(drCons 1 (allCons (rSl_ok intC_ok) (drCons 7 (allCons (rPtr_ok 0 0) (allCons (rRow_ok 1) (allCons (rInt_ok .i64) (drCons 53 allNil))))))), (eCons (eBlkC_ok lift_leafC_ok lift_leafC_len) (eCons (eRow_ok intC_ok) eNil))⟩, (xCons ⟨(drCons 10 (allCons (rRow_ok 0) (drCons 54 allNil))), (eCons (eRow_ok intC_ok) eNil)⟩ xNil)⟩
def lift_Doors_h15 (v121 : Arr Int) (v122 : Int) (v123 : lift_leaf) (v124 : Bool) (v125 : Arr Int) : St := ⟨(un 1 ((slC intC v121) :: (un 7 ((.ptr 0 0) :: (.row 1) :: (.int .i64 v122) :: (un 53 []))))), [(0, .blk (Cod.enc lift_leafC v123)), (1, rowE intC v124 v125)], 2⟩
def lift_Doors_x15_2 (q0 : Bool) (q1 : Arr Int) : St := ⟨(un 10 ((.row 0) :: (un 54 []))), [(0, rowE intC q0 q1)], 1⟩
def lift_Doors_b15 {R : Type} (N : Nat) (rc : Arr Int → Int → lift_leaf → Bool → Arr Int → Option R) (v121 : Arr Int) (v122 : Int) (v123 : lift_leaf) (v124 : Bool) (v125 : Arr Int) (k2 : Bool → Arr Int → Option R) : Option R :=
  bif v122 == (0 : Int) then
   slices_Contains___int_int_ N v121 v122 (fun r136 =>
   lift_leaf_tick N r136 v123 (fun r145 =>
   bif room (Arr.n v125 + (1 : Nat)) then
    rc v121 (w64 (v122 + (1 : Int))) r145 false (lst intC (Arr.n v125 + (1 : Nat)) (catC (Arr.n v125) (Cod.cell intC (Arr.f v125)) (litC [SV.int IntKind.i64 (0 : Int)] [[SV.int IntKind.i64 (lift_leaf.f_at r145)]])))
   else
    Option.none))
  else
   bif decide (lift_leaf.f_at v123 > (0 : Int)) then
    slices_Contains___int_int_ N v121 v122 (fun r146 =>
    lift_leaf_tick N r146 v123 (fun r147 =>
    bif room (Arr.n v125 + (1 : Nat)) then
     rc v121 (w64 (v122 + (1 : Int))) r147 false (lst intC (Arr.n v125 + (1 : Nat)) (catC (Arr.n v125) (Cod.cell intC (Arr.f v125)) (litC [SV.int IntKind.i64 (0 : Int)] [[SV.int IntKind.i64 (lift_leaf.f_at r147)]])))
    else
     Option.none))
   else
    k2 v124 v125
def lift_Doors_l15 {R : Type} (N : Nat) : Nat → Arr Int → Int → lift_leaf → Bool → Arr Int → (Bool → Arr Int → Option R) → Option R
  | 0, _, _, _, _, _, _ => Option.none
  | n + 1, v121, v122, v123, v124, v125, k2 => lift_Doors_b15 N (fun v121 v122 v123 v124 v125 => lift_Doors_l15 N n v121 v122 v123 v124 v125 k2) v121 v122 v123 v124 v125 k2
def lift_Doors_m {R : Type} (N : Nat) (a106 : api_Door) (a107 : Arr Int) (k : Int → Bool → Arr Int → Option R) : Option R :=
  lift_checkDoor N a106 (fun r111 =>
  bif r111 != (0 : Int) then
   k r111 true (lst intC (0 : Nat) (zeroC [SV.int IntKind.i64 (0 : Int)]))
  else
   bif decide ((↑(Arr.n a107) : Int) > (20 : Int)) then
    k (1 : Int) true (lst intC (0 : Nat) (zeroC [SV.int IntKind.i64 (0 : Int)]))
   else
    lift_Doors_l7 N N a107 a107 ((↑(Arr.n a107) : Int)) (0 : Int) a106 (fun r118 r119 r120 =>
     k r118 r119 r120) (fun (_ : Unit) =>
     lift_Doors_l15 N N a107 (0 : Int) (lift_leaf.mk a106 (0 : Int) (0 : Int) (0 : Int)) true (lst intC (0 : Nat) (zeroC [SV.int IntKind.i64 (0 : Int)])) (fun r148 r149 =>
      k (0 : Int) r148 r149)))
noncomputable def lift_Doors {R : Type} : Nat → api_Door → Arr Int → (Int → Bool → Arr Int → Option R) → Option R := lock (@lift_Doors_m R)
theorem lift_Doors_def {R : Type} (N : Nat) (a106 : api_Door) (a107 : Arr Int) (k : Int → Bool → Arr Int → Option R) : lift_Doors N a106 a107 k = lift_Doors_m N a106 a107 k := by unfold lift_Doors; rw [lock_eq]
def lift_Doors_sp : Sp := ⟨[rAgg api_DoorC, rSl intC], []⟩
theorem lift_Doors_sp_ok : lift_Doors_sp.Ok := ⟨(allCons (rAgg_ok api_DoorC_ok api_DoorC_len) (allCons (rSl_ok intC_ok) allNil)), eNil⟩
def lift_Doors_rs : Sp := ⟨[rTup [rRow 0, rInt .i64]], [(0, eRow intC)]⟩
theorem lift_Doors_rs_ok : lift_Doors_rs.Ok := ⟨(allCons (rTup_ok (allCons (rRow_ok 0) (allCons (rInt_ok .i64) allNil))) allNil), (eCons (eRow_ok intC_ok) eNil)⟩
def lift_Doors_run {R : Type} (N : Nat) (args : List SV) (T : Tab) (kf : SV × Tab → Option R) : Option R :=
  lift_Doors_m N (Cod.dec api_DoorC (lget (toCs (lget args 0)))) (lstC intC (lget args 1)) (fun q0 q1 q2 => kf (lget [.tup [.row 0, .int .i64 q0]] 0, [(0, rowE intC q1 q2)]))
def lift_Doors_d15 {R : Type} (N : Nat) (S0 : St) (k : Exit → St → Option R) : Option R :=
  lift_Doors_l15 N N (lstC intC (lget S0.tmps 1)) (toI (lget S0.tmps 11)) (Cod.dec lift_leafC (lget (entCs (entAt S0.tab 0)))) (entNl (entAt S0.tab 1)) (lst intC (entN (entAt S0.tab 1)) (entC (entAt S0.tab 1))) (fun q0 q1 => k (.exit 2) (lift_Doors_x15_2 q0 q1))
def lift_Doors_d7 {R : Type} (N : Nat) (S0 : St) (k : Exit → St → Option R) : Option R :=
  lift_Doors_l7 N N (lstC intC (lget S0.tmps 1)) (lstC intC (lget S0.tmps 20)) (toI (lget S0.tmps 21)) (toI (lget S0.tmps 22)) (Cod.dec api_DoorC (lget (entCs (entAt S0.tab 0)))) (fun q0 q1 q2 => k .ret (lift_Doors_x7_r q0 q1 q2)) (fun (_ : Unit) => k (.exit 0) (lift_Doors_x7_0 (lstC intC (lget S0.tmps 1)) (Cod.dec api_DoorC (lget (entCs (entAt S0.tab 0))))))
def lift_Doors_lp {R : Type} (N : Nat) : Lp R := fun body S k => bif (Go.Sx.keyOf body).getD 0 == 7 then (lift_Doors_L7.head.raw 0 S (fun S0 => lift_Doors_d7 N S0 k)) else bif (Go.Sx.keyOf body).getD 0 == 15 then (lift_Doors_L15.head.raw 0 S (fun S0 => lift_Doors_d15 N S0 k)) else Option.none
theorem lift_Doors_l7_eq {R : Type} (N : Nat) (k : Exit → St → Option R) (n : Nat) : ∀ (v0 : Arr Int) (v1 : Arr Int) (v2 : Int) (v3 : Int) (v4 : api_Door), loopM E.Θ (lift_leaf_tick_cal N) (lift_Doors_lp N) (noJn) 0 lift_Doors_L7 (bodyAt E 16 7) n (lift_Doors_h7 v0 v1 v2 v3 v4) k = lift_Doors_l7 N n v0 v1 v2 v3 v4 (fun q0 q1 q2 => k .ret (lift_Doors_x7_r q0 q1 q2)) (fun (_ : Unit) => k (.exit 0) (lift_Doors_x7_0 v0 v4)) := by
  induction n with
  | zero => intro v0 v1 v2 v3 v4; rfl
  | succ n ih =>
    intro v0 v1 v2 v3 v4
    refine Eq.trans (b := lift_Doors_b7 N (fun v0 v1 v2 v3 v4 => loopM E.Θ (lift_leaf_tick_cal N) (lift_Doors_lp N) (noJn) 0 lift_Doors_L7 (bodyAt E 16 7) n (lift_Doors_h7 v0 v1 v2 v3 v4) k) v0 v1 v2 v3 v4 (fun q0 q1 q2 => k .ret (lift_Doors_x7_r q0 q1 q2)) (fun (_ : Unit) => k (.exit 0) (lift_Doors_x7_0 v0 v4))) (by kernel_rfl) ?_
    have h : (fun (v0 : Arr Int) (v1 : Arr Int) (v2 : Int) (v3 : Int) (v4 : api_Door) => loopM E.Θ (lift_leaf_tick_cal N) (lift_Doors_lp N) (noJn) 0 lift_Doors_L7 (bodyAt E 16 7) n (lift_Doors_h7 v0 v1 v2 v3 v4) k) = (fun (v0 : Arr Int) (v1 : Arr Int) (v2 : Int) (v3 : Int) (v4 : api_Door) => lift_Doors_l7 N n v0 v1 v2 v3 v4 (fun q0 q1 q2 => k .ret (lift_Doors_x7_r q0 q1 q2)) (fun (_ : Unit) => k (.exit 0) (lift_Doors_x7_0 v0 v4))) := funext fun v0 => funext fun v1 => funext fun v2 => funext fun v3 => funext fun v4 => ih v0 v1 v2 v3 v4
    rw [h]
    rfl
theorem lift_Doors_l15_eq {R : Type} (N : Nat) (k : Exit → St → Option R) (n : Nat) : ∀ (v0 : Arr Int) (v1 : Int) (v2 : lift_leaf) (v3 : Bool) (v4 : Arr Int), loopM E.Θ (lift_leaf_tick_cal N) (lift_Doors_lp N) (noJn) 0 lift_Doors_L15 (bodyAt E 16 15) n (lift_Doors_h15 v0 v1 v2 v3 v4) k = lift_Doors_l15 N n v0 v1 v2 v3 v4 (fun q0 q1 => k (.exit 2) (lift_Doors_x15_2 q0 q1)) := by
  induction n with
  | zero => intro v0 v1 v2 v3 v4; rfl
  | succ n ih =>
    intro v0 v1 v2 v3 v4
    refine Eq.trans (b := lift_Doors_b15 N (fun v0 v1 v2 v3 v4 => loopM E.Θ (lift_leaf_tick_cal N) (lift_Doors_lp N) (noJn) 0 lift_Doors_L15 (bodyAt E 16 15) n (lift_Doors_h15 v0 v1 v2 v3 v4) k) v0 v1 v2 v3 v4 (fun q0 q1 => k (.exit 2) (lift_Doors_x15_2 q0 q1))) (by kernel_rfl) ?_
    have h : (fun (v0 : Arr Int) (v1 : Int) (v2 : lift_leaf) (v3 : Bool) (v4 : Arr Int) => loopM E.Θ (lift_leaf_tick_cal N) (lift_Doors_lp N) (noJn) 0 lift_Doors_L15 (bodyAt E 16 15) n (lift_Doors_h15 v0 v1 v2 v3 v4) k) = (fun (v0 : Arr Int) (v1 : Int) (v2 : lift_leaf) (v3 : Bool) (v4 : Arr Int) => lift_Doors_l15 N n v0 v1 v2 v3 v4 (fun q0 q1 => k (.exit 2) (lift_Doors_x15_2 q0 q1))) := funext fun v0 => funext fun v1 => funext fun v2 => funext fun v3 => funext fun v4 => ih v0 v1 v2 v3 v4
    rw [h]
    rfl
theorem lift_Doors_k15 {R : Type} (N : Nat) : LpKey (R := R) E 16 0 (lift_Doors_lp N) 15 :=
  lpKey_of hE (lift_leaf_tick_cal_ok N) (lp := lift_Doors_lp N) (jn := noJn) lift_Doors_L15_ok [] kNil (by kernel_rfl) [] jNil (by kernel_rfl) N fun S k =>
    Eq.trans (b := lift_Doors_L15.head.raw 0 S (fun S0 => lift_Doors_d15 N S0 k)) (by kernel_rfl) (congrArg (lift_Doors_L15.head.raw 0 S) (funext fun S0 => Eq.trans (lift_Doors_l15_eq N k N (lstC intC (lget S0.tmps 1)) (toI (lget S0.tmps 11)) (Cod.dec lift_leafC (lget (entCs (entAt S0.tab 0)))) (entNl (entAt S0.tab 1)) (lst intC (entN (entAt S0.tab 1)) (entC (entAt S0.tab 1)))).symm (by kernel_rfl)))
theorem lift_Doors_k7 {R : Type} (N : Nat) : LpKey (R := R) E 16 0 (lift_Doors_lp N) 7 :=
  lpKey_of hE (lift_leaf_tick_cal_ok N) (lp := lift_Doors_lp N) (jn := noJn) lift_Doors_L7_ok [] kNil (by kernel_rfl) [] jNil (by kernel_rfl) N fun S k =>
    Eq.trans (b := lift_Doors_L7.head.raw 0 S (fun S0 => lift_Doors_d7 N S0 k)) (by kernel_rfl) (congrArg (lift_Doors_L7.head.raw 0 S) (funext fun S0 => Eq.trans (lift_Doors_l7_eq N k N (lstC intC (lget S0.tmps 1)) (lstC intC (lget S0.tmps 20)) (toI (lget S0.tmps 21)) (toI (lget S0.tmps 22)) (Cod.dec api_DoorC (lget (entCs (entAt S0.tab 0))))).symm (by kernel_rfl)))
noncomputable def lift_Doors_go {R : Type} (N : Nat) (args : List SV) (T : Tab) (kf : SV × Tab → Option R) : Option R :=
  lift_Doors N (Cod.dec api_DoorC (lget (toCs (lget args 0)))) (lstC intC (lget args 1)) (fun q0 q1 q2 => kf (lget [.tup [.row 0, .int .i64 q0]] 0, [(0, rowE intC q1 q2)]))
noncomputable def lift_Doors_cal {R : Type} (N : Nat) : Cal R := callM (lift_leaf_tick_cal N) 16 0 lift_Doors_sp (lift_Doors_go N)
theorem lift_Doors_cal_ok {R : Type} (N : Nat) : CalOk E.P (lift_Doors_cal (R := R) N) :=
  callM_ok hE (lift_leaf_tick_cal_ok N) (lp := lift_Doors_lp N) (jn := noJn) (keys := [7, 15]) (kCons (lift_Doors_k7 N) (kCons (lift_Doors_k15 N) kNil)) (by kernel_rfl) (js := []) jNil (by kernel_rfl) lift_Doors_sp_ok lift_Doors_rs_ok (fun args T kf => Eq.trans (lift_Doors_def N (Cod.dec api_DoorC (lget (toCs (lget args 0)))) (lstC intC (lget args 1)) (fun q0 q1 q2 => kf (lget [.tup [.row 0, .int .i64 q0]] 0, [(0, rowE intC q1 q2)]))) (by kernel_rfl : lift_Doors_run N args T kf = fnM E (lift_leaf_tick_cal N) (lift_Doors_lp N) (noJn) 16 (lift_Doors_sp.vs args) (lift_Doors_sp.tab T) 0 (resK lift_Doors_rs kf)))
def newelref07_from_m {R : Type} (N : Nat) (a151 : Int) (a152 : Int) (a153 : Int) (k : Bool → Option R) : Option R :=
  bif decide (a151 ≥ a152) then
   k (decide (a151 ≤ a153))
  else
   k false
noncomputable def newelref07_from {R : Type} : Nat → Int → Int → Int → (Bool → Option R) → Option R := lock (@newelref07_from_m R)
theorem newelref07_from_def {R : Type} (N : Nat) (a151 : Int) (a152 : Int) (a153 : Int) (k : Bool → Option R) : newelref07_from N a151 a152 a153 k = newelref07_from_m N a151 a152 a153 k := by unfold newelref07_from; rw [lock_eq]
def newelref07_from_sp : Sp := ⟨[rInt .i64, rInt .i64, rInt .i64], []⟩
theorem newelref07_from_sp_ok : newelref07_from_sp.Ok := ⟨(allCons (rInt_ok .i64) (allCons (rInt_ok .i64) (allCons (rInt_ok .i64) allNil))), eNil⟩
def newelref07_from_rs : Sp := ⟨[rBool], []⟩
theorem newelref07_from_rs_ok : newelref07_from_rs.Ok := ⟨(allCons rBool_ok allNil), eNil⟩
def newelref07_from_run {R : Type} (N : Nat) (args : List SV) (T : Tab) (kf : SV × Tab → Option R) : Option R :=
  newelref07_from_m N (toI (lget args 0)) (toI (lget args 1)) (toI (lget args 2)) (fun q0 => kf (lget [.bool q0] 0, []))
def newelref07_from_lp {R : Type} (N : Nat) : Lp R := fun body S k => Option.none
noncomputable def newelref07_from_go {R : Type} (N : Nat) (args : List SV) (T : Tab) (kf : SV × Tab → Option R) : Option R :=
  newelref07_from N (toI (lget args 0)) (toI (lget args 1)) (toI (lget args 2)) (fun q0 => kf (lget [.bool q0] 0, []))
noncomputable def newelref07_from_cal {R : Type} (N : Nat) : Cal R := callM (lift_Doors_cal N) 52 0 newelref07_from_sp (newelref07_from_go N)
theorem newelref07_from_cal_ok {R : Type} (N : Nat) : CalOk E.P (newelref07_from_cal (R := R) N) :=
  callM_ok hE (lift_Doors_cal_ok N) (lp := newelref07_from_lp N) (jn := noJn) (keys := []) kNil (by kernel_rfl) (js := []) jNil (by kernel_rfl) newelref07_from_sp_ok newelref07_from_rs_ok (fun args T kf => Eq.trans (newelref07_from_def N (toI (lget args 0)) (toI (lget args 1)) (toI (lget args 2)) (fun q0 => kf (lget [.bool q0] 0, []))) (by kernel_rfl : newelref07_from_run N args T kf = fnM E (lift_Doors_cal N) (newelref07_from_lp N) (noJn) 52 (newelref07_from_sp.vs args) (newelref07_from_sp.tab T) 0 (resK newelref07_from_rs kf)))
def newelref07_CheckCar_m {R : Type} (N : Nat) (a150 : api_Car) (k : Int → Option R) : Option R :=
  bif decide (api_Car.Low a150 < (0 : Int)) then
   k (70 : Int)
  else
   newelref07_from N (api_Car.Start a150) (api_Car.Low a150) (api_Car.High a150) (fun r154 =>
   bif !r154 then
    k (70 : Int)
   else
    bif decide (api_Car.High a150 > (5 : Int)) then
     k (70 : Int)
    else
     newelref07_from N (api_Car.Move a150) (1 : Int) (3 : Int) (fun r155 =>
     bif !r155 then
      k (70 : Int)
     else
      newelref07_from N (api_Car.Stop a150) (1 : Int) (4 : Int) (fun r156 =>
      bif !r156 then
       k (70 : Int)
      else
       k (0 : Int))))
noncomputable def newelref07_CheckCar {R : Type} : Nat → api_Car → (Int → Option R) → Option R := lock (@newelref07_CheckCar_m R)
theorem newelref07_CheckCar_def {R : Type} (N : Nat) (a150 : api_Car) (k : Int → Option R) : newelref07_CheckCar N a150 k = newelref07_CheckCar_m N a150 k := by unfold newelref07_CheckCar; rw [lock_eq]
def newelref07_CheckCar_sp : Sp := ⟨[rAgg api_CarC], []⟩
theorem newelref07_CheckCar_sp_ok : newelref07_CheckCar_sp.Ok := ⟨(allCons (rAgg_ok api_CarC_ok api_CarC_len) allNil), eNil⟩
def newelref07_CheckCar_rs : Sp := ⟨[rInt .i64], []⟩
theorem newelref07_CheckCar_rs_ok : newelref07_CheckCar_rs.Ok := ⟨(allCons (rInt_ok .i64) allNil), eNil⟩
def newelref07_CheckCar_run {R : Type} (N : Nat) (args : List SV) (T : Tab) (kf : SV × Tab → Option R) : Option R :=
  newelref07_CheckCar_m N (Cod.dec api_CarC (lget (toCs (lget args 0)))) (fun q0 => kf (lget [.int .i64 q0] 0, []))
def newelref07_CheckCar_lp {R : Type} (N : Nat) : Lp R := fun body S k => Option.none
noncomputable def newelref07_CheckCar_go {R : Type} (N : Nat) (args : List SV) (T : Tab) (kf : SV × Tab → Option R) : Option R :=
  newelref07_CheckCar N (Cod.dec api_CarC (lget (toCs (lget args 0)))) (fun q0 => kf (lget [.int .i64 q0] 0, []))
noncomputable def newelref07_CheckCar_cal {R : Type} (N : Nat) : Cal R := callM (newelref07_from_cal N) 17 0 newelref07_CheckCar_sp (newelref07_CheckCar_go N)
theorem newelref07_CheckCar_cal_ok {R : Type} (N : Nat) : CalOk E.P (newelref07_CheckCar_cal (R := R) N) :=
  callM_ok hE (newelref07_from_cal_ok N) (lp := newelref07_CheckCar_lp N) (jn := noJn) (keys := []) kNil (by kernel_rfl) (js := []) jNil (by kernel_rfl) newelref07_CheckCar_sp_ok newelref07_CheckCar_rs_ok (fun args T kf => Eq.trans (newelref07_CheckCar_def N (Cod.dec api_CarC (lget (toCs (lget args 0)))) (fun q0 => kf (lget [.int .i64 q0] 0, []))) (by kernel_rfl : newelref07_CheckCar_run N args T kf = fnM E (newelref07_from_cal N) (newelref07_CheckCar_lp N) (noJn) 17 (newelref07_CheckCar_sp.vs args) (newelref07_CheckCar_sp.tab T) 0 (resK newelref07_CheckCar_rs kf)))
def calls_within_m {R : Type} (N : Nat) (a162 : Int) (a163 : Int) (a164 : Int) (k : Bool → Option R) : Option R :=
  bif decide (a162 ≥ a163) then
   k (decide (a162 ≤ a164))
  else
   k false
noncomputable def calls_within {R : Type} : Nat → Int → Int → Int → (Bool → Option R) → Option R := lock (@calls_within_m R)
theorem calls_within_def {R : Type} (N : Nat) (a162 : Int) (a163 : Int) (a164 : Int) (k : Bool → Option R) : calls_within N a162 a163 a164 k = calls_within_m N a162 a163 a164 k := by unfold calls_within; rw [lock_eq]
def calls_within_sp : Sp := ⟨[rInt .i64, rInt .i64, rInt .i64], []⟩
theorem calls_within_sp_ok : calls_within_sp.Ok := ⟨(allCons (rInt_ok .i64) (allCons (rInt_ok .i64) (allCons (rInt_ok .i64) allNil))), eNil⟩
def calls_within_rs : Sp := ⟨[rBool], []⟩
theorem calls_within_rs_ok : calls_within_rs.Ok := ⟨(allCons rBool_ok allNil), eNil⟩
def calls_within_run {R : Type} (N : Nat) (args : List SV) (T : Tab) (kf : SV × Tab → Option R) : Option R :=
  calls_within_m N (toI (lget args 0)) (toI (lget args 1)) (toI (lget args 2)) (fun q0 => kf (lget [.bool q0] 0, []))
def calls_within_lp {R : Type} (N : Nat) : Lp R := fun body S k => Option.none
noncomputable def calls_within_go {R : Type} (N : Nat) (args : List SV) (T : Tab) (kf : SV × Tab → Option R) : Option R :=
  calls_within N (toI (lget args 0)) (toI (lget args 1)) (toI (lget args 2)) (fun q0 => kf (lget [.bool q0] 0, []))
noncomputable def calls_within_cal {R : Type} (N : Nat) : Cal R := callM (newelref07_CheckCar_cal N) 82 0 calls_within_sp (calls_within_go N)
theorem calls_within_cal_ok {R : Type} (N : Nat) : CalOk E.P (calls_within_cal (R := R) N) :=
  callM_ok hE (newelref07_CheckCar_cal_ok N) (lp := calls_within_lp N) (jn := noJn) (keys := []) kNil (by kernel_rfl) (js := []) jNil (by kernel_rfl) calls_within_sp_ok calls_within_rs_ok (fun args T kf => Eq.trans (calls_within_def N (toI (lget args 0)) (toI (lget args 1)) (toI (lget args 2)) (fun q0 => kf (lget [.bool q0] 0, []))) (by kernel_rfl : calls_within_run N args T kf = fnM E (newelref07_CheckCar_cal N) (calls_within_lp N) (noJn) 82 (calls_within_sp.vs args) (calls_within_sp.tab T) 0 (resK calls_within_rs kf)))
def calls_valid_m {R : Type} (N : Nat) (a161 : api_Car) (k : Bool → Option R) : Option R :=
  calls_within N (api_Car.Start a161) (api_Car.Low a161) (api_Car.High a161) (fun r165 =>
  bif r165 then
   bif decide (api_Car.Low a161 ≥ (0 : Int)) then
    bif decide (api_Car.High a161 ≤ (5 : Int)) then
     calls_within N (api_Car.Move a161) (1 : Int) (3 : Int) (fun r166 =>
     bif r166 then
      calls_within N (api_Car.Stop a161) (1 : Int) (4 : Int) (fun r167 =>
      k r167)
     else
      k false)
    else
     k false
   else
    k false
  else
   k false)
noncomputable def calls_valid {R : Type} : Nat → api_Car → (Bool → Option R) → Option R := lock (@calls_valid_m R)
theorem calls_valid_def {R : Type} (N : Nat) (a161 : api_Car) (k : Bool → Option R) : calls_valid N a161 k = calls_valid_m N a161 k := by unfold calls_valid; rw [lock_eq]
def calls_valid_sp : Sp := ⟨[rAgg api_CarC], []⟩
theorem calls_valid_sp_ok : calls_valid_sp.Ok := ⟨(allCons (rAgg_ok api_CarC_ok api_CarC_len) allNil), eNil⟩
def calls_valid_rs : Sp := ⟨[rBool], []⟩
theorem calls_valid_rs_ok : calls_valid_rs.Ok := ⟨(allCons rBool_ok allNil), eNil⟩
def calls_valid_run {R : Type} (N : Nat) (args : List SV) (T : Tab) (kf : SV × Tab → Option R) : Option R :=
  calls_valid_m N (Cod.dec api_CarC (lget (toCs (lget args 0)))) (fun q0 => kf (lget [.bool q0] 0, []))
def calls_valid_lp {R : Type} (N : Nat) : Lp R := fun body S k => Option.none
noncomputable def calls_valid_go {R : Type} (N : Nat) (args : List SV) (T : Tab) (kf : SV × Tab → Option R) : Option R :=
  calls_valid N (Cod.dec api_CarC (lget (toCs (lget args 0)))) (fun q0 => kf (lget [.bool q0] 0, []))
noncomputable def calls_valid_cal {R : Type} (N : Nat) : Cal R := callM (calls_within_cal N) 99 0 calls_valid_sp (calls_valid_go N)
theorem calls_valid_cal_ok {R : Type} (N : Nat) : CalOk E.P (calls_valid_cal (R := R) N) :=
  callM_ok hE (calls_within_cal_ok N) (lp := calls_valid_lp N) (jn := noJn) (keys := []) kNil (by kernel_rfl) (js := []) jNil (by kernel_rfl) calls_valid_sp_ok calls_valid_rs_ok (fun args T kf => Eq.trans (calls_valid_def N (Cod.dec api_CarC (lget (toCs (lget args 0)))) (fun q0 => kf (lget [.bool q0] 0, []))) (by kernel_rfl : calls_valid_run N args T kf = fnM E (calls_within_cal N) (calls_valid_lp N) (noJn) 99 (calls_valid_sp.vs args) (calls_valid_sp.tab T) 0 (resK calls_valid_rs kf)))
def calls_serves_m {R : Type} (N : Nat) (a159 : api_Car) (a160 : Int) (k : Int → Option R) : Option R :=
  calls_valid N a159 (fun r168 =>
  bif !r168 then
   k (70 : Int)
  else
   calls_within N a160 (api_Car.Low a159) (api_Car.High a159) (fun r169 =>
   bif !r169 then
    k (1 : Int)
   else
    k (0 : Int)))
noncomputable def calls_serves {R : Type} : Nat → api_Car → Int → (Int → Option R) → Option R := lock (@calls_serves_m R)
theorem calls_serves_def {R : Type} (N : Nat) (a159 : api_Car) (a160 : Int) (k : Int → Option R) : calls_serves N a159 a160 k = calls_serves_m N a159 a160 k := by unfold calls_serves; rw [lock_eq]
def calls_serves_sp : Sp := ⟨[rAgg api_CarC, rInt .i64], []⟩
theorem calls_serves_sp_ok : calls_serves_sp.Ok := ⟨(allCons (rAgg_ok api_CarC_ok api_CarC_len) (allCons (rInt_ok .i64) allNil)), eNil⟩
def calls_serves_rs : Sp := ⟨[rInt .i64], []⟩
theorem calls_serves_rs_ok : calls_serves_rs.Ok := ⟨(allCons (rInt_ok .i64) allNil), eNil⟩
def calls_serves_run {R : Type} (N : Nat) (args : List SV) (T : Tab) (kf : SV × Tab → Option R) : Option R :=
  calls_serves_m N (Cod.dec api_CarC (lget (toCs (lget args 0)))) (toI (lget args 1)) (fun q0 => kf (lget [.int .i64 q0] 0, []))
def calls_serves_lp {R : Type} (N : Nat) : Lp R := fun body S k => Option.none
noncomputable def calls_serves_go {R : Type} (N : Nat) (args : List SV) (T : Tab) (kf : SV × Tab → Option R) : Option R :=
  calls_serves N (Cod.dec api_CarC (lget (toCs (lget args 0)))) (toI (lget args 1)) (fun q0 => kf (lget [.int .i64 q0] 0, []))
noncomputable def calls_serves_cal {R : Type} (N : Nat) : Cal R := callM (calls_valid_cal N) 53 0 calls_serves_sp (calls_serves_go N)
theorem calls_serves_cal_ok {R : Type} (N : Nat) : CalOk E.P (calls_serves_cal (R := R) N) :=
  callM_ok hE (calls_valid_cal_ok N) (lp := calls_serves_lp N) (jn := noJn) (keys := []) kNil (by kernel_rfl) (js := []) jNil (by kernel_rfl) calls_serves_sp_ok calls_serves_rs_ok (fun args T kf => Eq.trans (calls_serves_def N (Cod.dec api_CarC (lget (toCs (lget args 0)))) (toI (lget args 1)) (fun q0 => kf (lget [.int .i64 q0] 0, []))) (by kernel_rfl : calls_serves_run N args T kf = fnM E (calls_valid_cal N) (calls_serves_lp N) (noJn) 53 (calls_serves_sp.vs args) (calls_serves_sp.tab T) 0 (resK calls_serves_rs kf)))
def calls_far_m {R : Type} (N : Nat) (a173 : api_Car) (a174 : Int) (k : Int → Bool → Option R) : Option R :=
  k (mxI (w64 (api_Car.High a173 - a174)) (w64 (a174 - api_Car.Low a173))) (decide (w64 (api_Car.High a173 - a174) ≥ w64 (a174 - api_Car.Low a173)))
noncomputable def calls_far {R : Type} : Nat → api_Car → Int → (Int → Bool → Option R) → Option R := lock (@calls_far_m R)
theorem calls_far_def {R : Type} (N : Nat) (a173 : api_Car) (a174 : Int) (k : Int → Bool → Option R) : calls_far N a173 a174 k = calls_far_m N a173 a174 k := by unfold calls_far; rw [lock_eq]
def calls_far_sp : Sp := ⟨[rAgg api_CarC, rInt .i64], []⟩
theorem calls_far_sp_ok : calls_far_sp.Ok := ⟨(allCons (rAgg_ok api_CarC_ok api_CarC_len) (allCons (rInt_ok .i64) allNil)), eNil⟩
def calls_far_rs : Sp := ⟨[rTup [rInt .i64, rBool]], []⟩
theorem calls_far_rs_ok : calls_far_rs.Ok := ⟨(allCons (rTup_ok (allCons (rInt_ok .i64) (allCons rBool_ok allNil))) allNil), eNil⟩
def calls_far_run {R : Type} (N : Nat) (args : List SV) (T : Tab) (kf : SV × Tab → Option R) : Option R :=
  calls_far_m N (Cod.dec api_CarC (lget (toCs (lget args 0)))) (toI (lget args 1)) (fun q0 q1 => kf (lget [.tup [.int .i64 q0, .bool q1]] 0, []))
def calls_far_lp {R : Type} (N : Nat) : Lp R := fun body S k => Option.none
noncomputable def calls_far_go {R : Type} (N : Nat) (args : List SV) (T : Tab) (kf : SV × Tab → Option R) : Option R :=
  calls_far N (Cod.dec api_CarC (lget (toCs (lget args 0)))) (toI (lget args 1)) (fun q0 q1 => kf (lget [.tup [.int .i64 q0, .bool q1]] 0, []))
noncomputable def calls_far_cal {R : Type} (N : Nat) : Cal R := callM (calls_serves_cal N) 100 0 calls_far_sp (calls_far_go N)
theorem calls_far_cal_ok {R : Type} (N : Nat) : CalOk E.P (calls_far_cal (R := R) N) :=
  callM_ok hE (calls_serves_cal_ok N) (lp := calls_far_lp N) (jn := noJn) (keys := []) kNil (by kernel_rfl) (js := []) jNil (by kernel_rfl) calls_far_sp_ok calls_far_rs_ok (fun args T kf => Eq.trans (calls_far_def N (Cod.dec api_CarC (lget (toCs (lget args 0)))) (toI (lget args 1)) (fun q0 q1 => kf (lget [.tup [.int .i64 q0, .bool q1]] 0, []))) (by kernel_rfl : calls_far_run N args T kf = fnM E (calls_serves_cal N) (calls_far_lp N) (noJn) 100 (calls_far_sp.vs args) (calls_far_sp.tab T) 0 (resK calls_far_rs kf)))
def calls_worst_m {R : Type} (N : Nat) (a171 : api_Car) (a172 : Int) (k : Int → Option R) : Option R :=
  calls_far N a171 a172 (fun r175 r176 =>
  bif r175 == (0 : Int) then
   k (0 : Int)
  else
   k (w64 (w64 (w64 ((2 : Int) * r175) * api_Car.Move a171) + w64 (w64 (w64 ((2 : Int) * r175) - (1 : Int)) * api_Car.Stop a171))))
noncomputable def calls_worst {R : Type} : Nat → api_Car → Int → (Int → Option R) → Option R := lock (@calls_worst_m R)
theorem calls_worst_def {R : Type} (N : Nat) (a171 : api_Car) (a172 : Int) (k : Int → Option R) : calls_worst N a171 a172 k = calls_worst_m N a171 a172 k := by unfold calls_worst; rw [lock_eq]
def calls_worst_sp : Sp := ⟨[rAgg api_CarC, rInt .i64], []⟩
theorem calls_worst_sp_ok : calls_worst_sp.Ok := ⟨(allCons (rAgg_ok api_CarC_ok api_CarC_len) (allCons (rInt_ok .i64) allNil)), eNil⟩
def calls_worst_rs : Sp := ⟨[rInt .i64], []⟩
theorem calls_worst_rs_ok : calls_worst_rs.Ok := ⟨(allCons (rInt_ok .i64) allNil), eNil⟩
def calls_worst_run {R : Type} (N : Nat) (args : List SV) (T : Tab) (kf : SV × Tab → Option R) : Option R :=
  calls_worst_m N (Cod.dec api_CarC (lget (toCs (lget args 0)))) (toI (lget args 1)) (fun q0 => kf (lget [.int .i64 q0] 0, []))
def calls_worst_lp {R : Type} (N : Nat) : Lp R := fun body S k => Option.none
noncomputable def calls_worst_go {R : Type} (N : Nat) (args : List SV) (T : Tab) (kf : SV × Tab → Option R) : Option R :=
  calls_worst N (Cod.dec api_CarC (lget (toCs (lget args 0)))) (toI (lget args 1)) (fun q0 => kf (lget [.int .i64 q0] 0, []))
noncomputable def calls_worst_cal {R : Type} (N : Nat) : Cal R := callM (calls_far_cal N) 54 0 calls_worst_sp (calls_worst_go N)
theorem calls_worst_cal_ok {R : Type} (N : Nat) : CalOk E.P (calls_worst_cal (R := R) N) :=
  callM_ok hE (calls_far_cal_ok N) (lp := calls_worst_lp N) (jn := noJn) (keys := []) kNil (by kernel_rfl) (js := []) jNil (by kernel_rfl) calls_worst_sp_ok calls_worst_rs_ok (fun args T kf => Eq.trans (calls_worst_def N (Cod.dec api_CarC (lget (toCs (lget args 0)))) (toI (lget args 1)) (fun q0 => kf (lget [.int .i64 q0] 0, []))) (by kernel_rfl : calls_worst_run N args T kf = fnM E (calls_far_cal N) (calls_worst_lp N) (noJn) 54 (calls_worst_sp.vs args) (calls_worst_sp.tab T) 0 (resK calls_worst_rs kf)))
def calls_Worst_m {R : Type} (N : Nat) (a157 : api_Car) (a158 : Int) (k : Int → Int → Option R) : Option R :=
  calls_serves N a157 a158 (fun r170 =>
  bif r170 != (0 : Int) then
   k (0 : Int) r170
  else
   calls_worst N a157 a158 (fun r177 =>
   k r177 (0 : Int)))
noncomputable def calls_Worst {R : Type} : Nat → api_Car → Int → (Int → Int → Option R) → Option R := lock (@calls_Worst_m R)
theorem calls_Worst_def {R : Type} (N : Nat) (a157 : api_Car) (a158 : Int) (k : Int → Int → Option R) : calls_Worst N a157 a158 k = calls_Worst_m N a157 a158 k := by unfold calls_Worst; rw [lock_eq]
def calls_Worst_sp : Sp := ⟨[rAgg api_CarC, rInt .i64], []⟩
theorem calls_Worst_sp_ok : calls_Worst_sp.Ok := ⟨(allCons (rAgg_ok api_CarC_ok api_CarC_len) (allCons (rInt_ok .i64) allNil)), eNil⟩
def calls_Worst_rs : Sp := ⟨[rTup [rInt .i64, rInt .i64]], []⟩
theorem calls_Worst_rs_ok : calls_Worst_rs.Ok := ⟨(allCons (rTup_ok (allCons (rInt_ok .i64) (allCons (rInt_ok .i64) allNil))) allNil), eNil⟩
def calls_Worst_run {R : Type} (N : Nat) (args : List SV) (T : Tab) (kf : SV × Tab → Option R) : Option R :=
  calls_Worst_m N (Cod.dec api_CarC (lget (toCs (lget args 0)))) (toI (lget args 1)) (fun q0 q1 => kf (lget [.tup [.int .i64 q0, .int .i64 q1]] 0, []))
def calls_Worst_lp {R : Type} (N : Nat) : Lp R := fun body S k => Option.none
noncomputable def calls_Worst_go {R : Type} (N : Nat) (args : List SV) (T : Tab) (kf : SV × Tab → Option R) : Option R :=
  calls_Worst N (Cod.dec api_CarC (lget (toCs (lget args 0)))) (toI (lget args 1)) (fun q0 q1 => kf (lget [.tup [.int .i64 q0, .int .i64 q1]] 0, []))
noncomputable def calls_Worst_cal {R : Type} (N : Nat) : Cal R := callM (calls_worst_cal N) 18 0 calls_Worst_sp (calls_Worst_go N)
theorem calls_Worst_cal_ok {R : Type} (N : Nat) : CalOk E.P (calls_Worst_cal (R := R) N) :=
  callM_ok hE (calls_worst_cal_ok N) (lp := calls_Worst_lp N) (jn := noJn) (keys := []) kNil (by kernel_rfl) (js := []) jNil (by kernel_rfl) calls_Worst_sp_ok calls_Worst_rs_ok (fun args T kf => Eq.trans (calls_Worst_def N (Cod.dec api_CarC (lget (toCs (lget args 0)))) (toI (lget args 1)) (fun q0 q1 => kf (lget [.tup [.int .i64 q0, .int .i64 q1]] 0, []))) (by kernel_rfl : calls_Worst_run N args T kf = fnM E (calls_worst_cal N) (calls_Worst_lp N) (noJn) 18 (calls_Worst_sp.vs args) (calls_Worst_sp.tab T) 0 (resK calls_Worst_rs kf)))
def lift_dwell_m {R : Type} (N : Nat) (a190 : api_Door) (a191 : Int) (k : Int → Option R) : Option R :=
  k (w64 (w64 (w64 ((2 : Int) * api_Door.Wide a190) + api_Door.Wait a190) + w64 (a191 * w64 (w64 (w64 ((2 : Int) * api_Door.Wide a190) + api_Door.Wait a190) - (2 : Int)))))
noncomputable def lift_dwell {R : Type} : Nat → api_Door → Int → (Int → Option R) → Option R := lock (@lift_dwell_m R)
theorem lift_dwell_def {R : Type} (N : Nat) (a190 : api_Door) (a191 : Int) (k : Int → Option R) : lift_dwell N a190 a191 k = lift_dwell_m N a190 a191 k := by unfold lift_dwell; rw [lock_eq]
def lift_dwell_sp : Sp := ⟨[rAgg api_DoorC, rInt .i64], []⟩
theorem lift_dwell_sp_ok : lift_dwell_sp.Ok := ⟨(allCons (rAgg_ok api_DoorC_ok api_DoorC_len) (allCons (rInt_ok .i64) allNil)), eNil⟩
def lift_dwell_rs : Sp := ⟨[rInt .i64], []⟩
theorem lift_dwell_rs_ok : lift_dwell_rs.Ok := ⟨(allCons (rInt_ok .i64) allNil), eNil⟩
def lift_dwell_run {R : Type} (N : Nat) (args : List SV) (T : Tab) (kf : SV × Tab → Option R) : Option R :=
  lift_dwell_m N (Cod.dec api_DoorC (lget (toCs (lget args 0)))) (toI (lget args 1)) (fun q0 => kf (lget [.int .i64 q0] 0, []))
def lift_dwell_lp {R : Type} (N : Nat) : Lp R := fun body S k => Option.none
noncomputable def lift_dwell_go {R : Type} (N : Nat) (args : List SV) (T : Tab) (kf : SV × Tab → Option R) : Option R :=
  lift_dwell N (Cod.dec api_DoorC (lget (toCs (lget args 0)))) (toI (lget args 1)) (fun q0 => kf (lget [.int .i64 q0] 0, []))
noncomputable def lift_dwell_cal {R : Type} (N : Nat) : Cal R := callM (calls_Worst_cal N) 49 0 lift_dwell_sp (lift_dwell_go N)
theorem lift_dwell_cal_ok {R : Type} (N : Nat) : CalOk E.P (lift_dwell_cal (R := R) N) :=
  callM_ok hE (calls_Worst_cal_ok N) (lp := lift_dwell_lp N) (jn := noJn) (keys := []) kNil (by kernel_rfl) (js := []) jNil (by kernel_rfl) lift_dwell_sp_ok lift_dwell_rs_ok (fun args T kf => Eq.trans (lift_dwell_def N (Cod.dec api_DoorC (lget (toCs (lget args 0)))) (toI (lget args 1)) (fun q0 => kf (lget [.int .i64 q0] 0, []))) (by kernel_rfl : lift_dwell_run N args T kf = fnM E (calls_Worst_cal N) (lift_dwell_lp N) (noJn) 49 (lift_dwell_sp.vs args) (lift_dwell_sp.tab T) 0 (resK lift_dwell_rs kf)))
def lift_Turn_m {R : Type} (N : Nat) (a178 : api_Lift) (a179 : api_Door) (a180 : Int) (a181 : Int) (a182 : Int) (k : Int → Int → Option R) : Option R :=
  lift_Check N a178 (fun r183 =>
  bif r183 != (0 : Int) then
   k (0 : Int) r183
  else
   lift_checkDoor N a179 (fun r184 =>
   bif r184 != (0 : Int) then
    k (0 : Int) r184
   else
    lift_distance N a178 a180 a181 (fun r185 r186 =>
    bif !r186 then
     k (0 : Int) (1 : Int)
    else
     lift_between N a182 (0 : Int) (20 : Int) (fun r187 =>
     bif !r187 then
      k (0 : Int) (1 : Int)
     else
      lift_trip N a178 r185 (fun r188 r189 =>
      lift_dwell N a179 a182 (fun r192 =>
      k (w64 ((↑(Arr.n r189) : Int) + r192)) (0 : Int)))))))
noncomputable def lift_Turn {R : Type} : Nat → api_Lift → api_Door → Int → Int → Int → (Int → Int → Option R) → Option R := lock (@lift_Turn_m R)
theorem lift_Turn_def {R : Type} (N : Nat) (a178 : api_Lift) (a179 : api_Door) (a180 : Int) (a181 : Int) (a182 : Int) (k : Int → Int → Option R) : lift_Turn N a178 a179 a180 a181 a182 k = lift_Turn_m N a178 a179 a180 a181 a182 k := by unfold lift_Turn; rw [lock_eq]
def lift_Turn_sp : Sp := ⟨[rAgg api_LiftC, rAgg api_DoorC, rInt .i64, rInt .i64, rInt .i64], []⟩
theorem lift_Turn_sp_ok : lift_Turn_sp.Ok := ⟨(allCons (rAgg_ok api_LiftC_ok api_LiftC_len) (allCons (rAgg_ok api_DoorC_ok api_DoorC_len) (allCons (rInt_ok .i64) (allCons (rInt_ok .i64) (allCons (rInt_ok .i64) allNil))))), eNil⟩
def lift_Turn_rs : Sp := ⟨[rTup [rInt .i64, rInt .i64]], []⟩
theorem lift_Turn_rs_ok : lift_Turn_rs.Ok := ⟨(allCons (rTup_ok (allCons (rInt_ok .i64) (allCons (rInt_ok .i64) allNil))) allNil), eNil⟩
def lift_Turn_run {R : Type} (N : Nat) (args : List SV) (T : Tab) (kf : SV × Tab → Option R) : Option R :=
  lift_Turn_m N (Cod.dec api_LiftC (lget (toCs (lget args 0)))) (Cod.dec api_DoorC (lget (toCs (lget args 1)))) (toI (lget args 2)) (toI (lget args 3)) (toI (lget args 4)) (fun q0 q1 => kf (lget [.tup [.int .i64 q0, .int .i64 q1]] 0, []))
def lift_Turn_lp {R : Type} (N : Nat) : Lp R := fun body S k => Option.none
noncomputable def lift_Turn_go {R : Type} (N : Nat) (args : List SV) (T : Tab) (kf : SV × Tab → Option R) : Option R :=
  lift_Turn N (Cod.dec api_LiftC (lget (toCs (lget args 0)))) (Cod.dec api_DoorC (lget (toCs (lget args 1)))) (toI (lget args 2)) (toI (lget args 3)) (toI (lget args 4)) (fun q0 q1 => kf (lget [.tup [.int .i64 q0, .int .i64 q1]] 0, []))
noncomputable def lift_Turn_cal {R : Type} (N : Nat) : Cal R := callM (lift_dwell_cal N) 19 0 lift_Turn_sp (lift_Turn_go N)
theorem lift_Turn_cal_ok {R : Type} (N : Nat) : CalOk E.P (lift_Turn_cal (R := R) N) :=
  callM_ok hE (lift_dwell_cal_ok N) (lp := lift_Turn_lp N) (jn := noJn) (keys := []) kNil (by kernel_rfl) (js := []) jNil (by kernel_rfl) lift_Turn_sp_ok lift_Turn_rs_ok (fun args T kf => Eq.trans (lift_Turn_def N (Cod.dec api_LiftC (lget (toCs (lget args 0)))) (Cod.dec api_DoorC (lget (toCs (lget args 1)))) (toI (lget args 2)) (toI (lget args 3)) (toI (lget args 4)) (fun q0 q1 => kf (lget [.tup [.int .i64 q0, .int .i64 q1]] 0, []))) (by kernel_rfl : lift_Turn_run N args T kf = fnM E (lift_dwell_cal N) (lift_Turn_lp N) (noJn) 19 (lift_Turn_sp.vs args) (lift_Turn_sp.tab T) 0 (resK lift_Turn_rs kf)))
def newelref07_isPresses_L2 : LoopSp := ⟨⟨[0, 3], ⟨((rSl api_PressC) :: (dr 2 ((rInt .i64) :: (dr 34 [])))), []⟩, 0⟩, [(Option.none, ⟨[2], ⟨(dr 2 ((rBool) :: (dr 35 []))), []⟩, 0⟩), (some 0, ⟨[0], ⟨((rSl api_PressC) :: (dr 37 [])), []⟩, 0⟩)]⟩
theorem newelref07_isPresses_L2_ok : newelref07_isPresses_L2.Ok := ⟨⟨(allCons (rSl_ok api_PressC_ok) (drCons 2 (allCons (rInt_ok .i64) (drCons 34 allNil)))), eNil⟩, (xCons ⟨(drCons 2 (allCons rBool_ok (drCons 35 allNil))), eNil⟩ (xCons ⟨(allCons (rSl_ok api_PressC_ok) (drCons 37 allNil)), eNil⟩ xNil))⟩
def newelref07_isPresses_h2 (v197 : Arr api_Press) (v198 : Int) : St := ⟨((slC api_PressC v197) :: (un 2 ((.int .i64 v198) :: (un 34 [])))), [], 0⟩
def newelref07_isPresses_x2_r (q0 : Bool) : St := ⟨(un 2 ((.bool q0) :: (un 35 []))), [], 0⟩
def newelref07_isPresses_x2_0 (v197 : Arr api_Press) : St := ⟨((slC api_PressC v197) :: (un 37 [])), [], 0⟩
def newelref07_isPresses_b2 {R : Type} (N : Nat) (rc : Arr api_Press → Int → Option R) (v197 : Arr api_Press) (v198 : Int) (kr : Bool → Option R) (k0 : Unit → Option R) : Option R :=
  bif decide (v198 < (↑(Arr.n v197) : Int)) then
   bif decide ((0 : Int) ≤ v198) && decide (v198 < (↑(Arr.n v197) : Int)) then
    newelref07_from N (api_Press.At (Arr.f v197 (Int.toNat v198))) (0 : Int) (500 : Int) (fun r199 =>
    bif !r199 then
     kr false
    else
     bif decide (v198 > (0 : Int)) then
      bif decide ((0 : Int) ≤ v198) && decide (v198 < (↑(Arr.n v197) : Int)) then
       bif decide ((0 : Int) ≤ w64 (v198 - (1 : Int))) && decide (w64 (v198 - (1 : Int)) < (↑(Arr.n v197) : Int)) then
        bif decide (api_Press.At (Arr.f v197 (Int.toNat v198)) < api_Press.At (Arr.f v197 (Int.toNat (w64 (v198 - (1 : Int)))))) then
         kr false
        else
         rc v197 (w64 (v198 + (1 : Int)))
       else
        Option.none
      else
       Option.none
     else
      rc v197 (w64 (v198 + (1 : Int))))
   else
    Option.none
  else
   k0 ()
def newelref07_isPresses_l2 {R : Type} (N : Nat) : Nat → Arr api_Press → Int → (Bool → Option R) → (Unit → Option R) → Option R
  | 0, _, _, _, _ => Option.none
  | n + 1, v197, v198, kr, k0 => newelref07_isPresses_b2 N (fun v197 v198 => newelref07_isPresses_l2 N n v197 v198 kr k0) v197 v198 kr k0
def newelref07_isPresses_m {R : Type} (N : Nat) (a196 : Arr api_Press) (k : Bool → Option R) : Option R :=
  newelref07_isPresses_l2 N N a196 (0 : Int) (fun r200 =>
   k r200) (fun (_ : Unit) =>
   k (decide ((↑(Arr.n a196) : Int) ≤ (200 : Int))))
noncomputable def newelref07_isPresses {R : Type} : Nat → Arr api_Press → (Bool → Option R) → Option R := lock (@newelref07_isPresses_m R)
theorem newelref07_isPresses_def {R : Type} (N : Nat) (a196 : Arr api_Press) (k : Bool → Option R) : newelref07_isPresses N a196 k = newelref07_isPresses_m N a196 k := by unfold newelref07_isPresses; rw [lock_eq]
def newelref07_isPresses_sp : Sp := ⟨[rSl api_PressC], []⟩
theorem newelref07_isPresses_sp_ok : newelref07_isPresses_sp.Ok := ⟨(allCons (rSl_ok api_PressC_ok) allNil), eNil⟩
def newelref07_isPresses_rs : Sp := ⟨[rBool], []⟩
theorem newelref07_isPresses_rs_ok : newelref07_isPresses_rs.Ok := ⟨(allCons rBool_ok allNil), eNil⟩
def newelref07_isPresses_run {R : Type} (N : Nat) (args : List SV) (T : Tab) (kf : SV × Tab → Option R) : Option R :=
  newelref07_isPresses_m N (lstC api_PressC (lget args 0)) (fun q0 => kf (lget [.bool q0] 0, []))
def newelref07_isPresses_d2 {R : Type} (N : Nat) (S0 : St) (k : Exit → St → Option R) : Option R :=
  newelref07_isPresses_l2 N N (lstC api_PressC (lget S0.tmps 0)) (toI (lget S0.tmps 3)) (fun q0 => k .ret (newelref07_isPresses_x2_r q0)) (fun (_ : Unit) => k (.exit 0) (newelref07_isPresses_x2_0 (lstC api_PressC (lget S0.tmps 0))))
def newelref07_isPresses_lp {R : Type} (N : Nat) : Lp R := fun body S k => bif (Go.Sx.keyOf body).getD 0 == 2 then (newelref07_isPresses_L2.head.raw 0 S (fun S0 => newelref07_isPresses_d2 N S0 k)) else Option.none
theorem newelref07_isPresses_l2_eq {R : Type} (N : Nat) (k : Exit → St → Option R) (n : Nat) : ∀ (v0 : Arr api_Press) (v1 : Int), loopM E.Θ (lift_Turn_cal N) (newelref07_isPresses_lp N) (noJn) 0 newelref07_isPresses_L2 (bodyAt E 79 2) n (newelref07_isPresses_h2 v0 v1) k = newelref07_isPresses_l2 N n v0 v1 (fun q0 => k .ret (newelref07_isPresses_x2_r q0)) (fun (_ : Unit) => k (.exit 0) (newelref07_isPresses_x2_0 v0)) := by
  induction n with
  | zero => intro v0 v1; rfl
  | succ n ih =>
    intro v0 v1
    refine Eq.trans (b := newelref07_isPresses_b2 N (fun v0 v1 => loopM E.Θ (lift_Turn_cal N) (newelref07_isPresses_lp N) (noJn) 0 newelref07_isPresses_L2 (bodyAt E 79 2) n (newelref07_isPresses_h2 v0 v1) k) v0 v1 (fun q0 => k .ret (newelref07_isPresses_x2_r q0)) (fun (_ : Unit) => k (.exit 0) (newelref07_isPresses_x2_0 v0))) (by kernel_rfl) ?_
    have h : (fun (v0 : Arr api_Press) (v1 : Int) => loopM E.Θ (lift_Turn_cal N) (newelref07_isPresses_lp N) (noJn) 0 newelref07_isPresses_L2 (bodyAt E 79 2) n (newelref07_isPresses_h2 v0 v1) k) = (fun (v0 : Arr api_Press) (v1 : Int) => newelref07_isPresses_l2 N n v0 v1 (fun q0 => k .ret (newelref07_isPresses_x2_r q0)) (fun (_ : Unit) => k (.exit 0) (newelref07_isPresses_x2_0 v0))) := funext fun v0 => funext fun v1 => ih v0 v1
    rw [h]
    rfl
theorem newelref07_isPresses_k2 {R : Type} (N : Nat) : LpKey (R := R) E 79 0 (newelref07_isPresses_lp N) 2 :=
  lpKey_of hE (lift_Turn_cal_ok N) (lp := newelref07_isPresses_lp N) (jn := noJn) newelref07_isPresses_L2_ok [] kNil (by kernel_rfl) [] jNil (by kernel_rfl) N fun S k =>
    Eq.trans (b := newelref07_isPresses_L2.head.raw 0 S (fun S0 => newelref07_isPresses_d2 N S0 k)) (by kernel_rfl) (congrArg (newelref07_isPresses_L2.head.raw 0 S) (funext fun S0 => Eq.trans (newelref07_isPresses_l2_eq N k N (lstC api_PressC (lget S0.tmps 0)) (toI (lget S0.tmps 3))).symm (by kernel_rfl)))
noncomputable def newelref07_isPresses_go {R : Type} (N : Nat) (args : List SV) (T : Tab) (kf : SV × Tab → Option R) : Option R :=
  newelref07_isPresses N (lstC api_PressC (lget args 0)) (fun q0 => kf (lget [.bool q0] 0, []))
noncomputable def newelref07_isPresses_cal {R : Type} (N : Nat) : Cal R := callM (lift_Turn_cal N) 79 0 newelref07_isPresses_sp (newelref07_isPresses_go N)
theorem newelref07_isPresses_cal_ok {R : Type} (N : Nat) : CalOk E.P (newelref07_isPresses_cal (R := R) N) :=
  callM_ok hE (lift_Turn_cal_ok N) (lp := newelref07_isPresses_lp N) (jn := noJn) (keys := [2]) (kCons (newelref07_isPresses_k2 N) kNil) (by kernel_rfl) (js := []) jNil (by kernel_rfl) newelref07_isPresses_sp_ok newelref07_isPresses_rs_ok (fun args T kf => Eq.trans (newelref07_isPresses_def N (lstC api_PressC (lget args 0)) (fun q0 => kf (lget [.bool q0] 0, []))) (by kernel_rfl : newelref07_isPresses_run N args T kf = fnM E (lift_Turn_cal N) (newelref07_isPresses_lp N) (noJn) 79 (newelref07_isPresses_sp.vs args) (newelref07_isPresses_sp.tab T) 0 (resK newelref07_isPresses_rs kf)))
def newelref07_Check_L6 : LoopSp := ⟨⟨[1, 2, 5], ⟨(dr 1 ((rSl api_PressC) :: (rPtr 0 0) :: (dr 2 ((rInt .i64) :: (dr 23 []))))), [(0, eBlkC api_CarC)]⟩, 1⟩, [(Option.none, ⟨[4], ⟨(dr 4 ((rInt .i64) :: (dr 24 []))), []⟩, 0⟩), (some 0, ⟨[], ⟨(dr 29 []), []⟩, 0⟩)]⟩
theorem newelref07_Check_L6_ok : newelref07_Check_L6.Ok := ⟨⟨(drCons 1 (allCons (rSl_ok api_PressC_ok) (allCons (rPtr_ok 0 0) (drCons 2 (allCons (rInt_ok .i64) (drCons 23 allNil)))))), (eCons (eBlkC_ok api_CarC_ok api_CarC_len) eNil)⟩, (xCons ⟨(drCons 4 (allCons (rInt_ok .i64) (drCons 24 allNil))), eNil⟩ (xCons ⟨(drCons 29 allNil), eNil⟩ xNil))⟩
def newelref07_Check_h6 (v202 : Arr api_Press) (v203 : Int) (v204 : api_Car) : St := ⟨(un 1 ((slC api_PressC v202) :: (.ptr 0 0) :: (un 2 ((.int .i64 v203) :: (un 23 []))))), [(0, .blk (Cod.enc api_CarC v204))], 1⟩
def newelref07_Check_x6_r (q0 : Int) : St := ⟨(un 4 ((.int .i64 q0) :: (un 24 []))), [], 0⟩
def newelref07_Check_x6_0  : St := ⟨(un 29 []), [], 0⟩
def newelref07_Check_b6 {R : Type} (N : Nat) (rc : Arr api_Press → Int → api_Car → Option R) (v202 : Arr api_Press) (v203 : Int) (v204 : api_Car) (kr : Int → Option R) (k0 : Unit → Option R) : Option R :=
  bif decide (v203 < (↑(Arr.n v202) : Int)) then
   bif decide ((0 : Int) ≤ v203) && decide (v203 < (↑(Arr.n v202) : Int)) then
    newelref07_from N (api_Press.Floor (Arr.f v202 (Int.toNat v203))) (api_Car.Low v204) (api_Car.High v204) (fun r205 =>
    bif !r205 then
     kr (71 : Int)
    else
     rc v202 (w64 (v203 + (1 : Int))) v204)
   else
    Option.none
  else
   k0 ()
def newelref07_Check_l6 {R : Type} (N : Nat) : Nat → Arr api_Press → Int → api_Car → (Int → Option R) → (Unit → Option R) → Option R
  | 0, _, _, _, _, _ => Option.none
  | n + 1, v202, v203, v204, kr, k0 => newelref07_Check_b6 N (fun v202 v203 v204 => newelref07_Check_l6 N n v202 v203 v204 kr k0) v202 v203 v204 kr k0
def newelref07_Check_m {R : Type} (N : Nat) (a193 : api_Car) (a194 : Arr api_Press) (k : Int → Option R) : Option R :=
  newelref07_CheckCar N a193 (fun r195 =>
  bif r195 != (0 : Int) then
   k (70 : Int)
  else
   newelref07_isPresses N a194 (fun r201 =>
   bif !r201 then
    k (71 : Int)
   else
    newelref07_Check_l6 N N a194 (0 : Int) a193 (fun r206 =>
     k r206) (fun (_ : Unit) =>
     k (0 : Int))))
noncomputable def newelref07_Check {R : Type} : Nat → api_Car → Arr api_Press → (Int → Option R) → Option R := lock (@newelref07_Check_m R)
theorem newelref07_Check_def {R : Type} (N : Nat) (a193 : api_Car) (a194 : Arr api_Press) (k : Int → Option R) : newelref07_Check N a193 a194 k = newelref07_Check_m N a193 a194 k := by unfold newelref07_Check; rw [lock_eq]
def newelref07_Check_sp : Sp := ⟨[rAgg api_CarC, rSl api_PressC], []⟩
theorem newelref07_Check_sp_ok : newelref07_Check_sp.Ok := ⟨(allCons (rAgg_ok api_CarC_ok api_CarC_len) (allCons (rSl_ok api_PressC_ok) allNil)), eNil⟩
def newelref07_Check_rs : Sp := ⟨[rInt .i64], []⟩
theorem newelref07_Check_rs_ok : newelref07_Check_rs.Ok := ⟨(allCons (rInt_ok .i64) allNil), eNil⟩
def newelref07_Check_run {R : Type} (N : Nat) (args : List SV) (T : Tab) (kf : SV × Tab → Option R) : Option R :=
  newelref07_Check_m N (Cod.dec api_CarC (lget (toCs (lget args 0)))) (lstC api_PressC (lget args 1)) (fun q0 => kf (lget [.int .i64 q0] 0, []))
def newelref07_Check_d6 {R : Type} (N : Nat) (S0 : St) (k : Exit → St → Option R) : Option R :=
  newelref07_Check_l6 N N (lstC api_PressC (lget S0.tmps 1)) (toI (lget S0.tmps 5)) (Cod.dec api_CarC (lget (entCs (entAt S0.tab 0)))) (fun q0 => k .ret (newelref07_Check_x6_r q0)) (fun (_ : Unit) => k (.exit 0) (newelref07_Check_x6_0 ))
def newelref07_Check_lp {R : Type} (N : Nat) : Lp R := fun body S k => bif (Go.Sx.keyOf body).getD 0 == 6 then (newelref07_Check_L6.head.raw 0 S (fun S0 => newelref07_Check_d6 N S0 k)) else Option.none
theorem newelref07_Check_l6_eq {R : Type} (N : Nat) (k : Exit → St → Option R) (n : Nat) : ∀ (v0 : Arr api_Press) (v1 : Int) (v2 : api_Car), loopM E.Θ (newelref07_isPresses_cal N) (newelref07_Check_lp N) (noJn) 0 newelref07_Check_L6 (bodyAt E 33 6) n (newelref07_Check_h6 v0 v1 v2) k = newelref07_Check_l6 N n v0 v1 v2 (fun q0 => k .ret (newelref07_Check_x6_r q0)) (fun (_ : Unit) => k (.exit 0) (newelref07_Check_x6_0 )) := by
  induction n with
  | zero => intro v0 v1 v2; rfl
  | succ n ih =>
    intro v0 v1 v2
    refine Eq.trans (b := newelref07_Check_b6 N (fun v0 v1 v2 => loopM E.Θ (newelref07_isPresses_cal N) (newelref07_Check_lp N) (noJn) 0 newelref07_Check_L6 (bodyAt E 33 6) n (newelref07_Check_h6 v0 v1 v2) k) v0 v1 v2 (fun q0 => k .ret (newelref07_Check_x6_r q0)) (fun (_ : Unit) => k (.exit 0) (newelref07_Check_x6_0 ))) (by kernel_rfl) ?_
    have h : (fun (v0 : Arr api_Press) (v1 : Int) (v2 : api_Car) => loopM E.Θ (newelref07_isPresses_cal N) (newelref07_Check_lp N) (noJn) 0 newelref07_Check_L6 (bodyAt E 33 6) n (newelref07_Check_h6 v0 v1 v2) k) = (fun (v0 : Arr api_Press) (v1 : Int) (v2 : api_Car) => newelref07_Check_l6 N n v0 v1 v2 (fun q0 => k .ret (newelref07_Check_x6_r q0)) (fun (_ : Unit) => k (.exit 0) (newelref07_Check_x6_0 ))) := funext fun v0 => funext fun v1 => funext fun v2 => ih v0 v1 v2
    rw [h]
    rfl
theorem newelref07_Check_k6 {R : Type} (N : Nat) : LpKey (R := R) E 33 0 (newelref07_Check_lp N) 6 :=
  lpKey_of hE (newelref07_isPresses_cal_ok N) (lp := newelref07_Check_lp N) (jn := noJn) newelref07_Check_L6_ok [] kNil (by kernel_rfl) [] jNil (by kernel_rfl) N fun S k =>
    Eq.trans (b := newelref07_Check_L6.head.raw 0 S (fun S0 => newelref07_Check_d6 N S0 k)) (by kernel_rfl) (congrArg (newelref07_Check_L6.head.raw 0 S) (funext fun S0 => Eq.trans (newelref07_Check_l6_eq N k N (lstC api_PressC (lget S0.tmps 1)) (toI (lget S0.tmps 5)) (Cod.dec api_CarC (lget (entCs (entAt S0.tab 0))))).symm (by kernel_rfl)))
noncomputable def newelref07_Check_go {R : Type} (N : Nat) (args : List SV) (T : Tab) (kf : SV × Tab → Option R) : Option R :=
  newelref07_Check N (Cod.dec api_CarC (lget (toCs (lget args 0)))) (lstC api_PressC (lget args 1)) (fun q0 => kf (lget [.int .i64 q0] 0, []))
noncomputable def newelref07_Check_cal {R : Type} (N : Nat) : Cal R := callM (newelref07_isPresses_cal N) 33 0 newelref07_Check_sp (newelref07_Check_go N)
theorem newelref07_Check_cal_ok {R : Type} (N : Nat) : CalOk E.P (newelref07_Check_cal (R := R) N) :=
  callM_ok hE (newelref07_isPresses_cal_ok N) (lp := newelref07_Check_lp N) (jn := noJn) (keys := [6]) (kCons (newelref07_Check_k6 N) kNil) (by kernel_rfl) (js := []) jNil (by kernel_rfl) newelref07_Check_sp_ok newelref07_Check_rs_ok (fun args T kf => Eq.trans (newelref07_Check_def N (Cod.dec api_CarC (lget (toCs (lget args 0)))) (lstC api_PressC (lget args 1)) (fun q0 => kf (lget [.int .i64 q0] 0, []))) (by kernel_rfl : newelref07_Check_run N args T kf = fnM E (newelref07_isPresses_cal N) (newelref07_Check_lp N) (noJn) 33 (newelref07_Check_sp.vs args) (newelref07_Check_sp.tab T) 0 (resK newelref07_Check_rs kf)))
def ways_within_m {R : Type} (N : Nat) (a216 : Int) (a217 : Int) (a218 : Int) (k : Bool → Option R) : Option R :=
  bif decide (a216 ≥ a217) then
   k (decide (a216 ≤ a218))
  else
   k false
noncomputable def ways_within {R : Type} : Nat → Int → Int → Int → (Bool → Option R) → Option R := lock (@ways_within_m R)
theorem ways_within_def {R : Type} (N : Nat) (a216 : Int) (a217 : Int) (a218 : Int) (k : Bool → Option R) : ways_within N a216 a217 a218 k = ways_within_m N a216 a217 a218 k := by unfold ways_within; rw [lock_eq]
def ways_within_sp : Sp := ⟨[rInt .i64, rInt .i64, rInt .i64], []⟩
theorem ways_within_sp_ok : ways_within_sp.Ok := ⟨(allCons (rInt_ok .i64) (allCons (rInt_ok .i64) (allCons (rInt_ok .i64) allNil))), eNil⟩
def ways_within_rs : Sp := ⟨[rBool], []⟩
theorem ways_within_rs_ok : ways_within_rs.Ok := ⟨(allCons rBool_ok allNil), eNil⟩
def ways_within_run {R : Type} (N : Nat) (args : List SV) (T : Tab) (kf : SV × Tab → Option R) : Option R :=
  ways_within_m N (toI (lget args 0)) (toI (lget args 1)) (toI (lget args 2)) (fun q0 => kf (lget [.bool q0] 0, []))
def ways_within_lp {R : Type} (N : Nat) : Lp R := fun body S k => Option.none
noncomputable def ways_within_go {R : Type} (N : Nat) (args : List SV) (T : Tab) (kf : SV × Tab → Option R) : Option R :=
  ways_within N (toI (lget args 0)) (toI (lget args 1)) (toI (lget args 2)) (fun q0 => kf (lget [.bool q0] 0, []))
noncomputable def ways_within_cal {R : Type} (N : Nat) : Cal R := callM (newelref07_Check_cal N) 104 0 ways_within_sp (ways_within_go N)
theorem ways_within_cal_ok {R : Type} (N : Nat) : CalOk E.P (ways_within_cal (R := R) N) :=
  callM_ok hE (newelref07_Check_cal_ok N) (lp := ways_within_lp N) (jn := noJn) (keys := []) kNil (by kernel_rfl) (js := []) jNil (by kernel_rfl) ways_within_sp_ok ways_within_rs_ok (fun args T kf => Eq.trans (ways_within_def N (toI (lget args 0)) (toI (lget args 1)) (toI (lget args 2)) (fun q0 => kf (lget [.bool q0] 0, []))) (by kernel_rfl : ways_within_run N args T kf = fnM E (newelref07_Check_cal N) (ways_within_lp N) (noJn) 104 (ways_within_sp.vs args) (ways_within_sp.tab T) 0 (resK ways_within_rs kf)))
def ways_passage_m {R : Type} (N : Nat) (a225 : api_Passage) (a226 : Int) (k : Bool → Option R) : Option R :=
  ways_within N (api_Passage.A a225) (0 : Int) (w64 (a226 - (1 : Int))) (fun r227 =>
  bif !r227 then
   k false
  else
   ways_within N (api_Passage.B a225) (0 : Int) (w64 (a226 - (1 : Int))) (fun r228 =>
   bif !r228 then
    k false
   else
    bif api_Passage.A a225 == api_Passage.B a225 then
     k false
    else
     ways_within N (api_Passage.Ticks a225) (1 : Int) (20 : Int) (fun r229 =>
     bif !r229 then
      k false
     else
      ways_within N (api_Passage.Wide a225) (1 : Int) (50 : Int) (fun r230 =>
      bif !r230 then
       k false
      else
       bif api_Passage.Kind a225 == (1 : Int) then
        bif api_Passage.Machine a225 == (-1 : Int) then
         k (api_Passage.Still a225 == (0 : Int))
        else
         k false
       else
        bif api_Passage.Kind a225 == (2 : Int) then
         bif api_Passage.Machine a225 == (-1 : Int) then
          k (api_Passage.Still a225 == (0 : Int))
         else
          k false
        else
         bif api_Passage.Kind a225 == (5 : Int) then
          bif api_Passage.Machine a225 == (-1 : Int) then
           k (api_Passage.Still a225 == (0 : Int))
          else
           k false
         else
          bif api_Passage.Kind a225 == (3 : Int) then
           ways_within N (api_Passage.Machine a225) (0 : Int) (11 : Int) (fun r231 =>
           bif r231 then
            ways_within N (api_Passage.Still a225) (1 : Int) (20 : Int) (fun r232 =>
            k r232)
           else
            k false)
          else
           bif api_Passage.Kind a225 == (4 : Int) then
            ways_within N (api_Passage.Machine a225) (0 : Int) (11 : Int) (fun r233 =>
            bif r233 then
             k (api_Passage.Still a225 == (0 : Int))
            else
             k false)
           else
            k false))))
noncomputable def ways_passage {R : Type} : Nat → api_Passage → Int → (Bool → Option R) → Option R := lock (@ways_passage_m R)
theorem ways_passage_def {R : Type} (N : Nat) (a225 : api_Passage) (a226 : Int) (k : Bool → Option R) : ways_passage N a225 a226 k = ways_passage_m N a225 a226 k := by unfold ways_passage; rw [lock_eq]
def ways_passage_sp : Sp := ⟨[rAgg api_PassageC, rInt .i64], []⟩
theorem ways_passage_sp_ok : ways_passage_sp.Ok := ⟨(allCons (rAgg_ok api_PassageC_ok api_PassageC_len) (allCons (rInt_ok .i64) allNil)), eNil⟩
def ways_passage_rs : Sp := ⟨[rBool], []⟩
theorem ways_passage_rs_ok : ways_passage_rs.Ok := ⟨(allCons rBool_ok allNil), eNil⟩
def ways_passage_run {R : Type} (N : Nat) (args : List SV) (T : Tab) (kf : SV × Tab → Option R) : Option R :=
  ways_passage_m N (Cod.dec api_PassageC (lget (toCs (lget args 0)))) (toI (lget args 1)) (fun q0 => kf (lget [.bool q0] 0, []))
def ways_passage_lp {R : Type} (N : Nat) : Lp R := fun body S k => Option.none
noncomputable def ways_passage_go {R : Type} (N : Nat) (args : List SV) (T : Tab) (kf : SV × Tab → Option R) : Option R :=
  ways_passage N (Cod.dec api_PassageC (lget (toCs (lget args 0)))) (toI (lget args 1)) (fun q0 => kf (lget [.bool q0] 0, []))
noncomputable def ways_passage_cal {R : Type} (N : Nat) : Cal R := callM (ways_within_cal N) 131 0 ways_passage_sp (ways_passage_go N)
theorem ways_passage_cal_ok {R : Type} (N : Nat) : CalOk E.P (ways_passage_cal (R := R) N) :=
  callM_ok hE (ways_within_cal_ok N) (lp := ways_passage_lp N) (jn := noJn) (keys := []) kNil (by kernel_rfl) (js := []) jNil (by kernel_rfl) ways_passage_sp_ok ways_passage_rs_ok (fun args T kf => Eq.trans (ways_passage_def N (Cod.dec api_PassageC (lget (toCs (lget args 0)))) (toI (lget args 1)) (fun q0 => kf (lget [.bool q0] 0, []))) (by kernel_rfl : ways_passage_run N args T kf = fnM E (ways_within_cal N) (ways_passage_lp N) (noJn) 131 (ways_passage_sp.vs args) (ways_passage_sp.tab T) 0 (resK ways_passage_rs kf)))
def ways_Check_L5 : LoopSp := ⟨⟨[1, 3, 21, 22, 23], ⟨(dr 1 ((rPtr 0 0) :: (dr 1 ((rRow 1) :: (dr 17 ((rSl api_PassageC) :: (rInt .i64) :: (rInt .i64) :: (dr 41 []))))))), [(0, eBlkC api_StationC), (1, eMp false false intC intC)]⟩, 2⟩, [(Option.none, ⟨[2], ⟨(dr 2 ((rInt .i64) :: (dr 62 []))), []⟩, 0⟩), (some 0, ⟨[1], ⟨(dr 1 ((rPtr 0 0) :: (dr 63 []))), [(0, eBlkC api_StationC)]⟩, 1⟩)]⟩
theorem ways_Check_L5_ok : ways_Check_L5.Ok := ⟨⟨(drCons 1 (allCons (rPtr_ok 0 0) (drCons 1 (allCons (rRow_ok 1) (drCons 17 (allCons (rSl_ok api_PassageC_ok) (allCons (rInt_ok .i64) (allCons (rInt_ok .i64) (drCons 41 allNil))))))))), (eCons (eBlkC_ok api_StationC_ok api_StationC_len) (eCons (eMp_ok intC_flat intC_flat) eNil))⟩, (xCons ⟨(drCons 2 (allCons (rInt_ok .i64) (drCons 62 allNil))), eNil⟩ (xCons ⟨(drCons 1 (allCons (rPtr_ok 0 0) (drCons 63 allNil))), (eCons (eBlkC_ok api_StationC_ok api_StationC_len) eNil)⟩ xNil))⟩
def ways_Check_h5 (v220 : Arr api_Passage) (v221 : Int) (v222 : Int) (v223 : api_Station) (v224 : Mp Int Int) : St := ⟨(un 1 ((.ptr 0 0) :: (un 1 ((.row 1) :: (un 17 ((slC api_PassageC v220) :: (.int .i64 v221) :: (.int .i64 v222) :: (un 41 []))))))), [(0, .blk (Cod.enc api_StationC v223)), (1, mpE false false intC intC v224)], 2⟩
def ways_Check_x5_r (q0 : Int) : St := ⟨(un 2 ((.int .i64 q0) :: (un 62 []))), [], 0⟩
def ways_Check_x5_0 (v223 : api_Station) : St := ⟨(un 1 ((.ptr 0 0) :: (un 63 []))), [(0, .blk (Cod.enc api_StationC v223))], 1⟩
def ways_Check_b5 {R : Type} (N : Nat) (rc : Arr api_Passage → Int → Int → api_Station → Mp Int Int → Option R) (v220 : Arr api_Passage) (v221 : Int) (v222 : Int) (v223 : api_Station) (v224 : Mp Int Int) (kr : Int → Option R) (k0 : Unit → Option R) : Option R :=
  bif decide (v222 < v221) then
   bif decide ((0 : Int) ≤ v222) && decide (v222 < (↑(Arr.n v220) : Int)) then
    ways_passage N (Arr.f v220 (Int.toNat v222)) (api_Station.Places v223) (fun r234 =>
    bif !r234 then
     kr (80 : Int)
    else
     bif decide (api_Passage.Machine (Arr.f v220 (Int.toNat v222)) ≥ (0 : Int)) then
      bif decide (toI (putG [SV.int IntKind.i64 (api_Passage.Machine (Arr.f v220 (Int.toNat v222)))] [SV.int IntKind.i64 (w64 (Mp.get v224 (api_Passage.Machine (Arr.f v220 (Int.toNat v222))) + (1 : Int)))] (mpG intC intC v224) [SV.int IntKind.i64 (api_Passage.Machine (Arr.f v220 (Int.toNat v222)))] (0 : Nat)) > (1 : Int)) then
       kr (80 : Int)
      else
       rc v220 v221 (w64 (v222 + (1 : Int))) v223 (mpD intC intC (putH [SV.int IntKind.i64 (api_Passage.Machine (Arr.f v220 (Int.toNat v222)))] (mpH intC v224)) (putG [SV.int IntKind.i64 (api_Passage.Machine (Arr.f v220 (Int.toNat v222)))] [SV.int IntKind.i64 (w64 (Mp.get v224 (api_Passage.Machine (Arr.f v220 (Int.toNat v222))) + (1 : Int)))] (mpG intC intC v224)))
     else
      rc v220 v221 (w64 (v222 + (1 : Int))) v223 (mpD intC intC (putH [SV.int IntKind.i64 (api_Passage.Machine (Arr.f v220 (Int.toNat v222)))] (mpH intC v224)) (putG [SV.int IntKind.i64 (api_Passage.Machine (Arr.f v220 (Int.toNat v222)))] [SV.int IntKind.i64 (w64 (Mp.get v224 (api_Passage.Machine (Arr.f v220 (Int.toNat v222))) + (1 : Int)))] (mpG intC intC v224))))
   else
    Option.none
  else
   k0 ()
def ways_Check_l5 {R : Type} (N : Nat) : Nat → Arr api_Passage → Int → Int → api_Station → Mp Int Int → (Int → Option R) → (Unit → Option R) → Option R
  | 0, _, _, _, _, _, _, _ => Option.none
  | n + 1, v220, v221, v222, v223, v224, kr, k0 => ways_Check_b5 N (fun v220 v221 v222 v223 v224 => ways_Check_l5 N n v220 v221 v222 v223 v224 kr k0) v220 v221 v222 v223 v224 kr k0
def ways_Check_L15 : LoopSp := ⟨⟨[1, 6, 49, 50, 51], ⟨(dr 1 ((rPtr 0 0) :: (dr 4 ((rInt .i64) :: (dr 42 ((rSl intC) :: (rInt .i64) :: (rInt .i64) :: (dr 13 []))))))), [(0, eBlkC api_StationC)]⟩, 1⟩, [(Option.none, ⟨[2], ⟨(dr 2 ((rInt .i64) :: (dr 62 []))), []⟩, 0⟩), (some 2, ⟨[], ⟨(dr 65 []), []⟩, 0⟩)]⟩
theorem ways_Check_L15_ok : ways_Check_L15.Ok := ⟨⟨(drCons 1 (allCons (rPtr_ok 0 0) (drCons 4 (allCons (rInt_ok .i64) (drCons 42 (allCons (rSl_ok intC_ok) (allCons (rInt_ok .i64) (allCons (rInt_ok .i64) (drCons 13 allNil))))))))), (eCons (eBlkC_ok api_StationC_ok api_StationC_len) eNil)⟩, (xCons ⟨(drCons 2 (allCons (rInt_ok .i64) (drCons 62 allNil))), eNil⟩ (xCons ⟨(drCons 65 allNil), eNil⟩ xNil))⟩
def ways_Check_h15 (v236 : Int) (v237 : Arr Int) (v238 : Int) (v239 : Int) (v240 : api_Station) : St := ⟨(un 1 ((.ptr 0 0) :: (un 4 ((.int .i64 v236) :: (un 42 ((slC intC v237) :: (.int .i64 v238) :: (.int .i64 v239) :: (un 13 []))))))), [(0, .blk (Cod.enc api_StationC v240))], 1⟩
def ways_Check_x15_r (q0 : Int) : St := ⟨(un 2 ((.int .i64 q0) :: (un 62 []))), [], 0⟩
def ways_Check_x15_2  : St := ⟨(un 65 []), [], 0⟩
def ways_Check_b15 {R : Type} (N : Nat) (rc : Int → Arr Int → Int → Int → api_Station → Option R) (v236 : Int) (v237 : Arr Int) (v238 : Int) (v239 : Int) (v240 : api_Station) (kr : Int → Option R) (k2 : Unit → Option R) : Option R :=
  bif decide (v239 < v238) then
   bif decide ((0 : Int) ≤ v239) && decide (v239 < (↑(Arr.n v237) : Int)) then
    ways_within N (Arr.f v237 (Int.toNat v239)) (w64 (v236 + (1 : Int))) (w64 (api_Station.Places v240 - (1 : Int))) (fun r241 =>
    bif !r241 then
     kr (80 : Int)
    else
     rc (Arr.f v237 (Int.toNat v239)) v237 v238 (w64 (v239 + (1 : Int))) v240)
   else
    Option.none
  else
   k2 ()
def ways_Check_l15 {R : Type} (N : Nat) : Nat → Int → Arr Int → Int → Int → api_Station → (Int → Option R) → (Unit → Option R) → Option R
  | 0, _, _, _, _, _, _, _ => Option.none
  | n + 1, v236, v237, v238, v239, v240, kr, k2 => ways_Check_b15 N (fun v236 v237 v238 v239 v240 => ways_Check_l15 N n v236 v237 v238 v239 v240 kr k2) v236 v237 v238 v239 v240 kr k2
def ways_Check_m {R : Type} (N : Nat) (a215 : api_Station) (k : Int → Option R) : Option R :=
  ways_within N (api_Station.Places a215) (1 : Int) (10 : Int) (fun r219 =>
  bif !r219 then
   k (80 : Int)
  else
   bif decide ((↑(Arr.n (api_Station.Passages a215)) : Int) > (24 : Int)) then
    k (80 : Int)
   else
    ways_Check_l5 N N (api_Station.Passages a215) ((↑(Arr.n (api_Station.Passages a215)) : Int)) (0 : Int) a215 (mpD intC intC noH (noG (CK.cons (CK.int IntKind.i64) CK.nil))) (fun r235 =>
     k r235) (fun (_ : Unit) =>
     ways_Check_l15 N N (-1 : Int) (api_Station.Exits a215) ((↑(Arr.n (api_Station.Exits a215)) : Int)) (0 : Int) a215 (fun r242 =>
      k r242) (fun (_ : Unit) =>
      k (0 : Int))))
noncomputable def ways_Check {R : Type} : Nat → api_Station → (Int → Option R) → Option R := lock (@ways_Check_m R)
theorem ways_Check_def {R : Type} (N : Nat) (a215 : api_Station) (k : Int → Option R) : ways_Check N a215 k = ways_Check_m N a215 k := by unfold ways_Check; rw [lock_eq]
def ways_Check_sp : Sp := ⟨[rAgg api_StationC], []⟩
theorem ways_Check_sp_ok : ways_Check_sp.Ok := ⟨(allCons (rAgg_ok api_StationC_ok api_StationC_len) allNil), eNil⟩
def ways_Check_rs : Sp := ⟨[rInt .i64], []⟩
theorem ways_Check_rs_ok : ways_Check_rs.Ok := ⟨(allCons (rInt_ok .i64) allNil), eNil⟩
def ways_Check_run {R : Type} (N : Nat) (args : List SV) (T : Tab) (kf : SV × Tab → Option R) : Option R :=
  ways_Check_m N (Cod.dec api_StationC (lget (toCs (lget args 0)))) (fun q0 => kf (lget [.int .i64 q0] 0, []))
def ways_Check_d15 {R : Type} (N : Nat) (S0 : St) (k : Exit → St → Option R) : Option R :=
  ways_Check_l15 N N (toI (lget S0.tmps 6)) (lstC intC (lget S0.tmps 49)) (toI (lget S0.tmps 50)) (toI (lget S0.tmps 51)) (Cod.dec api_StationC (lget (entCs (entAt S0.tab 0)))) (fun q0 => k .ret (ways_Check_x15_r q0)) (fun (_ : Unit) => k (.exit 2) (ways_Check_x15_2 ))
def ways_Check_d5 {R : Type} (N : Nat) (S0 : St) (k : Exit → St → Option R) : Option R :=
  ways_Check_l5 N N (lstC api_PassageC (lget S0.tmps 21)) (toI (lget S0.tmps 22)) (toI (lget S0.tmps 23)) (Cod.dec api_StationC (lget (entCs (entAt S0.tab 0)))) (mpD intC intC (entHs (entAt S0.tab 1)) (entGt (entAt S0.tab 1))) (fun q0 => k .ret (ways_Check_x5_r q0)) (fun (_ : Unit) => k (.exit 0) (ways_Check_x5_0 (Cod.dec api_StationC (lget (entCs (entAt S0.tab 0))))))
def ways_Check_lp {R : Type} (N : Nat) : Lp R := fun body S k => bif (Go.Sx.keyOf body).getD 0 == 5 then (ways_Check_L5.head.raw 0 S (fun S0 => ways_Check_d5 N S0 k)) else bif (Go.Sx.keyOf body).getD 0 == 15 then (ways_Check_L15.head.raw 0 S (fun S0 => ways_Check_d15 N S0 k)) else Option.none
theorem ways_Check_l5_eq {R : Type} (N : Nat) (k : Exit → St → Option R) (n : Nat) : ∀ (v0 : Arr api_Passage) (v1 : Int) (v2 : Int) (v3 : api_Station) (v4 : Mp Int Int), loopM E.Θ (ways_passage_cal N) (ways_Check_lp N) (noJn) 0 ways_Check_L5 (bodyAt E 103 5) n (ways_Check_h5 v0 v1 v2 v3 v4) k = ways_Check_l5 N n v0 v1 v2 v3 v4 (fun q0 => k .ret (ways_Check_x5_r q0)) (fun (_ : Unit) => k (.exit 0) (ways_Check_x5_0 v3)) := by
  induction n with
  | zero => intro v0 v1 v2 v3 v4; rfl
  | succ n ih =>
    intro v0 v1 v2 v3 v4
    refine Eq.trans (b := ways_Check_b5 N (fun v0 v1 v2 v3 v4 => loopM E.Θ (ways_passage_cal N) (ways_Check_lp N) (noJn) 0 ways_Check_L5 (bodyAt E 103 5) n (ways_Check_h5 v0 v1 v2 v3 v4) k) v0 v1 v2 v3 v4 (fun q0 => k .ret (ways_Check_x5_r q0)) (fun (_ : Unit) => k (.exit 0) (ways_Check_x5_0 v3))) (by kernel_rfl) ?_
    have h : (fun (v0 : Arr api_Passage) (v1 : Int) (v2 : Int) (v3 : api_Station) (v4 : Mp Int Int) => loopM E.Θ (ways_passage_cal N) (ways_Check_lp N) (noJn) 0 ways_Check_L5 (bodyAt E 103 5) n (ways_Check_h5 v0 v1 v2 v3 v4) k) = (fun (v0 : Arr api_Passage) (v1 : Int) (v2 : Int) (v3 : api_Station) (v4 : Mp Int Int) => ways_Check_l5 N n v0 v1 v2 v3 v4 (fun q0 => k .ret (ways_Check_x5_r q0)) (fun (_ : Unit) => k (.exit 0) (ways_Check_x5_0 v3))) := funext fun v0 => funext fun v1 => funext fun v2 => funext fun v3 => funext fun v4 => ih v0 v1 v2 v3 v4
    rw [h]
    rfl
theorem ways_Check_l15_eq {R : Type} (N : Nat) (k : Exit → St → Option R) (n : Nat) : ∀ (v0 : Int) (v1 : Arr Int) (v2 : Int) (v3 : Int) (v4 : api_Station), loopM E.Θ (ways_passage_cal N) (ways_Check_lp N) (noJn) 0 ways_Check_L15 (bodyAt E 103 15) n (ways_Check_h15 v0 v1 v2 v3 v4) k = ways_Check_l15 N n v0 v1 v2 v3 v4 (fun q0 => k .ret (ways_Check_x15_r q0)) (fun (_ : Unit) => k (.exit 2) (ways_Check_x15_2 )) := by
  induction n with
  | zero => intro v0 v1 v2 v3 v4; rfl
  | succ n ih =>
    intro v0 v1 v2 v3 v4
    refine Eq.trans (b := ways_Check_b15 N (fun v0 v1 v2 v3 v4 => loopM E.Θ (ways_passage_cal N) (ways_Check_lp N) (noJn) 0 ways_Check_L15 (bodyAt E 103 15) n (ways_Check_h15 v0 v1 v2 v3 v4) k) v0 v1 v2 v3 v4 (fun q0 => k .ret (ways_Check_x15_r q0)) (fun (_ : Unit) => k (.exit 2) (ways_Check_x15_2 ))) (by kernel_rfl) ?_
    have h : (fun (v0 : Int) (v1 : Arr Int) (v2 : Int) (v3 : Int) (v4 : api_Station) => loopM E.Θ (ways_passage_cal N) (ways_Check_lp N) (noJn) 0 ways_Check_L15 (bodyAt E 103 15) n (ways_Check_h15 v0 v1 v2 v3 v4) k) = (fun (v0 : Int) (v1 : Arr Int) (v2 : Int) (v3 : Int) (v4 : api_Station) => ways_Check_l15 N n v0 v1 v2 v3 v4 (fun q0 => k .ret (ways_Check_x15_r q0)) (fun (_ : Unit) => k (.exit 2) (ways_Check_x15_2 ))) := funext fun v0 => funext fun v1 => funext fun v2 => funext fun v3 => funext fun v4 => ih v0 v1 v2 v3 v4
    rw [h]
    rfl
theorem ways_Check_k15 {R : Type} (N : Nat) : LpKey (R := R) E 103 0 (ways_Check_lp N) 15 :=
  lpKey_of hE (ways_passage_cal_ok N) (lp := ways_Check_lp N) (jn := noJn) ways_Check_L15_ok [] kNil (by kernel_rfl) [] jNil (by kernel_rfl) N fun S k =>
    Eq.trans (b := ways_Check_L15.head.raw 0 S (fun S0 => ways_Check_d15 N S0 k)) (by kernel_rfl) (congrArg (ways_Check_L15.head.raw 0 S) (funext fun S0 => Eq.trans (ways_Check_l15_eq N k N (toI (lget S0.tmps 6)) (lstC intC (lget S0.tmps 49)) (toI (lget S0.tmps 50)) (toI (lget S0.tmps 51)) (Cod.dec api_StationC (lget (entCs (entAt S0.tab 0))))).symm (by kernel_rfl)))
theorem ways_Check_k5 {R : Type} (N : Nat) : LpKey (R := R) E 103 0 (ways_Check_lp N) 5 :=
  lpKey_of hE (ways_passage_cal_ok N) (lp := ways_Check_lp N) (jn := noJn) ways_Check_L5_ok [] kNil (by kernel_rfl) [] jNil (by kernel_rfl) N fun S k =>
    Eq.trans (b := ways_Check_L5.head.raw 0 S (fun S0 => ways_Check_d5 N S0 k)) (by kernel_rfl) (congrArg (ways_Check_L5.head.raw 0 S) (funext fun S0 => Eq.trans (ways_Check_l5_eq N k N (lstC api_PassageC (lget S0.tmps 21)) (toI (lget S0.tmps 22)) (toI (lget S0.tmps 23)) (Cod.dec api_StationC (lget (entCs (entAt S0.tab 0)))) (mpD intC intC (entHs (entAt S0.tab 1)) (entGt (entAt S0.tab 1)))).symm (by kernel_rfl)))
noncomputable def ways_Check_go {R : Type} (N : Nat) (args : List SV) (T : Tab) (kf : SV × Tab → Option R) : Option R :=
  ways_Check N (Cod.dec api_StationC (lget (toCs (lget args 0)))) (fun q0 => kf (lget [.int .i64 q0] 0, []))
noncomputable def ways_Check_cal {R : Type} (N : Nat) : Cal R := callM (ways_passage_cal N) 103 0 ways_Check_sp (ways_Check_go N)
theorem ways_Check_cal_ok {R : Type} (N : Nat) : CalOk E.P (ways_Check_cal (R := R) N) :=
  callM_ok hE (ways_passage_cal_ok N) (lp := ways_Check_lp N) (jn := noJn) (keys := [5, 15]) (kCons (ways_Check_k5 N) (kCons (ways_Check_k15 N) kNil)) (by kernel_rfl) (js := []) jNil (by kernel_rfl) ways_Check_sp_ok ways_Check_rs_ok (fun args T kf => Eq.trans (ways_Check_def N (Cod.dec api_StationC (lget (toCs (lget args 0)))) (fun q0 => kf (lget [.int .i64 q0] 0, []))) (by kernel_rfl : ways_Check_run N args T kf = fnM E (ways_passage_cal N) (ways_Check_lp N) (noJn) 103 (ways_Check_sp.vs args) (ways_Check_sp.tab T) 0 (resK ways_Check_rs kf)))
def ways_place_L2 : LoopSp := ⟨⟨[2, 7, 8, 9], ⟨(dr 2 ((rPtr 0 0) :: (dr 4 ((rSl intC) :: (rInt .i64) :: (rInt .i64) :: (dr 10 []))))), [(0, eBlkC api_StationC)]⟩, 1⟩, [(Option.none, ⟨[4], ⟨(dr 4 ((rBool) :: (dr 15 []))), []⟩, 0⟩), (some 0, ⟨[], ⟨(dr 20 []), []⟩, 0⟩)]⟩
theorem ways_place_L2_ok : ways_place_L2.Ok := ⟨⟨(drCons 2 (allCons (rPtr_ok 0 0) (drCons 4 (allCons (rSl_ok intC_ok) (allCons (rInt_ok .i64) (allCons (rInt_ok .i64) (drCons 10 allNil))))))), (eCons (eBlkC_ok api_StationC_ok api_StationC_len) eNil)⟩, (xCons ⟨(drCons 4 (allCons rBool_ok (drCons 15 allNil))), eNil⟩ (xCons ⟨(drCons 20 allNil), eNil⟩ xNil))⟩
def ways_place_h2 (v247 : Arr Int) (v248 : Int) (v249 : Int) (v250 : api_Station) : St := ⟨(un 2 ((.ptr 0 0) :: (un 4 ((slC intC v247) :: (.int .i64 v248) :: (.int .i64 v249) :: (un 10 []))))), [(0, .blk (Cod.enc api_StationC v250))], 1⟩
def ways_place_x2_r (q0 : Bool) : St := ⟨(un 4 ((.bool q0) :: (un 15 []))), [], 0⟩
def ways_place_x2_0  : St := ⟨(un 20 []), [], 0⟩
def ways_place_b2 {R : Type} (N : Nat) (rc : Arr Int → Int → Int → api_Station → Option R) (v247 : Arr Int) (v248 : Int) (v249 : Int) (v250 : api_Station) (kr : Bool → Option R) (k0 : Unit → Option R) : Option R :=
  bif decide (v249 < v248) then
   bif decide ((0 : Int) ≤ v249) && decide (v249 < (↑(Arr.n v247) : Int)) then
    ways_within N (Arr.f v247 (Int.toNat v249)) (0 : Int) (w64 (api_Station.Places v250 - (1 : Int))) (fun r251 =>
    bif !r251 then
     kr false
    else
     rc v247 v248 (w64 (v249 + (1 : Int))) v250)
   else
    Option.none
  else
   k0 ()
def ways_place_l2 {R : Type} (N : Nat) : Nat → Arr Int → Int → Int → api_Station → (Bool → Option R) → (Unit → Option R) → Option R
  | 0, _, _, _, _, _, _ => Option.none
  | n + 1, v247, v248, v249, v250, kr, k0 => ways_place_b2 N (fun v247 v248 v249 v250 => ways_place_l2 N n v247 v248 v249 v250 kr k0) v247 v248 v249 v250 kr k0
def ways_place_m {R : Type} (N : Nat) (a245 : api_Station) (a246 : Arr Int) (k : Bool → Option R) : Option R :=
  ways_place_l2 N N a246 ((↑(Arr.n a246) : Int)) (0 : Int) a245 (fun r252 =>
   k r252) (fun (_ : Unit) =>
   k true)
noncomputable def ways_place {R : Type} : Nat → api_Station → Arr Int → (Bool → Option R) → Option R := lock (@ways_place_m R)
theorem ways_place_def {R : Type} (N : Nat) (a245 : api_Station) (a246 : Arr Int) (k : Bool → Option R) : ways_place N a245 a246 k = ways_place_m N a245 a246 k := by unfold ways_place; rw [lock_eq]
def ways_place_sp : Sp := ⟨[rAgg api_StationC, rSl intC], []⟩
theorem ways_place_sp_ok : ways_place_sp.Ok := ⟨(allCons (rAgg_ok api_StationC_ok api_StationC_len) (allCons (rSl_ok intC_ok) allNil)), eNil⟩
def ways_place_rs : Sp := ⟨[rBool], []⟩
theorem ways_place_rs_ok : ways_place_rs.Ok := ⟨(allCons rBool_ok allNil), eNil⟩
def ways_place_run {R : Type} (N : Nat) (args : List SV) (T : Tab) (kf : SV × Tab → Option R) : Option R :=
  ways_place_m N (Cod.dec api_StationC (lget (toCs (lget args 0)))) (lstC intC (lget args 1)) (fun q0 => kf (lget [.bool q0] 0, []))
def ways_place_d2 {R : Type} (N : Nat) (S0 : St) (k : Exit → St → Option R) : Option R :=
  ways_place_l2 N N (lstC intC (lget S0.tmps 7)) (toI (lget S0.tmps 8)) (toI (lget S0.tmps 9)) (Cod.dec api_StationC (lget (entCs (entAt S0.tab 0)))) (fun q0 => k .ret (ways_place_x2_r q0)) (fun (_ : Unit) => k (.exit 0) (ways_place_x2_0 ))
def ways_place_lp {R : Type} (N : Nat) : Lp R := fun body S k => bif (Go.Sx.keyOf body).getD 0 == 2 then (ways_place_L2.head.raw 0 S (fun S0 => ways_place_d2 N S0 k)) else Option.none
theorem ways_place_l2_eq {R : Type} (N : Nat) (k : Exit → St → Option R) (n : Nat) : ∀ (v0 : Arr Int) (v1 : Int) (v2 : Int) (v3 : api_Station), loopM E.Θ (ways_Check_cal N) (ways_place_lp N) (noJn) 0 ways_place_L2 (bodyAt E 105 2) n (ways_place_h2 v0 v1 v2 v3) k = ways_place_l2 N n v0 v1 v2 v3 (fun q0 => k .ret (ways_place_x2_r q0)) (fun (_ : Unit) => k (.exit 0) (ways_place_x2_0 )) := by
  induction n with
  | zero => intro v0 v1 v2 v3; rfl
  | succ n ih =>
    intro v0 v1 v2 v3
    refine Eq.trans (b := ways_place_b2 N (fun v0 v1 v2 v3 => loopM E.Θ (ways_Check_cal N) (ways_place_lp N) (noJn) 0 ways_place_L2 (bodyAt E 105 2) n (ways_place_h2 v0 v1 v2 v3) k) v0 v1 v2 v3 (fun q0 => k .ret (ways_place_x2_r q0)) (fun (_ : Unit) => k (.exit 0) (ways_place_x2_0 ))) (by kernel_rfl) ?_
    have h : (fun (v0 : Arr Int) (v1 : Int) (v2 : Int) (v3 : api_Station) => loopM E.Θ (ways_Check_cal N) (ways_place_lp N) (noJn) 0 ways_place_L2 (bodyAt E 105 2) n (ways_place_h2 v0 v1 v2 v3) k) = (fun (v0 : Arr Int) (v1 : Int) (v2 : Int) (v3 : api_Station) => ways_place_l2 N n v0 v1 v2 v3 (fun q0 => k .ret (ways_place_x2_r q0)) (fun (_ : Unit) => k (.exit 0) (ways_place_x2_0 ))) := funext fun v0 => funext fun v1 => funext fun v2 => funext fun v3 => ih v0 v1 v2 v3
    rw [h]
    rfl
theorem ways_place_k2 {R : Type} (N : Nat) : LpKey (R := R) E 105 0 (ways_place_lp N) 2 :=
  lpKey_of hE (ways_Check_cal_ok N) (lp := ways_place_lp N) (jn := noJn) ways_place_L2_ok [] kNil (by kernel_rfl) [] jNil (by kernel_rfl) N fun S k =>
    Eq.trans (b := ways_place_L2.head.raw 0 S (fun S0 => ways_place_d2 N S0 k)) (by kernel_rfl) (congrArg (ways_place_L2.head.raw 0 S) (funext fun S0 => Eq.trans (ways_place_l2_eq N k N (lstC intC (lget S0.tmps 7)) (toI (lget S0.tmps 8)) (toI (lget S0.tmps 9)) (Cod.dec api_StationC (lget (entCs (entAt S0.tab 0))))).symm (by kernel_rfl)))
noncomputable def ways_place_go {R : Type} (N : Nat) (args : List SV) (T : Tab) (kf : SV × Tab → Option R) : Option R :=
  ways_place N (Cod.dec api_StationC (lget (toCs (lget args 0)))) (lstC intC (lget args 1)) (fun q0 => kf (lget [.bool q0] 0, []))
noncomputable def ways_place_cal {R : Type} (N : Nat) : Cal R := callM (ways_Check_cal N) 105 0 ways_place_sp (ways_place_go N)
theorem ways_place_cal_ok {R : Type} (N : Nat) : CalOk E.P (ways_place_cal (R := R) N) :=
  callM_ok hE (ways_Check_cal_ok N) (lp := ways_place_lp N) (jn := noJn) (keys := [2]) (kCons (ways_place_k2 N) kNil) (by kernel_rfl) (js := []) jNil (by kernel_rfl) ways_place_sp_ok ways_place_rs_ok (fun args T kf => Eq.trans (ways_place_def N (Cod.dec api_StationC (lget (toCs (lget args 0)))) (lstC intC (lget args 1)) (fun q0 => kf (lget [.bool q0] 0, []))) (by kernel_rfl : ways_place_run N args T kf = fnM E (ways_Check_cal N) (ways_place_lp N) (noJn) 105 (ways_place_sp.vs args) (ways_place_sp.tab T) 0 (resK ways_place_rs kf)))
def ways_asked_m {R : Type} (N : Nat) (a212 : api_Station) (a213 : Int) (a214 : Arr Int) (k : Int → Option R) : Option R :=
  ways_Check N a212 (fun r243 =>
  bif r243 != (0 : Int) then
   k r243
  else
   ways_within N a213 (0 : Int) (4095 : Int) (fun r244 =>
   bif !r244 then
    k (1 : Int)
   else
    ways_place N a212 a214 (fun r253 =>
    bif !r253 then
     k (1 : Int)
    else
     k (0 : Int))))
noncomputable def ways_asked {R : Type} : Nat → api_Station → Int → Arr Int → (Int → Option R) → Option R := lock (@ways_asked_m R)
theorem ways_asked_def {R : Type} (N : Nat) (a212 : api_Station) (a213 : Int) (a214 : Arr Int) (k : Int → Option R) : ways_asked N a212 a213 a214 k = ways_asked_m N a212 a213 a214 k := by unfold ways_asked; rw [lock_eq]
def ways_asked_sp : Sp := ⟨[rAgg api_StationC, rInt .i64, rSl intC], []⟩
theorem ways_asked_sp_ok : ways_asked_sp.Ok := ⟨(allCons (rAgg_ok api_StationC_ok api_StationC_len) (allCons (rInt_ok .i64) (allCons (rSl_ok intC_ok) allNil))), eNil⟩
def ways_asked_rs : Sp := ⟨[rInt .i64], []⟩
theorem ways_asked_rs_ok : ways_asked_rs.Ok := ⟨(allCons (rInt_ok .i64) allNil), eNil⟩
def ways_asked_run {R : Type} (N : Nat) (args : List SV) (T : Tab) (kf : SV × Tab → Option R) : Option R :=
  ways_asked_m N (Cod.dec api_StationC (lget (toCs (lget args 0)))) (toI (lget args 1)) (lstC intC (lget args 2)) (fun q0 => kf (lget [.int .i64 q0] 0, []))
def ways_asked_lp {R : Type} (N : Nat) : Lp R := fun body S k => Option.none
noncomputable def ways_asked_go {R : Type} (N : Nat) (args : List SV) (T : Tab) (kf : SV × Tab → Option R) : Option R :=
  ways_asked N (Cod.dec api_StationC (lget (toCs (lget args 0)))) (toI (lget args 1)) (lstC intC (lget args 2)) (fun q0 => kf (lget [.int .i64 q0] 0, []))
noncomputable def ways_asked_cal {R : Type} (N : Nat) : Cal R := callM (ways_place_cal N) 59 0 ways_asked_sp (ways_asked_go N)
theorem ways_asked_cal_ok {R : Type} (N : Nat) : CalOk E.P (ways_asked_cal (R := R) N) :=
  callM_ok hE (ways_place_cal_ok N) (lp := ways_asked_lp N) (jn := noJn) (keys := []) kNil (by kernel_rfl) (js := []) jNil (by kernel_rfl) ways_asked_sp_ok ways_asked_rs_ok (fun args T kf => Eq.trans (ways_asked_def N (Cod.dec api_StationC (lget (toCs (lget args 0)))) (toI (lget args 1)) (lstC intC (lget args 2)) (fun q0 => kf (lget [.int .i64 q0] 0, []))) (by kernel_rfl : ways_asked_run N args T kf = fnM E (ways_place_cal N) (ways_asked_lp N) (noJn) 59 (ways_asked_sp.vs args) (ways_asked_sp.tab T) 0 (resK ways_asked_rs kf)))
def ways_level_other_m {R : Type} (N : Nat) (a284 : ways_level) (a285 : api_Passage) (a286 : Int) (k : Int → Option R) : Option R :=
  bif api_Passage.Kind a285 == (1 : Int) then
   bif api_Passage.A a285 == a286 then
    k (api_Passage.B a285)
   else
    bif api_Passage.B a285 == a286 then
     k (api_Passage.A a285)
    else
     k (-1 : Int)
  else
   bif api_Passage.Kind a285 == (4 : Int) then
    bif decide (api_Passage.Machine a285 < (0 : Int)) then
     Option.none
    else
     bif w64 (↑(BitVec.toNat (BitVec.ofInt (IntKind.bits IntKind.i64) (Int.fdiv (ways_level.f_out a284) ((2 : Int) ^ min (Int.toNat (api_Passage.Machine a285)) (IntKind.bits IntKind.i64))) &&& BitVec.ofInt (IntKind.bits IntKind.i64) (1 : Int))) : Int) == (0 : Int) then
      bif api_Passage.A a285 == a286 then
       k (api_Passage.B a285)
      else
       bif api_Passage.B a285 == a286 then
        k (api_Passage.A a285)
       else
        k (-1 : Int)
     else
      bif api_Passage.Kind a285 == (5 : Int) then
       bif !ways_level.f_help a284 then
        k (-1 : Int)
       else
        bif api_Passage.A a285 == a286 then
         k (api_Passage.B a285)
        else
         bif api_Passage.B a285 == a286 then
          k (api_Passage.A a285)
         else
          k (-1 : Int)
      else
       k (-1 : Int)
   else
    bif api_Passage.Kind a285 == (5 : Int) then
     bif !ways_level.f_help a284 then
      k (-1 : Int)
     else
      bif api_Passage.A a285 == a286 then
       k (api_Passage.B a285)
      else
       bif api_Passage.B a285 == a286 then
        k (api_Passage.A a285)
       else
        k (-1 : Int)
    else
     k (-1 : Int)
noncomputable def ways_level_other {R : Type} : Nat → ways_level → api_Passage → Int → (Int → Option R) → Option R := lock (@ways_level_other_m R)
theorem ways_level_other_def {R : Type} (N : Nat) (a284 : ways_level) (a285 : api_Passage) (a286 : Int) (k : Int → Option R) : ways_level_other N a284 a285 a286 k = ways_level_other_m N a284 a285 a286 k := by unfold ways_level_other; rw [lock_eq]
def ways_level_other_sp : Sp := ⟨[rAgg ways_levelC, rAgg api_PassageC, rInt .i64], []⟩
theorem ways_level_other_sp_ok : ways_level_other_sp.Ok := ⟨(allCons (rAgg_ok ways_levelC_ok ways_levelC_len) (allCons (rAgg_ok api_PassageC_ok api_PassageC_len) (allCons (rInt_ok .i64) allNil))), eNil⟩
def ways_level_other_rs : Sp := ⟨[rInt .i64], []⟩
theorem ways_level_other_rs_ok : ways_level_other_rs.Ok := ⟨(allCons (rInt_ok .i64) allNil), eNil⟩
def ways_level_other_run {R : Type} (N : Nat) (args : List SV) (T : Tab) (kf : SV × Tab → Option R) : Option R :=
  ways_level_other_m N (Cod.dec ways_levelC (lget (toCs (lget args 0)))) (Cod.dec api_PassageC (lget (toCs (lget args 1)))) (toI (lget args 2)) (fun q0 => kf (lget [.int .i64 q0] 0, []))
def ways_level_other_lp {R : Type} (N : Nat) : Lp R := fun body S k => Option.none
noncomputable def ways_level_other_go {R : Type} (N : Nat) (args : List SV) (T : Tab) (kf : SV × Tab → Option R) : Option R :=
  ways_level_other N (Cod.dec ways_levelC (lget (toCs (lget args 0)))) (Cod.dec api_PassageC (lget (toCs (lget args 1)))) (toI (lget args 2)) (fun q0 => kf (lget [.int .i64 q0] 0, []))
noncomputable def ways_level_other_cal {R : Type} (N : Nat) : Cal R := callM (ways_asked_cal N) 61 0 ways_level_other_sp (ways_level_other_go N)
theorem ways_level_other_cal_ok {R : Type} (N : Nat) : CalOk E.P (ways_level_other_cal (R := R) N) :=
  callM_ok hE (ways_asked_cal_ok N) (lp := ways_level_other_lp N) (jn := noJn) (keys := []) kNil (by kernel_rfl) (js := []) jNil (by kernel_rfl) ways_level_other_sp_ok ways_level_other_rs_ok (fun args T kf => Eq.trans (ways_level_other_def N (Cod.dec ways_levelC (lget (toCs (lget args 0)))) (Cod.dec api_PassageC (lget (toCs (lget args 1)))) (toI (lget args 2)) (fun q0 => kf (lget [.int .i64 q0] 0, []))) (by kernel_rfl : ways_level_other_run N args T kf = fnM E (ways_asked_cal N) (ways_level_other_lp N) (noJn) 61 (ways_level_other_sp.vs args) (ways_level_other_sp.tab T) 0 (resK ways_level_other_rs kf)))
def ways_level_far_L3 : LoopSp := ⟨⟨[1, 2, 5, 18, 19], ⟨(dr 1 ((rInt .i64) :: (rPtr 0 0) :: (dr 2 ((rRow 1) :: (dr 12 ((rInt .i64) :: (rInt .i64) :: (dr 64 []))))))), [(0, eBlkC ways_levelC), (1, eRow intC)]⟩, 2⟩, [(some 0, ⟨[1, 2, 5], ⟨(dr 1 ((rInt .i64) :: (rPtr 0 0) :: (dr 2 ((rRow 1) :: (dr 78 []))))), [(0, eBlkC ways_levelC), (1, eRow intC)]⟩, 2⟩)]⟩
theorem ways_level_far_L3_ok : ways_level_far_L3.Ok := ⟨⟨(drCons 1 (allCons (rInt_ok .i64) (allCons (rPtr_ok 0 0) (drCons 2 (allCons (rRow_ok 1) (drCons 12 (allCons (rInt_ok .i64) (allCons (rInt_ok .i64) (drCons 64 allNil))))))))), (eCons (eBlkC_ok ways_levelC_ok ways_levelC_len) (eCons (eRow_ok intC_ok) eNil))⟩, (xCons ⟨(drCons 1 (allCons (rInt_ok .i64) (allCons (rPtr_ok 0 0) (drCons 2 (allCons (rRow_ok 1) (drCons 78 allNil)))))), (eCons (eBlkC_ok ways_levelC_ok ways_levelC_len) (eCons (eRow_ok intC_ok) eNil))⟩ xNil)⟩
def ways_level_far_h3 (v257 : Int) (v258 : Int) (v259 : Int) (v260 : ways_level) (v261 : Bool) (v262 : Arr Int) : St := ⟨(un 1 ((.int .i64 v257) :: (.ptr 0 0) :: (un 2 ((.row 1) :: (un 12 ((.int .i64 v258) :: (.int .i64 v259) :: (un 64 []))))))), [(0, .blk (Cod.enc ways_levelC v260)), (1, rowE intC v261 v262)], 2⟩
def ways_level_far_x3_0 (v257 : Int) (v260 : ways_level) (v261 : Bool) (q3 : Arr Int) : St := ⟨(un 1 ((.int .i64 v257) :: (.ptr 0 0) :: (un 2 ((.row 1) :: (un 78 []))))), [(0, .blk (Cod.enc ways_levelC v260)), (1, rowE intC v261 q3)], 2⟩
def ways_level_far_b3 {R : Type} (N : Nat) (rc : Int → Int → Int → ways_level → Bool → Arr Int → Option R) (v257 : Int) (v258 : Int) (v259 : Int) (v260 : ways_level) (v261 : Bool) (v262 : Arr Int) (k0 : Arr Int → Option R) : Option R :=
  bif decide (v259 < v258) then
   bif decide ((0 : Int) ≤ v259) && decide (v259 < (↑(Arr.n v262) : Int)) then
    rc v257 v258 (w64 (v259 + (1 : Int))) v260 v261 (lst intC (Arr.n v262) (setCs (Int.toNat v259) (0 : Nat) (Cod.cell intC (Arr.f v262)) [SV.int IntKind.i64 (-1 : Int)]))
   else
    Option.none
  else
   k0 v262
def ways_level_far_l3 {R : Type} (N : Nat) : Nat → Int → Int → Int → ways_level → Bool → Arr Int → (Arr Int → Option R) → Option R
  | 0, _, _, _, _, _, _, _ => Option.none
  | n + 1, v257, v258, v259, v260, v261, v262, k0 => ways_level_far_b3 N (fun v257 v258 v259 v260 v261 v262 => ways_level_far_l3 N n v257 v258 v259 v260 v261 v262 k0) v257 v258 v259 v260 v261 v262 k0
def ways_level_far_L15 : LoopSp := ⟨⟨[2, 5, 7, 8, 32, 33, 38, 39, 40], ⟨(dr 2 ((rPtr 0 0) :: (dr 2 ((rRow 1) :: (dr 1 ((rBool) :: (rInt .i64) :: (dr 23 ((rInt .i64) :: (rInt .i64) :: (dr 4 ((rSl api_PassageC) :: (rInt .i64) :: (rInt .i64) :: (dr 43 []))))))))))), [(0, eBlkC ways_levelC), (1, eRow intC)]⟩, 2⟩, [(some 6, ⟨[2, 5, 7, 32, 33], ⟨(dr 2 ((rPtr 0 0) :: (dr 2 ((rRow 1) :: (dr 1 ((rBool) :: (dr 24 ((rInt .i64) :: (rInt .i64) :: (dr 50 []))))))))), [(0, eBlkC ways_levelC), (1, eRow intC)]⟩, 2⟩)]⟩
theorem ways_level_far_L15_ok : ways_level_far_L15.Ok := ⟨⟨(drCons 2 (allCons (rPtr_ok 0 0) (drCons 2 (allCons (rRow_ok 1) (drCons 1 (allCons rBool_ok (allCons (rInt_ok .i64) (drCons 23 (allCons (rInt_ok .i64) (allCons (rInt_ok .i64) (drCons 4 (allCons (rSl_ok api_PassageC_ok) (allCons (rInt_ok .i64) (allCons (rInt_ok .i64) (drCons 43 allNil))))))))))))))), (eCons (eBlkC_ok ways_levelC_ok ways_levelC_len) (eCons (eRow_ok intC_ok) eNil))⟩, (xCons ⟨(drCons 2 (allCons (rPtr_ok 0 0) (drCons 2 (allCons (rRow_ok 1) (drCons 1 (allCons rBool_ok (drCons 24 (allCons (rInt_ok .i64) (allCons (rInt_ok .i64) (drCons 50 allNil)))))))))), (eCons (eBlkC_ok ways_levelC_ok ways_levelC_len) (eCons (eRow_ok intC_ok) eNil))⟩ xNil)⟩
def ways_level_far_h15 (v274 : Bool) (v275 : Int) (v276 : Int) (v277 : Int) (v278 : Arr api_Passage) (v279 : Int) (v280 : Int) (v281 : ways_level) (v282 : Bool) (v283 : Arr Int) : St := ⟨(un 2 ((.ptr 0 0) :: (un 2 ((.row 1) :: (un 1 ((.bool v274) :: (.int .i64 v275) :: (un 23 ((.int .i64 v276) :: (.int .i64 v277) :: (un 4 ((slC api_PassageC v278) :: (.int .i64 v279) :: (.int .i64 v280) :: (un 43 []))))))))))), [(0, .blk (Cod.enc ways_levelC v281)), (1, rowE intC v282 v283)], 2⟩
def ways_level_far_x15_6 (v276 : Int) (v277 : Int) (v281 : ways_level) (v282 : Bool) (q0 : Bool) (q5 : Arr Int) : St := ⟨(un 2 ((.ptr 0 0) :: (un 2 ((.row 1) :: (un 1 ((.bool q0) :: (un 24 ((.int .i64 v276) :: (.int .i64 v277) :: (un 50 []))))))))), [(0, .blk (Cod.enc ways_levelC v281)), (1, rowE intC v282 q5)], 2⟩
def ways_level_far_b15 {R : Type} (N : Nat) (rc : Bool → Int → Int → Int → Arr api_Passage → Int → Int → ways_level → Bool → Arr Int → Option R) (v274 : Bool) (v275 : Int) (v276 : Int) (v277 : Int) (v278 : Arr api_Passage) (v279 : Int) (v280 : Int) (v281 : ways_level) (v282 : Bool) (v283 : Arr Int) (k6 : Bool → Arr Int → Option R) : Option R :=
  bif decide (v280 < v279) then
   bif decide ((0 : Int) ≤ v280) && decide (v280 < (↑(Arr.n v278) : Int)) then
    ways_level_other N v281 (Arr.f v278 (Int.toNat v280)) v275 (fun r287 =>
    bif decide (r287 < (0 : Int)) then
     rc v274 v275 v276 v277 v278 v279 (w64 (v280 + (1 : Int))) v281 v282 v283
    else
     bif decide ((0 : Int) ≤ r287) && decide (r287 < (↑(Arr.n v283) : Int)) then
      bif decide (Arr.f v283 (Int.toNat r287) < (0 : Int)) then
       rc v274 v275 v276 v277 v278 v279 (w64 (v280 + (1 : Int))) v281 v282 v283
      else
       bif decide ((0 : Int) ≤ r287) && decide (r287 < (↑(Arr.n v283) : Int)) then
        bif decide ((0 : Int) ≤ v275) && decide (v275 < (↑(Arr.n v283) : Int)) then
         bif decide (Arr.f v283 (Int.toNat v275) < (0 : Int)) then
          bif decide ((0 : Int) ≤ v275) && decide (v275 < (↑(Arr.n v283) : Int)) then
           rc true v275 v276 v277 v278 v279 (w64 (v280 + (1 : Int))) v281 v282 (lst intC (Arr.n v283) (setCs (Int.toNat v275) (0 : Nat) (Cod.cell intC (Arr.f v283)) [SV.int IntKind.i64 (w64 (Arr.f v283 (Int.toNat r287) + api_Passage.Ticks (Arr.f v278 (Int.toNat v280))))]))
          else
           Option.none
         else
          bif decide ((0 : Int) ≤ v275) && decide (v275 < (↑(Arr.n v283) : Int)) then
           bif decide (w64 (Arr.f v283 (Int.toNat r287) + api_Passage.Ticks (Arr.f v278 (Int.toNat v280))) < Arr.f v283 (Int.toNat v275)) then
            bif decide ((0 : Int) ≤ v275) && decide (v275 < (↑(Arr.n v283) : Int)) then
             rc true v275 v276 v277 v278 v279 (w64 (v280 + (1 : Int))) v281 v282 (lst intC (Arr.n v283) (setCs (Int.toNat v275) (0 : Nat) (Cod.cell intC (Arr.f v283)) [SV.int IntKind.i64 (w64 (Arr.f v283 (Int.toNat r287) + api_Passage.Ticks (Arr.f v278 (Int.toNat v280))))]))
            else
             Option.none
           else
            rc v274 v275 v276 v277 v278 v279 (w64 (v280 + (1 : Int))) v281 v282 v283
          else
           Option.none
        else
         Option.none
       else
        Option.none
     else
      Option.none)
   else
    Option.none
  else
   k6 v274 v283
def ways_level_far_l15 {R : Type} (N : Nat) : Nat → Bool → Int → Int → Int → Arr api_Passage → Int → Int → ways_level → Bool → Arr Int → (Bool → Arr Int → Option R) → Option R
  | 0, _, _, _, _, _, _, _, _, _, _, _ => Option.none
  | n + 1, v274, v275, v276, v277, v278, v279, v280, v281, v282, v283, k6 => ways_level_far_b15 N (fun v274 v275 v276 v277 v278 v279 v280 v281 v282 v283 => ways_level_far_l15 N n v274 v275 v276 v277 v278 v279 v280 v281 v282 v283 k6) v274 v275 v276 v277 v278 v279 v280 v281 v282 v283 k6
def ways_level_far_L12 : LoopSp := ⟨⟨[2, 5, 7, 32, 33], ⟨(dr 2 ((rPtr 0 0) :: (dr 2 ((rRow 1) :: (dr 1 ((rBool) :: (dr 24 ((rInt .i64) :: (rInt .i64) :: (dr 50 []))))))))), [(0, eBlkC ways_levelC), (1, eRow intC)]⟩, 2⟩, [(some 4, ⟨[2, 5, 7], ⟨(dr 2 ((rPtr 0 0) :: (dr 2 ((rRow 1) :: (dr 1 ((rBool) :: (dr 76 []))))))), [(0, eBlkC ways_levelC), (1, eRow intC)]⟩, 2⟩)]⟩
theorem ways_level_far_L12_ok : ways_level_far_L12.Ok := ⟨⟨(drCons 2 (allCons (rPtr_ok 0 0) (drCons 2 (allCons (rRow_ok 1) (drCons 1 (allCons rBool_ok (drCons 24 (allCons (rInt_ok .i64) (allCons (rInt_ok .i64) (drCons 50 allNil)))))))))), (eCons (eBlkC_ok ways_levelC_ok ways_levelC_len) (eCons (eRow_ok intC_ok) eNil))⟩, (xCons ⟨(drCons 2 (allCons (rPtr_ok 0 0) (drCons 2 (allCons (rRow_ok 1) (drCons 1 (allCons rBool_ok (drCons 76 allNil))))))), (eCons (eBlkC_ok ways_levelC_ok ways_levelC_len) (eCons (eRow_ok intC_ok) eNil))⟩ xNil)⟩
def ways_level_far_h12 (v268 : Bool) (v269 : Int) (v270 : Int) (v271 : ways_level) (v272 : Bool) (v273 : Arr Int) : St := ⟨(un 2 ((.ptr 0 0) :: (un 2 ((.row 1) :: (un 1 ((.bool v268) :: (un 24 ((.int .i64 v269) :: (.int .i64 v270) :: (un 50 []))))))))), [(0, .blk (Cod.enc ways_levelC v271)), (1, rowE intC v272 v273)], 2⟩
def ways_level_far_x12_4 (v271 : ways_level) (v272 : Bool) (q0 : Bool) (q3 : Arr Int) : St := ⟨(un 2 ((.ptr 0 0) :: (un 2 ((.row 1) :: (un 1 ((.bool q0) :: (un 76 []))))))), [(0, .blk (Cod.enc ways_levelC v271)), (1, rowE intC v272 q3)], 2⟩
def ways_level_far_b12 {R : Type} (N : Nat) (rc : Bool → Int → Int → ways_level → Bool → Arr Int → Option R) (v268 : Bool) (v269 : Int) (v270 : Int) (v271 : ways_level) (v272 : Bool) (v273 : Arr Int) (k4 : Bool → Arr Int → Option R) : Option R :=
  bif decide (v270 < v269) then
   ways_level_far_l15 N N v268 v270 v269 v270 (api_Station.Passages (ways_level.Station v271)) ((↑(Arr.n (api_Station.Passages (ways_level.Station v271))) : Int)) (0 : Int) v271 v272 v273 (fun r288 r289 =>
    rc r288 v269 (w64 (v270 + (1 : Int))) v271 v272 r289)
  else
   k4 v268 v273
def ways_level_far_l12 {R : Type} (N : Nat) : Nat → Bool → Int → Int → ways_level → Bool → Arr Int → (Bool → Arr Int → Option R) → Option R
  | 0, _, _, _, _, _, _, _ => Option.none
  | n + 1, v268, v269, v270, v271, v272, v273, k4 => ways_level_far_b12 N (fun v268 v269 v270 v271 v272 v273 => ways_level_far_l12 N n v268 v269 v270 v271 v272 v273 k4) v268 v269 v270 v271 v272 v273 k4
def ways_level_far_L9 : LoopSp := ⟨⟨[2, 5, 7], ⟨(dr 2 ((rPtr 0 0) :: (dr 2 ((rRow 1) :: (dr 1 ((rBool) :: (dr 76 []))))))), [(0, eBlkC ways_levelC), (1, eRow intC)]⟩, 2⟩, [(some 2, ⟨[5], ⟨(dr 5 ((rRow 0) :: (dr 78 []))), [(0, eRow intC)]⟩, 1⟩)]⟩
theorem ways_level_far_L9_ok : ways_level_far_L9.Ok := ⟨⟨(drCons 2 (allCons (rPtr_ok 0 0) (drCons 2 (allCons (rRow_ok 1) (drCons 1 (allCons rBool_ok (drCons 76 allNil))))))), (eCons (eBlkC_ok ways_levelC_ok ways_levelC_len) (eCons (eRow_ok intC_ok) eNil))⟩, (xCons ⟨(drCons 5 (allCons (rRow_ok 0) (drCons 78 allNil))), (eCons (eRow_ok intC_ok) eNil)⟩ xNil)⟩
def ways_level_far_h9 (v264 : Bool) (v265 : ways_level) (v266 : Bool) (v267 : Arr Int) : St := ⟨(un 2 ((.ptr 0 0) :: (un 2 ((.row 1) :: (un 1 ((.bool v264) :: (un 76 []))))))), [(0, .blk (Cod.enc ways_levelC v265)), (1, rowE intC v266 v267)], 2⟩
def ways_level_far_x9_2 (v266 : Bool) (q1 : Arr Int) : St := ⟨(un 5 ((.row 0) :: (un 78 []))), [(0, rowE intC v266 q1)], 1⟩
def ways_level_far_b9 {R : Type} (N : Nat) (rc : Bool → ways_level → Bool → Arr Int → Option R) (v264 : Bool) (v265 : ways_level) (v266 : Bool) (v267 : Arr Int) (k2 : Arr Int → Option R) : Option R :=
  bif v264 then
   ways_level_far_l12 N N false (api_Station.Places (ways_level.Station v265)) (0 : Int) v265 v266 v267 (fun r290 r291 =>
    rc r290 v265 v266 r291)
  else
   k2 v267
def ways_level_far_l9 {R : Type} (N : Nat) : Nat → Bool → ways_level → Bool → Arr Int → (Arr Int → Option R) → Option R
  | 0, _, _, _, _, _ => Option.none
  | n + 1, v264, v265, v266, v267, k2 => ways_level_far_b9 N (fun v264 v265 v266 v267 => ways_level_far_l9 N n v264 v265 v266 v267 k2) v264 v265 v266 v267 k2
def ways_level_far_m {R : Type} (N : Nat) (a255 : ways_level) (a256 : Int) (k : Bool → Arr Int → Option R) : Option R :=
  bif decide ((0 : Int) ≤ api_Station.Places (ways_level.Station a255)) && decide (api_Station.Places (ways_level.Station a255) ≤ api_Station.Places (ways_level.Station a255)) && decide (api_Station.Places (ways_level.Station a255) ≤ (1073741824 : Int)) then
   ways_level_far_l3 N N a256 ((↑(Int.toNat (api_Station.Places (ways_level.Station a255))) : Int)) (0 : Int) a255 false (lst intC (Int.toNat (api_Station.Places (ways_level.Station a255))) (zeroC [SV.int IntKind.i64 (0 : Int)])) (fun r263 =>
    bif decide ((0 : Int) ≤ a256) && decide (a256 < (↑(Arr.n r263) : Int)) then
     ways_level_far_l9 N N true a255 false (lst intC (Arr.n r263) (setCs (Int.toNat a256) (0 : Nat) (Cod.cell intC (Arr.f r263)) [SV.int IntKind.i64 (0 : Int)])) (fun r292 =>
      k false r292)
    else
     Option.none)
  else
   Option.none
noncomputable def ways_level_far {R : Type} : Nat → ways_level → Int → (Bool → Arr Int → Option R) → Option R := lock (@ways_level_far_m R)
theorem ways_level_far_def {R : Type} (N : Nat) (a255 : ways_level) (a256 : Int) (k : Bool → Arr Int → Option R) : ways_level_far N a255 a256 k = ways_level_far_m N a255 a256 k := by unfold ways_level_far; rw [lock_eq]
def ways_level_far_sp : Sp := ⟨[rAgg ways_levelC, rInt .i64], []⟩
theorem ways_level_far_sp_ok : ways_level_far_sp.Ok := ⟨(allCons (rAgg_ok ways_levelC_ok ways_levelC_len) (allCons (rInt_ok .i64) allNil)), eNil⟩
def ways_level_far_rs : Sp := ⟨[rRow 0], [(0, eRow intC)]⟩
theorem ways_level_far_rs_ok : ways_level_far_rs.Ok := ⟨(allCons (rRow_ok 0) allNil), (eCons (eRow_ok intC_ok) eNil)⟩
def ways_level_far_run {R : Type} (N : Nat) (args : List SV) (T : Tab) (kf : SV × Tab → Option R) : Option R :=
  ways_level_far_m N (Cod.dec ways_levelC (lget (toCs (lget args 0)))) (toI (lget args 1)) (fun q0 q1 => kf (lget [.row 0] 0, [(0, rowE intC q0 q1)]))
def ways_level_far_d15 {R : Type} (N : Nat) (S0 : St) (k : Exit → St → Option R) : Option R :=
  ways_level_far_l15 N N (toB (lget S0.tmps 7)) (toI (lget S0.tmps 8)) (toI (lget S0.tmps 32)) (toI (lget S0.tmps 33)) (lstC api_PassageC (lget S0.tmps 38)) (toI (lget S0.tmps 39)) (toI (lget S0.tmps 40)) (Cod.dec ways_levelC (lget (entCs (entAt S0.tab 0)))) (entNl (entAt S0.tab 1)) (lst intC (entN (entAt S0.tab 1)) (entC (entAt S0.tab 1))) (fun q0 q5 => k (.exit 6) (ways_level_far_x15_6 (toI (lget S0.tmps 32)) (toI (lget S0.tmps 33)) (Cod.dec ways_levelC (lget (entCs (entAt S0.tab 0)))) (entNl (entAt S0.tab 1)) q0 q5))
def ways_level_far_d12 {R : Type} (N : Nat) (S0 : St) (k : Exit → St → Option R) : Option R :=
  ways_level_far_l12 N N (toB (lget S0.tmps 7)) (toI (lget S0.tmps 32)) (toI (lget S0.tmps 33)) (Cod.dec ways_levelC (lget (entCs (entAt S0.tab 0)))) (entNl (entAt S0.tab 1)) (lst intC (entN (entAt S0.tab 1)) (entC (entAt S0.tab 1))) (fun q0 q3 => k (.exit 4) (ways_level_far_x12_4 (Cod.dec ways_levelC (lget (entCs (entAt S0.tab 0)))) (entNl (entAt S0.tab 1)) q0 q3))
def ways_level_far_d9 {R : Type} (N : Nat) (S0 : St) (k : Exit → St → Option R) : Option R :=
  ways_level_far_l9 N N (toB (lget S0.tmps 7)) (Cod.dec ways_levelC (lget (entCs (entAt S0.tab 0)))) (entNl (entAt S0.tab 1)) (lst intC (entN (entAt S0.tab 1)) (entC (entAt S0.tab 1))) (fun q1 => k (.exit 2) (ways_level_far_x9_2 (entNl (entAt S0.tab 1)) q1))
def ways_level_far_d3 {R : Type} (N : Nat) (S0 : St) (k : Exit → St → Option R) : Option R :=
  ways_level_far_l3 N N (toI (lget S0.tmps 1)) (toI (lget S0.tmps 18)) (toI (lget S0.tmps 19)) (Cod.dec ways_levelC (lget (entCs (entAt S0.tab 0)))) (entNl (entAt S0.tab 1)) (lst intC (entN (entAt S0.tab 1)) (entC (entAt S0.tab 1))) (fun q3 => k (.exit 0) (ways_level_far_x3_0 (toI (lget S0.tmps 1)) (Cod.dec ways_levelC (lget (entCs (entAt S0.tab 0)))) (entNl (entAt S0.tab 1)) q3))
def ways_level_far_lp {R : Type} (N : Nat) : Lp R := fun body S k => bif (Go.Sx.keyOf body).getD 0 == 3 then (ways_level_far_L3.head.raw 0 S (fun S0 => ways_level_far_d3 N S0 k)) else bif (Go.Sx.keyOf body).getD 0 == 9 then (ways_level_far_L9.head.raw 0 S (fun S0 => ways_level_far_d9 N S0 k)) else bif (Go.Sx.keyOf body).getD 0 == 12 then (ways_level_far_L12.head.raw 0 S (fun S0 => ways_level_far_d12 N S0 k)) else bif (Go.Sx.keyOf body).getD 0 == 15 then (ways_level_far_L15.head.raw 0 S (fun S0 => ways_level_far_d15 N S0 k)) else Option.none
theorem ways_level_far_l3_eq {R : Type} (N : Nat) (k : Exit → St → Option R) (n : Nat) : ∀ (v0 : Int) (v1 : Int) (v2 : Int) (v3 : ways_level) (v4 : Bool) (v5 : Arr Int), loopM E.Θ (ways_level_other_cal N) (ways_level_far_lp N) (noJn) 0 ways_level_far_L3 (bodyAt E 60 3) n (ways_level_far_h3 v0 v1 v2 v3 v4 v5) k = ways_level_far_l3 N n v0 v1 v2 v3 v4 v5 (fun q3 => k (.exit 0) (ways_level_far_x3_0 v0 v3 v4 q3)) := by
  induction n with
  | zero => intro v0 v1 v2 v3 v4 v5; rfl
  | succ n ih =>
    intro v0 v1 v2 v3 v4 v5
    refine Eq.trans (b := ways_level_far_b3 N (fun v0 v1 v2 v3 v4 v5 => loopM E.Θ (ways_level_other_cal N) (ways_level_far_lp N) (noJn) 0 ways_level_far_L3 (bodyAt E 60 3) n (ways_level_far_h3 v0 v1 v2 v3 v4 v5) k) v0 v1 v2 v3 v4 v5 (fun q3 => k (.exit 0) (ways_level_far_x3_0 v0 v3 v4 q3))) (by kernel_rfl) ?_
    have h : (fun (v0 : Int) (v1 : Int) (v2 : Int) (v3 : ways_level) (v4 : Bool) (v5 : Arr Int) => loopM E.Θ (ways_level_other_cal N) (ways_level_far_lp N) (noJn) 0 ways_level_far_L3 (bodyAt E 60 3) n (ways_level_far_h3 v0 v1 v2 v3 v4 v5) k) = (fun (v0 : Int) (v1 : Int) (v2 : Int) (v3 : ways_level) (v4 : Bool) (v5 : Arr Int) => ways_level_far_l3 N n v0 v1 v2 v3 v4 v5 (fun q3 => k (.exit 0) (ways_level_far_x3_0 v0 v3 v4 q3))) := funext fun v0 => funext fun v1 => funext fun v2 => funext fun v3 => funext fun v4 => funext fun v5 => ih v0 v1 v2 v3 v4 v5
    rw [h]
    rfl
theorem ways_level_far_l9_eq {R : Type} (N : Nat) (k : Exit → St → Option R) (n : Nat) : ∀ (v0 : Bool) (v1 : ways_level) (v2 : Bool) (v3 : Arr Int), loopM E.Θ (ways_level_other_cal N) (ways_level_far_lp N) (noJn) 0 ways_level_far_L9 (bodyAt E 60 9) n (ways_level_far_h9 v0 v1 v2 v3) k = ways_level_far_l9 N n v0 v1 v2 v3 (fun q1 => k (.exit 2) (ways_level_far_x9_2 v2 q1)) := by
  induction n with
  | zero => intro v0 v1 v2 v3; rfl
  | succ n ih =>
    intro v0 v1 v2 v3
    refine Eq.trans (b := ways_level_far_b9 N (fun v0 v1 v2 v3 => loopM E.Θ (ways_level_other_cal N) (ways_level_far_lp N) (noJn) 0 ways_level_far_L9 (bodyAt E 60 9) n (ways_level_far_h9 v0 v1 v2 v3) k) v0 v1 v2 v3 (fun q1 => k (.exit 2) (ways_level_far_x9_2 v2 q1))) (by kernel_rfl) ?_
    have h : (fun (v0 : Bool) (v1 : ways_level) (v2 : Bool) (v3 : Arr Int) => loopM E.Θ (ways_level_other_cal N) (ways_level_far_lp N) (noJn) 0 ways_level_far_L9 (bodyAt E 60 9) n (ways_level_far_h9 v0 v1 v2 v3) k) = (fun (v0 : Bool) (v1 : ways_level) (v2 : Bool) (v3 : Arr Int) => ways_level_far_l9 N n v0 v1 v2 v3 (fun q1 => k (.exit 2) (ways_level_far_x9_2 v2 q1))) := funext fun v0 => funext fun v1 => funext fun v2 => funext fun v3 => ih v0 v1 v2 v3
    rw [h]
    rfl
theorem ways_level_far_l12_eq {R : Type} (N : Nat) (k : Exit → St → Option R) (n : Nat) : ∀ (v0 : Bool) (v1 : Int) (v2 : Int) (v3 : ways_level) (v4 : Bool) (v5 : Arr Int), loopM E.Θ (ways_level_other_cal N) (ways_level_far_lp N) (noJn) 0 ways_level_far_L12 (bodyAt E 60 12) n (ways_level_far_h12 v0 v1 v2 v3 v4 v5) k = ways_level_far_l12 N n v0 v1 v2 v3 v4 v5 (fun q0 q3 => k (.exit 4) (ways_level_far_x12_4 v3 v4 q0 q3)) := by
  induction n with
  | zero => intro v0 v1 v2 v3 v4 v5; rfl
  | succ n ih =>
    intro v0 v1 v2 v3 v4 v5
    refine Eq.trans (b := ways_level_far_b12 N (fun v0 v1 v2 v3 v4 v5 => loopM E.Θ (ways_level_other_cal N) (ways_level_far_lp N) (noJn) 0 ways_level_far_L12 (bodyAt E 60 12) n (ways_level_far_h12 v0 v1 v2 v3 v4 v5) k) v0 v1 v2 v3 v4 v5 (fun q0 q3 => k (.exit 4) (ways_level_far_x12_4 v3 v4 q0 q3))) (by kernel_rfl) ?_
    have h : (fun (v0 : Bool) (v1 : Int) (v2 : Int) (v3 : ways_level) (v4 : Bool) (v5 : Arr Int) => loopM E.Θ (ways_level_other_cal N) (ways_level_far_lp N) (noJn) 0 ways_level_far_L12 (bodyAt E 60 12) n (ways_level_far_h12 v0 v1 v2 v3 v4 v5) k) = (fun (v0 : Bool) (v1 : Int) (v2 : Int) (v3 : ways_level) (v4 : Bool) (v5 : Arr Int) => ways_level_far_l12 N n v0 v1 v2 v3 v4 v5 (fun q0 q3 => k (.exit 4) (ways_level_far_x12_4 v3 v4 q0 q3))) := funext fun v0 => funext fun v1 => funext fun v2 => funext fun v3 => funext fun v4 => funext fun v5 => ih v0 v1 v2 v3 v4 v5
    rw [h]
    rfl
theorem ways_level_far_l15_eq {R : Type} (N : Nat) (k : Exit → St → Option R) (n : Nat) : ∀ (v0 : Bool) (v1 : Int) (v2 : Int) (v3 : Int) (v4 : Arr api_Passage) (v5 : Int) (v6 : Int) (v7 : ways_level) (v8 : Bool) (v9 : Arr Int), loopM E.Θ (ways_level_other_cal N) (ways_level_far_lp N) (noJn) 0 ways_level_far_L15 (bodyAt E 60 15) n (ways_level_far_h15 v0 v1 v2 v3 v4 v5 v6 v7 v8 v9) k = ways_level_far_l15 N n v0 v1 v2 v3 v4 v5 v6 v7 v8 v9 (fun q0 q5 => k (.exit 6) (ways_level_far_x15_6 v2 v3 v7 v8 q0 q5)) := by
  induction n with
  | zero => intro v0 v1 v2 v3 v4 v5 v6 v7 v8 v9; rfl
  | succ n ih =>
    intro v0 v1 v2 v3 v4 v5 v6 v7 v8 v9
    refine Eq.trans (b := ways_level_far_b15 N (fun v0 v1 v2 v3 v4 v5 v6 v7 v8 v9 => loopM E.Θ (ways_level_other_cal N) (ways_level_far_lp N) (noJn) 0 ways_level_far_L15 (bodyAt E 60 15) n (ways_level_far_h15 v0 v1 v2 v3 v4 v5 v6 v7 v8 v9) k) v0 v1 v2 v3 v4 v5 v6 v7 v8 v9 (fun q0 q5 => k (.exit 6) (ways_level_far_x15_6 v2 v3 v7 v8 q0 q5))) (by kernel_rfl) ?_
    have h : (fun (v0 : Bool) (v1 : Int) (v2 : Int) (v3 : Int) (v4 : Arr api_Passage) (v5 : Int) (v6 : Int) (v7 : ways_level) (v8 : Bool) (v9 : Arr Int) => loopM E.Θ (ways_level_other_cal N) (ways_level_far_lp N) (noJn) 0 ways_level_far_L15 (bodyAt E 60 15) n (ways_level_far_h15 v0 v1 v2 v3 v4 v5 v6 v7 v8 v9) k) = (fun (v0 : Bool) (v1 : Int) (v2 : Int) (v3 : Int) (v4 : Arr api_Passage) (v5 : Int) (v6 : Int) (v7 : ways_level) (v8 : Bool) (v9 : Arr Int) => ways_level_far_l15 N n v0 v1 v2 v3 v4 v5 v6 v7 v8 v9 (fun q0 q5 => k (.exit 6) (ways_level_far_x15_6 v2 v3 v7 v8 q0 q5))) := funext fun v0 => funext fun v1 => funext fun v2 => funext fun v3 => funext fun v4 => funext fun v5 => funext fun v6 => funext fun v7 => funext fun v8 => funext fun v9 => ih v0 v1 v2 v3 v4 v5 v6 v7 v8 v9
    rw [h]
    rfl
theorem ways_level_far_k3 {R : Type} (N : Nat) : LpKey (R := R) E 60 0 (ways_level_far_lp N) 3 :=
  lpKey_of hE (ways_level_other_cal_ok N) (lp := ways_level_far_lp N) (jn := noJn) ways_level_far_L3_ok [] kNil (by kernel_rfl) [] jNil (by kernel_rfl) N fun S k =>
    Eq.trans (b := ways_level_far_L3.head.raw 0 S (fun S0 => ways_level_far_d3 N S0 k)) (by kernel_rfl) (congrArg (ways_level_far_L3.head.raw 0 S) (funext fun S0 => Eq.trans (ways_level_far_l3_eq N k N (toI (lget S0.tmps 1)) (toI (lget S0.tmps 18)) (toI (lget S0.tmps 19)) (Cod.dec ways_levelC (lget (entCs (entAt S0.tab 0)))) (entNl (entAt S0.tab 1)) (lst intC (entN (entAt S0.tab 1)) (entC (entAt S0.tab 1)))).symm (by kernel_rfl)))
theorem ways_level_far_k15 {R : Type} (N : Nat) : LpKey (R := R) E 60 0 (ways_level_far_lp N) 15 :=
  lpKey_of hE (ways_level_other_cal_ok N) (lp := ways_level_far_lp N) (jn := noJn) ways_level_far_L15_ok [] kNil (by kernel_rfl) [] jNil (by kernel_rfl) N fun S k =>
    Eq.trans (b := ways_level_far_L15.head.raw 0 S (fun S0 => ways_level_far_d15 N S0 k)) (by kernel_rfl) (congrArg (ways_level_far_L15.head.raw 0 S) (funext fun S0 => Eq.trans (ways_level_far_l15_eq N k N (toB (lget S0.tmps 7)) (toI (lget S0.tmps 8)) (toI (lget S0.tmps 32)) (toI (lget S0.tmps 33)) (lstC api_PassageC (lget S0.tmps 38)) (toI (lget S0.tmps 39)) (toI (lget S0.tmps 40)) (Cod.dec ways_levelC (lget (entCs (entAt S0.tab 0)))) (entNl (entAt S0.tab 1)) (lst intC (entN (entAt S0.tab 1)) (entC (entAt S0.tab 1)))).symm (by kernel_rfl)))
theorem ways_level_far_k12 {R : Type} (N : Nat) : LpKey (R := R) E 60 0 (ways_level_far_lp N) 12 :=
  lpKey_of hE (ways_level_other_cal_ok N) (lp := ways_level_far_lp N) (jn := noJn) ways_level_far_L12_ok [15] (kCons (ways_level_far_k15 N) kNil) (by kernel_rfl) [] jNil (by kernel_rfl) N fun S k =>
    Eq.trans (b := ways_level_far_L12.head.raw 0 S (fun S0 => ways_level_far_d12 N S0 k)) (by kernel_rfl) (congrArg (ways_level_far_L12.head.raw 0 S) (funext fun S0 => Eq.trans (ways_level_far_l12_eq N k N (toB (lget S0.tmps 7)) (toI (lget S0.tmps 32)) (toI (lget S0.tmps 33)) (Cod.dec ways_levelC (lget (entCs (entAt S0.tab 0)))) (entNl (entAt S0.tab 1)) (lst intC (entN (entAt S0.tab 1)) (entC (entAt S0.tab 1)))).symm (by kernel_rfl)))
theorem ways_level_far_k9 {R : Type} (N : Nat) : LpKey (R := R) E 60 0 (ways_level_far_lp N) 9 :=
  lpKey_of hE (ways_level_other_cal_ok N) (lp := ways_level_far_lp N) (jn := noJn) ways_level_far_L9_ok [12, 15] (kCons (ways_level_far_k12 N) (kCons (ways_level_far_k15 N) kNil)) (by kernel_rfl) [] jNil (by kernel_rfl) N fun S k =>
    Eq.trans (b := ways_level_far_L9.head.raw 0 S (fun S0 => ways_level_far_d9 N S0 k)) (by kernel_rfl) (congrArg (ways_level_far_L9.head.raw 0 S) (funext fun S0 => Eq.trans (ways_level_far_l9_eq N k N (toB (lget S0.tmps 7)) (Cod.dec ways_levelC (lget (entCs (entAt S0.tab 0)))) (entNl (entAt S0.tab 1)) (lst intC (entN (entAt S0.tab 1)) (entC (entAt S0.tab 1)))).symm (by kernel_rfl)))
noncomputable def ways_level_far_go {R : Type} (N : Nat) (args : List SV) (T : Tab) (kf : SV × Tab → Option R) : Option R :=
  ways_level_far N (Cod.dec ways_levelC (lget (toCs (lget args 0)))) (toI (lget args 1)) (fun q0 q1 => kf (lget [.row 0] 0, [(0, rowE intC q0 q1)]))
noncomputable def ways_level_far_cal {R : Type} (N : Nat) : Cal R := callM (ways_level_other_cal N) 60 0 ways_level_far_sp (ways_level_far_go N)
theorem ways_level_far_cal_ok {R : Type} (N : Nat) : CalOk E.P (ways_level_far_cal (R := R) N) :=
  callM_ok hE (ways_level_other_cal_ok N) (lp := ways_level_far_lp N) (jn := noJn) (keys := [3, 9, 12, 15]) (kCons (ways_level_far_k3 N) (kCons (ways_level_far_k9 N) (kCons (ways_level_far_k12 N) (kCons (ways_level_far_k15 N) kNil)))) (by kernel_rfl) (js := []) jNil (by kernel_rfl) ways_level_far_sp_ok ways_level_far_rs_ok (fun args T kf => Eq.trans (ways_level_far_def N (Cod.dec ways_levelC (lget (toCs (lget args 0)))) (toI (lget args 1)) (fun q0 q1 => kf (lget [.row 0] 0, [(0, rowE intC q0 q1)]))) (by kernel_rfl : ways_level_far_run N args T kf = fnM E (ways_level_other_cal N) (ways_level_far_lp N) (noJn) 60 (ways_level_far_sp.vs args) (ways_level_far_sp.tab T) 0 (resK ways_level_far_rs kf)))
def ways_Way_L11 : LoopSp := ⟨⟨[3, 4, 5, 11, 13, 14, 15, 45, 46, 47], ⟨(dr 3 ((rInt .i64) :: (rInt .i64) :: (rPtr 0 0) :: (dr 5 ((rRow 1) :: (dr 1 ((rPtr 2 0) :: (rRow 3) :: (rInt .i64) :: (dr 29 ((rSl api_PassageC) :: (rInt .i64) :: (rInt .i64) :: (dr 42 []))))))))), [(0, eBlkC api_StationC), (1, eRow intC), (2, eBlkC ways_levelC), (3, eRow intC)]⟩, 4⟩, [(some 2, ⟨[3, 4, 5, 11, 13, 14, 15], ⟨(dr 3 ((rInt .i64) :: (rInt .i64) :: (rPtr 0 0) :: (dr 5 ((rRow 1) :: (dr 1 ((rPtr 2 0) :: (rRow 3) :: (rInt .i64) :: (dr 74 []))))))), [(0, eBlkC api_StationC), (1, eRow intC), (2, eBlkC ways_levelC), (3, eRow intC)]⟩, 4⟩)]⟩
theorem ways_Way_L11_ok : ways_Way_L11.Ok := ⟨⟨(drCons 3 (allCons (rInt_ok .i64) (allCons (rInt_ok .i64) (allCons (rPtr_ok 0 0) (drCons 5 (allCons (rRow_ok 1) (drCons 1 (allCons (rPtr_ok 2 0) (allCons (rRow_ok 3) (allCons (rInt_ok .i64) (drCons 29 (allCons (rSl_ok api_PassageC_ok) (allCons (rInt_ok .i64) (allCons (rInt_ok .i64) (drCons 42 allNil))))))))))))))), (eCons (eBlkC_ok api_StationC_ok api_StationC_len) (eCons (eRow_ok intC_ok) (eCons (eBlkC_ok ways_levelC_ok ways_levelC_len) (eCons (eRow_ok intC_ok) eNil))))⟩, (xCons ⟨(drCons 3 (allCons (rInt_ok .i64) (allCons (rInt_ok .i64) (allCons (rPtr_ok 0 0) (drCons 5 (allCons (rRow_ok 1) (drCons 1 (allCons (rPtr_ok 2 0) (allCons (rRow_ok 3) (allCons (rInt_ok .i64) (drCons 74 allNil))))))))))), (eCons (eBlkC_ok api_StationC_ok api_StationC_len) (eCons (eRow_ok intC_ok) (eCons (eBlkC_ok ways_levelC_ok ways_levelC_len) (eCons (eRow_ok intC_ok) eNil))))⟩ xNil)⟩
def ways_Way_h11 (v304 : Int) (v305 : Int) (v306 : Int) (v307 : Arr api_Passage) (v308 : Int) (v309 : Int) (v310 : api_Station) (v311 : Bool) (v312 : Arr Int) (v313 : ways_level) (v314 : Bool) (v315 : Arr Int) : St := ⟨(un 3 ((.int .i64 v304) :: (.int .i64 v305) :: (.ptr 0 0) :: (un 5 ((.row 1) :: (un 1 ((.ptr 2 0) :: (.row 3) :: (.int .i64 v306) :: (un 29 ((slC api_PassageC v307) :: (.int .i64 v308) :: (.int .i64 v309) :: (un 42 []))))))))), [(0, .blk (Cod.enc api_StationC v310)), (1, rowE intC v311 v312), (2, .blk (Cod.enc ways_levelC v313)), (3, rowE intC v314 v315)], 4⟩
def ways_Way_x11_2 (v304 : Int) (v305 : Int) (v310 : api_Station) (v313 : ways_level) (v314 : Bool) (v315 : Arr Int) (q2 : Int) (q4 : Bool) (q5 : Arr Int) : St := ⟨(un 3 ((.int .i64 v304) :: (.int .i64 v305) :: (.ptr 0 0) :: (un 5 ((.row 1) :: (un 1 ((.ptr 2 0) :: (.row 3) :: (.int .i64 q2) :: (un 74 []))))))), [(0, .blk (Cod.enc api_StationC v310)), (1, rowE intC q4 q5), (2, .blk (Cod.enc ways_levelC v313)), (3, rowE intC v314 v315)], 4⟩
def ways_Way_b11 {R : Type} (N : Nat) (rc : Int → Int → Int → Arr api_Passage → Int → Int → api_Station → Bool → Arr Int → ways_level → Bool → Arr Int → Option R) (v304 : Int) (v305 : Int) (v306 : Int) (v307 : Arr api_Passage) (v308 : Int) (v309 : Int) (v310 : api_Station) (v311 : Bool) (v312 : Arr Int) (v313 : ways_level) (v314 : Bool) (v315 : Arr Int) (k2 : Int → Bool → Arr Int → Option R) : Option R :=
  bif decide (v309 < v308) then
   bif decide ((0 : Int) ≤ v309) && decide (v309 < (↑(Arr.n v307) : Int)) then
    ways_level_other N v313 (Arr.f v307 (Int.toNat v309)) v306 (fun r316 =>
    bif decide (r316 ≥ (0 : Int)) then
     bif decide ((0 : Int) ≤ r316) && decide (r316 < (↑(Arr.n v315) : Int)) then
      bif decide (Arr.f v315 (Int.toNat r316) ≥ (0 : Int)) then
       bif decide ((0 : Int) ≤ r316) && decide (r316 < (↑(Arr.n v315) : Int)) then
        bif decide ((0 : Int) ≤ v306) && decide (v306 < (↑(Arr.n v315) : Int)) then
         bif w64 (Arr.f v315 (Int.toNat r316) + api_Passage.Ticks (Arr.f v307 (Int.toNat v309))) == Arr.f v315 (Int.toNat v306) then
          bif room (Arr.n v312 + (1 : Nat)) then
           k2 r316 false (lst intC (Arr.n v312 + (1 : Nat)) (catC (Arr.n v312) (Cod.cell intC (Arr.f v312)) (litC [SV.int IntKind.i64 (0 : Int)] [[SV.int IntKind.i64 v309]])))
          else
           Option.none
         else
          rc v304 v305 v306 v307 v308 (w64 (v309 + (1 : Int))) v310 v311 v312 v313 v314 v315
        else
         Option.none
       else
        Option.none
      else
       rc v304 v305 v306 v307 v308 (w64 (v309 + (1 : Int))) v310 v311 v312 v313 v314 v315
     else
      Option.none
    else
     rc v304 v305 v306 v307 v308 (w64 (v309 + (1 : Int))) v310 v311 v312 v313 v314 v315)
   else
    Option.none
  else
   k2 v306 v311 v312
def ways_Way_l11 {R : Type} (N : Nat) : Nat → Int → Int → Int → Arr api_Passage → Int → Int → api_Station → Bool → Arr Int → ways_level → Bool → Arr Int → (Int → Bool → Arr Int → Option R) → Option R
  | 0, _, _, _, _, _, _, _, _, _, _, _, _, _ => Option.none
  | n + 1, v304, v305, v306, v307, v308, v309, v310, v311, v312, v313, v314, v315, k2 => ways_Way_b11 N (fun v304 v305 v306 v307 v308 v309 v310 v311 v312 v313 v314 v315 => ways_Way_l11 N n v304 v305 v306 v307 v308 v309 v310 v311 v312 v313 v314 v315 k2) v304 v305 v306 v307 v308 v309 v310 v311 v312 v313 v314 v315 k2
def ways_Way_L9 : LoopSp := ⟨⟨[3, 4, 5, 11, 13, 14, 15], ⟨(dr 3 ((rInt .i64) :: (rInt .i64) :: (rPtr 0 0) :: (dr 5 ((rRow 1) :: (dr 1 ((rPtr 2 0) :: (rRow 3) :: (rInt .i64) :: (dr 74 []))))))), [(0, eBlkC api_StationC), (1, eRow intC), (2, eBlkC ways_levelC), (3, eRow intC)]⟩, 4⟩, [(some 0, ⟨[3, 11, 14], ⟨(dr 3 ((rInt .i64) :: (dr 7 ((rRow 0) :: (dr 2 ((rRow 1) :: (dr 75 []))))))), [(0, eRow intC), (1, eRow intC)]⟩, 2⟩)]⟩
theorem ways_Way_L9_ok : ways_Way_L9.Ok := ⟨⟨(drCons 3 (allCons (rInt_ok .i64) (allCons (rInt_ok .i64) (allCons (rPtr_ok 0 0) (drCons 5 (allCons (rRow_ok 1) (drCons 1 (allCons (rPtr_ok 2 0) (allCons (rRow_ok 3) (allCons (rInt_ok .i64) (drCons 74 allNil))))))))))), (eCons (eBlkC_ok api_StationC_ok api_StationC_len) (eCons (eRow_ok intC_ok) (eCons (eBlkC_ok ways_levelC_ok ways_levelC_len) (eCons (eRow_ok intC_ok) eNil))))⟩, (xCons ⟨(drCons 3 (allCons (rInt_ok .i64) (drCons 7 (allCons (rRow_ok 0) (drCons 2 (allCons (rRow_ok 1) (drCons 75 allNil))))))), (eCons (eRow_ok intC_ok) (eCons (eRow_ok intC_ok) eNil))⟩ xNil)⟩
def ways_Way_h9 (v295 : Int) (v296 : Int) (v297 : Int) (v298 : api_Station) (v299 : Bool) (v300 : Arr Int) (v301 : ways_level) (v302 : Bool) (v303 : Arr Int) : St := ⟨(un 3 ((.int .i64 v295) :: (.int .i64 v296) :: (.ptr 0 0) :: (un 5 ((.row 1) :: (un 1 ((.ptr 2 0) :: (.row 3) :: (.int .i64 v297) :: (un 74 []))))))), [(0, .blk (Cod.enc api_StationC v298)), (1, rowE intC v299 v300), (2, .blk (Cod.enc ways_levelC v301)), (3, rowE intC v302 v303)], 4⟩
def ways_Way_x9_0 (v295 : Int) (v302 : Bool) (v303 : Arr Int) (q1 : Bool) (q2 : Arr Int) : St := ⟨(un 3 ((.int .i64 v295) :: (un 7 ((.row 0) :: (un 2 ((.row 1) :: (un 75 []))))))), [(0, rowE intC q1 q2), (1, rowE intC v302 v303)], 2⟩
def ways_Way_b9 {R : Type} (N : Nat) (rc : Int → Int → Int → api_Station → Bool → Arr Int → ways_level → Bool → Arr Int → Option R) (v295 : Int) (v296 : Int) (v297 : Int) (v298 : api_Station) (v299 : Bool) (v300 : Arr Int) (v301 : ways_level) (v302 : Bool) (v303 : Arr Int) (k0 : Bool → Arr Int → Option R) : Option R :=
  bif v297 != v296 then
   ways_Way_l11 N N v295 v296 v297 (api_Station.Passages v298) ((↑(Arr.n (api_Station.Passages v298)) : Int)) (0 : Int) v298 v299 v300 v301 v302 v303 (fun r317 r318 r319 =>
    rc v295 v296 r317 v298 r318 r319 v301 v302 v303)
  else
   k0 v299 v300
def ways_Way_l9 {R : Type} (N : Nat) : Nat → Int → Int → Int → api_Station → Bool → Arr Int → ways_level → Bool → Arr Int → (Bool → Arr Int → Option R) → Option R
  | 0, _, _, _, _, _, _, _, _, _, _ => Option.none
  | n + 1, v295, v296, v297, v298, v299, v300, v301, v302, v303, k0 => ways_Way_b9 N (fun v295 v296 v297 v298 v299 v300 v301 v302 v303 => ways_Way_l9 N n v295 v296 v297 v298 v299 v300 v301 v302 v303 k0) v295 v296 v297 v298 v299 v300 v301 v302 v303 k0
def ways_Way_m {R : Type} (N : Nat) (a207 : api_Station) (a208 : Int) (a209 : Bool) (a210 : Int) (a211 : Int) (k : Int → Int → Bool → Arr Int → Option R) : Option R :=
  ways_asked N a207 a208 (lst intC (2 : Nat) (litC [SV.int IntKind.i64 (0 : Int)] [[SV.int IntKind.i64 a210], [SV.int IntKind.i64 a211]])) (fun r254 =>
  bif r254 != (0 : Int) then
   k (0 : Int) r254 true (lst intC (0 : Nat) (zeroC [SV.int IntKind.i64 (0 : Int)]))
  else
   ways_level_far N (ways_level.mk a207 a208 a209) a211 (fun r293 r294 =>
   bif decide ((0 : Int) ≤ a210) && decide (a210 < (↑(Arr.n r294) : Int)) then
    bif decide (Arr.f r294 (Int.toNat a210) < (0 : Int)) then
     k (0 : Int) (3 : Int) true (lst intC (0 : Nat) (zeroC [SV.int IntKind.i64 (0 : Int)]))
    else
     ways_Way_l9 N N a210 a211 a210 a207 true (lst intC (0 : Nat) (zeroC [SV.int IntKind.i64 (0 : Int)])) (ways_level.mk a207 a208 a209) r293 r294 (fun r320 r321 =>
      bif decide ((0 : Int) ≤ a210) && decide (a210 < (↑(Arr.n r294) : Int)) then
       k (Arr.f r294 (Int.toNat a210)) (0 : Int) r320 r321
      else
       Option.none)
   else
    Option.none))
noncomputable def ways_Way {R : Type} : Nat → api_Station → Int → Bool → Int → Int → (Int → Int → Bool → Arr Int → Option R) → Option R := lock (@ways_Way_m R)
theorem ways_Way_def {R : Type} (N : Nat) (a207 : api_Station) (a208 : Int) (a209 : Bool) (a210 : Int) (a211 : Int) (k : Int → Int → Bool → Arr Int → Option R) : ways_Way N a207 a208 a209 a210 a211 k = ways_Way_m N a207 a208 a209 a210 a211 k := by unfold ways_Way; rw [lock_eq]
def ways_Way_sp : Sp := ⟨[rAgg api_StationC, rInt .i64, rBool, rInt .i64, rInt .i64], []⟩
theorem ways_Way_sp_ok : ways_Way_sp.Ok := ⟨(allCons (rAgg_ok api_StationC_ok api_StationC_len) (allCons (rInt_ok .i64) (allCons rBool_ok (allCons (rInt_ok .i64) (allCons (rInt_ok .i64) allNil))))), eNil⟩
def ways_Way_rs : Sp := ⟨[rTup [rInt .i64, rRow 0, rInt .i64]], [(0, eRow intC)]⟩
theorem ways_Way_rs_ok : ways_Way_rs.Ok := ⟨(allCons (rTup_ok (allCons (rInt_ok .i64) (allCons (rRow_ok 0) (allCons (rInt_ok .i64) allNil)))) allNil), (eCons (eRow_ok intC_ok) eNil)⟩
def ways_Way_run {R : Type} (N : Nat) (args : List SV) (T : Tab) (kf : SV × Tab → Option R) : Option R :=
  ways_Way_m N (Cod.dec api_StationC (lget (toCs (lget args 0)))) (toI (lget args 1)) (toB (lget args 2)) (toI (lget args 3)) (toI (lget args 4)) (fun q0 q1 q2 q3 => kf (lget [.tup [.int .i64 q0, .row 0, .int .i64 q1]] 0, [(0, rowE intC q2 q3)]))
def ways_Way_d11 {R : Type} (N : Nat) (S0 : St) (k : Exit → St → Option R) : Option R :=
  ways_Way_l11 N N (toI (lget S0.tmps 3)) (toI (lget S0.tmps 4)) (toI (lget S0.tmps 15)) (lstC api_PassageC (lget S0.tmps 45)) (toI (lget S0.tmps 46)) (toI (lget S0.tmps 47)) (Cod.dec api_StationC (lget (entCs (entAt S0.tab 0)))) (entNl (entAt S0.tab 1)) (lst intC (entN (entAt S0.tab 1)) (entC (entAt S0.tab 1))) (Cod.dec ways_levelC (lget (entCs (entAt S0.tab 2)))) (entNl (entAt S0.tab 3)) (lst intC (entN (entAt S0.tab 3)) (entC (entAt S0.tab 3))) (fun q2 q4 q5 => k (.exit 2) (ways_Way_x11_2 (toI (lget S0.tmps 3)) (toI (lget S0.tmps 4)) (Cod.dec api_StationC (lget (entCs (entAt S0.tab 0)))) (Cod.dec ways_levelC (lget (entCs (entAt S0.tab 2)))) (entNl (entAt S0.tab 3)) (lst intC (entN (entAt S0.tab 3)) (entC (entAt S0.tab 3))) q2 q4 q5))
def ways_Way_d9 {R : Type} (N : Nat) (S0 : St) (k : Exit → St → Option R) : Option R :=
  ways_Way_l9 N N (toI (lget S0.tmps 3)) (toI (lget S0.tmps 4)) (toI (lget S0.tmps 15)) (Cod.dec api_StationC (lget (entCs (entAt S0.tab 0)))) (entNl (entAt S0.tab 1)) (lst intC (entN (entAt S0.tab 1)) (entC (entAt S0.tab 1))) (Cod.dec ways_levelC (lget (entCs (entAt S0.tab 2)))) (entNl (entAt S0.tab 3)) (lst intC (entN (entAt S0.tab 3)) (entC (entAt S0.tab 3))) (fun q1 q2 => k (.exit 0) (ways_Way_x9_0 (toI (lget S0.tmps 3)) (entNl (entAt S0.tab 3)) (lst intC (entN (entAt S0.tab 3)) (entC (entAt S0.tab 3))) q1 q2))
def ways_Way_lp {R : Type} (N : Nat) : Lp R := fun body S k => bif (Go.Sx.keyOf body).getD 0 == 9 then (ways_Way_L9.head.raw 0 S (fun S0 => ways_Way_d9 N S0 k)) else bif (Go.Sx.keyOf body).getD 0 == 11 then (ways_Way_L11.head.raw 0 S (fun S0 => ways_Way_d11 N S0 k)) else Option.none
theorem ways_Way_l9_eq {R : Type} (N : Nat) (k : Exit → St → Option R) (n : Nat) : ∀ (v0 : Int) (v1 : Int) (v2 : Int) (v3 : api_Station) (v4 : Bool) (v5 : Arr Int) (v6 : ways_level) (v7 : Bool) (v8 : Arr Int), loopM E.Θ (ways_level_far_cal N) (ways_Way_lp N) (noJn) 0 ways_Way_L9 (bodyAt E 23 9) n (ways_Way_h9 v0 v1 v2 v3 v4 v5 v6 v7 v8) k = ways_Way_l9 N n v0 v1 v2 v3 v4 v5 v6 v7 v8 (fun q1 q2 => k (.exit 0) (ways_Way_x9_0 v0 v7 v8 q1 q2)) := by
  induction n with
  | zero => intro v0 v1 v2 v3 v4 v5 v6 v7 v8; rfl
  | succ n ih =>
    intro v0 v1 v2 v3 v4 v5 v6 v7 v8
    refine Eq.trans (b := ways_Way_b9 N (fun v0 v1 v2 v3 v4 v5 v6 v7 v8 => loopM E.Θ (ways_level_far_cal N) (ways_Way_lp N) (noJn) 0 ways_Way_L9 (bodyAt E 23 9) n (ways_Way_h9 v0 v1 v2 v3 v4 v5 v6 v7 v8) k) v0 v1 v2 v3 v4 v5 v6 v7 v8 (fun q1 q2 => k (.exit 0) (ways_Way_x9_0 v0 v7 v8 q1 q2))) (by kernel_rfl) ?_
    have h : (fun (v0 : Int) (v1 : Int) (v2 : Int) (v3 : api_Station) (v4 : Bool) (v5 : Arr Int) (v6 : ways_level) (v7 : Bool) (v8 : Arr Int) => loopM E.Θ (ways_level_far_cal N) (ways_Way_lp N) (noJn) 0 ways_Way_L9 (bodyAt E 23 9) n (ways_Way_h9 v0 v1 v2 v3 v4 v5 v6 v7 v8) k) = (fun (v0 : Int) (v1 : Int) (v2 : Int) (v3 : api_Station) (v4 : Bool) (v5 : Arr Int) (v6 : ways_level) (v7 : Bool) (v8 : Arr Int) => ways_Way_l9 N n v0 v1 v2 v3 v4 v5 v6 v7 v8 (fun q1 q2 => k (.exit 0) (ways_Way_x9_0 v0 v7 v8 q1 q2))) := funext fun v0 => funext fun v1 => funext fun v2 => funext fun v3 => funext fun v4 => funext fun v5 => funext fun v6 => funext fun v7 => funext fun v8 => ih v0 v1 v2 v3 v4 v5 v6 v7 v8
    rw [h]
    rfl
theorem ways_Way_l11_eq {R : Type} (N : Nat) (k : Exit → St → Option R) (n : Nat) : ∀ (v0 : Int) (v1 : Int) (v2 : Int) (v3 : Arr api_Passage) (v4 : Int) (v5 : Int) (v6 : api_Station) (v7 : Bool) (v8 : Arr Int) (v9 : ways_level) (v10 : Bool) (v11 : Arr Int), loopM E.Θ (ways_level_far_cal N) (ways_Way_lp N) (noJn) 0 ways_Way_L11 (bodyAt E 23 11) n (ways_Way_h11 v0 v1 v2 v3 v4 v5 v6 v7 v8 v9 v10 v11) k = ways_Way_l11 N n v0 v1 v2 v3 v4 v5 v6 v7 v8 v9 v10 v11 (fun q2 q4 q5 => k (.exit 2) (ways_Way_x11_2 v0 v1 v6 v9 v10 v11 q2 q4 q5)) := by
  induction n with
  | zero => intro v0 v1 v2 v3 v4 v5 v6 v7 v8 v9 v10 v11; rfl
  | succ n ih =>
    intro v0 v1 v2 v3 v4 v5 v6 v7 v8 v9 v10 v11
    refine Eq.trans (b := ways_Way_b11 N (fun v0 v1 v2 v3 v4 v5 v6 v7 v8 v9 v10 v11 => loopM E.Θ (ways_level_far_cal N) (ways_Way_lp N) (noJn) 0 ways_Way_L11 (bodyAt E 23 11) n (ways_Way_h11 v0 v1 v2 v3 v4 v5 v6 v7 v8 v9 v10 v11) k) v0 v1 v2 v3 v4 v5 v6 v7 v8 v9 v10 v11 (fun q2 q4 q5 => k (.exit 2) (ways_Way_x11_2 v0 v1 v6 v9 v10 v11 q2 q4 q5))) (by kernel_rfl) ?_
    have h : (fun (v0 : Int) (v1 : Int) (v2 : Int) (v3 : Arr api_Passage) (v4 : Int) (v5 : Int) (v6 : api_Station) (v7 : Bool) (v8 : Arr Int) (v9 : ways_level) (v10 : Bool) (v11 : Arr Int) => loopM E.Θ (ways_level_far_cal N) (ways_Way_lp N) (noJn) 0 ways_Way_L11 (bodyAt E 23 11) n (ways_Way_h11 v0 v1 v2 v3 v4 v5 v6 v7 v8 v9 v10 v11) k) = (fun (v0 : Int) (v1 : Int) (v2 : Int) (v3 : Arr api_Passage) (v4 : Int) (v5 : Int) (v6 : api_Station) (v7 : Bool) (v8 : Arr Int) (v9 : ways_level) (v10 : Bool) (v11 : Arr Int) => ways_Way_l11 N n v0 v1 v2 v3 v4 v5 v6 v7 v8 v9 v10 v11 (fun q2 q4 q5 => k (.exit 2) (ways_Way_x11_2 v0 v1 v6 v9 v10 v11 q2 q4 q5))) := funext fun v0 => funext fun v1 => funext fun v2 => funext fun v3 => funext fun v4 => funext fun v5 => funext fun v6 => funext fun v7 => funext fun v8 => funext fun v9 => funext fun v10 => funext fun v11 => ih v0 v1 v2 v3 v4 v5 v6 v7 v8 v9 v10 v11
    rw [h]
    rfl
theorem ways_Way_k11 {R : Type} (N : Nat) : LpKey (R := R) E 23 0 (ways_Way_lp N) 11 :=
  lpKey_of hE (ways_level_far_cal_ok N) (lp := ways_Way_lp N) (jn := noJn) ways_Way_L11_ok [] kNil (by kernel_rfl) [] jNil (by kernel_rfl) N fun S k =>
    Eq.trans (b := ways_Way_L11.head.raw 0 S (fun S0 => ways_Way_d11 N S0 k)) (by kernel_rfl) (congrArg (ways_Way_L11.head.raw 0 S) (funext fun S0 => Eq.trans (ways_Way_l11_eq N k N (toI (lget S0.tmps 3)) (toI (lget S0.tmps 4)) (toI (lget S0.tmps 15)) (lstC api_PassageC (lget S0.tmps 45)) (toI (lget S0.tmps 46)) (toI (lget S0.tmps 47)) (Cod.dec api_StationC (lget (entCs (entAt S0.tab 0)))) (entNl (entAt S0.tab 1)) (lst intC (entN (entAt S0.tab 1)) (entC (entAt S0.tab 1))) (Cod.dec ways_levelC (lget (entCs (entAt S0.tab 2)))) (entNl (entAt S0.tab 3)) (lst intC (entN (entAt S0.tab 3)) (entC (entAt S0.tab 3)))).symm (by kernel_rfl)))
theorem ways_Way_k9 {R : Type} (N : Nat) : LpKey (R := R) E 23 0 (ways_Way_lp N) 9 :=
  lpKey_of hE (ways_level_far_cal_ok N) (lp := ways_Way_lp N) (jn := noJn) ways_Way_L9_ok [11] (kCons (ways_Way_k11 N) kNil) (by kernel_rfl) [] jNil (by kernel_rfl) N fun S k =>
    Eq.trans (b := ways_Way_L9.head.raw 0 S (fun S0 => ways_Way_d9 N S0 k)) (by kernel_rfl) (congrArg (ways_Way_L9.head.raw 0 S) (funext fun S0 => Eq.trans (ways_Way_l9_eq N k N (toI (lget S0.tmps 3)) (toI (lget S0.tmps 4)) (toI (lget S0.tmps 15)) (Cod.dec api_StationC (lget (entCs (entAt S0.tab 0)))) (entNl (entAt S0.tab 1)) (lst intC (entN (entAt S0.tab 1)) (entC (entAt S0.tab 1))) (Cod.dec ways_levelC (lget (entCs (entAt S0.tab 2)))) (entNl (entAt S0.tab 3)) (lst intC (entN (entAt S0.tab 3)) (entC (entAt S0.tab 3)))).symm (by kernel_rfl)))
noncomputable def ways_Way_go {R : Type} (N : Nat) (args : List SV) (T : Tab) (kf : SV × Tab → Option R) : Option R :=
  ways_Way N (Cod.dec api_StationC (lget (toCs (lget args 0)))) (toI (lget args 1)) (toB (lget args 2)) (toI (lget args 3)) (toI (lget args 4)) (fun q0 q1 q2 q3 => kf (lget [.tup [.int .i64 q0, .row 0, .int .i64 q1]] 0, [(0, rowE intC q2 q3)]))
noncomputable def ways_Way_cal {R : Type} (N : Nat) : Cal R := callM (ways_level_far_cal N) 23 0 ways_Way_sp (ways_Way_go N)
theorem ways_Way_cal_ok {R : Type} (N : Nat) : CalOk E.P (ways_Way_cal (R := R) N) :=
  callM_ok hE (ways_level_far_cal_ok N) (lp := ways_Way_lp N) (jn := noJn) (keys := [9, 11]) (kCons (ways_Way_k9 N) (kCons (ways_Way_k11 N) kNil)) (by kernel_rfl) (js := []) jNil (by kernel_rfl) ways_Way_sp_ok ways_Way_rs_ok (fun args T kf => Eq.trans (ways_Way_def N (Cod.dec api_StationC (lget (toCs (lget args 0)))) (toI (lget args 1)) (toB (lget args 2)) (toI (lget args 3)) (toI (lget args 4)) (fun q0 q1 q2 q3 => kf (lget [.tup [.int .i64 q0, .row 0, .int .i64 q1]] 0, [(0, rowE intC q2 q3)]))) (by kernel_rfl : ways_Way_run N args T kf = fnM E (ways_level_far_cal N) (ways_Way_lp N) (noJn) 23 (ways_Way_sp.vs args) (ways_Way_sp.tab T) 0 (resK ways_Way_rs kf)))
def ways_level_joined_m {R : Type} (N : Nat) (a328 : ways_level) (a329 : Int) (a330 : Int) (k : Bool → Option R) : Option R :=
  ways_level_far N a328 a330 (fun r331 r332 =>
  bif decide ((0 : Int) ≤ a329) && decide (a329 < (↑(Arr.n r332) : Int)) then
   k (decide (Arr.f r332 (Int.toNat a329) ≥ (0 : Int)))
  else
   Option.none)
noncomputable def ways_level_joined {R : Type} : Nat → ways_level → Int → Int → (Bool → Option R) → Option R := lock (@ways_level_joined_m R)
theorem ways_level_joined_def {R : Type} (N : Nat) (a328 : ways_level) (a329 : Int) (a330 : Int) (k : Bool → Option R) : ways_level_joined N a328 a329 a330 k = ways_level_joined_m N a328 a329 a330 k := by unfold ways_level_joined; rw [lock_eq]
def ways_level_joined_sp : Sp := ⟨[rAgg ways_levelC, rInt .i64, rInt .i64], []⟩
theorem ways_level_joined_sp_ok : ways_level_joined_sp.Ok := ⟨(allCons (rAgg_ok ways_levelC_ok ways_levelC_len) (allCons (rInt_ok .i64) (allCons (rInt_ok .i64) allNil))), eNil⟩
def ways_level_joined_rs : Sp := ⟨[rBool], []⟩
theorem ways_level_joined_rs_ok : ways_level_joined_rs.Ok := ⟨(allCons rBool_ok allNil), eNil⟩
def ways_level_joined_run {R : Type} (N : Nat) (args : List SV) (T : Tab) (kf : SV × Tab → Option R) : Option R :=
  ways_level_joined_m N (Cod.dec ways_levelC (lget (toCs (lget args 0)))) (toI (lget args 1)) (toI (lget args 2)) (fun q0 => kf (lget [.bool q0] 0, []))
def ways_level_joined_lp {R : Type} (N : Nat) : Lp R := fun body S k => Option.none
noncomputable def ways_level_joined_go {R : Type} (N : Nat) (args : List SV) (T : Tab) (kf : SV × Tab → Option R) : Option R :=
  ways_level_joined N (Cod.dec ways_levelC (lget (toCs (lget args 0)))) (toI (lget args 1)) (toI (lget args 2)) (fun q0 => kf (lget [.bool q0] 0, []))
noncomputable def ways_level_joined_cal {R : Type} (N : Nat) : Cal R := callM (ways_Way_cal N) 66 0 ways_level_joined_sp (ways_level_joined_go N)
theorem ways_level_joined_cal_ok {R : Type} (N : Nat) : CalOk E.P (ways_level_joined_cal (R := R) N) :=
  callM_ok hE (ways_Way_cal_ok N) (lp := ways_level_joined_lp N) (jn := noJn) (keys := []) kNil (by kernel_rfl) (js := []) jNil (by kernel_rfl) ways_level_joined_sp_ok ways_level_joined_rs_ok (fun args T kf => Eq.trans (ways_level_joined_def N (Cod.dec ways_levelC (lget (toCs (lget args 0)))) (toI (lget args 1)) (toI (lget args 2)) (fun q0 => kf (lget [.bool q0] 0, []))) (by kernel_rfl : ways_level_joined_run N args T kf = fnM E (ways_Way_cal N) (ways_level_joined_lp N) (noJn) 66 (ways_level_joined_sp.vs args) (ways_level_joined_sp.tab T) 0 (resK ways_level_joined_rs kf)))
def ways_Needed_L8 : LoopSp := ⟨⟨[1, 2, 3, 4, 5, 13, 32], ⟨(dr 1 ((rInt .i64) :: (rBool) :: (rInt .i64) :: (rInt .i64) :: (rPtr 0 0) :: (dr 7 ((rRow 1) :: (dr 18 ((rInt .i64) :: (dr 26 []))))))), [(0, eBlkC api_StationC), (1, eRow intC)]⟩, 2⟩, [(some 0, ⟨[13], ⟨(dr 13 ((rRow 0) :: (dr 45 []))), [(0, eRow intC)]⟩, 1⟩)]⟩
theorem ways_Needed_L8_ok : ways_Needed_L8.Ok := ⟨⟨(drCons 1 (allCons (rInt_ok .i64) (allCons rBool_ok (allCons (rInt_ok .i64) (allCons (rInt_ok .i64) (allCons (rPtr_ok 0 0) (drCons 7 (allCons (rRow_ok 1) (drCons 18 (allCons (rInt_ok .i64) (drCons 26 allNil))))))))))), (eCons (eBlkC_ok api_StationC_ok api_StationC_len) (eCons (eRow_ok intC_ok) eNil))⟩, (xCons ⟨(drCons 13 (allCons (rRow_ok 0) (drCons 45 allNil))), (eCons (eRow_ok intC_ok) eNil)⟩ xNil)⟩
def ways_Needed_h8 (v334 : Int) (v335 : Bool) (v336 : Int) (v337 : Int) (v338 : Int) (v339 : api_Station) (v340 : Bool) (v341 : Arr Int) : St := ⟨(un 1 ((.int .i64 v334) :: (.bool v335) :: (.int .i64 v336) :: (.int .i64 v337) :: (.ptr 0 0) :: (un 7 ((.row 1) :: (un 18 ((.int .i64 v338) :: (un 26 []))))))), [(0, .blk (Cod.enc api_StationC v339)), (1, rowE intC v340 v341)], 2⟩
def ways_Needed_x8_0 (q0 : Bool) (q1 : Arr Int) : St := ⟨(un 13 ((.row 0) :: (un 45 []))), [(0, rowE intC q0 q1)], 1⟩
def ways_Needed_b8 {R : Type} (N : Nat) (rc : Int → Bool → Int → Int → Int → api_Station → Bool → Arr Int → Option R) (v334 : Int) (v335 : Bool) (v336 : Int) (v337 : Int) (v338 : Int) (v339 : api_Station) (v340 : Bool) (v341 : Arr Int) (k0 : Bool → Arr Int → Option R) : Option R :=
  bif decide (v338 < (12 : Int)) then
   bif decide (v338 < (0 : Int)) then
    Option.none
   else
    bif w64 (↑(BitVec.toNat (BitVec.ofInt (IntKind.bits IntKind.i64) (Int.fdiv v334 ((2 : Int) ^ min (Int.toNat v338) (IntKind.bits IntKind.i64))) &&& BitVec.ofInt (IntKind.bits IntKind.i64) (1 : Int))) : Int) == (0 : Int) then
     bif decide (v338 < (0 : Int)) then
      Option.none
     else
      ways_level_joined N (ways_level.mk v339 (w64 (↑(BitVec.toNat (BitVec.ofInt (IntKind.bits IntKind.i64) v334 ||| BitVec.ofInt (IntKind.bits IntKind.i64) (w64 ((1 : Int) * (2 : Int) ^ min (Int.toNat v338) (IntKind.bits IntKind.i64))))) : Int)) v335) v336 v337 (fun r342 =>
      bif !r342 then
       bif room (Arr.n v341 + (1 : Nat)) then
        rc v334 v335 v336 v337 (w64 (v338 + (1 : Int))) v339 false (lst intC (Arr.n v341 + (1 : Nat)) (catC (Arr.n v341) (Cod.cell intC (Arr.f v341)) (litC [SV.int IntKind.i64 (0 : Int)] [[SV.int IntKind.i64 v338]])))
       else
        Option.none
      else
       rc v334 v335 v336 v337 (w64 (v338 + (1 : Int))) v339 v340 v341)
    else
     rc v334 v335 v336 v337 (w64 (v338 + (1 : Int))) v339 v340 v341
  else
   k0 v340 v341
def ways_Needed_l8 {R : Type} (N : Nat) : Nat → Int → Bool → Int → Int → Int → api_Station → Bool → Arr Int → (Bool → Arr Int → Option R) → Option R
  | 0, _, _, _, _, _, _, _, _, _ => Option.none
  | n + 1, v334, v335, v336, v337, v338, v339, v340, v341, k0 => ways_Needed_b8 N (fun v334 v335 v336 v337 v338 v339 v340 v341 => ways_Needed_l8 N n v334 v335 v336 v337 v338 v339 v340 v341 k0) v334 v335 v336 v337 v338 v339 v340 v341 k0
def ways_Needed_m {R : Type} (N : Nat) (a322 : api_Station) (a323 : Int) (a324 : Bool) (a325 : Int) (a326 : Int) (k : Int → Bool → Arr Int → Option R) : Option R :=
  ways_asked N a322 a323 (lst intC (2 : Nat) (litC [SV.int IntKind.i64 (0 : Int)] [[SV.int IntKind.i64 a325], [SV.int IntKind.i64 a326]])) (fun r327 =>
  bif r327 != (0 : Int) then
   k r327 true (lst intC (0 : Nat) (zeroC [SV.int IntKind.i64 (0 : Int)]))
  else
   ways_level_joined N (ways_level.mk a322 a323 a324) a325 a326 (fun r333 =>
   bif !r333 then
    k (3 : Int) true (lst intC (0 : Nat) (zeroC [SV.int IntKind.i64 (0 : Int)]))
   else
    ways_Needed_l8 N N a323 a324 a325 a326 (0 : Int) a322 true (lst intC (0 : Nat) (zeroC [SV.int IntKind.i64 (0 : Int)])) (fun r343 r344 =>
     k (0 : Int) r343 r344)))
noncomputable def ways_Needed {R : Type} : Nat → api_Station → Int → Bool → Int → Int → (Int → Bool → Arr Int → Option R) → Option R := lock (@ways_Needed_m R)
theorem ways_Needed_def {R : Type} (N : Nat) (a322 : api_Station) (a323 : Int) (a324 : Bool) (a325 : Int) (a326 : Int) (k : Int → Bool → Arr Int → Option R) : ways_Needed N a322 a323 a324 a325 a326 k = ways_Needed_m N a322 a323 a324 a325 a326 k := by unfold ways_Needed; rw [lock_eq]
def ways_Needed_sp : Sp := ⟨[rAgg api_StationC, rInt .i64, rBool, rInt .i64, rInt .i64], []⟩
theorem ways_Needed_sp_ok : ways_Needed_sp.Ok := ⟨(allCons (rAgg_ok api_StationC_ok api_StationC_len) (allCons (rInt_ok .i64) (allCons rBool_ok (allCons (rInt_ok .i64) (allCons (rInt_ok .i64) allNil))))), eNil⟩
def ways_Needed_rs : Sp := ⟨[rTup [rRow 0, rInt .i64]], [(0, eRow intC)]⟩
theorem ways_Needed_rs_ok : ways_Needed_rs.Ok := ⟨(allCons (rTup_ok (allCons (rRow_ok 0) (allCons (rInt_ok .i64) allNil))) allNil), (eCons (eRow_ok intC_ok) eNil)⟩
def ways_Needed_run {R : Type} (N : Nat) (args : List SV) (T : Tab) (kf : SV × Tab → Option R) : Option R :=
  ways_Needed_m N (Cod.dec api_StationC (lget (toCs (lget args 0)))) (toI (lget args 1)) (toB (lget args 2)) (toI (lget args 3)) (toI (lget args 4)) (fun q0 q1 q2 => kf (lget [.tup [.row 0, .int .i64 q0]] 0, [(0, rowE intC q1 q2)]))
def ways_Needed_d8 {R : Type} (N : Nat) (S0 : St) (k : Exit → St → Option R) : Option R :=
  ways_Needed_l8 N N (toI (lget S0.tmps 1)) (toB (lget S0.tmps 2)) (toI (lget S0.tmps 3)) (toI (lget S0.tmps 4)) (toI (lget S0.tmps 32)) (Cod.dec api_StationC (lget (entCs (entAt S0.tab 0)))) (entNl (entAt S0.tab 1)) (lst intC (entN (entAt S0.tab 1)) (entC (entAt S0.tab 1))) (fun q0 q1 => k (.exit 0) (ways_Needed_x8_0 q0 q1))
def ways_Needed_lp {R : Type} (N : Nat) : Lp R := fun body S k => bif (Go.Sx.keyOf body).getD 0 == 8 then (ways_Needed_L8.head.raw 0 S (fun S0 => ways_Needed_d8 N S0 k)) else Option.none
theorem ways_Needed_l8_eq {R : Type} (N : Nat) (k : Exit → St → Option R) (n : Nat) : ∀ (v0 : Int) (v1 : Bool) (v2 : Int) (v3 : Int) (v4 : Int) (v5 : api_Station) (v6 : Bool) (v7 : Arr Int), loopM E.Θ (ways_level_joined_cal N) (ways_Needed_lp N) (noJn) 0 ways_Needed_L8 (bodyAt E 25 8) n (ways_Needed_h8 v0 v1 v2 v3 v4 v5 v6 v7) k = ways_Needed_l8 N n v0 v1 v2 v3 v4 v5 v6 v7 (fun q0 q1 => k (.exit 0) (ways_Needed_x8_0 q0 q1)) := by
  induction n with
  | zero => intro v0 v1 v2 v3 v4 v5 v6 v7; rfl
  | succ n ih =>
    intro v0 v1 v2 v3 v4 v5 v6 v7
    refine Eq.trans (b := ways_Needed_b8 N (fun v0 v1 v2 v3 v4 v5 v6 v7 => loopM E.Θ (ways_level_joined_cal N) (ways_Needed_lp N) (noJn) 0 ways_Needed_L8 (bodyAt E 25 8) n (ways_Needed_h8 v0 v1 v2 v3 v4 v5 v6 v7) k) v0 v1 v2 v3 v4 v5 v6 v7 (fun q0 q1 => k (.exit 0) (ways_Needed_x8_0 q0 q1))) (by kernel_rfl) ?_
    have h : (fun (v0 : Int) (v1 : Bool) (v2 : Int) (v3 : Int) (v4 : Int) (v5 : api_Station) (v6 : Bool) (v7 : Arr Int) => loopM E.Θ (ways_level_joined_cal N) (ways_Needed_lp N) (noJn) 0 ways_Needed_L8 (bodyAt E 25 8) n (ways_Needed_h8 v0 v1 v2 v3 v4 v5 v6 v7) k) = (fun (v0 : Int) (v1 : Bool) (v2 : Int) (v3 : Int) (v4 : Int) (v5 : api_Station) (v6 : Bool) (v7 : Arr Int) => ways_Needed_l8 N n v0 v1 v2 v3 v4 v5 v6 v7 (fun q0 q1 => k (.exit 0) (ways_Needed_x8_0 q0 q1))) := funext fun v0 => funext fun v1 => funext fun v2 => funext fun v3 => funext fun v4 => funext fun v5 => funext fun v6 => funext fun v7 => ih v0 v1 v2 v3 v4 v5 v6 v7
    rw [h]
    rfl
theorem ways_Needed_k8 {R : Type} (N : Nat) : LpKey (R := R) E 25 0 (ways_Needed_lp N) 8 :=
  lpKey_of hE (ways_level_joined_cal_ok N) (lp := ways_Needed_lp N) (jn := noJn) ways_Needed_L8_ok [] kNil (by kernel_rfl) [] jNil (by kernel_rfl) N fun S k =>
    Eq.trans (b := ways_Needed_L8.head.raw 0 S (fun S0 => ways_Needed_d8 N S0 k)) (by kernel_rfl) (congrArg (ways_Needed_L8.head.raw 0 S) (funext fun S0 => Eq.trans (ways_Needed_l8_eq N k N (toI (lget S0.tmps 1)) (toB (lget S0.tmps 2)) (toI (lget S0.tmps 3)) (toI (lget S0.tmps 4)) (toI (lget S0.tmps 32)) (Cod.dec api_StationC (lget (entCs (entAt S0.tab 0)))) (entNl (entAt S0.tab 1)) (lst intC (entN (entAt S0.tab 1)) (entC (entAt S0.tab 1)))).symm (by kernel_rfl)))
noncomputable def ways_Needed_go {R : Type} (N : Nat) (args : List SV) (T : Tab) (kf : SV × Tab → Option R) : Option R :=
  ways_Needed N (Cod.dec api_StationC (lget (toCs (lget args 0)))) (toI (lget args 1)) (toB (lget args 2)) (toI (lget args 3)) (toI (lget args 4)) (fun q0 q1 q2 => kf (lget [.tup [.row 0, .int .i64 q0]] 0, [(0, rowE intC q1 q2)]))
noncomputable def ways_Needed_cal {R : Type} (N : Nat) : Cal R := callM (ways_level_joined_cal N) 25 0 ways_Needed_sp (ways_Needed_go N)
theorem ways_Needed_cal_ok {R : Type} (N : Nat) : CalOk E.P (ways_Needed_cal (R := R) N) :=
  callM_ok hE (ways_level_joined_cal_ok N) (lp := ways_Needed_lp N) (jn := noJn) (keys := [8]) (kCons (ways_Needed_k8 N) kNil) (by kernel_rfl) (js := []) jNil (by kernel_rfl) ways_Needed_sp_ok ways_Needed_rs_ok (fun args T kf => Eq.trans (ways_Needed_def N (Cod.dec api_StationC (lget (toCs (lget args 0)))) (toI (lget args 1)) (toB (lget args 2)) (toI (lget args 3)) (toI (lget args 4)) (fun q0 q1 q2 => kf (lget [.tup [.row 0, .int .i64 q0]] 0, [(0, rowE intC q1 q2)]))) (by kernel_rfl : ways_Needed_run N args T kf = fnM E (ways_level_joined_cal N) (ways_Needed_lp N) (noJn) 25 (ways_Needed_sp.vs args) (ways_Needed_sp.tab T) 0 (resK ways_Needed_rs kf)))
end
end Go.Proofs.Ytpillmoddoccfab
