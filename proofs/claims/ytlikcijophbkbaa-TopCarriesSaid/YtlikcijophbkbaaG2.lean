import Derived.Test.YtlikcijophbkbaaG1
set_option maxRecDepth 100000
set_option maxHeartbeats 0
set_option linter.unusedVariables false
namespace Go.Proofs.Ytlikcijophbkbaa
open Go.Sx
noncomputable section
def newelref05_within_m {R : Type} (N : Nat) (a471 : Int) (a472 : Int) (a473 : Int) (k : Bool → Option R) : Option R :=
  bif decide (a471 ≥ a472) then
   k (decide (a471 ≤ a473))
  else
   k false
noncomputable def newelref05_within {R : Type} : Nat → Int → Int → Int → (Bool → Option R) → Option R := lock (@newelref05_within_m R)
theorem newelref05_within_def {R : Type} (N : Nat) (a471 : Int) (a472 : Int) (a473 : Int) (k : Bool → Option R) : newelref05_within N a471 a472 a473 k = newelref05_within_m N a471 a472 a473 k := by unfold newelref05_within; rw [lock_eq]
def newelref05_within_sp : Sp := ⟨[rInt .i64, rInt .i64, rInt .i64], []⟩
theorem newelref05_within_sp_ok : newelref05_within_sp.Ok := ⟨(allCons (rInt_ok .i64) (allCons (rInt_ok .i64) (allCons (rInt_ok .i64) allNil))), eNil⟩
def newelref05_within_rs : Sp := ⟨[rBool], []⟩
theorem newelref05_within_rs_ok : newelref05_within_rs.Ok := ⟨(allCons rBool_ok allNil), eNil⟩
def newelref05_within_run {R : Type} (N : Nat) (args : List SV) (T : Tab) (kf : SV × Tab → Option R) : Option R :=
  newelref05_within_m N (toI (lget args 0)) (toI (lget args 1)) (toI (lget args 2)) (fun q0 => kf (lget [.bool q0] 0, []))
def newelref05_within_lp {R : Type} (N : Nat) : Lp R := fun body S k => Option.none
noncomputable def newelref05_within_go {R : Type} (N : Nat) (args : List SV) (T : Tab) (kf : SV × Tab → Option R) : Option R :=
  newelref05_within N (toI (lget args 0)) (toI (lget args 1)) (toI (lget args 2)) (fun q0 => kf (lget [.bool q0] 0, []))
noncomputable def newelref05_within_cal {R : Type} (N : Nat) : Cal R := callM (newellaw06_Far_cal N) 45 0 newelref05_within_sp (newelref05_within_go N)
theorem newelref05_within_cal_ok {R : Type} (N : Nat) : CalOk E.P (newelref05_within_cal (R := R) N) :=
  callM_ok hE (newellaw06_Far_cal_ok N) (lp := newelref05_within_lp N) (jn := noJn) (keys := []) kNil (by kernel_rfl) (js := []) jNil (by kernel_rfl) newelref05_within_sp_ok newelref05_within_rs_ok (fun args T kf => Eq.trans (newelref05_within_def N (toI (lget args 0)) (toI (lget args 1)) (toI (lget args 2)) (fun q0 => kf (lget [.bool q0] 0, []))) (by kernel_rfl : newelref05_within_run N args T kf = fnM E (newellaw06_Far_cal N) (newelref05_within_lp N) (noJn) 45 (newelref05_within_sp.vs args) (newelref05_within_sp.tab T) 0 (resK newelref05_within_rs kf)))
def newelref05_Check_L6 : LoopSp := ⟨⟨[1, 3], ⟨(dr 1 ((rPtr 0 0) :: (dr 1 ((rInt .i64) :: (dr 100 []))))), [(0, eBlkC api_LiftC)]⟩, 1⟩, [(Option.none, ⟨[2], ⟨(dr 2 ((rInt .i64) :: (dr 101 []))), []⟩, 0⟩), (some 0, ⟨[1], ⟨(dr 1 ((rPtr 0 0) :: (dr 102 []))), [(0, eBlkC api_LiftC)]⟩, 1⟩)]⟩
theorem newelref05_Check_L6_ok : newelref05_Check_L6.Ok := ⟨⟨(drCons 1 (allCons (rPtr_ok 0 0) (drCons 1 (allCons (rInt_ok .i64) (drCons 100 allNil))))), (eCons (eBlkC_ok api_LiftC_ok api_LiftC_len) eNil)⟩, (xCons ⟨(drCons 2 (allCons (rInt_ok .i64) (drCons 101 allNil))), eNil⟩ (xCons ⟨(drCons 1 (allCons (rPtr_ok 0 0) (drCons 102 allNil))), (eCons (eBlkC_ok api_LiftC_ok api_LiftC_len) eNil)⟩ xNil))⟩
def newelref05_Check_h6 (v480 : Int) (v481 : api_Lift) : St := ⟨(un 1 ((.ptr 0 0) :: (un 1 ((.int .i64 v480) :: (un 100 []))))), [(0, .blk (Cod.enc api_LiftC v481))], 1⟩
def newelref05_Check_x6_r (q0 : Int) : St := ⟨(un 2 ((.int .i64 q0) :: (un 101 []))), [], 0⟩
def newelref05_Check_x6_0 (v481 : api_Lift) : St := ⟨(un 1 ((.ptr 0 0) :: (un 102 []))), [(0, .blk (Cod.enc api_LiftC v481))], 1⟩
def newelref05_Check_b6 {R : Type} (N : Nat) (rc : Int → api_Lift → Option R) (v480 : Int) (v481 : api_Lift) (kr : Int → Option R) (k0 : Unit → Option R) : Option R :=
  bif decide (v480 < (↑(Arr.n (api_Lift.Floors v481)) : Int)) then
   bif decide ((0 : Int) ≤ v480) && decide (v480 < (↑(Arr.n (api_Lift.Floors v481)) : Int)) then
    bif decide ((0 : Int) ≤ w64 (v480 - (1 : Int))) && decide (w64 (v480 - (1 : Int)) < (↑(Arr.n (api_Lift.Floors v481)) : Int)) then
     bif decide (Arr.f (api_Lift.Floors v481) (Int.toNat v480) ≤ Arr.f (api_Lift.Floors v481) (Int.toNat (w64 (v480 - (1 : Int))))) then
      kr (50 : Int)
     else
      bif decide ((0 : Int) ≤ v480) && decide (v480 < (↑(Arr.n (api_Lift.Floors v481)) : Int)) then
       bif decide (Arr.f (api_Lift.Floors v481) (Int.toNat v480) > (1000 : Int)) then
        kr (50 : Int)
       else
        rc (w64 (v480 + (1 : Int))) v481
      else
       Option.none
    else
     Option.none
   else
    Option.none
  else
   k0 ()
def newelref05_Check_l6 {R : Type} (N : Nat) : Nat → Int → api_Lift → (Int → Option R) → (Unit → Option R) → Option R
  | 0, _, _, _, _ => Option.none
  | n + 1, v480, v481, kr, k0 => newelref05_Check_b6 N (fun v480 v481 => newelref05_Check_l6 N n v480 v481 kr k0) v480 v481 kr k0
def newelref05_Check_m {R : Type} (N : Nat) (a474 : api_Lift) (k : Int → Option R) : Option R :=
  newelref05_within N (api_Lift.Car a474) (1 : Int) (100000 : Int) (fun r475 =>
  bif !r475 then
   k (50 : Int)
  else
   newelref05_within N (api_Lift.Counter a474) (1 : Int) (100000 : Int) (fun r476 =>
   bif !r476 then
    k (50 : Int)
   else
    newelref05_within N (api_Lift.Rated a474) (0 : Int) (100000 : Int) (fun r477 =>
    bif !r477 then
     k (50 : Int)
    else
     newelref05_within N (api_Lift.Rope a474) (0 : Int) (100 : Int) (fun r478 =>
     bif !r478 then
      k (50 : Int)
     else
      newelref05_within N ((↑(Arr.n (api_Lift.Floors a474)) : Int)) (2 : Int) (16 : Int) (fun r479 =>
      bif !r479 then
       k (50 : Int)
      else
       bif decide ((0 : Int) < (↑(Arr.n (api_Lift.Floors a474)) : Int)) then
        bif Arr.f (api_Lift.Floors a474) (Int.toNat (0 : Int)) != (0 : Int) then
         k (50 : Int)
        else
         newelref05_Check_l6 N N (1 : Int) a474 (fun r482 =>
          k r482) (fun (_ : Unit) =>
          newelref05_within N (api_Lift.Den a474) (1 : Int) (api_Lift.Num a474) (fun r483 =>
          bif !r483 then
           k (50 : Int)
          else
           bif decide (api_Lift.Num a474 > (100 : Int)) then
            k (50 : Int)
           else
            newelref05_within N (api_Lift.Speed a474) (1 : Int) (100 : Int) (fun r484 =>
            bif !r484 then
             k (50 : Int)
            else
             newelref05_within N (api_Lift.Accel a474) (1 : Int) (100 : Int) (fun r485 =>
             bif !r485 then
              k (50 : Int)
             else
              newelref05_within N (api_Lift.Over a474) (0 : Int) (1000 : Int) (fun r486 =>
              bif !r486 then
               k (50 : Int)
              else
               newelref05_within N (api_Lift.Stiff a474) (1 : Int) (10000000 : Int) (fun r487 =>
               bif !r487 then
                k (50 : Int)
               else
                newelref05_within N (api_Lift.Level a474) (0 : Int) (1000 : Int) (fun r488 =>
                bif !r488 then
                 k (50 : Int)
                else
                 k (0 : Int))))))))
       else
        Option.none)))))
noncomputable def newelref05_Check {R : Type} : Nat → api_Lift → (Int → Option R) → Option R := lock (@newelref05_Check_m R)
theorem newelref05_Check_def {R : Type} (N : Nat) (a474 : api_Lift) (k : Int → Option R) : newelref05_Check N a474 k = newelref05_Check_m N a474 k := by unfold newelref05_Check; rw [lock_eq]
def newelref05_Check_sp : Sp := ⟨[rAgg api_LiftC], []⟩
theorem newelref05_Check_sp_ok : newelref05_Check_sp.Ok := ⟨(allCons (rAgg_ok api_LiftC_ok api_LiftC_len) allNil), eNil⟩
def newelref05_Check_rs : Sp := ⟨[rInt .i64], []⟩
theorem newelref05_Check_rs_ok : newelref05_Check_rs.Ok := ⟨(allCons (rInt_ok .i64) allNil), eNil⟩
def newelref05_Check_run {R : Type} (N : Nat) (args : List SV) (T : Tab) (kf : SV × Tab → Option R) : Option R :=
  newelref05_Check_m N (Cod.dec api_LiftC (lget (toCs (lget args 0)))) (fun q0 => kf (lget [.int .i64 q0] 0, []))
def newelref05_Check_d6 {R : Type} (N : Nat) (S0 : St) (k : Exit → St → Option R) : Option R :=
  newelref05_Check_l6 N N (toI (lget S0.tmps 3)) (Cod.dec api_LiftC (lget (entCs (entAt S0.tab 0)))) (fun q0 => k .ret (newelref05_Check_x6_r q0)) (fun (_ : Unit) => k (.exit 0) (newelref05_Check_x6_0 (Cod.dec api_LiftC (lget (entCs (entAt S0.tab 0))))))
def newelref05_Check_lp {R : Type} (N : Nat) : Lp R := fun body S k => bif (Go.Sx.keyOf body).getD 0 == 6 then (newelref05_Check_L6.head.raw 0 S (fun S0 => newelref05_Check_d6 N S0 k)) else Option.none
theorem newelref05_Check_l6_eq {R : Type} (N : Nat) (k : Exit → St → Option R) (n : Nat) : ∀ (v0 : Int) (v1 : api_Lift), loopM E.Θ (newelref05_within_cal N) (newelref05_Check_lp N) (noJn) 0 newelref05_Check_L6 (bodyAt E 22 6) n (newelref05_Check_h6 v0 v1) k = newelref05_Check_l6 N n v0 v1 (fun q0 => k .ret (newelref05_Check_x6_r q0)) (fun (_ : Unit) => k (.exit 0) (newelref05_Check_x6_0 v1)) := by
  induction n with
  | zero => intro v0 v1; rfl
  | succ n ih =>
    intro v0 v1
    refine Eq.trans (b := newelref05_Check_b6 N (fun v0 v1 => loopM E.Θ (newelref05_within_cal N) (newelref05_Check_lp N) (noJn) 0 newelref05_Check_L6 (bodyAt E 22 6) n (newelref05_Check_h6 v0 v1) k) v0 v1 (fun q0 => k .ret (newelref05_Check_x6_r q0)) (fun (_ : Unit) => k (.exit 0) (newelref05_Check_x6_0 v1))) (by kernel_rfl) ?_
    have h : (fun (v0 : Int) (v1 : api_Lift) => loopM E.Θ (newelref05_within_cal N) (newelref05_Check_lp N) (noJn) 0 newelref05_Check_L6 (bodyAt E 22 6) n (newelref05_Check_h6 v0 v1) k) = (fun (v0 : Int) (v1 : api_Lift) => newelref05_Check_l6 N n v0 v1 (fun q0 => k .ret (newelref05_Check_x6_r q0)) (fun (_ : Unit) => k (.exit 0) (newelref05_Check_x6_0 v1))) := funext fun v0 => funext fun v1 => ih v0 v1
    rw [h]
    rfl
theorem newelref05_Check_k6 {R : Type} (N : Nat) : LpKey (R := R) E 22 0 (newelref05_Check_lp N) 6 :=
  lpKey_of hE (newelref05_within_cal_ok N) (lp := newelref05_Check_lp N) (jn := noJn) newelref05_Check_L6_ok [] kNil (by kernel_rfl) [] jNil (by kernel_rfl) N fun S k =>
    Eq.trans (b := newelref05_Check_L6.head.raw 0 S (fun S0 => newelref05_Check_d6 N S0 k)) (by kernel_rfl) (congrArg (newelref05_Check_L6.head.raw 0 S) (funext fun S0 => Eq.trans (newelref05_Check_l6_eq N k N (toI (lget S0.tmps 3)) (Cod.dec api_LiftC (lget (entCs (entAt S0.tab 0))))).symm (by kernel_rfl)))
noncomputable def newelref05_Check_go {R : Type} (N : Nat) (args : List SV) (T : Tab) (kf : SV × Tab → Option R) : Option R :=
  newelref05_Check N (Cod.dec api_LiftC (lget (toCs (lget args 0)))) (fun q0 => kf (lget [.int .i64 q0] 0, []))
noncomputable def newelref05_Check_cal {R : Type} (N : Nat) : Cal R := callM (newelref05_within_cal N) 22 0 newelref05_Check_sp (newelref05_Check_go N)
theorem newelref05_Check_cal_ok {R : Type} (N : Nat) : CalOk E.P (newelref05_Check_cal (R := R) N) :=
  callM_ok hE (newelref05_within_cal_ok N) (lp := newelref05_Check_lp N) (jn := noJn) (keys := [6]) (kCons (newelref05_Check_k6 N) kNil) (by kernel_rfl) (js := []) jNil (by kernel_rfl) newelref05_Check_sp_ok newelref05_Check_rs_ok (fun args T kf => Eq.trans (newelref05_Check_def N (Cod.dec api_LiftC (lget (toCs (lget args 0)))) (fun q0 => kf (lget [.int .i64 q0] 0, []))) (by kernel_rfl : newelref05_Check_run N args T kf = fnM E (newelref05_within_cal N) (newelref05_Check_lp N) (noJn) 22 (newelref05_Check_sp.vs args) (newelref05_Check_sp.tab T) 0 (resK newelref05_Check_rs kf)))
def newellaw05_Far_m {R : Type} (N : Nat) (a489 : api_Lift) (k : Bool → Option R) : Option R :=
  k (decide ((↑(Arr.n (api_Lift.Floors a489)) : Int) > (30 : Int)))
noncomputable def newellaw05_Far {R : Type} : Nat → api_Lift → (Bool → Option R) → Option R := lock (@newellaw05_Far_m R)
theorem newellaw05_Far_def {R : Type} (N : Nat) (a489 : api_Lift) (k : Bool → Option R) : newellaw05_Far N a489 k = newellaw05_Far_m N a489 k := by unfold newellaw05_Far; rw [lock_eq]
def newellaw05_Far_sp : Sp := ⟨[rAgg api_LiftC], []⟩
theorem newellaw05_Far_sp_ok : newellaw05_Far_sp.Ok := ⟨(allCons (rAgg_ok api_LiftC_ok api_LiftC_len) allNil), eNil⟩
def newellaw05_Far_rs : Sp := ⟨[rBool], []⟩
theorem newellaw05_Far_rs_ok : newellaw05_Far_rs.Ok := ⟨(allCons rBool_ok allNil), eNil⟩
def newellaw05_Far_run {R : Type} (N : Nat) (args : List SV) (T : Tab) (kf : SV × Tab → Option R) : Option R :=
  newellaw05_Far_m N (Cod.dec api_LiftC (lget (toCs (lget args 0)))) (fun q0 => kf (lget [.bool q0] 0, []))
def newellaw05_Far_lp {R : Type} (N : Nat) : Lp R := fun body S k => Option.none
noncomputable def newellaw05_Far_go {R : Type} (N : Nat) (args : List SV) (T : Tab) (kf : SV × Tab → Option R) : Option R :=
  newellaw05_Far N (Cod.dec api_LiftC (lget (toCs (lget args 0)))) (fun q0 => kf (lget [.bool q0] 0, []))
noncomputable def newellaw05_Far_cal {R : Type} (N : Nat) : Cal R := callM (newelref05_Check_cal N) 21 0 newellaw05_Far_sp (newellaw05_Far_go N)
theorem newellaw05_Far_cal_ok {R : Type} (N : Nat) : CalOk E.P (newellaw05_Far_cal (R := R) N) :=
  callM_ok hE (newelref05_Check_cal_ok N) (lp := newellaw05_Far_lp N) (jn := noJn) (keys := []) kNil (by kernel_rfl) (js := []) jNil (by kernel_rfl) newellaw05_Far_sp_ok newellaw05_Far_rs_ok (fun args T kf => Eq.trans (newellaw05_Far_def N (Cod.dec api_LiftC (lget (toCs (lget args 0)))) (fun q0 => kf (lget [.bool q0] 0, []))) (by kernel_rfl : newellaw05_Far_run N args T kf = fnM E (newelref05_Check_cal N) (newellaw05_Far_lp N) (noJn) 21 (newellaw05_Far_sp.vs args) (newellaw05_Far_sp.tab T) 0 (resK newellaw05_Far_rs kf)))
def lift_within_m {R : Type} (N : Nat) (a490 : api_Span) (a491 : Int) (k : Bool → Option R) : Option R :=
  bif decide ((0 : Int) ≤ api_Span.Low a490) then
   bif decide (api_Span.Low a490 ≤ api_Span.High a490) then
    k (decide (api_Span.High a490 ≤ a491))
   else
    k false
  else
   k false
noncomputable def lift_within {R : Type} : Nat → api_Span → Int → (Bool → Option R) → Option R := lock (@lift_within_m R)
theorem lift_within_def {R : Type} (N : Nat) (a490 : api_Span) (a491 : Int) (k : Bool → Option R) : lift_within N a490 a491 k = lift_within_m N a490 a491 k := by unfold lift_within; rw [lock_eq]
def lift_within_sp : Sp := ⟨[rAgg api_SpanC, rInt .i64], []⟩
theorem lift_within_sp_ok : lift_within_sp.Ok := ⟨(allCons (rAgg_ok api_SpanC_ok api_SpanC_len) (allCons (rInt_ok .i64) allNil)), eNil⟩
def lift_within_rs : Sp := ⟨[rBool], []⟩
theorem lift_within_rs_ok : lift_within_rs.Ok := ⟨(allCons rBool_ok allNil), eNil⟩
def lift_within_run {R : Type} (N : Nat) (args : List SV) (T : Tab) (kf : SV × Tab → Option R) : Option R :=
  lift_within_m N (Cod.dec api_SpanC (lget (toCs (lget args 0)))) (toI (lget args 1)) (fun q0 => kf (lget [.bool q0] 0, []))
def lift_within_lp {R : Type} (N : Nat) : Lp R := fun body S k => Option.none
noncomputable def lift_within_go {R : Type} (N : Nat) (args : List SV) (T : Tab) (kf : SV × Tab → Option R) : Option R :=
  lift_within N (Cod.dec api_SpanC (lget (toCs (lget args 0)))) (toI (lget args 1)) (fun q0 => kf (lget [.bool q0] 0, []))
noncomputable def lift_within_cal {R : Type} (N : Nat) : Cal R := callM (newellaw05_Far_cal N) 48 0 lift_within_sp (lift_within_go N)
theorem lift_within_cal_ok {R : Type} (N : Nat) : CalOk E.P (lift_within_cal (R := R) N) :=
  callM_ok hE (newellaw05_Far_cal_ok N) (lp := lift_within_lp N) (jn := noJn) (keys := []) kNil (by kernel_rfl) (js := []) jNil (by kernel_rfl) lift_within_sp_ok lift_within_rs_ok (fun args T kf => Eq.trans (lift_within_def N (Cod.dec api_SpanC (lget (toCs (lget args 0)))) (toI (lget args 1)) (fun q0 => kf (lget [.bool q0] 0, []))) (by kernel_rfl : lift_within_run N args T kf = fnM E (newellaw05_Far_cal N) (lift_within_lp N) (noJn) 48 (lift_within_sp.vs args) (lift_within_sp.tab T) 0 (resK lift_within_rs kf)))
def lift_between_m {R : Type} (N : Nat) (a492 : Int) (a493 : Int) (a494 : Int) (k : Bool → Option R) : Option R :=
  bif decide (a493 ≤ a492) then
   k (decide (a492 ≤ a494))
  else
   k false
noncomputable def lift_between {R : Type} : Nat → Int → Int → Int → (Bool → Option R) → Option R := lock (@lift_between_m R)
theorem lift_between_def {R : Type} (N : Nat) (a492 : Int) (a493 : Int) (a494 : Int) (k : Bool → Option R) : lift_between N a492 a493 a494 k = lift_between_m N a492 a493 a494 k := by unfold lift_between; rw [lock_eq]
def lift_between_sp : Sp := ⟨[rInt .i64, rInt .i64, rInt .i64], []⟩
theorem lift_between_sp_ok : lift_between_sp.Ok := ⟨(allCons (rInt_ok .i64) (allCons (rInt_ok .i64) (allCons (rInt_ok .i64) allNil))), eNil⟩
def lift_between_rs : Sp := ⟨[rBool], []⟩
theorem lift_between_rs_ok : lift_between_rs.Ok := ⟨(allCons rBool_ok allNil), eNil⟩
def lift_between_run {R : Type} (N : Nat) (args : List SV) (T : Tab) (kf : SV × Tab → Option R) : Option R :=
  lift_between_m N (toI (lget args 0)) (toI (lget args 1)) (toI (lget args 2)) (fun q0 => kf (lget [.bool q0] 0, []))
def lift_between_lp {R : Type} (N : Nat) : Lp R := fun body S k => Option.none
noncomputable def lift_between_go {R : Type} (N : Nat) (args : List SV) (T : Tab) (kf : SV × Tab → Option R) : Option R :=
  lift_between N (toI (lget args 0)) (toI (lget args 1)) (toI (lget args 2)) (fun q0 => kf (lget [.bool q0] 0, []))
noncomputable def lift_between_cal {R : Type} (N : Nat) : Cal R := callM (lift_within_cal N) 52 0 lift_between_sp (lift_between_go N)
theorem lift_between_cal_ok {R : Type} (N : Nat) : CalOk E.P (lift_between_cal (R := R) N) :=
  callM_ok hE (lift_within_cal_ok N) (lp := lift_between_lp N) (jn := noJn) (keys := []) kNil (by kernel_rfl) (js := []) jNil (by kernel_rfl) lift_between_sp_ok lift_between_rs_ok (fun args T kf => Eq.trans (lift_between_def N (toI (lget args 0)) (toI (lget args 1)) (toI (lget args 2)) (fun q0 => kf (lget [.bool q0] 0, []))) (by kernel_rfl : lift_between_run N args T kf = fnM E (lift_within_cal N) (lift_between_lp N) (noJn) 52 (lift_between_sp.vs args) (lift_between_sp.tab T) 0 (resK lift_between_rs kf)))
def lift_Check_L6 : LoopSp := ⟨⟨[1, 52, 53, 54], ⟨(dr 1 ((rPtr 0 0) :: (dr 50 ((rSl intC) :: (rInt .i64) :: (rInt .i64) :: (dr 55 []))))), [(0, eBlkC api_LiftC)]⟩, 1⟩, [(Option.none, ⟨[2], ⟨(dr 2 ((rInt .i64) :: (dr 107 []))), []⟩, 0⟩), (some 0, ⟨[1], ⟨(dr 1 ((rPtr 0 0) :: (dr 108 []))), [(0, eBlkC api_LiftC)]⟩, 1⟩)]⟩
theorem lift_Check_L6_ok : lift_Check_L6.Ok := ⟨⟨(drCons 1 (allCons (rPtr_ok 0 0) (drCons 50 (allCons (rSl_ok intC_ok) (allCons (rInt_ok .i64) (allCons (rInt_ok .i64) (drCons 55 allNil))))))), (eCons (eBlkC_ok api_LiftC_ok api_LiftC_len) eNil)⟩, (xCons ⟨(drCons 2 (allCons (rInt_ok .i64) (drCons 107 allNil))), eNil⟩ (xCons ⟨(drCons 1 (allCons (rPtr_ok 0 0) (drCons 108 allNil))), (eCons (eBlkC_ok api_LiftC_ok api_LiftC_len) eNil)⟩ xNil))⟩
def lift_Check_h6 (v501 : Arr Int) (v502 : Int) (v503 : Int) (v504 : api_Lift) : St := ⟨(un 1 ((.ptr 0 0) :: (un 50 ((slC intC v501) :: (.int .i64 v502) :: (.int .i64 v503) :: (un 55 []))))), [(0, .blk (Cod.enc api_LiftC v504))], 1⟩
def lift_Check_x6_r (q0 : Int) : St := ⟨(un 2 ((.int .i64 q0) :: (un 107 []))), [], 0⟩
def lift_Check_x6_0 (v504 : api_Lift) : St := ⟨(un 1 ((.ptr 0 0) :: (un 108 []))), [(0, .blk (Cod.enc api_LiftC v504))], 1⟩
def lift_Check_b6 {R : Type} (N : Nat) (rc : Arr Int → Int → Int → api_Lift → Option R) (v501 : Arr Int) (v502 : Int) (v503 : Int) (v504 : api_Lift) (kr : Int → Option R) (k0 : Unit → Option R) : Option R :=
  bif decide (v503 < v502) then
   bif decide ((0 : Int) ≤ v503) && decide (v503 < (↑(Arr.n v501) : Int)) then
    bif decide ((0 : Int) ≤ v503) && decide (v503 < (↑(Arr.n (api_Lift.Floors v504)) : Int)) then
     bif decide (Arr.f v501 (Int.toNat v503) ≤ Arr.f (api_Lift.Floors v504) (Int.toNat v503)) then
      kr (50 : Int)
     else
      rc v501 v502 (w64 (v503 + (1 : Int))) v504
    else
     Option.none
   else
    Option.none
  else
   k0 ()
def lift_Check_l6 {R : Type} (N : Nat) : Nat → Arr Int → Int → Int → api_Lift → (Int → Option R) → (Unit → Option R) → Option R
  | 0, _, _, _, _, _, _ => Option.none
  | n + 1, v501, v502, v503, v504, kr, k0 => lift_Check_b6 N (fun v501 v502 v503 v504 => lift_Check_l6 N n v501 v502 v503 v504 kr k0) v501 v502 v503 v504 kr k0
def lift_Check_m {R : Type} (N : Nat) (a495 : api_Lift) (k : Int → Option R) : Option R :=
  lift_between N (api_Lift.Car a495) (1 : Int) (100000 : Int) (fun r496 =>
  bif !r496 then
   k (50 : Int)
  else
   lift_between N (api_Lift.Counter a495) (1 : Int) (100000 : Int) (fun r497 =>
   bif !r497 then
    k (50 : Int)
   else
    lift_between N (api_Lift.Rated a495) (0 : Int) (100000 : Int) (fun r498 =>
    bif !r498 then
     k (50 : Int)
    else
     lift_between N (api_Lift.Rope a495) (0 : Int) (100 : Int) (fun r499 =>
     bif !r499 then
      k (50 : Int)
     else
      lift_between N ((↑(Arr.n (api_Lift.Floors a495)) : Int)) (2 : Int) (16 : Int) (fun r500 =>
      bif !r500 then
       k (50 : Int)
      else
       bif decide ((0 : Int) < (↑(Arr.n (api_Lift.Floors a495)) : Int)) then
        bif Arr.f (api_Lift.Floors a495) (Int.toNat (0 : Int)) != (0 : Int) then
         k (50 : Int)
        else
         bif decide ((0 : Int) ≤ w64 ((↑(Arr.n (api_Lift.Floors a495)) : Int) - (1 : Int))) && decide (w64 ((↑(Arr.n (api_Lift.Floors a495)) : Int) - (1 : Int)) < (↑(Arr.n (api_Lift.Floors a495)) : Int)) then
          bif decide (Arr.f (api_Lift.Floors a495) (Int.toNat (w64 ((↑(Arr.n (api_Lift.Floors a495)) : Int) - (1 : Int)))) > (1000 : Int)) then
           k (50 : Int)
          else
           bif decide ((1 : Int) ≤ (↑(Arr.n (api_Lift.Floors a495)) : Int)) && decide ((↑(Arr.n (api_Lift.Floors a495)) : Int) ≤ (↑(Arr.n (api_Lift.Floors a495)) : Int)) then
            lift_Check_l6 N N (lst intC (Int.toNat (↑(Arr.n (api_Lift.Floors a495)) : Int) - Int.toNat (1 : Int)) fun (i j : Nat) ↦ Cod.cell intC (Arr.f (api_Lift.Floors a495)) (Int.toNat (1 : Int) + i) j) ((↑(Int.toNat (↑(Arr.n (api_Lift.Floors a495)) : Int) - Int.toNat (1 : Int)) : Int)) (0 : Int) a495 (fun r505 =>
             k r505) (fun (_ : Unit) =>
             bif decide (api_Lift.Den a495 < (1 : Int)) then
              k (50 : Int)
             else
              bif decide (api_Lift.Num a495 < api_Lift.Den a495) then
               k (50 : Int)
              else
               bif decide (api_Lift.Num a495 > (100 : Int)) then
                k (50 : Int)
               else
                lift_between N (api_Lift.Speed a495) (1 : Int) (100 : Int) (fun r506 =>
                bif !r506 then
                 k (50 : Int)
                else
                 lift_between N (api_Lift.Accel a495) (1 : Int) (100 : Int) (fun r507 =>
                 bif !r507 then
                  k (50 : Int)
                 else
                  lift_between N (api_Lift.Over a495) (0 : Int) (1000 : Int) (fun r508 =>
                  bif !r508 then
                   k (50 : Int)
                  else
                   lift_between N (api_Lift.Stiff a495) (1 : Int) (10000000 : Int) (fun r509 =>
                   bif !r509 then
                    k (50 : Int)
                   else
                    lift_between N (api_Lift.Level a495) (0 : Int) (1000 : Int) (fun r510 =>
                    bif !r510 then
                     k (50 : Int)
                    else
                     k (0 : Int)))))))
           else
            Option.none
         else
          Option.none
       else
        Option.none)))))
noncomputable def lift_Check {R : Type} : Nat → api_Lift → (Int → Option R) → Option R := lock (@lift_Check_m R)
theorem lift_Check_def {R : Type} (N : Nat) (a495 : api_Lift) (k : Int → Option R) : lift_Check N a495 k = lift_Check_m N a495 k := by unfold lift_Check; rw [lock_eq]
def lift_Check_sp : Sp := ⟨[rAgg api_LiftC], []⟩
theorem lift_Check_sp_ok : lift_Check_sp.Ok := ⟨(allCons (rAgg_ok api_LiftC_ok api_LiftC_len) allNil), eNil⟩
def lift_Check_rs : Sp := ⟨[rInt .i64], []⟩
theorem lift_Check_rs_ok : lift_Check_rs.Ok := ⟨(allCons (rInt_ok .i64) allNil), eNil⟩
def lift_Check_run {R : Type} (N : Nat) (args : List SV) (T : Tab) (kf : SV × Tab → Option R) : Option R :=
  lift_Check_m N (Cod.dec api_LiftC (lget (toCs (lget args 0)))) (fun q0 => kf (lget [.int .i64 q0] 0, []))
def lift_Check_d6 {R : Type} (N : Nat) (S0 : St) (k : Exit → St → Option R) : Option R :=
  lift_Check_l6 N N (lstC intC (lget S0.tmps 52)) (toI (lget S0.tmps 53)) (toI (lget S0.tmps 54)) (Cod.dec api_LiftC (lget (entCs (entAt S0.tab 0)))) (fun q0 => k .ret (lift_Check_x6_r q0)) (fun (_ : Unit) => k (.exit 0) (lift_Check_x6_0 (Cod.dec api_LiftC (lget (entCs (entAt S0.tab 0))))))
def lift_Check_lp {R : Type} (N : Nat) : Lp R := fun body S k => bif (Go.Sx.keyOf body).getD 0 == 6 then (lift_Check_L6.head.raw 0 S (fun S0 => lift_Check_d6 N S0 k)) else Option.none
theorem lift_Check_l6_eq {R : Type} (N : Nat) (k : Exit → St → Option R) (n : Nat) : ∀ (v0 : Arr Int) (v1 : Int) (v2 : Int) (v3 : api_Lift), loopM E.Θ (lift_between_cal N) (lift_Check_lp N) (noJn) 0 lift_Check_L6 (bodyAt E 71 6) n (lift_Check_h6 v0 v1 v2 v3) k = lift_Check_l6 N n v0 v1 v2 v3 (fun q0 => k .ret (lift_Check_x6_r q0)) (fun (_ : Unit) => k (.exit 0) (lift_Check_x6_0 v3)) := by
  induction n with
  | zero => intro v0 v1 v2 v3; rfl
  | succ n ih =>
    intro v0 v1 v2 v3
    refine Eq.trans (b := lift_Check_b6 N (fun v0 v1 v2 v3 => loopM E.Θ (lift_between_cal N) (lift_Check_lp N) (noJn) 0 lift_Check_L6 (bodyAt E 71 6) n (lift_Check_h6 v0 v1 v2 v3) k) v0 v1 v2 v3 (fun q0 => k .ret (lift_Check_x6_r q0)) (fun (_ : Unit) => k (.exit 0) (lift_Check_x6_0 v3))) (by kernel_rfl) ?_
    have h : (fun (v0 : Arr Int) (v1 : Int) (v2 : Int) (v3 : api_Lift) => loopM E.Θ (lift_between_cal N) (lift_Check_lp N) (noJn) 0 lift_Check_L6 (bodyAt E 71 6) n (lift_Check_h6 v0 v1 v2 v3) k) = (fun (v0 : Arr Int) (v1 : Int) (v2 : Int) (v3 : api_Lift) => lift_Check_l6 N n v0 v1 v2 v3 (fun q0 => k .ret (lift_Check_x6_r q0)) (fun (_ : Unit) => k (.exit 0) (lift_Check_x6_0 v3))) := funext fun v0 => funext fun v1 => funext fun v2 => funext fun v3 => ih v0 v1 v2 v3
    rw [h]
    rfl
theorem lift_Check_k6 {R : Type} (N : Nat) : LpKey (R := R) E 71 0 (lift_Check_lp N) 6 :=
  lpKey_of hE (lift_between_cal_ok N) (lp := lift_Check_lp N) (jn := noJn) lift_Check_L6_ok [] kNil (by kernel_rfl) [] jNil (by kernel_rfl) N fun S k =>
    Eq.trans (b := lift_Check_L6.head.raw 0 S (fun S0 => lift_Check_d6 N S0 k)) (by kernel_rfl) (congrArg (lift_Check_L6.head.raw 0 S) (funext fun S0 => Eq.trans (lift_Check_l6_eq N k N (lstC intC (lget S0.tmps 52)) (toI (lget S0.tmps 53)) (toI (lget S0.tmps 54)) (Cod.dec api_LiftC (lget (entCs (entAt S0.tab 0))))).symm (by kernel_rfl)))
noncomputable def lift_Check_go {R : Type} (N : Nat) (args : List SV) (T : Tab) (kf : SV × Tab → Option R) : Option R :=
  lift_Check N (Cod.dec api_LiftC (lget (toCs (lget args 0)))) (fun q0 => kf (lget [.int .i64 q0] 0, []))
noncomputable def lift_Check_cal {R : Type} (N : Nat) : Cal R := callM (lift_between_cal N) 71 0 lift_Check_sp (lift_Check_go N)
theorem lift_Check_cal_ok {R : Type} (N : Nat) : CalOk E.P (lift_Check_cal (R := R) N) :=
  callM_ok hE (lift_between_cal_ok N) (lp := lift_Check_lp N) (jn := noJn) (keys := [6]) (kCons (lift_Check_k6 N) kNil) (by kernel_rfl) (js := []) jNil (by kernel_rfl) lift_Check_sp_ok lift_Check_rs_ok (fun args T kf => Eq.trans (lift_Check_def N (Cod.dec api_LiftC (lget (toCs (lget args 0)))) (fun q0 => kf (lget [.int .i64 q0] 0, []))) (by kernel_rfl : lift_Check_run N args T kf = fnM E (lift_between_cal N) (lift_Check_lp N) (noJn) 71 (lift_Check_sp.vs args) (lift_Check_sp.tab T) 0 (resK lift_Check_rs kf)))
def lift_top_m {R : Type} (N : Nat) (a511 : api_Lift) (k : Int → Option R) : Option R :=
  bif decide ((0 : Int) ≤ w64 ((↑(Arr.n (api_Lift.Floors a511)) : Int) - (1 : Int))) && decide (w64 ((↑(Arr.n (api_Lift.Floors a511)) : Int) - (1 : Int)) < (↑(Arr.n (api_Lift.Floors a511)) : Int)) then
   k (Arr.f (api_Lift.Floors a511) (Int.toNat (w64 ((↑(Arr.n (api_Lift.Floors a511)) : Int) - (1 : Int)))))
  else
   Option.none
noncomputable def lift_top {R : Type} : Nat → api_Lift → (Int → Option R) → Option R := lock (@lift_top_m R)
theorem lift_top_def {R : Type} (N : Nat) (a511 : api_Lift) (k : Int → Option R) : lift_top N a511 k = lift_top_m N a511 k := by unfold lift_top; rw [lock_eq]
def lift_top_sp : Sp := ⟨[rAgg api_LiftC], []⟩
theorem lift_top_sp_ok : lift_top_sp.Ok := ⟨(allCons (rAgg_ok api_LiftC_ok api_LiftC_len) allNil), eNil⟩
def lift_top_rs : Sp := ⟨[rInt .i64], []⟩
theorem lift_top_rs_ok : lift_top_rs.Ok := ⟨(allCons (rInt_ok .i64) allNil), eNil⟩
def lift_top_run {R : Type} (N : Nat) (args : List SV) (T : Tab) (kf : SV × Tab → Option R) : Option R :=
  lift_top_m N (Cod.dec api_LiftC (lget (toCs (lget args 0)))) (fun q0 => kf (lget [.int .i64 q0] 0, []))
def lift_top_lp {R : Type} (N : Nat) : Lp R := fun body S k => Option.none
noncomputable def lift_top_go {R : Type} (N : Nat) (args : List SV) (T : Tab) (kf : SV × Tab → Option R) : Option R :=
  lift_top N (Cod.dec api_LiftC (lget (toCs (lget args 0)))) (fun q0 => kf (lget [.int .i64 q0] 0, []))
noncomputable def lift_top_cal {R : Type} (N : Nat) : Cal R := callM (lift_Check_cal N) 49 0 lift_top_sp (lift_top_go N)
theorem lift_top_cal_ok {R : Type} (N : Nat) : CalOk E.P (lift_top_cal (R := R) N) :=
  callM_ok hE (lift_Check_cal_ok N) (lp := lift_top_lp N) (jn := noJn) (keys := []) kNil (by kernel_rfl) (js := []) jNil (by kernel_rfl) lift_top_sp_ok lift_top_rs_ok (fun args T kf => Eq.trans (lift_top_def N (Cod.dec api_LiftC (lget (toCs (lget args 0)))) (fun q0 => kf (lget [.int .i64 q0] 0, []))) (by kernel_rfl : lift_top_run N args T kf = fnM E (lift_Check_cal N) (lift_top_lp N) (noJn) 49 (lift_top_sp.vs args) (lift_top_sp.tab T) 0 (resK lift_top_rs kf)))
def lift_sides_m {R : Type} (N : Nat) (a512 : api_Lift) (a513 : Int) (a514 : Int) (k : Int → Int → Option R) : Option R :=
  lift_top N a512 (fun r515 =>
  k (w64 (w64 (api_Lift.Car a512 + a514) + w64 (api_Lift.Rope a512 * w64 (r515 - a513)))) (w64 (api_Lift.Counter a512 + w64 (api_Lift.Rope a512 * a513))))
noncomputable def lift_sides {R : Type} : Nat → api_Lift → Int → Int → (Int → Int → Option R) → Option R := lock (@lift_sides_m R)
theorem lift_sides_def {R : Type} (N : Nat) (a512 : api_Lift) (a513 : Int) (a514 : Int) (k : Int → Int → Option R) : lift_sides N a512 a513 a514 k = lift_sides_m N a512 a513 a514 k := by unfold lift_sides; rw [lock_eq]
def lift_sides_sp : Sp := ⟨[rAgg api_LiftC, rInt .i64, rInt .i64], []⟩
theorem lift_sides_sp_ok : lift_sides_sp.Ok := ⟨(allCons (rAgg_ok api_LiftC_ok api_LiftC_len) (allCons (rInt_ok .i64) (allCons (rInt_ok .i64) allNil))), eNil⟩
def lift_sides_rs : Sp := ⟨[rTup [rInt .i64, rInt .i64]], []⟩
theorem lift_sides_rs_ok : lift_sides_rs.Ok := ⟨(allCons (rTup_ok (allCons (rInt_ok .i64) (allCons (rInt_ok .i64) allNil))) allNil), eNil⟩
def lift_sides_run {R : Type} (N : Nat) (args : List SV) (T : Tab) (kf : SV × Tab → Option R) : Option R :=
  lift_sides_m N (Cod.dec api_LiftC (lget (toCs (lget args 0)))) (toI (lget args 1)) (toI (lget args 2)) (fun q0 q1 => kf (lget [.tup [.int .i64 q0, .int .i64 q1]] 0, []))
def lift_sides_lp {R : Type} (N : Nat) : Lp R := fun body S k => Option.none
noncomputable def lift_sides_go {R : Type} (N : Nat) (args : List SV) (T : Tab) (kf : SV × Tab → Option R) : Option R :=
  lift_sides N (Cod.dec api_LiftC (lget (toCs (lget args 0)))) (toI (lget args 1)) (toI (lget args 2)) (fun q0 q1 => kf (lget [.tup [.int .i64 q0, .int .i64 q1]] 0, []))
noncomputable def lift_sides_cal {R : Type} (N : Nat) : Cal R := callM (lift_top_cal N) 72 0 lift_sides_sp (lift_sides_go N)
theorem lift_sides_cal_ok {R : Type} (N : Nat) : CalOk E.P (lift_sides_cal (R := R) N) :=
  callM_ok hE (lift_top_cal_ok N) (lp := lift_sides_lp N) (jn := noJn) (keys := []) kNil (by kernel_rfl) (js := []) jNil (by kernel_rfl) lift_sides_sp_ok lift_sides_rs_ok (fun args T kf => Eq.trans (lift_sides_def N (Cod.dec api_LiftC (lget (toCs (lget args 0)))) (toI (lget args 1)) (toI (lget args 2)) (fun q0 q1 => kf (lget [.tup [.int .i64 q0, .int .i64 q1]] 0, []))) (by kernel_rfl : lift_sides_run N args T kf = fnM E (lift_top_cal N) (lift_sides_lp N) (noJn) 72 (lift_sides_sp.vs args) (lift_sides_sp.tab T) 0 (resK lift_sides_rs kf)))
def lift_slips_m {R : Type} (N : Nat) (a516 : api_Lift) (a517 : Int) (a518 : Int) (a519 : Int) (k : Bool → Option R) : Option R :=
  lift_sides N a516 a517 a518 (fun r520 r521 =>
  k (decide (w64 (w64 (mxI r520 r521 * w64 ((1000 : Int) + a519)) * api_Lift.Den a516) > w64 (w64 (mnI r520 r521 * w64 ((1000 : Int) - a519)) * api_Lift.Num a516))))
noncomputable def lift_slips {R : Type} : Nat → api_Lift → Int → Int → Int → (Bool → Option R) → Option R := lock (@lift_slips_m R)
theorem lift_slips_def {R : Type} (N : Nat) (a516 : api_Lift) (a517 : Int) (a518 : Int) (a519 : Int) (k : Bool → Option R) : lift_slips N a516 a517 a518 a519 k = lift_slips_m N a516 a517 a518 a519 k := by unfold lift_slips; rw [lock_eq]
def lift_slips_sp : Sp := ⟨[rAgg api_LiftC, rInt .i64, rInt .i64, rInt .i64], []⟩
theorem lift_slips_sp_ok : lift_slips_sp.Ok := ⟨(allCons (rAgg_ok api_LiftC_ok api_LiftC_len) (allCons (rInt_ok .i64) (allCons (rInt_ok .i64) (allCons (rInt_ok .i64) allNil)))), eNil⟩
def lift_slips_rs : Sp := ⟨[rBool], []⟩
theorem lift_slips_rs_ok : lift_slips_rs.Ok := ⟨(allCons rBool_ok allNil), eNil⟩
def lift_slips_run {R : Type} (N : Nat) (args : List SV) (T : Tab) (kf : SV × Tab → Option R) : Option R :=
  lift_slips_m N (Cod.dec api_LiftC (lget (toCs (lget args 0)))) (toI (lget args 1)) (toI (lget args 2)) (toI (lget args 3)) (fun q0 => kf (lget [.bool q0] 0, []))
def lift_slips_lp {R : Type} (N : Nat) : Lp R := fun body S k => Option.none
noncomputable def lift_slips_go {R : Type} (N : Nat) (args : List SV) (T : Tab) (kf : SV × Tab → Option R) : Option R :=
  lift_slips N (Cod.dec api_LiftC (lget (toCs (lget args 0)))) (toI (lget args 1)) (toI (lget args 2)) (toI (lget args 3)) (fun q0 => kf (lget [.bool q0] 0, []))
noncomputable def lift_slips_cal {R : Type} (N : Nat) : Cal R := callM (lift_sides_cal N) 50 0 lift_slips_sp (lift_slips_go N)
theorem lift_slips_cal_ok {R : Type} (N : Nat) : CalOk E.P (lift_slips_cal (R := R) N) :=
  callM_ok hE (lift_sides_cal_ok N) (lp := lift_slips_lp N) (jn := noJn) (keys := []) kNil (by kernel_rfl) (js := []) jNil (by kernel_rfl) lift_slips_sp_ok lift_slips_rs_ok (fun args T kf => Eq.trans (lift_slips_def N (Cod.dec api_LiftC (lget (toCs (lget args 0)))) (toI (lget args 1)) (toI (lget args 2)) (toI (lget args 3)) (fun q0 => kf (lget [.bool q0] 0, []))) (by kernel_rfl : lift_slips_run N args T kf = fnM E (lift_sides_cal N) (lift_slips_lp N) (noJn) 50 (lift_slips_sp.vs args) (lift_slips_sp.tab T) 0 (resK lift_slips_rs kf)))
def lift_Slips_1_m {R : Type} (N : Nat) (a532 : Int) (a533 : api_Lift) (a534 : Int) (a535 : Int) (k : Bool → Option R) : Option R :=
  lift_top N a533 (fun r536 =>
  lift_between N a532 (0 : Int) r536 (fun r537 =>
  bif r537 then
   lift_between N a534 (0 : Int) (api_Lift.Rated a533) (fun r538 =>
   bif r538 then
    lift_between N a535 (0 : Int) (999 : Int) (fun r539 =>
    k r539)
   else
    k false)
  else
   k false))
noncomputable def lift_Slips_1 {R : Type} : Nat → Int → api_Lift → Int → Int → (Bool → Option R) → Option R := lock (@lift_Slips_1_m R)
theorem lift_Slips_1_def {R : Type} (N : Nat) (a532 : Int) (a533 : api_Lift) (a534 : Int) (a535 : Int) (k : Bool → Option R) : lift_Slips_1 N a532 a533 a534 a535 k = lift_Slips_1_m N a532 a533 a534 a535 k := by unfold lift_Slips_1; rw [lock_eq]
def lift_Slips_1_sp : Sp := ⟨[rPtr 0 0, rPtr 1 0, rPtr 2 0, rPtr 3 0], [(0, eBlk [rInt .i64]), (1, eBlkC api_LiftC), (2, eBlk [rInt .i64]), (3, eBlk [rInt .i64])]⟩
theorem lift_Slips_1_sp_ok : lift_Slips_1_sp.Ok := ⟨(allCons (rPtr_ok 0 0) (allCons (rPtr_ok 1 0) (allCons (rPtr_ok 2 0) (allCons (rPtr_ok 3 0) allNil)))), (eCons (eBlk_ok (allCons (rInt_ok .i64) allNil)) (eCons (eBlkC_ok api_LiftC_ok api_LiftC_len) (eCons (eBlk_ok (allCons (rInt_ok .i64) allNil)) (eCons (eBlk_ok (allCons (rInt_ok .i64) allNil)) eNil))))⟩
def lift_Slips_1_rs : Sp := ⟨[rBool], [(0, eBlk [rInt .i64]), (1, eBlkC api_LiftC), (2, eBlk [rInt .i64]), (3, eBlk [rInt .i64])]⟩
theorem lift_Slips_1_rs_ok : lift_Slips_1_rs.Ok := ⟨(allCons rBool_ok allNil), (eCons (eBlk_ok (allCons (rInt_ok .i64) allNil)) (eCons (eBlkC_ok api_LiftC_ok api_LiftC_len) (eCons (eBlk_ok (allCons (rInt_ok .i64) allNil)) (eCons (eBlk_ok (allCons (rInt_ok .i64) allNil)) eNil))))⟩
def lift_Slips_1_run {R : Type} (N : Nat) (args : List SV) (T : Tab) (kf : SV × Tab → Option R) : Option R :=
  lift_Slips_1_m N (toI (lget (entCs (entAt T 0)) 0)) (Cod.dec api_LiftC (lget (entCs (entAt T 1)))) (toI (lget (entCs (entAt T 2)) 0)) (toI (lget (entCs (entAt T 3)) 0)) (fun q0 => kf (lget [.bool q0] 0, [(0, .blk [.int .i64 (toI (lget (entCs (entAt T 0)) 0))]), (1, .blk (Cod.enc api_LiftC (Cod.dec api_LiftC (lget (entCs (entAt T 1)))))), (2, .blk [.int .i64 (toI (lget (entCs (entAt T 2)) 0))]), (3, .blk [.int .i64 (toI (lget (entCs (entAt T 3)) 0))])]))
def lift_Slips_1_lp {R : Type} (N : Nat) : Lp R := fun body S k => Option.none
noncomputable def lift_Slips_1_go {R : Type} (N : Nat) (args : List SV) (T : Tab) (kf : SV × Tab → Option R) : Option R :=
  lift_Slips_1 N (toI (lget (entCs (entAt T 0)) 0)) (Cod.dec api_LiftC (lget (entCs (entAt T 1)))) (toI (lget (entCs (entAt T 2)) 0)) (toI (lget (entCs (entAt T 3)) 0)) (fun q0 => kf (lget [.bool q0] 0, [(0, .blk [.int .i64 (toI (lget (entCs (entAt T 0)) 0))]), (1, .blk (Cod.enc api_LiftC (Cod.dec api_LiftC (lget (entCs (entAt T 1)))))), (2, .blk [.int .i64 (toI (lget (entCs (entAt T 2)) 0))]), (3, .blk [.int .i64 (toI (lget (entCs (entAt T 3)) 0))])]))
noncomputable def lift_Slips_1_cal {R : Type} (N : Nat) : Cal R := callM (lift_slips_cal N) 51 4 lift_Slips_1_sp (lift_Slips_1_go N)
theorem lift_Slips_1_cal_ok {R : Type} (N : Nat) : CalOk E.P (lift_Slips_1_cal (R := R) N) :=
  callM_ok hE (lift_slips_cal_ok N) (lp := lift_Slips_1_lp N) (jn := noJn) (keys := []) kNil (by kernel_rfl) (js := []) jNil (by kernel_rfl) lift_Slips_1_sp_ok lift_Slips_1_rs_ok (fun args T kf => Eq.trans (lift_Slips_1_def N (toI (lget (entCs (entAt T 0)) 0)) (Cod.dec api_LiftC (lget (entCs (entAt T 1)))) (toI (lget (entCs (entAt T 2)) 0)) (toI (lget (entCs (entAt T 3)) 0)) (fun q0 => kf (lget [.bool q0] 0, [(0, .blk [.int .i64 (toI (lget (entCs (entAt T 0)) 0))]), (1, .blk (Cod.enc api_LiftC (Cod.dec api_LiftC (lget (entCs (entAt T 1)))))), (2, .blk [.int .i64 (toI (lget (entCs (entAt T 2)) 0))]), (3, .blk [.int .i64 (toI (lget (entCs (entAt T 3)) 0))])]))) (by kernel_rfl : lift_Slips_1_run N args T kf = fnM E (lift_slips_cal N) (lift_Slips_1_lp N) (noJn) 51 (lift_Slips_1_sp.vs args) (lift_Slips_1_sp.tab T) 4 (resK lift_Slips_1_rs kf)))
def lift_check_m {R : Type} (N : Nat) (a526 : api_Lift) (a527 : Int) (a528 : api_Lift) (a529 : Int) (a530 : Int) (k : Int → Option R) : Option R :=
  lift_Check N a526 (fun r531 =>
  bif r531 != (0 : Int) then
   k r531
  else
   lift_Slips_1 N a527 a528 a529 a530 (fun r540 =>
   bif !r540 then
    k (1 : Int)
   else
    k (0 : Int)))
noncomputable def lift_check {R : Type} : Nat → api_Lift → Int → api_Lift → Int → Int → (Int → Option R) → Option R := lock (@lift_check_m R)
theorem lift_check_def {R : Type} (N : Nat) (a526 : api_Lift) (a527 : Int) (a528 : api_Lift) (a529 : Int) (a530 : Int) (k : Int → Option R) : lift_check N a526 a527 a528 a529 a530 k = lift_check_m N a526 a527 a528 a529 a530 k := by unfold lift_check; rw [lock_eq]
def lift_check_sp : Sp := ⟨[rAgg api_LiftC, rFunc 51 0 [rPtr 0 0, rPtr 1 0, rPtr 2 0, rPtr 3 0]], [(0, eBlk [rInt .i64]), (1, eBlkC api_LiftC), (2, eBlk [rInt .i64]), (3, eBlk [rInt .i64])]⟩
theorem lift_check_sp_ok : lift_check_sp.Ok := ⟨(allCons (rAgg_ok api_LiftC_ok api_LiftC_len) (allCons (rFunc_ok 51 0 (allCons (rPtr_ok 0 0) (allCons (rPtr_ok 1 0) (allCons (rPtr_ok 2 0) (allCons (rPtr_ok 3 0) allNil))))) allNil)), (eCons (eBlk_ok (allCons (rInt_ok .i64) allNil)) (eCons (eBlkC_ok api_LiftC_ok api_LiftC_len) (eCons (eBlk_ok (allCons (rInt_ok .i64) allNil)) (eCons (eBlk_ok (allCons (rInt_ok .i64) allNil)) eNil))))⟩
def lift_check_rs : Sp := ⟨[rInt .i64], [(0, eBlk [rInt .i64]), (1, eBlkC api_LiftC), (2, eBlk [rInt .i64]), (3, eBlk [rInt .i64])]⟩
theorem lift_check_rs_ok : lift_check_rs.Ok := ⟨(allCons (rInt_ok .i64) allNil), (eCons (eBlk_ok (allCons (rInt_ok .i64) allNil)) (eCons (eBlkC_ok api_LiftC_ok api_LiftC_len) (eCons (eBlk_ok (allCons (rInt_ok .i64) allNil)) (eCons (eBlk_ok (allCons (rInt_ok .i64) allNil)) eNil))))⟩
def lift_check_run {R : Type} (N : Nat) (args : List SV) (T : Tab) (kf : SV × Tab → Option R) : Option R :=
  lift_check_m N (Cod.dec api_LiftC (lget (toCs (lget args 0)))) (toI (lget (entCs (entAt T 0)) 0)) (Cod.dec api_LiftC (lget (entCs (entAt T 1)))) (toI (lget (entCs (entAt T 2)) 0)) (toI (lget (entCs (entAt T 3)) 0)) (fun q0 => kf (lget [.int .i64 q0] 0, [(0, .blk [.int .i64 (toI (lget (entCs (entAt T 0)) 0))]), (1, .blk (Cod.enc api_LiftC (Cod.dec api_LiftC (lget (entCs (entAt T 1)))))), (2, .blk [.int .i64 (toI (lget (entCs (entAt T 2)) 0))]), (3, .blk [.int .i64 (toI (lget (entCs (entAt T 3)) 0))])]))
def lift_check_lp {R : Type} (N : Nat) : Lp R := fun body S k => Option.none
noncomputable def lift_check_go {R : Type} (N : Nat) (args : List SV) (T : Tab) (kf : SV × Tab → Option R) : Option R :=
  lift_check N (Cod.dec api_LiftC (lget (toCs (lget args 0)))) (toI (lget (entCs (entAt T 0)) 0)) (Cod.dec api_LiftC (lget (entCs (entAt T 1)))) (toI (lget (entCs (entAt T 2)) 0)) (toI (lget (entCs (entAt T 3)) 0)) (fun q0 => kf (lget [.int .i64 q0] 0, [(0, .blk [.int .i64 (toI (lget (entCs (entAt T 0)) 0))]), (1, .blk (Cod.enc api_LiftC (Cod.dec api_LiftC (lget (entCs (entAt T 1)))))), (2, .blk [.int .i64 (toI (lget (entCs (entAt T 2)) 0))]), (3, .blk [.int .i64 (toI (lget (entCs (entAt T 3)) 0))])]))
noncomputable def lift_check_cal {R : Type} (N : Nat) : Cal R := callM (lift_Slips_1_cal N) 46 4 lift_check_sp (lift_check_go N)
theorem lift_check_cal_ok {R : Type} (N : Nat) : CalOk E.P (lift_check_cal (R := R) N) :=
  callM_ok hE (lift_Slips_1_cal_ok N) (lp := lift_check_lp N) (jn := noJn) (keys := []) kNil (by kernel_rfl) (js := []) jNil (by kernel_rfl) lift_check_sp_ok lift_check_rs_ok (fun args T kf => Eq.trans (lift_check_def N (Cod.dec api_LiftC (lget (toCs (lget args 0)))) (toI (lget (entCs (entAt T 0)) 0)) (Cod.dec api_LiftC (lget (entCs (entAt T 1)))) (toI (lget (entCs (entAt T 2)) 0)) (toI (lget (entCs (entAt T 3)) 0)) (fun q0 => kf (lget [.int .i64 q0] 0, [(0, .blk [.int .i64 (toI (lget (entCs (entAt T 0)) 0))]), (1, .blk (Cod.enc api_LiftC (Cod.dec api_LiftC (lget (entCs (entAt T 1)))))), (2, .blk [.int .i64 (toI (lget (entCs (entAt T 2)) 0))]), (3, .blk [.int .i64 (toI (lget (entCs (entAt T 3)) 0))])]))) (by kernel_rfl : lift_check_run N args T kf = fnM E (lift_Slips_1_cal N) (lift_check_lp N) (noJn) 46 (lift_check_sp.vs args) (lift_check_sp.tab T) 4 (resK lift_check_rs kf)))
def lift_Slips_m {R : Type} (N : Nat) (a522 : api_Lift) (a523 : Int) (a524 : Int) (a525 : Int) (k : Bool → Int → Option R) : Option R :=
  lift_check N a522 a523 a522 a524 a525 (fun r541 =>
  bif r541 != (0 : Int) then
   k false r541
  else
   lift_slips N a522 a523 a524 a525 (fun r542 =>
   k r542 (0 : Int)))
noncomputable def lift_Slips {R : Type} : Nat → api_Lift → Int → Int → Int → (Bool → Int → Option R) → Option R := lock (@lift_Slips_m R)
theorem lift_Slips_def {R : Type} (N : Nat) (a522 : api_Lift) (a523 : Int) (a524 : Int) (a525 : Int) (k : Bool → Int → Option R) : lift_Slips N a522 a523 a524 a525 k = lift_Slips_m N a522 a523 a524 a525 k := by unfold lift_Slips; rw [lock_eq]
def lift_Slips_sp : Sp := ⟨[rAgg api_LiftC, rInt .i64, rInt .i64, rInt .i64], []⟩
theorem lift_Slips_sp_ok : lift_Slips_sp.Ok := ⟨(allCons (rAgg_ok api_LiftC_ok api_LiftC_len) (allCons (rInt_ok .i64) (allCons (rInt_ok .i64) (allCons (rInt_ok .i64) allNil)))), eNil⟩
def lift_Slips_rs : Sp := ⟨[rTup [rBool, rInt .i64]], []⟩
theorem lift_Slips_rs_ok : lift_Slips_rs.Ok := ⟨(allCons (rTup_ok (allCons rBool_ok (allCons (rInt_ok .i64) allNil))) allNil), eNil⟩
def lift_Slips_run {R : Type} (N : Nat) (args : List SV) (T : Tab) (kf : SV × Tab → Option R) : Option R :=
  lift_Slips_m N (Cod.dec api_LiftC (lget (toCs (lget args 0)))) (toI (lget args 1)) (toI (lget args 2)) (toI (lget args 3)) (fun q0 q1 => kf (lget [.tup [.bool q0, .int .i64 q1]] 0, []))
def lift_Slips_lp {R : Type} (N : Nat) : Lp R := fun body S k => Option.none
noncomputable def lift_Slips_go {R : Type} (N : Nat) (args : List SV) (T : Tab) (kf : SV × Tab → Option R) : Option R :=
  lift_Slips N (Cod.dec api_LiftC (lget (toCs (lget args 0)))) (toI (lget args 1)) (toI (lget args 2)) (toI (lget args 3)) (fun q0 q1 => kf (lget [.tup [.bool q0, .int .i64 q1]] 0, []))
noncomputable def lift_Slips_cal {R : Type} (N : Nat) : Cal R := callM (lift_check_cal N) 24 0 lift_Slips_sp (lift_Slips_go N)
theorem lift_Slips_cal_ok {R : Type} (N : Nat) : CalOk E.P (lift_Slips_cal (R := R) N) :=
  callM_ok hE (lift_check_cal_ok N) (lp := lift_Slips_lp N) (jn := noJn) (keys := []) kNil (by kernel_rfl) (js := []) jNil (by kernel_rfl) lift_Slips_sp_ok lift_Slips_rs_ok (fun args T kf => Eq.trans (lift_Slips_def N (Cod.dec api_LiftC (lget (toCs (lget args 0)))) (toI (lget args 1)) (toI (lget args 2)) (toI (lget args 3)) (fun q0 q1 => kf (lget [.tup [.bool q0, .int .i64 q1]] 0, []))) (by kernel_rfl : lift_Slips_run N args T kf = fnM E (lift_check_cal N) (lift_Slips_lp N) (noJn) 24 (lift_Slips_sp.vs args) (lift_Slips_sp.tab T) 0 (resK lift_Slips_rs kf)))
def lift_Grip_1_m {R : Type} (N : Nat) (a551 : api_Span) (a552 : api_Lift) (a553 : api_Span) (k : Bool → Option R) : Option R :=
  lift_top N a552 (fun r554 =>
  lift_within N a551 r554 (fun r555 =>
  bif r555 then
   lift_within N a553 (api_Lift.Rated a552) (fun r556 =>
   k r556)
  else
   k false))
noncomputable def lift_Grip_1 {R : Type} : Nat → api_Span → api_Lift → api_Span → (Bool → Option R) → Option R := lock (@lift_Grip_1_m R)
theorem lift_Grip_1_def {R : Type} (N : Nat) (a551 : api_Span) (a552 : api_Lift) (a553 : api_Span) (k : Bool → Option R) : lift_Grip_1 N a551 a552 a553 k = lift_Grip_1_m N a551 a552 a553 k := by unfold lift_Grip_1; rw [lock_eq]
def lift_Grip_1_sp : Sp := ⟨[rPtr 0 0, rPtr 1 0, rPtr 2 0], [(0, eBlkC api_SpanC), (1, eBlkC api_LiftC), (2, eBlkC api_SpanC)]⟩
theorem lift_Grip_1_sp_ok : lift_Grip_1_sp.Ok := ⟨(allCons (rPtr_ok 0 0) (allCons (rPtr_ok 1 0) (allCons (rPtr_ok 2 0) allNil))), (eCons (eBlkC_ok api_SpanC_ok api_SpanC_len) (eCons (eBlkC_ok api_LiftC_ok api_LiftC_len) (eCons (eBlkC_ok api_SpanC_ok api_SpanC_len) eNil)))⟩
def lift_Grip_1_rs : Sp := ⟨[rBool], [(0, eBlkC api_SpanC), (1, eBlkC api_LiftC), (2, eBlkC api_SpanC)]⟩
theorem lift_Grip_1_rs_ok : lift_Grip_1_rs.Ok := ⟨(allCons rBool_ok allNil), (eCons (eBlkC_ok api_SpanC_ok api_SpanC_len) (eCons (eBlkC_ok api_LiftC_ok api_LiftC_len) (eCons (eBlkC_ok api_SpanC_ok api_SpanC_len) eNil)))⟩
def lift_Grip_1_run {R : Type} (N : Nat) (args : List SV) (T : Tab) (kf : SV × Tab → Option R) : Option R :=
  lift_Grip_1_m N (Cod.dec api_SpanC (lget (entCs (entAt T 0)))) (Cod.dec api_LiftC (lget (entCs (entAt T 1)))) (Cod.dec api_SpanC (lget (entCs (entAt T 2)))) (fun q0 => kf (lget [.bool q0] 0, [(0, .blk (Cod.enc api_SpanC (Cod.dec api_SpanC (lget (entCs (entAt T 0)))))), (1, .blk (Cod.enc api_LiftC (Cod.dec api_LiftC (lget (entCs (entAt T 1)))))), (2, .blk (Cod.enc api_SpanC (Cod.dec api_SpanC (lget (entCs (entAt T 2))))))]))
def lift_Grip_1_lp {R : Type} (N : Nat) : Lp R := fun body S k => Option.none
noncomputable def lift_Grip_1_go {R : Type} (N : Nat) (args : List SV) (T : Tab) (kf : SV × Tab → Option R) : Option R :=
  lift_Grip_1 N (Cod.dec api_SpanC (lget (entCs (entAt T 0)))) (Cod.dec api_LiftC (lget (entCs (entAt T 1)))) (Cod.dec api_SpanC (lget (entCs (entAt T 2)))) (fun q0 => kf (lget [.bool q0] 0, [(0, .blk (Cod.enc api_SpanC (Cod.dec api_SpanC (lget (entCs (entAt T 0)))))), (1, .blk (Cod.enc api_LiftC (Cod.dec api_LiftC (lget (entCs (entAt T 1)))))), (2, .blk (Cod.enc api_SpanC (Cod.dec api_SpanC (lget (entCs (entAt T 2))))))]))
noncomputable def lift_Grip_1_cal {R : Type} (N : Nat) : Cal R := callM (lift_Slips_cal N) 47 3 lift_Grip_1_sp (lift_Grip_1_go N)
theorem lift_Grip_1_cal_ok {R : Type} (N : Nat) : CalOk E.P (lift_Grip_1_cal (R := R) N) :=
  callM_ok hE (lift_Slips_cal_ok N) (lp := lift_Grip_1_lp N) (jn := noJn) (keys := []) kNil (by kernel_rfl) (js := []) jNil (by kernel_rfl) lift_Grip_1_sp_ok lift_Grip_1_rs_ok (fun args T kf => Eq.trans (lift_Grip_1_def N (Cod.dec api_SpanC (lget (entCs (entAt T 0)))) (Cod.dec api_LiftC (lget (entCs (entAt T 1)))) (Cod.dec api_SpanC (lget (entCs (entAt T 2)))) (fun q0 => kf (lget [.bool q0] 0, [(0, .blk (Cod.enc api_SpanC (Cod.dec api_SpanC (lget (entCs (entAt T 0)))))), (1, .blk (Cod.enc api_LiftC (Cod.dec api_LiftC (lget (entCs (entAt T 1)))))), (2, .blk (Cod.enc api_SpanC (Cod.dec api_SpanC (lget (entCs (entAt T 2))))))]))) (by kernel_rfl : lift_Grip_1_run N args T kf = fnM E (lift_Slips_cal N) (lift_Grip_1_lp N) (noJn) 47 (lift_Grip_1_sp.vs args) (lift_Grip_1_sp.tab T) 3 (resK lift_Grip_1_rs kf)))
def lift_check_v2_m {R : Type} (N : Nat) (a546 : api_Lift) (a547 : api_Span) (a548 : api_Lift) (a549 : api_Span) (k : Int → Option R) : Option R :=
  lift_Check N a546 (fun r550 =>
  bif r550 != (0 : Int) then
   k r550
  else
   lift_Grip_1 N a547 a548 a549 (fun r557 =>
   bif !r557 then
    k (1 : Int)
   else
    k (0 : Int)))
noncomputable def lift_check_v2 {R : Type} : Nat → api_Lift → api_Span → api_Lift → api_Span → (Int → Option R) → Option R := lock (@lift_check_v2_m R)
theorem lift_check_v2_def {R : Type} (N : Nat) (a546 : api_Lift) (a547 : api_Span) (a548 : api_Lift) (a549 : api_Span) (k : Int → Option R) : lift_check_v2 N a546 a547 a548 a549 k = lift_check_v2_m N a546 a547 a548 a549 k := by unfold lift_check_v2; rw [lock_eq]
def lift_check_v2_sp : Sp := ⟨[rAgg api_LiftC, rFunc 47 0 [rPtr 0 0, rPtr 1 0, rPtr 2 0]], [(0, eBlkC api_SpanC), (1, eBlkC api_LiftC), (2, eBlkC api_SpanC)]⟩
theorem lift_check_v2_sp_ok : lift_check_v2_sp.Ok := ⟨(allCons (rAgg_ok api_LiftC_ok api_LiftC_len) (allCons (rFunc_ok 47 0 (allCons (rPtr_ok 0 0) (allCons (rPtr_ok 1 0) (allCons (rPtr_ok 2 0) allNil)))) allNil)), (eCons (eBlkC_ok api_SpanC_ok api_SpanC_len) (eCons (eBlkC_ok api_LiftC_ok api_LiftC_len) (eCons (eBlkC_ok api_SpanC_ok api_SpanC_len) eNil)))⟩
def lift_check_v2_rs : Sp := ⟨[rInt .i64], [(0, eBlkC api_SpanC), (1, eBlkC api_LiftC), (2, eBlkC api_SpanC)]⟩
theorem lift_check_v2_rs_ok : lift_check_v2_rs.Ok := ⟨(allCons (rInt_ok .i64) allNil), (eCons (eBlkC_ok api_SpanC_ok api_SpanC_len) (eCons (eBlkC_ok api_LiftC_ok api_LiftC_len) (eCons (eBlkC_ok api_SpanC_ok api_SpanC_len) eNil)))⟩
def lift_check_v2_run {R : Type} (N : Nat) (args : List SV) (T : Tab) (kf : SV × Tab → Option R) : Option R :=
  lift_check_v2_m N (Cod.dec api_LiftC (lget (toCs (lget args 0)))) (Cod.dec api_SpanC (lget (entCs (entAt T 0)))) (Cod.dec api_LiftC (lget (entCs (entAt T 1)))) (Cod.dec api_SpanC (lget (entCs (entAt T 2)))) (fun q0 => kf (lget [.int .i64 q0] 0, [(0, .blk (Cod.enc api_SpanC (Cod.dec api_SpanC (lget (entCs (entAt T 0)))))), (1, .blk (Cod.enc api_LiftC (Cod.dec api_LiftC (lget (entCs (entAt T 1)))))), (2, .blk (Cod.enc api_SpanC (Cod.dec api_SpanC (lget (entCs (entAt T 2))))))]))
def lift_check_v2_lp {R : Type} (N : Nat) : Lp R := fun body S k => Option.none
noncomputable def lift_check_v2_go {R : Type} (N : Nat) (args : List SV) (T : Tab) (kf : SV × Tab → Option R) : Option R :=
  lift_check_v2 N (Cod.dec api_LiftC (lget (toCs (lget args 0)))) (Cod.dec api_SpanC (lget (entCs (entAt T 0)))) (Cod.dec api_LiftC (lget (entCs (entAt T 1)))) (Cod.dec api_SpanC (lget (entCs (entAt T 2)))) (fun q0 => kf (lget [.int .i64 q0] 0, [(0, .blk (Cod.enc api_SpanC (Cod.dec api_SpanC (lget (entCs (entAt T 0)))))), (1, .blk (Cod.enc api_LiftC (Cod.dec api_LiftC (lget (entCs (entAt T 1)))))), (2, .blk (Cod.enc api_SpanC (Cod.dec api_SpanC (lget (entCs (entAt T 2))))))]))
noncomputable def lift_check_v2_cal {R : Type} (N : Nat) : Cal R := callM (lift_Grip_1_cal N) 46 3 lift_check_v2_sp (lift_check_v2_go N)
theorem lift_check_v2_cal_ok {R : Type} (N : Nat) : CalOk E.P (lift_check_v2_cal (R := R) N) :=
  callM_ok hE (lift_Grip_1_cal_ok N) (lp := lift_check_v2_lp N) (jn := noJn) (keys := []) kNil (by kernel_rfl) (js := []) jNil (by kernel_rfl) lift_check_v2_sp_ok lift_check_v2_rs_ok (fun args T kf => Eq.trans (lift_check_v2_def N (Cod.dec api_LiftC (lget (toCs (lget args 0)))) (Cod.dec api_SpanC (lget (entCs (entAt T 0)))) (Cod.dec api_LiftC (lget (entCs (entAt T 1)))) (Cod.dec api_SpanC (lget (entCs (entAt T 2)))) (fun q0 => kf (lget [.int .i64 q0] 0, [(0, .blk (Cod.enc api_SpanC (Cod.dec api_SpanC (lget (entCs (entAt T 0)))))), (1, .blk (Cod.enc api_LiftC (Cod.dec api_LiftC (lget (entCs (entAt T 1)))))), (2, .blk (Cod.enc api_SpanC (Cod.dec api_SpanC (lget (entCs (entAt T 2))))))]))) (by kernel_rfl : lift_check_v2_run N args T kf = fnM E (lift_Grip_1_cal N) (lift_check_v2_lp N) (noJn) 46 (lift_check_v2_sp.vs args) (lift_check_v2_sp.tab T) 3 (resK lift_check_v2_rs kf)))
def lift_Grip_L5 : LoopSp := ⟨⟨[3, 4, 5, 9], ⟨(dr 3 ((rPtr 0 0) :: (rPtr 1 0) :: (rPtr 2 0) :: (dr 3 ((rInt .i64) :: (dr 29 []))))), [(0, eBlkC api_LiftC), (1, eBlkC api_SpanC), (2, eBlkC api_SpanC)]⟩, 3⟩, [(Option.none, ⟨[6, 7], ⟨(dr 6 ((rInt .i64) :: (rInt .i64) :: (dr 31 []))), []⟩, 0⟩), (some 0, ⟨[], ⟨(dr 39 []), []⟩, 0⟩)]⟩
theorem lift_Grip_L5_ok : lift_Grip_L5.Ok := ⟨⟨(drCons 3 (allCons (rPtr_ok 0 0) (allCons (rPtr_ok 1 0) (allCons (rPtr_ok 2 0) (drCons 3 (allCons (rInt_ok .i64) (drCons 29 allNil))))))), (eCons (eBlkC_ok api_LiftC_ok api_LiftC_len) (eCons (eBlkC_ok api_SpanC_ok api_SpanC_len) (eCons (eBlkC_ok api_SpanC_ok api_SpanC_len) eNil)))⟩, (xCons ⟨(drCons 6 (allCons (rInt_ok .i64) (allCons (rInt_ok .i64) (drCons 31 allNil)))), eNil⟩ (xCons ⟨(drCons 39 allNil), eNil⟩ xNil))⟩
def lift_Grip_h5 (v559 : Int) (v560 : api_Lift) (v561 : api_Span) (v562 : api_Span) : St := ⟨(un 3 ((.ptr 0 0) :: (.ptr 1 0) :: (.ptr 2 0) :: (un 3 ((.int .i64 v559) :: (un 29 []))))), [(0, .blk (Cod.enc api_LiftC v560)), (1, .blk (Cod.enc api_SpanC v561)), (2, .blk (Cod.enc api_SpanC v562))], 3⟩
def lift_Grip_x5_r (q0 : Int) (q1 : Int) : St := ⟨(un 6 ((.int .i64 q0) :: (.int .i64 q1) :: (un 31 []))), [], 0⟩
def lift_Grip_x5_0  : St := ⟨(un 39 []), [], 0⟩
def lift_Grip_b5 {R : Type} (N : Nat) (rc : Int → api_Lift → api_Span → api_Span → Option R) (v559 : Int) (v560 : api_Lift) (v561 : api_Span) (v562 : api_Span) (kr : Int → Int → Option R) (k0 : Unit → Option R) : Option R :=
  bif decide (v559 ≥ (0 : Int)) then
   lift_slips N v560 (api_Span.Low v561) (api_Span.High v562) v559 (fun r563 =>
   bif !r563 then
    lift_slips N v560 (api_Span.High v561) (api_Span.Low v562) v559 (fun r564 =>
    bif !r564 then
     kr v559 (0 : Int)
    else
     rc (w64 (v559 - (1 : Int))) v560 v561 v562)
   else
    rc (w64 (v559 - (1 : Int))) v560 v561 v562)
  else
   k0 ()
def lift_Grip_l5 {R : Type} (N : Nat) : Nat → Int → api_Lift → api_Span → api_Span → (Int → Int → Option R) → (Unit → Option R) → Option R
  | 0, _, _, _, _, _, _ => Option.none
  | n + 1, v559, v560, v561, v562, kr, k0 => lift_Grip_b5 N (fun v559 v560 v561 v562 => lift_Grip_l5 N n v559 v560 v561 v562 kr k0) v559 v560 v561 v562 kr k0
def lift_Grip_m {R : Type} (N : Nat) (a543 : api_Lift) (a544 : api_Span) (a545 : api_Span) (k : Int → Int → Option R) : Option R :=
  lift_check_v2 N a543 a544 a543 a545 (fun r558 =>
  bif r558 != (0 : Int) then
   k (0 : Int) r558
  else
   lift_Grip_l5 N N (999 : Int) a543 a544 a545 (fun r565 r566 =>
    k r565 r566) (fun (_ : Unit) =>
    k (0 : Int) (3 : Int)))
noncomputable def lift_Grip {R : Type} : Nat → api_Lift → api_Span → api_Span → (Int → Int → Option R) → Option R := lock (@lift_Grip_m R)
theorem lift_Grip_def {R : Type} (N : Nat) (a543 : api_Lift) (a544 : api_Span) (a545 : api_Span) (k : Int → Int → Option R) : lift_Grip N a543 a544 a545 k = lift_Grip_m N a543 a544 a545 k := by unfold lift_Grip; rw [lock_eq]
def lift_Grip_sp : Sp := ⟨[rAgg api_LiftC, rAgg api_SpanC, rAgg api_SpanC], []⟩
theorem lift_Grip_sp_ok : lift_Grip_sp.Ok := ⟨(allCons (rAgg_ok api_LiftC_ok api_LiftC_len) (allCons (rAgg_ok api_SpanC_ok api_SpanC_len) (allCons (rAgg_ok api_SpanC_ok api_SpanC_len) allNil))), eNil⟩
def lift_Grip_rs : Sp := ⟨[rTup [rInt .i64, rInt .i64]], []⟩
theorem lift_Grip_rs_ok : lift_Grip_rs.Ok := ⟨(allCons (rTup_ok (allCons (rInt_ok .i64) (allCons (rInt_ok .i64) allNil))) allNil), eNil⟩
def lift_Grip_run {R : Type} (N : Nat) (args : List SV) (T : Tab) (kf : SV × Tab → Option R) : Option R :=
  lift_Grip_m N (Cod.dec api_LiftC (lget (toCs (lget args 0)))) (Cod.dec api_SpanC (lget (toCs (lget args 1)))) (Cod.dec api_SpanC (lget (toCs (lget args 2)))) (fun q0 q1 => kf (lget [.tup [.int .i64 q0, .int .i64 q1]] 0, []))
def lift_Grip_d5 {R : Type} (N : Nat) (S0 : St) (k : Exit → St → Option R) : Option R :=
  lift_Grip_l5 N N (toI (lget S0.tmps 9)) (Cod.dec api_LiftC (lget (entCs (entAt S0.tab 0)))) (Cod.dec api_SpanC (lget (entCs (entAt S0.tab 1)))) (Cod.dec api_SpanC (lget (entCs (entAt S0.tab 2)))) (fun q0 q1 => k .ret (lift_Grip_x5_r q0 q1)) (fun (_ : Unit) => k (.exit 0) (lift_Grip_x5_0 ))
def lift_Grip_lp {R : Type} (N : Nat) : Lp R := fun body S k => bif (Go.Sx.keyOf body).getD 0 == 5 then (lift_Grip_L5.head.raw 0 S (fun S0 => lift_Grip_d5 N S0 k)) else Option.none
theorem lift_Grip_l5_eq {R : Type} (N : Nat) (k : Exit → St → Option R) (n : Nat) : ∀ (v0 : Int) (v1 : api_Lift) (v2 : api_Span) (v3 : api_Span), loopM E.Θ (lift_check_v2_cal N) (lift_Grip_lp N) (noJn) 0 lift_Grip_L5 (bodyAt E 23 5) n (lift_Grip_h5 v0 v1 v2 v3) k = lift_Grip_l5 N n v0 v1 v2 v3 (fun q0 q1 => k .ret (lift_Grip_x5_r q0 q1)) (fun (_ : Unit) => k (.exit 0) (lift_Grip_x5_0 )) := by
  induction n with
  | zero => intro v0 v1 v2 v3; rfl
  | succ n ih =>
    intro v0 v1 v2 v3
    refine Eq.trans (b := lift_Grip_b5 N (fun v0 v1 v2 v3 => loopM E.Θ (lift_check_v2_cal N) (lift_Grip_lp N) (noJn) 0 lift_Grip_L5 (bodyAt E 23 5) n (lift_Grip_h5 v0 v1 v2 v3) k) v0 v1 v2 v3 (fun q0 q1 => k .ret (lift_Grip_x5_r q0 q1)) (fun (_ : Unit) => k (.exit 0) (lift_Grip_x5_0 ))) (by kernel_rfl) ?_
    have h : (fun (v0 : Int) (v1 : api_Lift) (v2 : api_Span) (v3 : api_Span) => loopM E.Θ (lift_check_v2_cal N) (lift_Grip_lp N) (noJn) 0 lift_Grip_L5 (bodyAt E 23 5) n (lift_Grip_h5 v0 v1 v2 v3) k) = (fun (v0 : Int) (v1 : api_Lift) (v2 : api_Span) (v3 : api_Span) => lift_Grip_l5 N n v0 v1 v2 v3 (fun q0 q1 => k .ret (lift_Grip_x5_r q0 q1)) (fun (_ : Unit) => k (.exit 0) (lift_Grip_x5_0 ))) := funext fun v0 => funext fun v1 => funext fun v2 => funext fun v3 => ih v0 v1 v2 v3
    rw [h]
    rfl
theorem lift_Grip_k5 {R : Type} (N : Nat) : LpKey (R := R) E 23 0 (lift_Grip_lp N) 5 :=
  lpKey_of hE (lift_check_v2_cal_ok N) (lp := lift_Grip_lp N) (jn := noJn) lift_Grip_L5_ok [] kNil (by kernel_rfl) [] jNil (by kernel_rfl) N fun S k =>
    Eq.trans (b := lift_Grip_L5.head.raw 0 S (fun S0 => lift_Grip_d5 N S0 k)) (by kernel_rfl) (congrArg (lift_Grip_L5.head.raw 0 S) (funext fun S0 => Eq.trans (lift_Grip_l5_eq N k N (toI (lget S0.tmps 9)) (Cod.dec api_LiftC (lget (entCs (entAt S0.tab 0)))) (Cod.dec api_SpanC (lget (entCs (entAt S0.tab 1)))) (Cod.dec api_SpanC (lget (entCs (entAt S0.tab 2))))).symm (by kernel_rfl)))
noncomputable def lift_Grip_go {R : Type} (N : Nat) (args : List SV) (T : Tab) (kf : SV × Tab → Option R) : Option R :=
  lift_Grip N (Cod.dec api_LiftC (lget (toCs (lget args 0)))) (Cod.dec api_SpanC (lget (toCs (lget args 1)))) (Cod.dec api_SpanC (lget (toCs (lget args 2)))) (fun q0 q1 => kf (lget [.tup [.int .i64 q0, .int .i64 q1]] 0, []))
noncomputable def lift_Grip_cal {R : Type} (N : Nat) : Cal R := callM (lift_check_v2_cal N) 23 0 lift_Grip_sp (lift_Grip_go N)
theorem lift_Grip_cal_ok {R : Type} (N : Nat) : CalOk E.P (lift_Grip_cal (R := R) N) :=
  callM_ok hE (lift_check_v2_cal_ok N) (lp := lift_Grip_lp N) (jn := noJn) (keys := [5]) (kCons (lift_Grip_k5 N) kNil) (by kernel_rfl) (js := []) jNil (by kernel_rfl) lift_Grip_sp_ok lift_Grip_rs_ok (fun args T kf => Eq.trans (lift_Grip_def N (Cod.dec api_LiftC (lget (toCs (lget args 0)))) (Cod.dec api_SpanC (lget (toCs (lget args 1)))) (Cod.dec api_SpanC (lget (toCs (lget args 2)))) (fun q0 q1 => kf (lget [.tup [.int .i64 q0, .int .i64 q1]] 0, []))) (by kernel_rfl : lift_Grip_run N args T kf = fnM E (lift_check_v2_cal N) (lift_Grip_lp N) (noJn) 23 (lift_Grip_sp.vs args) (lift_Grip_sp.tab T) 0 (resK lift_Grip_rs kf)))
theorem neweltop_measures_closed {R : Type} (kf : SV × Tab → Option R) : (runG E 400 60).run 10 [] [] 0 kf = kf (.bool true, []) := by kernel_rfl
def neweltop_measures_m {R : Type} (N : Nat) (k : Bool → Option R) : Option R :=
  k true
noncomputable def neweltop_measures {R : Type} : Nat → (Bool → Option R) → Option R := lock (@neweltop_measures_m R)
theorem neweltop_measures_def {R : Type} (N : Nat) (k : Bool → Option R) : neweltop_measures N k = neweltop_measures_m N k := by unfold neweltop_measures; rw [lock_eq]
theorem neweltop_measures_eq {R : Type} (N : Nat) (k : Bool → Option R) : neweltop_measures N k = k true := by rw [neweltop_measures_def]; rfl
def neweltop_measures_sp : Sp := ⟨[], []⟩
noncomputable def neweltop_measures_go {R : Type} (N : Nat) (args : List SV) (T : Tab) (kf : SV × Tab → Option R) : Option R :=
  neweltop_measures N (fun q0 => kf (lget [.bool q0] 0, []))
noncomputable def neweltop_measures_cal {R : Type} (N : Nat) : Cal R := callM (lift_Grip_cal N) 10 0 neweltop_measures_sp (neweltop_measures_go N)
theorem neweltop_measures_cal_ok {R : Type} (N : Nat) : CalOk E.P (neweltop_measures_cal (R := R) N) :=
  callM_eq (m' := fun args T kf => kf (.bool true, [])) (fun args T kf => neweltop_measures_def N (fun q0 => kf (lget [.bool q0] 0, []))) (closed_ok hE (lift_Grip_cal_ok N) neweltop_measures_closed)
end
end Go.Proofs.Ytlikcijophbkbaa
