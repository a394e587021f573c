/-
  Models of the functions, and that they are what the code does. Written by a program.
-/
import Derived.Test.YtfaefhegfcidpaaCod
set_option maxRecDepth 100000
set_option maxHeartbeats 0
set_option linter.unusedVariables false
namespace Go.Proofs.Ytfaefhegfcidpaa
open Go.Sx
noncomputable section

def newellaw11_Far_m {R : Type} (N : Nat) (a0 : api_Band) (k : Bool → Option R) : Option R :=
  k (decide ((↑(Arr.n (api_Band.Paces a0)) : Int) > (10 : Int)))
noncomputable def newellaw11_Far {R : Type} : Nat → api_Band → (Bool → Option R) → Option R := lock (@newellaw11_Far_m R)
theorem newellaw11_Far_def {R : Type} (N : Nat) (a0 : api_Band) (k : Bool → Option R) : newellaw11_Far N a0 k = newellaw11_Far_m N a0 k := by unfold newellaw11_Far; rw [lock_eq]
def newellaw11_Far_sp : Sp := ⟨[rAgg api_BandC], []⟩
theorem newellaw11_Far_sp_ok : newellaw11_Far_sp.Ok := ⟨(allCons (rAgg_ok api_BandC_ok api_BandC_len) allNil), eNil⟩
def newellaw11_Far_rs : Sp := ⟨[rBool], []⟩
theorem newellaw11_Far_rs_ok : newellaw11_Far_rs.Ok := ⟨(allCons rBool_ok allNil), eNil⟩
def newellaw11_Far_run {R : Type} (N : Nat) (args : List SV) (T : Tab) (kf : SV × Tab → Option R) : Option R :=
  newellaw11_Far_m N (Cod.dec api_BandC (lget (toCs (lget args 0)))) (fun q0 => kf (lget [.bool q0] 0, []))
def newellaw11_Far_lp {R : Type} (N : Nat) : Lp R := fun body S k => Option.none
noncomputable def newellaw11_Far_go {R : Type} (N : Nat) (args : List SV) (T : Tab) (kf : SV × Tab → Option R) : Option R :=
  newellaw11_Far N (Cod.dec api_BandC (lget (toCs (lget args 0)))) (fun q0 => kf (lget [.bool q0] 0, []))
noncomputable def newellaw11_Far_cal {R : Type} (N : Nat) : Cal R := callM (noCal E) 12 0 newellaw11_Far_sp (newellaw11_Far_go N)
theorem newellaw11_Far_cal_ok {R : Type} (N : Nat) : CalOk E.P (newellaw11_Far_cal (R := R) N) :=
  callM_ok hE (noCal_ok E) (lp := newellaw11_Far_lp N) (jn := noJn) (keys := []) kNil (by kernel_rfl) (js := []) jNil (by kernel_rfl) newellaw11_Far_sp_ok newellaw11_Far_rs_ok (fun args T kf => Eq.trans (newellaw11_Far_def N (Cod.dec api_BandC (lget (toCs (lget args 0)))) (fun q0 => kf (lget [.bool q0] 0, []))) (by kernel_rfl : newellaw11_Far_run N args T kf = fnM E (noCal E) (newellaw11_Far_lp N) (noJn) 12 (newellaw11_Far_sp.vs args) (newellaw11_Far_sp.tab T) 0 (resK newellaw11_Far_rs kf)))


def newellaw11_FarTimes_m {R : Type} (N : Nat) (a1 : api_Times) (k : Bool → Option R) : Option R :=
  k (decide ((↑(Arr.n (api_Times.Periods a1)) : Int) > (20 : Int)))
noncomputable def newellaw11_FarTimes {R : Type} : Nat → api_Times → (Bool → Option R) → Option R := lock (@newellaw11_FarTimes_m R)
theorem newellaw11_FarTimes_def {R : Type} (N : Nat) (a1 : api_Times) (k : Bool → Option R) : newellaw11_FarTimes N a1 k = newellaw11_FarTimes_m N a1 k := by unfold newellaw11_FarTimes; rw [lock_eq]
def newellaw11_FarTimes_sp : Sp := ⟨[rAgg api_TimesC], []⟩
theorem newellaw11_FarTimes_sp_ok : newellaw11_FarTimes_sp.Ok := ⟨(allCons (rAgg_ok api_TimesC_ok api_TimesC_len) allNil), eNil⟩
def newellaw11_FarTimes_rs : Sp := ⟨[rBool], []⟩
theorem newellaw11_FarTimes_rs_ok : newellaw11_FarTimes_rs.Ok := ⟨(allCons rBool_ok allNil), eNil⟩
def newellaw11_FarTimes_run {R : Type} (N : Nat) (args : List SV) (T : Tab) (kf : SV × Tab → Option R) : Option R :=
  newellaw11_FarTimes_m N (Cod.dec api_TimesC (lget (toCs (lget args 0)))) (fun q0 => kf (lget [.bool q0] 0, []))
def newellaw11_FarTimes_lp {R : Type} (N : Nat) : Lp R := fun body S k => Option.none
noncomputable def newellaw11_FarTimes_go {R : Type} (N : Nat) (args : List SV) (T : Tab) (kf : SV × Tab → Option R) : Option R :=
  newellaw11_FarTimes N (Cod.dec api_TimesC (lget (toCs (lget args 0)))) (fun q0 => kf (lget [.bool q0] 0, []))
noncomputable def newellaw11_FarTimes_cal {R : Type} (N : Nat) : Cal R := callM (newellaw11_Far_cal N) 13 0 newellaw11_FarTimes_sp (newellaw11_FarTimes_go N)
theorem newellaw11_FarTimes_cal_ok {R : Type} (N : Nat) : CalOk E.P (newellaw11_FarTimes_cal (R := R) N) :=
  callM_ok hE (newellaw11_Far_cal_ok N) (lp := newellaw11_FarTimes_lp N) (jn := noJn) (keys := []) kNil (by kernel_rfl) (js := []) jNil (by kernel_rfl) newellaw11_FarTimes_sp_ok newellaw11_FarTimes_rs_ok (fun args T kf => Eq.trans (newellaw11_FarTimes_def N (Cod.dec api_TimesC (lget (toCs (lget args 0)))) (fun q0 => kf (lget [.bool q0] 0, []))) (by kernel_rfl : newellaw11_FarTimes_run N args T kf = fnM E (newellaw11_Far_cal N) (newellaw11_FarTimes_lp N) (noJn) 13 (newellaw11_FarTimes_sp.vs args) (newellaw11_FarTimes_sp.tab T) 0 (resK newellaw11_FarTimes_rs kf)))


def newelref11_within_m {R : Type} (N : Nat) (a3 : Int) (a4 : Int) (a5 : Int) (k : Bool → Option R) : Option R :=
  bif decide (a3 ≥ a4) then
   k (decide (a3 ≤ a5))
  else
   k false
noncomputable def newelref11_within {R : Type} : Nat → Int → Int → Int → (Bool → Option R) → Option R := lock (@newelref11_within_m R)
theorem newelref11_within_def {R : Type} (N : Nat) (a3 : Int) (a4 : Int) (a5 : Int) (k : Bool → Option R) : newelref11_within N a3 a4 a5 k = newelref11_within_m N a3 a4 a5 k := by unfold newelref11_within; rw [lock_eq]
def newelref11_within_sp : Sp := ⟨[rInt .i64, rInt .i64, rInt .i64], []⟩
theorem newelref11_within_sp_ok : newelref11_within_sp.Ok := ⟨(allCons (rInt_ok .i64) (allCons (rInt_ok .i64) (allCons (rInt_ok .i64) allNil))), eNil⟩
def newelref11_within_rs : Sp := ⟨[rBool], []⟩
theorem newelref11_within_rs_ok : newelref11_within_rs.Ok := ⟨(allCons rBool_ok allNil), eNil⟩
def newelref11_within_run {R : Type} (N : Nat) (args : List SV) (T : Tab) (kf : SV × Tab → Option R) : Option R :=
  newelref11_within_m N (toI (lget args 0)) (toI (lget args 1)) (toI (lget args 2)) (fun q0 => kf (lget [.bool q0] 0, []))
def newelref11_within_lp {R : Type} (N : Nat) : Lp R := fun body S k => Option.none
noncomputable def newelref11_within_go {R : Type} (N : Nat) (args : List SV) (T : Tab) (kf : SV × Tab → Option R) : Option R :=
  newelref11_within N (toI (lget args 0)) (toI (lget args 1)) (toI (lget args 2)) (fun q0 => kf (lget [.bool q0] 0, []))
noncomputable def newelref11_within_cal {R : Type} (N : Nat) : Cal R := callM (newellaw11_FarTimes_cal N) 44 0 newelref11_within_sp (newelref11_within_go N)
theorem newelref11_within_cal_ok {R : Type} (N : Nat) : CalOk E.P (newelref11_within_cal (R := R) N) :=
  callM_ok hE (newellaw11_FarTimes_cal_ok N) (lp := newelref11_within_lp N) (jn := noJn) (keys := []) kNil (by kernel_rfl) (js := []) jNil (by kernel_rfl) newelref11_within_sp_ok newelref11_within_rs_ok (fun args T kf => Eq.trans (newelref11_within_def N (toI (lget args 0)) (toI (lget args 1)) (toI (lget args 2)) (fun q0 => kf (lget [.bool q0] 0, []))) (by kernel_rfl : newelref11_within_run N args T kf = fnM E (newellaw11_FarTimes_cal N) (newelref11_within_lp N) (noJn) 44 (newelref11_within_sp.vs args) (newelref11_within_sp.tab T) 0 (resK newelref11_within_rs kf)))

def newelref11_Check_L7 : LoopSp := ⟨⟨[1, 3, 4], ⟨(dr 1 ((rPtr 0 0) :: (dr 1 ((rInt .i64) :: (rInt .i64) :: (dr 68 []))))), [(0, eBlkC api_BandC)]⟩, 1⟩, [(Option.none, ⟨[2], ⟨(dr 2 ((rInt .i64) :: (dr 70 []))), []⟩, 0⟩), (some 0, ⟨[], ⟨(dr 73 []), []⟩, 0⟩)]⟩
theorem newelref11_Check_L7_ok : newelref11_Check_L7.Ok := ⟨⟨(drCons 1 (allCons (rPtr_ok 0 0) (drCons 1 (allCons (rInt_ok .i64) (allCons (rInt_ok .i64) (drCons 68 allNil)))))), (eCons (eBlkC_ok api_BandC_ok api_BandC_len) eNil)⟩, (xCons ⟨(drCons 2 (allCons (rInt_ok .i64) (drCons 70 allNil))), eNil⟩ (xCons ⟨(drCons 73 allNil), eNil⟩ xNil))⟩
def newelref11_Check_h7 (v14 : Int) (v15 : Int) (v16 : api_Band) : St := ⟨(un 1 ((.ptr 0 0) :: (un 1 ((.int .i64 v14) :: (.int .i64 v15) :: (un 68 []))))), [(0, .blk (Cod.enc api_BandC v16))], 1⟩
def newelref11_Check_x7_r (q0 : Int) : St := ⟨(un 2 ((.int .i64 q0) :: (un 70 []))), [], 0⟩
def newelref11_Check_x7_0  : St := ⟨(un 73 []), [], 0⟩
def newelref11_Check_b7 {R : Type} (N : Nat) (rc : Int → Int → api_Band → Option R) (v14 : Int) (v15 : Int) (v16 : api_Band) (kr : Int → Option R) (k0 : Unit → Option R) : Option R :=
  bif decide (v15 < (↑(Arr.n (api_Band.Paces v16)) : Int)) then
   bif decide ((0 : Int) ≤ v15) && decide (v15 < (↑(Arr.n (api_Band.Paces v16)) : Int)) then
    newelref11_within N (Arr.f (api_Band.Paces v16) (Int.toNat v15)) (w64 (v14 + (1 : Int))) (100 : Int) (fun r17 =>
    bif !r17 then
     kr (110 : Int)
    else
     bif decide ((0 : Int) ≤ v15) && decide (v15 < (↑(Arr.n (api_Band.Paces v16)) : Int)) then
      rc (Arr.f (api_Band.Paces v16) (Int.toNat v15)) (w64 (v15 + (1 : Int))) v16
     else
      Option.none)
   else
    Option.none
  else
   k0 ()
def newelref11_Check_l7 {R : Type} (N : Nat) : Nat → Int → Int → api_Band → (Int → Option R) → (Unit → Option R) → Option R
  | 0, _, _, _, _, _ => Option.none
  | n + 1, v14, v15, v16, kr, k0 => newelref11_Check_b7 N (fun v14 v15 v16 => newelref11_Check_l7 N n v14 v15 v16 kr k0) v14 v15 v16 kr k0


def newelref11_Check_m {R : Type} (N : Nat) (a2 : api_Band) (k : Int → Option R) : Option R :=
  newelref11_within N (api_Band.Pull a2) (0 : Int) (100 : Int) (fun r6 =>
  bif !r6 then
   k (110 : Int)
  else
   newelref11_within N (api_Band.Drag a2) (0 : Int) (1000000 : Int) (fun r7 =>
   bif !r7 then
    k (110 : Int)
   else
    newelref11_within N (api_Band.Body a2) (0 : Int) (100 : Int) (fun r8 =>
    bif !r8 then
     k (110 : Int)
    else
     newelref11_within N (api_Band.Ride a2) (1 : Int) (1000 : Int) (fun r9 =>
     bif !r9 then
      k (110 : Int)
     else
      newelref11_within N (api_Band.Most a2) (0 : Int) (100000000 : Int) (fun r10 =>
      bif !r10 then
       k (110 : Int)
      else
       newelref11_within N ((↑(Arr.n (api_Band.Paces a2)) : Int)) (1 : Int) (3 : Int) (fun r11 =>
       bif !r11 then
        k (110 : Int)
       else
        newelref11_within N (api_Band.Den a2) (1 : Int) (100 : Int) (fun r12 =>
        bif !r12 then
         k (110 : Int)
        else
         newelref11_within N (api_Band.Num a2) (0 : Int) (api_Band.Den a2) (fun r13 =>
         bif !r13 then
          k (110 : Int)
         else
          newelref11_Check_l7 N N (0 : Int) (0 : Int) a2 (fun r18 =>
           k r18) (fun (_ : Unit) =>
           k (0 : Int))))))))))
noncomputable def newelref11_Check {R : Type} : Nat → api_Band → (Int → Option R) → Option R := lock (@newelref11_Check_m R)
theorem newelref11_Check_def {R : Type} (N : Nat) (a2 : api_Band) (k : Int → Option R) : newelref11_Check N a2 k = newelref11_Check_m N a2 k := by unfold newelref11_Check; rw [lock_eq]
def newelref11_Check_sp : Sp := ⟨[rAgg api_BandC], []⟩
theorem newelref11_Check_sp_ok : newelref11_Check_sp.Ok := ⟨(allCons (rAgg_ok api_BandC_ok api_BandC_len) allNil), eNil⟩
def newelref11_Check_rs : Sp := ⟨[rInt .i64], []⟩
theorem newelref11_Check_rs_ok : newelref11_Check_rs.Ok := ⟨(allCons (rInt_ok .i64) allNil), eNil⟩
def newelref11_Check_run {R : Type} (N : Nat) (args : List SV) (T : Tab) (kf : SV × Tab → Option R) : Option R :=
  newelref11_Check_m N (Cod.dec api_BandC (lget (toCs (lget args 0)))) (fun q0 => kf (lget [.int .i64 q0] 0, []))
def newelref11_Check_d7 {R : Type} (N : Nat) (S0 : St) (k : Exit → St → Option R) : Option R :=
  newelref11_Check_l7 N N (toI (lget S0.tmps 3)) (toI (lget S0.tmps 4)) (Cod.dec api_BandC (lget (entCs (entAt S0.tab 0)))) (fun q0 => k .ret (newelref11_Check_x7_r q0)) (fun (_ : Unit) => k (.exit 0) (newelref11_Check_x7_0 ))
def newelref11_Check_lp {R : Type} (N : Nat) : Lp R := fun body S k => bif (Go.Sx.keyOf body).getD 0 == 7 then newelref11_Check_L7.head.raw 0 S (fun S0 => newelref11_Check_d7 N S0 k) else Option.none
theorem newelref11_Check_l7_eq {R : Type} (N : Nat) (k : Exit → St → Option R) (n : Nat) : ∀ (v0 : Int) (v1 : Int) (v2 : api_Band), loopM E.Θ (newelref11_within_cal N) (newelref11_Check_lp N) (noJn) 0 newelref11_Check_L7 (bodyAt E 18 7) n (newelref11_Check_h7 v0 v1 v2) k = newelref11_Check_l7 N n v0 v1 v2 (fun q0 => k .ret (newelref11_Check_x7_r q0)) (fun (_ : Unit) => k (.exit 0) (newelref11_Check_x7_0 )) := by
  induction n with
  | zero => intro v0 v1 v2; rfl
  | succ n ih =>
    intro v0 v1 v2
    refine Eq.trans (b := newelref11_Check_b7 N (fun v0 v1 v2 => loopM E.Θ (newelref11_within_cal N) (newelref11_Check_lp N) (noJn) 0 newelref11_Check_L7 (bodyAt E 18 7) n (newelref11_Check_h7 v0 v1 v2) k) v0 v1 v2 (fun q0 => k .ret (newelref11_Check_x7_r q0)) (fun (_ : Unit) => k (.exit 0) (newelref11_Check_x7_0 ))) (by kernel_rfl) ?_
    have h : (fun (v0 : Int) (v1 : Int) (v2 : api_Band) => loopM E.Θ (newelref11_within_cal N) (newelref11_Check_lp N) (noJn) 0 newelref11_Check_L7 (bodyAt E 18 7) n (newelref11_Check_h7 v0 v1 v2) k) = (fun (v0 : Int) (v1 : Int) (v2 : api_Band) => newelref11_Check_l7 N n v0 v1 v2 (fun q0 => k .ret (newelref11_Check_x7_r q0)) (fun (_ : Unit) => k (.exit 0) (newelref11_Check_x7_0 ))) := funext fun v0 => funext fun v1 => funext fun v2 => ih v0 v1 v2
    rw [h]
    rfl
theorem newelref11_Check_k7 {R : Type} (N : Nat) : LpKey (R := R) E 18 0 (newelref11_Check_lp N) 7 :=
  lpKey_of hE (newelref11_within_cal_ok N) (jn := noJn) newelref11_Check_L7_ok [] kNil (by kernel_rfl) [] jNil (by kernel_rfl) N fun S k =>
    Eq.trans (b := newelref11_Check_L7.head.raw 0 S (fun S0 => newelref11_Check_d7 N S0 k)) (by kernel_rfl) (congrArg (newelref11_Check_L7.head.raw 0 S) (funext fun S0 => Eq.trans (newelref11_Check_l7_eq N k N (toI (lget S0.tmps 3)) (toI (lget S0.tmps 4)) (Cod.dec api_BandC (lget (entCs (entAt S0.tab 0))))).symm (by kernel_rfl)))
noncomputable def newelref11_Check_go {R : Type} (N : Nat) (args : List SV) (T : Tab) (kf : SV × Tab → Option R) : Option R :=
  newelref11_Check N (Cod.dec api_BandC (lget (toCs (lget args 0)))) (fun q0 => kf (lget [.int .i64 q0] 0, []))
noncomputable def newelref11_Check_cal {R : Type} (N : Nat) : Cal R := callM (newelref11_within_cal N) 18 0 newelref11_Check_sp (newelref11_Check_go N)
theorem newelref11_Check_cal_ok {R : Type} (N : Nat) : CalOk E.P (newelref11_Check_cal (R := R) N) :=
  callM_ok hE (newelref11_within_cal_ok N) (lp := newelref11_Check_lp N) (jn := noJn) (keys := [7]) (kCons (newelref11_Check_k7 N) kNil) (by kernel_rfl) (js := []) jNil (by kernel_rfl) newelref11_Check_sp_ok newelref11_Check_rs_ok (fun args T kf => Eq.trans (newelref11_Check_def N (Cod.dec api_BandC (lget (toCs (lget args 0)))) (fun q0 => kf (lget [.int .i64 q0] 0, []))) (by kernel_rfl : newelref11_Check_run N args T kf = fnM E (newelref11_within_cal N) (newelref11_Check_lp N) (noJn) 18 (newelref11_Check_sp.vs args) (newelref11_Check_sp.tab T) 0 (resK newelref11_Check_rs kf)))


def energy_from0_m {R : Type} (N : Nat) (a20 : Int) (a21 : Int) (k : Bool → Option R) : Option R :=
  bif decide (a20 ≥ (0 : Int)) then
   k (decide (a20 ≤ a21))
  else
   k false
noncomputable def energy_from0 {R : Type} : Nat → Int → Int → (Bool → Option R) → Option R := lock (@energy_from0_m R)
theorem energy_from0_def {R : Type} (N : Nat) (a20 : Int) (a21 : Int) (k : Bool → Option R) : energy_from0 N a20 a21 k = energy_from0_m N a20 a21 k := by unfold energy_from0; rw [lock_eq]
def energy_from0_sp : Sp := ⟨[rInt .i64, rInt .i64], []⟩
theorem energy_from0_sp_ok : energy_from0_sp.Ok := ⟨(allCons (rInt_ok .i64) (allCons (rInt_ok .i64) allNil)), eNil⟩
def energy_from0_rs : Sp := ⟨[rBool], []⟩
theorem energy_from0_rs_ok : energy_from0_rs.Ok := ⟨(allCons rBool_ok allNil), eNil⟩
def energy_from0_run {R : Type} (N : Nat) (args : List SV) (T : Tab) (kf : SV × Tab → Option R) : Option R :=
  energy_from0_m N (toI (lget args 0)) (toI (lget args 1)) (fun q0 => kf (lget [.bool q0] 0, []))
def energy_from0_lp {R : Type} (N : Nat) : Lp R := fun body S k => Option.none
noncomputable def energy_from0_go {R : Type} (N : Nat) (args : List SV) (T : Tab) (kf : SV × Tab → Option R) : Option R :=
  energy_from0 N (toI (lget args 0)) (toI (lget args 1)) (fun q0 => kf (lget [.bool q0] 0, []))
noncomputable def energy_from0_cal {R : Type} (N : Nat) : Cal R := callM (newelref11_Check_cal N) 48 0 energy_from0_sp (energy_from0_go N)
theorem energy_from0_cal_ok {R : Type} (N : Nat) : CalOk E.P (energy_from0_cal (R := R) N) :=
  callM_ok hE (newelref11_Check_cal_ok N) (lp := energy_from0_lp N) (jn := noJn) (keys := []) kNil (by kernel_rfl) (js := []) jNil (by kernel_rfl) energy_from0_sp_ok energy_from0_rs_ok (fun args T kf => Eq.trans (energy_from0_def N (toI (lget args 0)) (toI (lget args 1)) (fun q0 => kf (lget [.bool q0] 0, []))) (by kernel_rfl : energy_from0_run N args T kf = fnM E (newelref11_Check_cal N) (energy_from0_lp N) (noJn) 48 (energy_from0_sp.vs args) (energy_from0_sp.tab T) 0 (resK energy_from0_rs kf)))

def energy_Check_L7 : LoopSp := ⟨⟨[3, 67, 68, 69], ⟨(dr 3 ((rInt .i64) :: (dr 63 ((rSl intC) :: (rInt .i64) :: (rInt .i64) :: (dr 12 []))))), []⟩, 0⟩, [(Option.none, ⟨[2], ⟨(dr 2 ((rInt .i64) :: (dr 79 []))), []⟩, 0⟩), (some 0, ⟨[], ⟨(dr 82 []), []⟩, 0⟩)]⟩
theorem energy_Check_L7_ok : energy_Check_L7.Ok := ⟨⟨(drCons 3 (allCons (rInt_ok .i64) (drCons 63 (allCons (rSl_ok intC_ok) (allCons (rInt_ok .i64) (allCons (rInt_ok .i64) (drCons 12 allNil))))))), eNil⟩, (xCons ⟨(drCons 2 (allCons (rInt_ok .i64) (drCons 79 allNil))), eNil⟩ (xCons ⟨(drCons 82 allNil), eNil⟩ xNil))⟩
def energy_Check_h7 (v27 : Int) (v28 : Arr Int) (v29 : Int) (v30 : Int) : St := ⟨(un 3 ((.int .i64 v27) :: (un 63 ((slC intC v28) :: (.int .i64 v29) :: (.int .i64 v30) :: (un 12 []))))), [], 0⟩
def energy_Check_x7_r (q0 : Int) : St := ⟨(un 2 ((.int .i64 q0) :: (un 79 []))), [], 0⟩
def energy_Check_x7_0  : St := ⟨(un 82 []), [], 0⟩
def energy_Check_b7 {R : Type} (N : Nat) (rc : Int → Arr Int → Int → Int → Option R) (v27 : Int) (v28 : Arr Int) (v29 : Int) (v30 : Int) (kr : Int → Option R) (k0 : Unit → Option R) : Option R :=
  bif decide (v30 < v29) then
   bif decide ((0 : Int) ≤ v30) && decide (v30 < (↑(Arr.n v28) : Int)) then
    bif decide (Arr.f v28 (Int.toNat v30) ≤ v27) then
     kr (110 : Int)
    else
     bif decide (Arr.f v28 (Int.toNat v30) > (100 : Int)) then
      kr (110 : Int)
     else
      rc (Arr.f v28 (Int.toNat v30)) v28 v29 (w64 (v30 + (1 : Int)))
   else
    Option.none
  else
   k0 ()
def energy_Check_l7 {R : Type} (N : Nat) : Nat → Int → Arr Int → Int → Int → (Int → Option R) → (Unit → Option R) → Option R
  | 0, _, _, _, _, _, _ => Option.none
  | n + 1, v27, v28, v29, v30, kr, k0 => energy_Check_b7 N (fun v27 v28 v29 v30 => energy_Check_l7 N n v27 v28 v29 v30 kr k0) v27 v28 v29 v30 kr k0


def energy_Check_m {R : Type} (N : Nat) (a19 : api_Band) (k : Int → Option R) : Option R :=
  energy_from0 N (api_Band.Pull a19) (100 : Int) (fun r22 =>
  bif !r22 then
   k (110 : Int)
  else
   energy_from0 N (api_Band.Drag a19) (1000000 : Int) (fun r23 =>
   bif !r23 then
    k (110 : Int)
   else
    energy_from0 N (api_Band.Body a19) (100 : Int) (fun r24 =>
    bif !r24 then
     k (110 : Int)
    else
     bif decide (api_Band.Ride a19 < (1 : Int)) then
      k (110 : Int)
     else
      bif decide (api_Band.Ride a19 > (1000 : Int)) then
       k (110 : Int)
      else
       energy_from0 N (api_Band.Most a19) (100000000 : Int) (fun r25 =>
       bif !r25 then
        k (110 : Int)
       else
        bif decide (api_Band.Den a19 < (1 : Int)) then
         k (110 : Int)
        else
         bif decide (api_Band.Den a19 > (100 : Int)) then
          k (110 : Int)
         else
          energy_from0 N (api_Band.Num a19) (api_Band.Den a19) (fun r26 =>
          bif !r26 then
           k (110 : Int)
          else
           bif decide ((↑(Arr.n (api_Band.Paces a19)) : Int) < (1 : Int)) then
            k (110 : Int)
           else
            bif decide ((↑(Arr.n (api_Band.Paces a19)) : Int) > (3 : Int)) then
             k (110 : Int)
            else
             energy_Check_l7 N N (0 : Int) (api_Band.Paces a19) ((↑(Arr.n (api_Band.Paces a19)) : Int)) (0 : Int) (fun r31 =>
              k r31) (fun (_ : Unit) =>
              k (0 : Int)))))))
noncomputable def energy_Check {R : Type} : Nat → api_Band → (Int → Option R) → Option R := lock (@energy_Check_m R)
theorem energy_Check_def {R : Type} (N : Nat) (a19 : api_Band) (k : Int → Option R) : energy_Check N a19 k = energy_Check_m N a19 k := by unfold energy_Check; rw [lock_eq]
def energy_Check_sp : Sp := ⟨[rAgg api_BandC], []⟩
theorem energy_Check_sp_ok : energy_Check_sp.Ok := ⟨(allCons (rAgg_ok api_BandC_ok api_BandC_len) allNil), eNil⟩
def energy_Check_rs : Sp := ⟨[rInt .i64], []⟩
theorem energy_Check_rs_ok : energy_Check_rs.Ok := ⟨(allCons (rInt_ok .i64) allNil), eNil⟩
def energy_Check_run {R : Type} (N : Nat) (args : List SV) (T : Tab) (kf : SV × Tab → Option R) : Option R :=
  energy_Check_m N (Cod.dec api_BandC (lget (toCs (lget args 0)))) (fun q0 => kf (lget [.int .i64 q0] 0, []))
def energy_Check_d7 {R : Type} (N : Nat) (S0 : St) (k : Exit → St → Option R) : Option R :=
  energy_Check_l7 N N (toI (lget S0.tmps 3)) (lstC intC (lget S0.tmps 67)) (toI (lget S0.tmps 68)) (toI (lget S0.tmps 69)) (fun q0 => k .ret (energy_Check_x7_r q0)) (fun (_ : Unit) => k (.exit 0) (energy_Check_x7_0 ))
def energy_Check_lp {R : Type} (N : Nat) : Lp R := fun body S k => bif (Go.Sx.keyOf body).getD 0 == 7 then energy_Check_L7.head.raw 0 S (fun S0 => energy_Check_d7 N S0 k) else Option.none
theorem energy_Check_l7_eq {R : Type} (N : Nat) (k : Exit → St → Option R) (n : Nat) : ∀ (v0 : Int) (v1 : Arr Int) (v2 : Int) (v3 : Int), loopM E.Θ (energy_from0_cal N) (energy_Check_lp N) (noJn) 0 energy_Check_L7 (bodyAt E 26 7) n (energy_Check_h7 v0 v1 v2 v3) k = energy_Check_l7 N n v0 v1 v2 v3 (fun q0 => k .ret (energy_Check_x7_r q0)) (fun (_ : Unit) => k (.exit 0) (energy_Check_x7_0 )) := by
  induction n with
  | zero => intro v0 v1 v2 v3; rfl
  | succ n ih =>
    intro v0 v1 v2 v3
    refine Eq.trans (b := energy_Check_b7 N (fun v0 v1 v2 v3 => loopM E.Θ (energy_from0_cal N) (energy_Check_lp N) (noJn) 0 energy_Check_L7 (bodyAt E 26 7) n (energy_Check_h7 v0 v1 v2 v3) k) v0 v1 v2 v3 (fun q0 => k .ret (energy_Check_x7_r q0)) (fun (_ : Unit) => k (.exit 0) (energy_Check_x7_0 ))) (by kernel_rfl) ?_
    have h : (fun (v0 : Int) (v1 : Arr Int) (v2 : Int) (v3 : Int) => loopM E.Θ (energy_from0_cal N) (energy_Check_lp N) (noJn) 0 energy_Check_L7 (bodyAt E 26 7) n (energy_Check_h7 v0 v1 v2 v3) k) = (fun (v0 : Int) (v1 : Arr Int) (v2 : Int) (v3 : Int) => energy_Check_l7 N n v0 v1 v2 v3 (fun q0 => k .ret (energy_Check_x7_r q0)) (fun (_ : Unit) => k (.exit 0) (energy_Check_x7_0 ))) := funext fun v0 => funext fun v1 => funext fun v2 => funext fun v3 => ih v0 v1 v2 v3
    rw [h]
    rfl
theorem energy_Check_k7 {R : Type} (N : Nat) : LpKey (R := R) E 26 0 (energy_Check_lp N) 7 :=
  lpKey_of hE (energy_from0_cal_ok N) (jn := noJn) energy_Check_L7_ok [] kNil (by kernel_rfl) [] jNil (by kernel_rfl) N fun S k =>
    Eq.trans (b := energy_Check_L7.head.raw 0 S (fun S0 => energy_Check_d7 N S0 k)) (by kernel_rfl) (congrArg (energy_Check_L7.head.raw 0 S) (funext fun S0 => Eq.trans (energy_Check_l7_eq N k N (toI (lget S0.tmps 3)) (lstC intC (lget S0.tmps 67)) (toI (lget S0.tmps 68)) (toI (lget S0.tmps 69))).symm (by kernel_rfl)))
noncomputable def energy_Check_go {R : Type} (N : Nat) (args : List SV) (T : Tab) (kf : SV × Tab → Option R) : Option R :=
  energy_Check N (Cod.dec api_BandC (lget (toCs (lget args 0)))) (fun q0 => kf (lget [.int .i64 q0] 0, []))
noncomputable def energy_Check_cal {R : Type} (N : Nat) : Cal R := callM (energy_from0_cal N) 26 0 energy_Check_sp (energy_Check_go N)
theorem energy_Check_cal_ok {R : Type} (N : Nat) : CalOk E.P (energy_Check_cal (R := R) N) :=
  callM_ok hE (energy_from0_cal_ok N) (lp := energy_Check_lp N) (jn := noJn) (keys := [7]) (kCons (energy_Check_k7 N) kNil) (by kernel_rfl) (js := []) jNil (by kernel_rfl) energy_Check_sp_ok energy_Check_rs_ok (fun args T kf => Eq.trans (energy_Check_def N (Cod.dec api_BandC (lget (toCs (lget args 0)))) (fun q0 => kf (lget [.int .i64 q0] 0, []))) (by kernel_rfl : energy_Check_run N args T kf = fnM E (energy_from0_cal N) (energy_Check_lp N) (noJn) 26 (energy_Check_sp.vs args) (energy_Check_sp.tab T) 0 (resK energy_Check_rs kf)))

def newelref11_CheckTimes_L6 : LoopSp := ⟨⟨[3, 5], ⟨(dr 3 ((rPtr 0 0) :: (dr 1 ((rInt .i64) :: (dr 58 []))))), [(0, eBlkC api_TimesC)]⟩, 1⟩, [(Option.none, ⟨[4], ⟨(dr 4 ((rInt .i64) :: (dr 59 []))), []⟩, 0⟩), (some 0, ⟨[], ⟨(dr 64 []), []⟩, 0⟩)]⟩
theorem newelref11_CheckTimes_L6_ok : newelref11_CheckTimes_L6.Ok := ⟨⟨(drCons 3 (allCons (rPtr_ok 0 0) (drCons 1 (allCons (rInt_ok .i64) (drCons 58 allNil))))), (eCons (eBlkC_ok api_TimesC_ok api_TimesC_len) eNil)⟩, (xCons ⟨(drCons 4 (allCons (rInt_ok .i64) (drCons 59 allNil))), eNil⟩ (xCons ⟨(drCons 64 allNil), eNil⟩ xNil))⟩
def newelref11_CheckTimes_h6 (v37 : Int) (v38 : api_Times) : St := ⟨(un 3 ((.ptr 0 0) :: (un 1 ((.int .i64 v37) :: (un 58 []))))), [(0, .blk (Cod.enc api_TimesC v38))], 1⟩
def newelref11_CheckTimes_x6_r (q0 : Int) : St := ⟨(un 4 ((.int .i64 q0) :: (un 59 []))), [], 0⟩
def newelref11_CheckTimes_x6_0  : St := ⟨(un 64 []), [], 0⟩
def newelref11_CheckTimes_b6 {R : Type} (N : Nat) (rc : Int → api_Times → Option R) (v37 : Int) (v38 : api_Times) (kr : Int → Option R) (k0 : Unit → Option R) : Option R :=
  bif decide (v37 < (↑(Arr.n (api_Times.Periods v38)) : Int)) then
   bif decide ((0 : Int) ≤ v37) && decide (v37 < (↑(Arr.n (api_Times.Periods v38)) : Int)) then
    newelref11_within N (api_Period.Lasts (Arr.f (api_Times.Periods v38) (Int.toNat v37))) (1 : Int) (1000 : Int) (fun r39 =>
    bif !r39 then
     kr (111 : Int)
    else
     newelref11_within N (api_Period.Price (Arr.f (api_Times.Periods v38) (Int.toNat v37))) (0 : Int) (100 : Int) (fun r40 =>
     bif !r40 then
      kr (111 : Int)
     else
      bif decide (api_Span.Low (api_Period.Flow (Arr.f (api_Times.Periods v38) (Int.toNat v37))) < (0 : Int)) then
       kr (111 : Int)
      else
       bif decide (api_Span.High (api_Period.Flow (Arr.f (api_Times.Periods v38) (Int.toNat v37))) < api_Span.Low (api_Period.Flow (Arr.f (api_Times.Periods v38) (Int.toNat v37)))) then
        kr (111 : Int)
       else
        bif decide (api_Span.High (api_Period.Flow (Arr.f (api_Times.Periods v38) (Int.toNat v37))) > (100 : Int)) then
         kr (111 : Int)
        else
         rc (w64 (v37 + (1 : Int))) v38))
   else
    Option.none
  else
   k0 ()
def newelref11_CheckTimes_l6 {R : Type} (N : Nat) : Nat → Int → api_Times → (Int → Option R) → (Unit → Option R) → Option R
  | 0, _, _, _, _ => Option.none
  | n + 1, v37, v38, kr, k0 => newelref11_CheckTimes_b6 N (fun v37 v38 => newelref11_CheckTimes_l6 N n v37 v38 kr k0) v37 v38 kr k0


def newelref11_CheckTimes_m {R : Type} (N : Nat) (a32 : api_Band) (a33 : api_Times) (k : Int → Option R) : Option R :=
  newelref11_Check N a32 (fun r34 =>
  bif r34 != (0 : Int) then
   k (110 : Int)
  else
   newelref11_within N ((↑(Arr.n (api_Times.Periods a33)) : Int)) (1 : Int) (8 : Int) (fun r35 =>
   bif !r35 then
    k (111 : Int)
   else
    newelref11_within N (api_Times.Peak a33) (0 : Int) (1000 : Int) (fun r36 =>
    bif !r36 then
     k (111 : Int)
    else
     newelref11_CheckTimes_l6 N N (0 : Int) a33 (fun r41 =>
      k r41) (fun (_ : Unit) =>
      k (0 : Int)))))
noncomputable def newelref11_CheckTimes {R : Type} : Nat → api_Band → api_Times → (Int → Option R) → Option R := lock (@newelref11_CheckTimes_m R)
theorem newelref11_CheckTimes_def {R : Type} (N : Nat) (a32 : api_Band) (a33 : api_Times) (k : Int → Option R) : newelref11_CheckTimes N a32 a33 k = newelref11_CheckTimes_m N a32 a33 k := by unfold newelref11_CheckTimes; rw [lock_eq]
def newelref11_CheckTimes_sp : Sp := ⟨[rAgg api_BandC, rAgg api_TimesC], []⟩
theorem newelref11_CheckTimes_sp_ok : newelref11_CheckTimes_sp.Ok := ⟨(allCons (rAgg_ok api_BandC_ok api_BandC_len) (allCons (rAgg_ok api_TimesC_ok api_TimesC_len) allNil)), eNil⟩
def newelref11_CheckTimes_rs : Sp := ⟨[rInt .i64], []⟩
theorem newelref11_CheckTimes_rs_ok : newelref11_CheckTimes_rs.Ok := ⟨(allCons (rInt_ok .i64) allNil), eNil⟩
def newelref11_CheckTimes_run {R : Type} (N : Nat) (args : List SV) (T : Tab) (kf : SV × Tab → Option R) : Option R :=
  newelref11_CheckTimes_m N (Cod.dec api_BandC (lget (toCs (lget args 0)))) (Cod.dec api_TimesC (lget (toCs (lget args 1)))) (fun q0 => kf (lget [.int .i64 q0] 0, []))
def newelref11_CheckTimes_d6 {R : Type} (N : Nat) (S0 : St) (k : Exit → St → Option R) : Option R :=
  newelref11_CheckTimes_l6 N N (toI (lget S0.tmps 5)) (Cod.dec api_TimesC (lget (entCs (entAt S0.tab 0)))) (fun q0 => k .ret (newelref11_CheckTimes_x6_r q0)) (fun (_ : Unit) => k (.exit 0) (newelref11_CheckTimes_x6_0 ))
def newelref11_CheckTimes_lp {R : Type} (N : Nat) : Lp R := fun body S k => bif (Go.Sx.keyOf body).getD 0 == 6 then newelref11_CheckTimes_L6.head.raw 0 S (fun S0 => newelref11_CheckTimes_d6 N S0 k) else Option.none
theorem newelref11_CheckTimes_l6_eq {R : Type} (N : Nat) (k : Exit → St → Option R) (n : Nat) : ∀ (v0 : Int) (v1 : api_Times), loopM E.Θ (energy_Check_cal N) (newelref11_CheckTimes_lp N) (noJn) 0 newelref11_CheckTimes_L6 (bodyAt E 33 6) n (newelref11_CheckTimes_h6 v0 v1) k = newelref11_CheckTimes_l6 N n v0 v1 (fun q0 => k .ret (newelref11_CheckTimes_x6_r q0)) (fun (_ : Unit) => k (.exit 0) (newelref11_CheckTimes_x6_0 )) := by
  induction n with
  | zero => intro v0 v1; rfl
  | succ n ih =>
    intro v0 v1
    refine Eq.trans (b := newelref11_CheckTimes_b6 N (fun v0 v1 => loopM E.Θ (energy_Check_cal N) (newelref11_CheckTimes_lp N) (noJn) 0 newelref11_CheckTimes_L6 (bodyAt E 33 6) n (newelref11_CheckTimes_h6 v0 v1) k) v0 v1 (fun q0 => k .ret (newelref11_CheckTimes_x6_r q0)) (fun (_ : Unit) => k (.exit 0) (newelref11_CheckTimes_x6_0 ))) (by kernel_rfl) ?_
    have h : (fun (v0 : Int) (v1 : api_Times) => loopM E.Θ (energy_Check_cal N) (newelref11_CheckTimes_lp N) (noJn) 0 newelref11_CheckTimes_L6 (bodyAt E 33 6) n (newelref11_CheckTimes_h6 v0 v1) k) = (fun (v0 : Int) (v1 : api_Times) => newelref11_CheckTimes_l6 N n v0 v1 (fun q0 => k .ret (newelref11_CheckTimes_x6_r q0)) (fun (_ : Unit) => k (.exit 0) (newelref11_CheckTimes_x6_0 ))) := funext fun v0 => funext fun v1 => ih v0 v1
    rw [h]
    rfl
theorem newelref11_CheckTimes_k6 {R : Type} (N : Nat) : LpKey (R := R) E 33 0 (newelref11_CheckTimes_lp N) 6 :=
  lpKey_of hE (energy_Check_cal_ok N) (jn := noJn) newelref11_CheckTimes_L6_ok [] kNil (by kernel_rfl) [] jNil (by kernel_rfl) N fun S k =>
    Eq.trans (b := newelref11_CheckTimes_L6.head.raw 0 S (fun S0 => newelref11_CheckTimes_d6 N S0 k)) (by kernel_rfl) (congrArg (newelref11_CheckTimes_L6.head.raw 0 S) (funext fun S0 => Eq.trans (newelref11_CheckTimes_l6_eq N k N (toI (lget S0.tmps 5)) (Cod.dec api_TimesC (lget (entCs (entAt S0.tab 0))))).symm (by kernel_rfl)))
noncomputable def newelref11_CheckTimes_go {R : Type} (N : Nat) (args : List SV) (T : Tab) (kf : SV × Tab → Option R) : Option R :=
  newelref11_CheckTimes N (Cod.dec api_BandC (lget (toCs (lget args 0)))) (Cod.dec api_TimesC (lget (toCs (lget args 1)))) (fun q0 => kf (lget [.int .i64 q0] 0, []))
noncomputable def newelref11_CheckTimes_cal {R : Type} (N : Nat) : Cal R := callM (energy_Check_cal N) 33 0 newelref11_CheckTimes_sp (newelref11_CheckTimes_go N)
theorem newelref11_CheckTimes_cal_ok {R : Type} (N : Nat) : CalOk E.P (newelref11_CheckTimes_cal (R := R) N) :=
  callM_ok hE (energy_Check_cal_ok N) (lp := newelref11_CheckTimes_lp N) (jn := noJn) (keys := [6]) (kCons (newelref11_CheckTimes_k6 N) kNil) (by kernel_rfl) (js := []) jNil (by kernel_rfl) newelref11_CheckTimes_sp_ok newelref11_CheckTimes_rs_ok (fun args T kf => Eq.trans (newelref11_CheckTimes_def N (Cod.dec api_BandC (lget (toCs (lget args 0)))) (Cod.dec api_TimesC (lget (toCs (lget args 1)))) (fun q0 => kf (lget [.int .i64 q0] 0, []))) (by kernel_rfl : newelref11_CheckTimes_run N args T kf = fnM E (energy_Check_cal N) (newelref11_CheckTimes_lp N) (noJn) 33 (newelref11_CheckTimes_sp.vs args) (newelref11_CheckTimes_sp.tab T) 0 (resK newelref11_CheckTimes_rs kf)))

def energy_checkTimes_L7 : LoopSp := ⟨⟨[30, 31, 32], ⟨(dr 30 ((rSl api_PeriodC) :: (rInt .i64) :: (rInt .i64) :: (dr 34 []))), []⟩, 0⟩, [(Option.none, ⟨[4], ⟨(dr 4 ((rInt .i64) :: (dr 62 []))), []⟩, 0⟩), (some 0, ⟨[], ⟨(dr 67 []), []⟩, 0⟩)]⟩
theorem energy_checkTimes_L7_ok : energy_checkTimes_L7.Ok := ⟨⟨(drCons 30 (allCons (rSl_ok api_PeriodC_ok) (allCons (rInt_ok .i64) (allCons (rInt_ok .i64) (drCons 34 allNil))))), eNil⟩, (xCons ⟨(drCons 4 (allCons (rInt_ok .i64) (drCons 62 allNil))), eNil⟩ (xCons ⟨(drCons 67 allNil), eNil⟩ xNil))⟩
def energy_checkTimes_h7 (v46 : Arr api_Period) (v47 : Int) (v48 : Int) : St := ⟨(un 30 ((slC api_PeriodC v46) :: (.int .i64 v47) :: (.int .i64 v48) :: (un 34 []))), [], 0⟩
def energy_checkTimes_x7_r (q0 : Int) : St := ⟨(un 4 ((.int .i64 q0) :: (un 62 []))), [], 0⟩
def energy_checkTimes_x7_0  : St := ⟨(un 67 []), [], 0⟩
def energy_checkTimes_b7 {R : Type} (N : Nat) (rc : Arr api_Period → Int → Int → Option R) (v46 : Arr api_Period) (v47 : Int) (v48 : Int) (kr : Int → Option R) (k0 : Unit → Option R) : Option R :=
  bif decide (v48 < v47) then
   bif decide ((0 : Int) ≤ v48) && decide (v48 < (↑(Arr.n v46) : Int)) then
    bif decide (api_Period.Lasts (Arr.f v46 (Int.toNat v48)) < (1 : Int)) then
     kr (111 : Int)
    else
     bif decide (api_Period.Lasts (Arr.f v46 (Int.toNat v48)) > (1000 : Int)) then
      kr (111 : Int)
     else
      energy_from0 N (api_Period.Price (Arr.f v46 (Int.toNat v48))) (100 : Int) (fun r49 =>
      bif !r49 then
       kr (111 : Int)
      else
       energy_from0 N (api_Span.Low (api_Period.Flow (Arr.f v46 (Int.toNat v48)))) (api_Span.High (api_Period.Flow (Arr.f v46 (Int.toNat v48)))) (fun r50 =>
       bif !r50 then
        kr (111 : Int)
       else
        bif decide (api_Span.High (api_Period.Flow (Arr.f v46 (Int.toNat v48))) > (100 : Int)) then
         kr (111 : Int)
        else
         rc v46 v47 (w64 (v48 + (1 : Int)))))
   else
    Option.none
  else
   k0 ()
def energy_checkTimes_l7 {R : Type} (N : Nat) : Nat → Arr api_Period → Int → Int → (Int → Option R) → (Unit → Option R) → Option R
  | 0, _, _, _, _, _ => Option.none
  | n + 1, v46, v47, v48, kr, k0 => energy_checkTimes_b7 N (fun v46 v47 v48 => energy_checkTimes_l7 N n v46 v47 v48 kr k0) v46 v47 v48 kr k0


def energy_checkTimes_m {R : Type} (N : Nat) (a42 : api_Band) (a43 : api_Times) (k : Int → Option R) : Option R :=
  energy_Check N a42 (fun r44 =>
  bif r44 != (0 : Int) then
   k r44
  else
   bif decide ((↑(Arr.n (api_Times.Periods a43)) : Int) < (1 : Int)) then
    k (111 : Int)
   else
    bif decide ((↑(Arr.n (api_Times.Periods a43)) : Int) > (8 : Int)) then
     k (111 : Int)
    else
     energy_from0 N (api_Times.Peak a43) (1000 : Int) (fun r45 =>
     bif !r45 then
      k (111 : Int)
     else
      energy_checkTimes_l7 N N (api_Times.Periods a43) ((↑(Arr.n (api_Times.Periods a43)) : Int)) (0 : Int) (fun r51 =>
       k r51) (fun (_ : Unit) =>
       k (0 : Int))))
noncomputable def energy_checkTimes {R : Type} : Nat → api_Band → api_Times → (Int → Option R) → Option R := lock (@energy_checkTimes_m R)
theorem energy_checkTimes_def {R : Type} (N : Nat) (a42 : api_Band) (a43 : api_Times) (k : Int → Option R) : energy_checkTimes N a42 a43 k = energy_checkTimes_m N a42 a43 k := by unfold energy_checkTimes; rw [lock_eq]
def energy_checkTimes_sp : Sp := ⟨[rAgg api_BandC, rAgg api_TimesC], []⟩
theorem energy_checkTimes_sp_ok : energy_checkTimes_sp.Ok := ⟨(allCons (rAgg_ok api_BandC_ok api_BandC_len) (allCons (rAgg_ok api_TimesC_ok api_TimesC_len) allNil)), eNil⟩
def energy_checkTimes_rs : Sp := ⟨[rInt .i64], []⟩
theorem energy_checkTimes_rs_ok : energy_checkTimes_rs.Ok := ⟨(allCons (rInt_ok .i64) allNil), eNil⟩
def energy_checkTimes_run {R : Type} (N : Nat) (args : List SV) (T : Tab) (kf : SV × Tab → Option R) : Option R :=
  energy_checkTimes_m N (Cod.dec api_BandC (lget (toCs (lget args 0)))) (Cod.dec api_TimesC (lget (toCs (lget args 1)))) (fun q0 => kf (lget [.int .i64 q0] 0, []))
def energy_checkTimes_d7 {R : Type} (N : Nat) (S0 : St) (k : Exit → St → Option R) : Option R :=
  energy_checkTimes_l7 N N (lstC api_PeriodC (lget S0.tmps 30)) (toI (lget S0.tmps 31)) (toI (lget S0.tmps 32)) (fun q0 => k .ret (energy_checkTimes_x7_r q0)) (fun (_ : Unit) => k (.exit 0) (energy_checkTimes_x7_0 ))
def energy_checkTimes_lp {R : Type} (N : Nat) : Lp R := fun body S k => bif (Go.Sx.keyOf body).getD 0 == 7 then energy_checkTimes_L7.head.raw 0 S (fun S0 => energy_checkTimes_d7 N S0 k) else Option.none
theorem energy_checkTimes_l7_eq {R : Type} (N : Nat) (k : Exit → St → Option R) (n : Nat) : ∀ (v0 : Arr api_Period) (v1 : Int) (v2 : Int), loopM E.Θ (newelref11_CheckTimes_cal N) (energy_checkTimes_lp N) (noJn) 0 energy_checkTimes_L7 (bodyAt E 40 7) n (energy_checkTimes_h7 v0 v1 v2) k = energy_checkTimes_l7 N n v0 v1 v2 (fun q0 => k .ret (energy_checkTimes_x7_r q0)) (fun (_ : Unit) => k (.exit 0) (energy_checkTimes_x7_0 )) := by
  induction n with
  | zero => intro v0 v1 v2; rfl
  | succ n ih =>
    intro v0 v1 v2
    refine Eq.trans (b := energy_checkTimes_b7 N (fun v0 v1 v2 => loopM E.Θ (newelref11_CheckTimes_cal N) (energy_checkTimes_lp N) (noJn) 0 energy_checkTimes_L7 (bodyAt E 40 7) n (energy_checkTimes_h7 v0 v1 v2) k) v0 v1 v2 (fun q0 => k .ret (energy_checkTimes_x7_r q0)) (fun (_ : Unit) => k (.exit 0) (energy_checkTimes_x7_0 ))) (by kernel_rfl) ?_
    have h : (fun (v0 : Arr api_Period) (v1 : Int) (v2 : Int) => loopM E.Θ (newelref11_CheckTimes_cal N) (energy_checkTimes_lp N) (noJn) 0 energy_checkTimes_L7 (bodyAt E 40 7) n (energy_checkTimes_h7 v0 v1 v2) k) = (fun (v0 : Arr api_Period) (v1 : Int) (v2 : Int) => energy_checkTimes_l7 N n v0 v1 v2 (fun q0 => k .ret (energy_checkTimes_x7_r q0)) (fun (_ : Unit) => k (.exit 0) (energy_checkTimes_x7_0 ))) := funext fun v0 => funext fun v1 => funext fun v2 => ih v0 v1 v2
    rw [h]
    rfl
theorem energy_checkTimes_k7 {R : Type} (N : Nat) : LpKey (R := R) E 40 0 (energy_checkTimes_lp N) 7 :=
  lpKey_of hE (newelref11_CheckTimes_cal_ok N) (jn := noJn) energy_checkTimes_L7_ok [] kNil (by kernel_rfl) [] jNil (by kernel_rfl) N fun S k =>
    Eq.trans (b := energy_checkTimes_L7.head.raw 0 S (fun S0 => energy_checkTimes_d7 N S0 k)) (by kernel_rfl) (congrArg (energy_checkTimes_L7.head.raw 0 S) (funext fun S0 => Eq.trans (energy_checkTimes_l7_eq N k N (lstC api_PeriodC (lget S0.tmps 30)) (toI (lget S0.tmps 31)) (toI (lget S0.tmps 32))).symm (by kernel_rfl)))
noncomputable def energy_checkTimes_go {R : Type} (N : Nat) (args : List SV) (T : Tab) (kf : SV × Tab → Option R) : Option R :=
  energy_checkTimes N (Cod.dec api_BandC (lget (toCs (lget args 0)))) (Cod.dec api_TimesC (lget (toCs (lget args 1)))) (fun q0 => kf (lget [.int .i64 q0] 0, []))
noncomputable def energy_checkTimes_cal {R : Type} (N : Nat) : Cal R := callM (newelref11_CheckTimes_cal N) 40 0 energy_checkTimes_sp (energy_checkTimes_go N)
theorem energy_checkTimes_cal_ok {R : Type} (N : Nat) : CalOk E.P (energy_checkTimes_cal (R := R) N) :=
  callM_ok hE (newelref11_CheckTimes_cal_ok N) (lp := energy_checkTimes_lp N) (jn := noJn) (keys := [7]) (kCons (energy_checkTimes_k7 N) kNil) (by kernel_rfl) (js := []) jNil (by kernel_rfl) energy_checkTimes_sp_ok energy_checkTimes_rs_ok (fun args T kf => Eq.trans (energy_checkTimes_def N (Cod.dec api_BandC (lget (toCs (lget args 0)))) (Cod.dec api_TimesC (lget (toCs (lget args 1)))) (fun q0 => kf (lget [.int .i64 q0] 0, []))) (by kernel_rfl : energy_checkTimes_run N args T kf = fnM E (newelref11_CheckTimes_cal N) (energy_checkTimes_lp N) (noJn) 40 (energy_checkTimes_sp.vs args) (energy_checkTimes_sp.tab T) 0 (resK energy_checkTimes_rs kf)))

def newelref11_Pace_L2 : LoopSp := ⟨⟨[1, 2, 5], ⟨(dr 1 ((rInt .i64) :: (rPtr 0 0) :: (dr 2 ((rInt .i64) :: (dr 14 []))))), [(0, eBlkC api_BandC)]⟩, 1⟩, [(Option.none, ⟨[4], ⟨(dr 4 ((rBool) :: (dr 15 []))), []⟩, 0⟩), (some 0, ⟨[], ⟨(dr 20 []), []⟩, 0⟩)]⟩
theorem newelref11_Pace_L2_ok : newelref11_Pace_L2.Ok := ⟨⟨(drCons 1 (allCons (rInt_ok .i64) (allCons (rPtr_ok 0 0) (drCons 2 (allCons (rInt_ok .i64) (drCons 14 allNil)))))), (eCons (eBlkC_ok api_BandC_ok api_BandC_len) eNil)⟩, (xCons ⟨(drCons 4 (allCons rBool_ok (drCons 15 allNil))), eNil⟩ (xCons ⟨(drCons 20 allNil), eNil⟩ xNil))⟩
def newelref11_Pace_h2 (v61 : Int) (v62 : Int) (v63 : api_Band) : St := ⟨(un 1 ((.int .i64 v61) :: (.ptr 0 0) :: (un 2 ((.int .i64 v62) :: (un 14 []))))), [(0, .blk (Cod.enc api_BandC v63))], 1⟩
def newelref11_Pace_x2_r (q0 : Bool) : St := ⟨(un 4 ((.bool q0) :: (un 15 []))), [], 0⟩
def newelref11_Pace_x2_0  : St := ⟨(un 20 []), [], 0⟩
def newelref11_Pace_b2 {R : Type} (N : Nat) (rc : Int → Int → api_Band → Option R) (v61 : Int) (v62 : Int) (v63 : api_Band) (kr : Bool → Option R) (k0 : Unit → Option R) : Option R :=
  bif decide (v62 < (↑(Arr.n (api_Band.Paces v63)) : Int)) then
   bif decide ((0 : Int) ≤ v62) && decide (v62 < (↑(Arr.n (api_Band.Paces v63)) : Int)) then
    bif Arr.f (api_Band.Paces v63) (Int.toNat v62) == v61 then
     kr true
    else
     rc v61 (w64 (v62 + (1 : Int))) v63
   else
    Option.none
  else
   k0 ()
def newelref11_Pace_l2 {R : Type} (N : Nat) : Nat → Int → Int → api_Band → (Bool → Option R) → (Unit → Option R) → Option R
  | 0, _, _, _, _, _ => Option.none
  | n + 1, v61, v62, v63, kr, k0 => newelref11_Pace_b2 N (fun v61 v62 v63 => newelref11_Pace_l2 N n v61 v62 v63 kr k0) v61 v62 v63 kr k0


def newelref11_Pace_m {R : Type} (N : Nat) (a59 : api_Band) (a60 : Int) (k : Bool → Option R) : Option R :=
  newelref11_Pace_l2 N N a60 (0 : Int) a59 (fun r64 =>
   k r64) (fun (_ : Unit) =>
   k false)
noncomputable def newelref11_Pace {R : Type} : Nat → api_Band → Int → (Bool → Option R) → Option R := lock (@newelref11_Pace_m R)
theorem newelref11_Pace_def {R : Type} (N : Nat) (a59 : api_Band) (a60 : Int) (k : Bool → Option R) : newelref11_Pace N a59 a60 k = newelref11_Pace_m N a59 a60 k := by unfold newelref11_Pace; rw [lock_eq]
def newelref11_Pace_sp : Sp := ⟨[rAgg api_BandC, rInt .i64], []⟩
theorem newelref11_Pace_sp_ok : newelref11_Pace_sp.Ok := ⟨(allCons (rAgg_ok api_BandC_ok api_BandC_len) (allCons (rInt_ok .i64) allNil)), eNil⟩
def newelref11_Pace_rs : Sp := ⟨[rBool], []⟩
theorem newelref11_Pace_rs_ok : newelref11_Pace_rs.Ok := ⟨(allCons rBool_ok allNil), eNil⟩
def newelref11_Pace_run {R : Type} (N : Nat) (args : List SV) (T : Tab) (kf : SV × Tab → Option R) : Option R :=
  newelref11_Pace_m N (Cod.dec api_BandC (lget (toCs (lget args 0)))) (toI (lget args 1)) (fun q0 => kf (lget [.bool q0] 0, []))
def newelref11_Pace_d2 {R : Type} (N : Nat) (S0 : St) (k : Exit → St → Option R) : Option R :=
  newelref11_Pace_l2 N N (toI (lget S0.tmps 1)) (toI (lget S0.tmps 5)) (Cod.dec api_BandC (lget (entCs (entAt S0.tab 0)))) (fun q0 => k .ret (newelref11_Pace_x2_r q0)) (fun (_ : Unit) => k (.exit 0) (newelref11_Pace_x2_0 ))
def newelref11_Pace_lp {R : Type} (N : Nat) : Lp R := fun body S k => bif (Go.Sx.keyOf body).getD 0 == 2 then newelref11_Pace_L2.head.raw 0 S (fun S0 => newelref11_Pace_d2 N S0 k) else Option.none
theorem newelref11_Pace_l2_eq {R : Type} (N : Nat) (k : Exit → St → Option R) (n : Nat) : ∀ (v0 : Int) (v1 : Int) (v2 : api_Band), loopM E.Θ (energy_checkTimes_cal N) (newelref11_Pace_lp N) (noJn) 0 newelref11_Pace_L2 (bodyAt E 19 2) n (newelref11_Pace_h2 v0 v1 v2) k = newelref11_Pace_l2 N n v0 v1 v2 (fun q0 => k .ret (newelref11_Pace_x2_r q0)) (fun (_ : Unit) => k (.exit 0) (newelref11_Pace_x2_0 )) := by
  induction n with
  | zero => intro v0 v1 v2; rfl
  | succ n ih =>
    intro v0 v1 v2
    refine Eq.trans (b := newelref11_Pace_b2 N (fun v0 v1 v2 => loopM E.Θ (energy_checkTimes_cal N) (newelref11_Pace_lp N) (noJn) 0 newelref11_Pace_L2 (bodyAt E 19 2) n (newelref11_Pace_h2 v0 v1 v2) k) v0 v1 v2 (fun q0 => k .ret (newelref11_Pace_x2_r q0)) (fun (_ : Unit) => k (.exit 0) (newelref11_Pace_x2_0 ))) (by kernel_rfl) ?_
    have h : (fun (v0 : Int) (v1 : Int) (v2 : api_Band) => loopM E.Θ (energy_checkTimes_cal N) (newelref11_Pace_lp N) (noJn) 0 newelref11_Pace_L2 (bodyAt E 19 2) n (newelref11_Pace_h2 v0 v1 v2) k) = (fun (v0 : Int) (v1 : Int) (v2 : api_Band) => newelref11_Pace_l2 N n v0 v1 v2 (fun q0 => k .ret (newelref11_Pace_x2_r q0)) (fun (_ : Unit) => k (.exit 0) (newelref11_Pace_x2_0 ))) := funext fun v0 => funext fun v1 => funext fun v2 => ih v0 v1 v2
    rw [h]
    rfl
theorem newelref11_Pace_k2 {R : Type} (N : Nat) : LpKey (R := R) E 19 0 (newelref11_Pace_lp N) 2 :=
  lpKey_of hE (energy_checkTimes_cal_ok N) (jn := noJn) newelref11_Pace_L2_ok [] kNil (by kernel_rfl) [] jNil (by kernel_rfl) N fun S k =>
    Eq.trans (b := newelref11_Pace_L2.head.raw 0 S (fun S0 => newelref11_Pace_d2 N S0 k)) (by kernel_rfl) (congrArg (newelref11_Pace_L2.head.raw 0 S) (funext fun S0 => Eq.trans (newelref11_Pace_l2_eq N k N (toI (lget S0.tmps 1)) (toI (lget S0.tmps 5)) (Cod.dec api_BandC (lget (entCs (entAt S0.tab 0))))).symm (by kernel_rfl)))
noncomputable def newelref11_Pace_go {R : Type} (N : Nat) (args : List SV) (T : Tab) (kf : SV × Tab → Option R) : Option R :=
  newelref11_Pace N (Cod.dec api_BandC (lget (toCs (lget args 0)))) (toI (lget args 1)) (fun q0 => kf (lget [.bool q0] 0, []))
noncomputable def newelref11_Pace_cal {R : Type} (N : Nat) : Cal R := callM (energy_checkTimes_cal N) 19 0 newelref11_Pace_sp (newelref11_Pace_go N)
theorem newelref11_Pace_cal_ok {R : Type} (N : Nat) : CalOk E.P (newelref11_Pace_cal (R := R) N) :=
  callM_ok hE (energy_checkTimes_cal_ok N) (lp := newelref11_Pace_lp N) (jn := noJn) (keys := [2]) (kCons (newelref11_Pace_k2 N) kNil) (by kernel_rfl) (js := []) jNil (by kernel_rfl) newelref11_Pace_sp_ok newelref11_Pace_rs_ok (fun args T kf => Eq.trans (newelref11_Pace_def N (Cod.dec api_BandC (lget (toCs (lget args 0)))) (toI (lget args 1)) (fun q0 => kf (lget [.bool q0] 0, []))) (by kernel_rfl : newelref11_Pace_run N args T kf = fnM E (energy_checkTimes_cal N) (newelref11_Pace_lp N) (noJn) 19 (newelref11_Pace_sp.vs args) (newelref11_Pace_sp.tab T) 0 (resK newelref11_Pace_rs kf)))

def newelref11_CheckPlan_L7 : LoopSp := ⟨⟨[2, 3, 8], ⟨(dr 2 ((rSl intC) :: (rPtr 0 0) :: (dr 4 ((rInt .i64) :: (dr 25 []))))), [(0, eBlkC api_BandC)]⟩, 1⟩, [(Option.none, ⟨[6], ⟨(dr 6 ((rInt .i64) :: (dr 27 []))), []⟩, 0⟩), (some 0, ⟨[], ⟨(dr 34 []), []⟩, 0⟩)]⟩
theorem newelref11_CheckPlan_L7_ok : newelref11_CheckPlan_L7.Ok := ⟨⟨(drCons 2 (allCons (rSl_ok intC_ok) (allCons (rPtr_ok 0 0) (drCons 4 (allCons (rInt_ok .i64) (drCons 25 allNil)))))), (eCons (eBlkC_ok api_BandC_ok api_BandC_len) eNil)⟩, (xCons ⟨(drCons 6 (allCons (rInt_ok .i64) (drCons 27 allNil))), eNil⟩ (xCons ⟨(drCons 34 allNil), eNil⟩ xNil))⟩
def newelref11_CheckPlan_h7 (v56 : Arr Int) (v57 : Int) (v58 : api_Band) : St := ⟨(un 2 ((slC intC v56) :: (.ptr 0 0) :: (un 4 ((.int .i64 v57) :: (un 25 []))))), [(0, .blk (Cod.enc api_BandC v58))], 1⟩
def newelref11_CheckPlan_x7_r (q0 : Int) : St := ⟨(un 6 ((.int .i64 q0) :: (un 27 []))), [], 0⟩
def newelref11_CheckPlan_x7_0  : St := ⟨(un 34 []), [], 0⟩
def newelref11_CheckPlan_b7 {R : Type} (N : Nat) (rc : Arr Int → Int → api_Band → Option R) (v56 : Arr Int) (v57 : Int) (v58 : api_Band) (kr : Int → Option R) (k0 : Unit → Option R) : Option R :=
  bif decide (v57 < (↑(Arr.n v56) : Int)) then
   bif decide ((0 : Int) ≤ v57) && decide (v57 < (↑(Arr.n v56) : Int)) then
    newelref11_Pace N v58 (Arr.f v56 (Int.toNat v57)) (fun r65 =>
    bif !r65 then
     kr (112 : Int)
    else
     rc v56 (w64 (v57 + (1 : Int))) v58)
   else
    Option.none
  else
   k0 ()
def newelref11_CheckPlan_l7 {R : Type} (N : Nat) : Nat → Arr Int → Int → api_Band → (Int → Option R) → (Unit → Option R) → Option R
  | 0, _, _, _, _, _ => Option.none
  | n + 1, v56, v57, v58, kr, k0 => newelref11_CheckPlan_b7 N (fun v56 v57 v58 => newelref11_CheckPlan_l7 N n v56 v57 v58 kr k0) v56 v57 v58 kr k0


def newelref11_CheckPlan_m {R : Type} (N : Nat) (a52 : api_Band) (a53 : api_Times) (a54 : Arr Int) (k : Int → Option R) : Option R :=
  newelref11_CheckTimes N a52 a53 (fun r55 =>
  bif r55 != (0 : Int) then
   k r55
  else
   bif (↑(Arr.n a54) : Int) != (↑(Arr.n (api_Times.Periods a53)) : Int) then
    k (112 : Int)
   else
    newelref11_CheckPlan_l7 N N a54 (0 : Int) a52 (fun r66 =>
     k r66) (fun (_ : Unit) =>
     k (0 : Int)))
noncomputable def newelref11_CheckPlan {R : Type} : Nat → api_Band → api_Times → Arr Int → (Int → Option R) → Option R := lock (@newelref11_CheckPlan_m R)
theorem newelref11_CheckPlan_def {R : Type} (N : Nat) (a52 : api_Band) (a53 : api_Times) (a54 : Arr Int) (k : Int → Option R) : newelref11_CheckPlan N a52 a53 a54 k = newelref11_CheckPlan_m N a52 a53 a54 k := by unfold newelref11_CheckPlan; rw [lock_eq]
def newelref11_CheckPlan_sp : Sp := ⟨[rAgg api_BandC, rAgg api_TimesC, rSl intC], []⟩
theorem newelref11_CheckPlan_sp_ok : newelref11_CheckPlan_sp.Ok := ⟨(allCons (rAgg_ok api_BandC_ok api_BandC_len) (allCons (rAgg_ok api_TimesC_ok api_TimesC_len) (allCons (rSl_ok intC_ok) allNil))), eNil⟩
def newelref11_CheckPlan_rs : Sp := ⟨[rInt .i64], []⟩
theorem newelref11_CheckPlan_rs_ok : newelref11_CheckPlan_rs.Ok := ⟨(allCons (rInt_ok .i64) allNil), eNil⟩
def newelref11_CheckPlan_run {R : Type} (N : Nat) (args : List SV) (T : Tab) (kf : SV × Tab → Option R) : Option R :=
  newelref11_CheckPlan_m N (Cod.dec api_BandC (lget (toCs (lget args 0)))) (Cod.dec api_TimesC (lget (toCs (lget args 1)))) (lstC intC (lget args 2)) (fun q0 => kf (lget [.int .i64 q0] 0, []))
def newelref11_CheckPlan_d7 {R : Type} (N : Nat) (S0 : St) (k : Exit → St → Option R) : Option R :=
  newelref11_CheckPlan_l7 N N (lstC intC (lget S0.tmps 2)) (toI (lget S0.tmps 8)) (Cod.dec api_BandC (lget (entCs (entAt S0.tab 0)))) (fun q0 => k .ret (newelref11_CheckPlan_x7_r q0)) (fun (_ : Unit) => k (.exit 0) (newelref11_CheckPlan_x7_0 ))
def newelref11_CheckPlan_lp {R : Type} (N : Nat) : Lp R := fun body S k => bif (Go.Sx.keyOf body).getD 0 == 7 then newelref11_CheckPlan_L7.head.raw 0 S (fun S0 => newelref11_CheckPlan_d7 N S0 k) else Option.none
theorem newelref11_CheckPlan_l7_eq {R : Type} (N : Nat) (k : Exit → St → Option R) (n : Nat) : ∀ (v0 : Arr Int) (v1 : Int) (v2 : api_Band), loopM E.Θ (newelref11_Pace_cal N) (newelref11_CheckPlan_lp N) (noJn) 0 newelref11_CheckPlan_L7 (bodyAt E 31 7) n (newelref11_CheckPlan_h7 v0 v1 v2) k = newelref11_CheckPlan_l7 N n v0 v1 v2 (fun q0 => k .ret (newelref11_CheckPlan_x7_r q0)) (fun (_ : Unit) => k (.exit 0) (newelref11_CheckPlan_x7_0 )) := by
  induction n with
  | zero => intro v0 v1 v2; rfl
  | succ n ih =>
    intro v0 v1 v2
    refine Eq.trans (b := newelref11_CheckPlan_b7 N (fun v0 v1 v2 => loopM E.Θ (newelref11_Pace_cal N) (newelref11_CheckPlan_lp N) (noJn) 0 newelref11_CheckPlan_L7 (bodyAt E 31 7) n (newelref11_CheckPlan_h7 v0 v1 v2) k) v0 v1 v2 (fun q0 => k .ret (newelref11_CheckPlan_x7_r q0)) (fun (_ : Unit) => k (.exit 0) (newelref11_CheckPlan_x7_0 ))) (by kernel_rfl) ?_
    have h : (fun (v0 : Arr Int) (v1 : Int) (v2 : api_Band) => loopM E.Θ (newelref11_Pace_cal N) (newelref11_CheckPlan_lp N) (noJn) 0 newelref11_CheckPlan_L7 (bodyAt E 31 7) n (newelref11_CheckPlan_h7 v0 v1 v2) k) = (fun (v0 : Arr Int) (v1 : Int) (v2 : api_Band) => newelref11_CheckPlan_l7 N n v0 v1 v2 (fun q0 => k .ret (newelref11_CheckPlan_x7_r q0)) (fun (_ : Unit) => k (.exit 0) (newelref11_CheckPlan_x7_0 ))) := funext fun v0 => funext fun v1 => funext fun v2 => ih v0 v1 v2
    rw [h]
    rfl
theorem newelref11_CheckPlan_k7 {R : Type} (N : Nat) : LpKey (R := R) E 31 0 (newelref11_CheckPlan_lp N) 7 :=
  lpKey_of hE (newelref11_Pace_cal_ok N) (jn := noJn) newelref11_CheckPlan_L7_ok [] kNil (by kernel_rfl) [] jNil (by kernel_rfl) N fun S k =>
    Eq.trans (b := newelref11_CheckPlan_L7.head.raw 0 S (fun S0 => newelref11_CheckPlan_d7 N S0 k)) (by kernel_rfl) (congrArg (newelref11_CheckPlan_L7.head.raw 0 S) (funext fun S0 => Eq.trans (newelref11_CheckPlan_l7_eq N k N (lstC intC (lget S0.tmps 2)) (toI (lget S0.tmps 8)) (Cod.dec api_BandC (lget (entCs (entAt S0.tab 0))))).symm (by kernel_rfl)))
noncomputable def newelref11_CheckPlan_go {R : Type} (N : Nat) (args : List SV) (T : Tab) (kf : SV × Tab → Option R) : Option R :=
  newelref11_CheckPlan N (Cod.dec api_BandC (lget (toCs (lget args 0)))) (Cod.dec api_TimesC (lget (toCs (lget args 1)))) (lstC intC (lget args 2)) (fun q0 => kf (lget [.int .i64 q0] 0, []))
noncomputable def newelref11_CheckPlan_cal {R : Type} (N : Nat) : Cal R := callM (newelref11_Pace_cal N) 31 0 newelref11_CheckPlan_sp (newelref11_CheckPlan_go N)
theorem newelref11_CheckPlan_cal_ok {R : Type} (N : Nat) : CalOk E.P (newelref11_CheckPlan_cal (R := R) N) :=
  callM_ok hE (newelref11_Pace_cal_ok N) (lp := newelref11_CheckPlan_lp N) (jn := noJn) (keys := [7]) (kCons (newelref11_CheckPlan_k7 N) kNil) (by kernel_rfl) (js := []) jNil (by kernel_rfl) newelref11_CheckPlan_sp_ok newelref11_CheckPlan_rs_ok (fun args T kf => Eq.trans (newelref11_CheckPlan_def N (Cod.dec api_BandC (lget (toCs (lget args 0)))) (Cod.dec api_TimesC (lget (toCs (lget args 1)))) (lstC intC (lget args 2)) (fun q0 => kf (lget [.int .i64 q0] 0, []))) (by kernel_rfl : newelref11_CheckPlan_run N args T kf = fnM E (newelref11_Pace_cal N) (newelref11_CheckPlan_lp N) (noJn) 31 (newelref11_CheckPlan_sp.vs args) (newelref11_CheckPlan_sp.tab T) 0 (resK newelref11_CheckPlan_rs kf)))

def slices_Index___int_int__L2 : LoopSp := ⟨⟨[0, 1, 7, 8], ⟨((rSl intC) :: (rInt .i64) :: (dr 5 ((rInt .i64) :: (rInt .i64) :: (dr 10 [])))), []⟩, 0⟩, [(Option.none, ⟨[4], ⟨(dr 4 ((rInt .i64) :: (dr 14 []))), []⟩, 0⟩), (some 0, ⟨[], ⟨(dr 19 []), []⟩, 0⟩)]⟩
theorem slices_Index___int_int__L2_ok : slices_Index___int_int__L2.Ok := ⟨⟨(allCons (rSl_ok intC_ok) (allCons (rInt_ok .i64) (drCons 5 (allCons (rInt_ok .i64) (allCons (rInt_ok .i64) (drCons 10 allNil)))))), eNil⟩, (xCons ⟨(drCons 4 (allCons (rInt_ok .i64) (drCons 14 allNil))), eNil⟩ (xCons ⟨(drCons 19 allNil), eNil⟩ xNil))⟩
def slices_Index___int_int__h2 (v78 : Arr Int) (v79 : Int) (v80 : Int) (v81 : Int) : St := ⟨((slC intC v78) :: (.int .i64 v79) :: (un 5 ((.int .i64 v80) :: (.int .i64 v81) :: (un 10 [])))), [], 0⟩
def slices_Index___int_int__x2_r (q0 : Int) : St := ⟨(un 4 ((.int .i64 q0) :: (un 14 []))), [], 0⟩
def slices_Index___int_int__x2_0  : St := ⟨(un 19 []), [], 0⟩
def slices_Index___int_int__b2 {R : Type} (N : Nat) (rc : Arr Int → Int → Int → Int → Option R) (v78 : Arr Int) (v79 : Int) (v80 : Int) (v81 : Int) (kr : Int → Option R) (k0 : Unit → Option R) : Option R :=
  bif decide (v81 < v80) then
   bif decide ((0 : Int) ≤ v81) && decide (v81 < (↑(Arr.n v78) : Int)) then
    bif v79 == Arr.f v78 (Int.toNat v81) then
     kr v81
    else
     rc v78 v79 v80 (w64 (v81 + (1 : Int)))
   else
    Option.none
  else
   k0 ()
def slices_Index___int_int__l2 {R : Type} (N : Nat) : Nat → Arr Int → Int → Int → Int → (Int → Option R) → (Unit → Option R) → Option R
  | 0, _, _, _, _, _, _ => Option.none
  | n + 1, v78, v79, v80, v81, kr, k0 => slices_Index___int_int__b2 N (fun v78 v79 v80 v81 => slices_Index___int_int__l2 N n v78 v79 v80 v81 kr k0) v78 v79 v80 v81 kr k0


def slices_Index___int_int__m {R : Type} (N : Nat) (a76 : Arr Int) (a77 : Int) (k : Int → Option R) : Option R :=
  slices_Index___int_int__l2 N N a76 a77 ((↑(Arr.n a76) : Int)) (0 : Int) (fun r82 =>
   k r82) (fun (_ : Unit) =>
   k (-1 : Int))
noncomputable def slices_Index___int_int_ {R : Type} : Nat → Arr Int → Int → (Int → Option R) → Option R := lock (@slices_Index___int_int__m R)
theorem slices_Index___int_int__def {R : Type} (N : Nat) (a76 : Arr Int) (a77 : Int) (k : Int → Option R) : slices_Index___int_int_ N a76 a77 k = slices_Index___int_int__m N a76 a77 k := by unfold slices_Index___int_int_; rw [lock_eq]
def slices_Index___int_int__sp : Sp := ⟨[rSl intC, rInt .i64], []⟩
theorem slices_Index___int_int__sp_ok : slices_Index___int_int__sp.Ok := ⟨(allCons (rSl_ok intC_ok) (allCons (rInt_ok .i64) allNil)), eNil⟩
def slices_Index___int_int__rs : Sp := ⟨[rInt .i64], []⟩
theorem slices_Index___int_int__rs_ok : slices_Index___int_int__rs.Ok := ⟨(allCons (rInt_ok .i64) allNil), eNil⟩
def slices_Index___int_int__run {R : Type} (N : Nat) (args : List SV) (T : Tab) (kf : SV × Tab → Option R) : Option R :=
  slices_Index___int_int__m N (lstC intC (lget args 0)) (toI (lget args 1)) (fun q0 => kf (lget [.int .i64 q0] 0, []))
def slices_Index___int_int__d2 {R : Type} (N : Nat) (S0 : St) (k : Exit → St → Option R) : Option R :=
  slices_Index___int_int__l2 N N (lstC intC (lget S0.tmps 0)) (toI (lget S0.tmps 1)) (toI (lget S0.tmps 7)) (toI (lget S0.tmps 8)) (fun q0 => k .ret (slices_Index___int_int__x2_r q0)) (fun (_ : Unit) => k (.exit 0) (slices_Index___int_int__x2_0 ))
def slices_Index___int_int__lp {R : Type} (N : Nat) : Lp R := fun body S k => bif (Go.Sx.keyOf body).getD 0 == 2 then slices_Index___int_int__L2.head.raw 0 S (fun S0 => slices_Index___int_int__d2 N S0 k) else Option.none
theorem slices_Index___int_int__l2_eq {R : Type} (N : Nat) (k : Exit → St → Option R) (n : Nat) : ∀ (v0 : Arr Int) (v1 : Int) (v2 : Int) (v3 : Int), loopM E.Θ (newelref11_CheckPlan_cal N) (slices_Index___int_int__lp N) (noJn) 0 slices_Index___int_int__L2 (bodyAt E 66 2) n (slices_Index___int_int__h2 v0 v1 v2 v3) k = slices_Index___int_int__l2 N n v0 v1 v2 v3 (fun q0 => k .ret (slices_Index___int_int__x2_r q0)) (fun (_ : Unit) => k (.exit 0) (slices_Index___int_int__x2_0 )) := by
  induction n with
  | zero => intro v0 v1 v2 v3; rfl
  | succ n ih =>
    intro v0 v1 v2 v3
    refine Eq.trans (b := slices_Index___int_int__b2 N (fun v0 v1 v2 v3 => loopM E.Θ (newelref11_CheckPlan_cal N) (slices_Index___int_int__lp N) (noJn) 0 slices_Index___int_int__L2 (bodyAt E 66 2) n (slices_Index___int_int__h2 v0 v1 v2 v3) k) v0 v1 v2 v3 (fun q0 => k .ret (slices_Index___int_int__x2_r q0)) (fun (_ : Unit) => k (.exit 0) (slices_Index___int_int__x2_0 ))) (by kernel_rfl) ?_
    have h : (fun (v0 : Arr Int) (v1 : Int) (v2 : Int) (v3 : Int) => loopM E.Θ (newelref11_CheckPlan_cal N) (slices_Index___int_int__lp N) (noJn) 0 slices_Index___int_int__L2 (bodyAt E 66 2) n (slices_Index___int_int__h2 v0 v1 v2 v3) k) = (fun (v0 : Arr Int) (v1 : Int) (v2 : Int) (v3 : Int) => slices_Index___int_int__l2 N n v0 v1 v2 v3 (fun q0 => k .ret (slices_Index___int_int__x2_r q0)) (fun (_ : Unit) => k (.exit 0) (slices_Index___int_int__x2_0 ))) := funext fun v0 => funext fun v1 => funext fun v2 => funext fun v3 => ih v0 v1 v2 v3
    rw [h]
    rfl
theorem slices_Index___int_int__k2 {R : Type} (N : Nat) : LpKey (R := R) E 66 0 (slices_Index___int_int__lp N) 2 :=
  lpKey_of hE (newelref11_CheckPlan_cal_ok N) (jn := noJn) slices_Index___int_int__L2_ok [] kNil (by kernel_rfl) [] jNil (by kernel_rfl) N fun S k =>
    Eq.trans (b := slices_Index___int_int__L2.head.raw 0 S (fun S0 => slices_Index___int_int__d2 N S0 k)) (by kernel_rfl) (congrArg (slices_Index___int_int__L2.head.raw 0 S) (funext fun S0 => Eq.trans (slices_Index___int_int__l2_eq N k N (lstC intC (lget S0.tmps 0)) (toI (lget S0.tmps 1)) (toI (lget S0.tmps 7)) (toI (lget S0.tmps 8))).symm (by kernel_rfl)))
noncomputable def slices_Index___int_int__go {R : Type} (N : Nat) (args : List SV) (T : Tab) (kf : SV × Tab → Option R) : Option R :=
  slices_Index___int_int_ N (lstC intC (lget args 0)) (toI (lget args 1)) (fun q0 => kf (lget [.int .i64 q0] 0, []))
noncomputable def slices_Index___int_int__cal {R : Type} (N : Nat) : Cal R := callM (newelref11_CheckPlan_cal N) 66 0 slices_Index___int_int__sp (slices_Index___int_int__go N)
theorem slices_Index___int_int__cal_ok {R : Type} (N : Nat) : CalOk E.P (slices_Index___int_int__cal (R := R) N) :=
  callM_ok hE (newelref11_CheckPlan_cal_ok N) (lp := slices_Index___int_int__lp N) (jn := noJn) (keys := [2]) (kCons (slices_Index___int_int__k2 N) kNil) (by kernel_rfl) (js := []) jNil (by kernel_rfl) slices_Index___int_int__sp_ok slices_Index___int_int__rs_ok (fun args T kf => Eq.trans (slices_Index___int_int__def N (lstC intC (lget args 0)) (toI (lget args 1)) (fun q0 => kf (lget [.int .i64 q0] 0, []))) (by kernel_rfl : slices_Index___int_int__run N args T kf = fnM E (newelref11_CheckPlan_cal N) (slices_Index___int_int__lp N) (noJn) 66 (slices_Index___int_int__sp.vs args) (slices_Index___int_int__sp.tab T) 0 (resK slices_Index___int_int__rs kf)))


def slices_Contains___int_int__m {R : Type} (N : Nat) (a74 : Arr Int) (a75 : Int) (k : Bool → Option R) : Option R :=
  slices_Index___int_int_ N a74 a75 (fun r83 =>
  k (decide (r83 ≥ (0 : Int))))
noncomputable def slices_Contains___int_int_ {R : Type} : Nat → Arr Int → Int → (Bool → Option R) → Option R := lock (@slices_Contains___int_int__m R)
theorem slices_Contains___int_int__def {R : Type} (N : Nat) (a74 : Arr Int) (a75 : Int) (k : Bool → Option R) : slices_Contains___int_int_ N a74 a75 k = slices_Contains___int_int__m N a74 a75 k := by unfold slices_Contains___int_int_; rw [lock_eq]
def slices_Contains___int_int__sp : Sp := ⟨[rSl intC, rInt .i64], []⟩
theorem slices_Contains___int_int__sp_ok : slices_Contains___int_int__sp.Ok := ⟨(allCons (rSl_ok intC_ok) (allCons (rInt_ok .i64) allNil)), eNil⟩
def slices_Contains___int_int__rs : Sp := ⟨[rBool], []⟩
theorem slices_Contains___int_int__rs_ok : slices_Contains___int_int__rs.Ok := ⟨(allCons rBool_ok allNil), eNil⟩
def slices_Contains___int_int__run {R : Type} (N : Nat) (args : List SV) (T : Tab) (kf : SV × Tab → Option R) : Option R :=
  slices_Contains___int_int__m N (lstC intC (lget args 0)) (toI (lget args 1)) (fun q0 => kf (lget [.bool q0] 0, []))
def slices_Contains___int_int__lp {R : Type} (N : Nat) : Lp R := fun body S k => Option.none
noncomputable def slices_Contains___int_int__go {R : Type} (N : Nat) (args : List SV) (T : Tab) (kf : SV × Tab → Option R) : Option R :=
  slices_Contains___int_int_ N (lstC intC (lget args 0)) (toI (lget args 1)) (fun q0 => kf (lget [.bool q0] 0, []))
noncomputable def slices_Contains___int_int__cal {R : Type} (N : Nat) : Cal R := callM (slices_Index___int_int__cal N) 61 0 slices_Contains___int_int__sp (slices_Contains___int_int__go N)
theorem slices_Contains___int_int__cal_ok {R : Type} (N : Nat) : CalOk E.P (slices_Contains___int_int__cal (R := R) N) :=
  callM_ok hE (slices_Index___int_int__cal_ok N) (lp := slices_Contains___int_int__lp N) (jn := noJn) (keys := []) kNil (by kernel_rfl) (js := []) jNil (by kernel_rfl) slices_Contains___int_int__sp_ok slices_Contains___int_int__rs_ok (fun args T kf => Eq.trans (slices_Contains___int_int__def N (lstC intC (lget args 0)) (toI (lget args 1)) (fun q0 => kf (lget [.bool q0] 0, []))) (by kernel_rfl : slices_Contains___int_int__run N args T kf = fnM E (slices_Index___int_int__cal N) (slices_Contains___int_int__lp N) (noJn) 61 (slices_Contains___int_int__sp.vs args) (slices_Contains___int_int__sp.tab T) 0 (resK slices_Contains___int_int__rs kf)))


def energy_check_m {R : Type} (N : Nat) (a70 : api_Band) (a71 : Int) (a72 : Int) (k : Int → Option R) : Option R :=
  energy_Check N a70 (fun r73 =>
  bif r73 != (0 : Int) then
   k r73
  else
   slices_Contains___int_int_ N (api_Band.Paces a70) a72 (fun r84 =>
   bif !r84 then
    k (112 : Int)
   else
    energy_from0 N a71 (100 : Int) (fun r85 =>
    bif !r85 then
     k (1 : Int)
    else
     k (0 : Int))))
noncomputable def energy_check {R : Type} : Nat → api_Band → Int → Int → (Int → Option R) → Option R := lock (@energy_check_m R)
theorem energy_check_def {R : Type} (N : Nat) (a70 : api_Band) (a71 : Int) (a72 : Int) (k : Int → Option R) : energy_check N a70 a71 a72 k = energy_check_m N a70 a71 a72 k := by unfold energy_check; rw [lock_eq]
def energy_check_sp : Sp := ⟨[rAgg api_BandC, rInt .i64, rInt .i64], []⟩
theorem energy_check_sp_ok : energy_check_sp.Ok := ⟨(allCons (rAgg_ok api_BandC_ok api_BandC_len) (allCons (rInt_ok .i64) (allCons (rInt_ok .i64) allNil))), eNil⟩
def energy_check_rs : Sp := ⟨[rInt .i64], []⟩
theorem energy_check_rs_ok : energy_check_rs.Ok := ⟨(allCons (rInt_ok .i64) allNil), eNil⟩
def energy_check_run {R : Type} (N : Nat) (args : List SV) (T : Tab) (kf : SV × Tab → Option R) : Option R :=
  energy_check_m N (Cod.dec api_BandC (lget (toCs (lget args 0)))) (toI (lget args 1)) (toI (lget args 2)) (fun q0 => kf (lget [.int .i64 q0] 0, []))
def energy_check_lp {R : Type} (N : Nat) : Lp R := fun body S k => Option.none
noncomputable def energy_check_go {R : Type} (N : Nat) (args : List SV) (T : Tab) (kf : SV × Tab → Option R) : Option R :=
  energy_check N (Cod.dec api_BandC (lget (toCs (lget args 0)))) (toI (lget args 1)) (toI (lget args 2)) (fun q0 => kf (lget [.int .i64 q0] 0, []))
noncomputable def energy_check_cal {R : Type} (N : Nat) : Cal R := callM (slices_Contains___int_int__cal N) 45 0 energy_check_sp (energy_check_go N)
theorem energy_check_cal_ok {R : Type} (N : Nat) : CalOk E.P (energy_check_cal (R := R) N) :=
  callM_ok hE (slices_Contains___int_int__cal_ok N) (lp := energy_check_lp N) (jn := noJn) (keys := []) kNil (by kernel_rfl) (js := []) jNil (by kernel_rfl) energy_check_sp_ok energy_check_rs_ok (fun args T kf => Eq.trans (energy_check_def N (Cod.dec api_BandC (lget (toCs (lget args 0)))) (toI (lget args 1)) (toI (lget args 2)) (fun q0 => kf (lget [.int .i64 q0] 0, []))) (by kernel_rfl : energy_check_run N args T kf = fnM E (slices_Contains___int_int__cal N) (energy_check_lp N) (noJn) 45 (energy_check_sp.vs args) (energy_check_sp.tab T) 0 (resK energy_check_rs kf)))


def energy_load_m {R : Type} (N : Nat) (a90 : api_Band) (a91 : Int) (a92 : Int) (k : Int → Option R) : Option R :=
  bif a92 == (0 : Int) then
   Option.none
  else
   k (w64 (w64 (Int.tdiv (w64 (w64 (w64 (a91 * api_Band.Ride a90) + a92) - (1 : Int))) a92) * api_Band.Body a90))
noncomputable def energy_load {R : Type} : Nat → api_Band → Int → Int → (Int → Option R) → Option R := lock (@energy_load_m R)
theorem energy_load_def {R : Type} (N : Nat) (a90 : api_Band) (a91 : Int) (a92 : Int) (k : Int → Option R) : energy_load N a90 a91 a92 k = energy_load_m N a90 a91 a92 k := by unfold energy_load; rw [lock_eq]
def energy_load_sp : Sp := ⟨[rAgg api_BandC, rInt .i64, rInt .i64], []⟩
theorem energy_load_sp_ok : energy_load_sp.Ok := ⟨(allCons (rAgg_ok api_BandC_ok api_BandC_len) (allCons (rInt_ok .i64) (allCons (rInt_ok .i64) allNil))), eNil⟩
def energy_load_rs : Sp := ⟨[rInt .i64], []⟩
theorem energy_load_rs_ok : energy_load_rs.Ok := ⟨(allCons (rInt_ok .i64) allNil), eNil⟩
def energy_load_run {R : Type} (N : Nat) (args : List SV) (T : Tab) (kf : SV × Tab → Option R) : Option R :=
  energy_load_m N (Cod.dec api_BandC (lget (toCs (lget args 0)))) (toI (lget args 1)) (toI (lget args 2)) (fun q0 => kf (lget [.int .i64 q0] 0, []))
def energy_load_lp {R : Type} (N : Nat) : Lp R := fun body S k => Option.none
noncomputable def energy_load_go {R : Type} (N : Nat) (args : List SV) (T : Tab) (kf : SV × Tab → Option R) : Option R :=
  energy_load N (Cod.dec api_BandC (lget (toCs (lget args 0)))) (toI (lget args 1)) (toI (lget args 2)) (fun q0 => kf (lget [.int .i64 q0] 0, []))
noncomputable def energy_load_cal {R : Type} (N : Nat) : Cal R := callM (energy_check_cal N) 47 0 energy_load_sp (energy_load_go N)
theorem energy_load_cal_ok {R : Type} (N : Nat) : CalOk E.P (energy_load_cal (R := R) N) :=
  callM_ok hE (energy_check_cal_ok N) (lp := energy_load_lp N) (jn := noJn) (keys := []) kNil (by kernel_rfl) (js := []) jNil (by kernel_rfl) energy_load_sp_ok energy_load_rs_ok (fun args T kf => Eq.trans (energy_load_def N (Cod.dec api_BandC (lget (toCs (lget args 0)))) (toI (lget args 1)) (toI (lget args 2)) (fun q0 => kf (lget [.int .i64 q0] 0, []))) (by kernel_rfl : energy_load_run N args T kf = fnM E (energy_check_cal N) (energy_load_lp N) (noJn) 47 (energy_load_sp.vs args) (energy_load_sp.tab T) 0 (resK energy_load_rs kf)))


def energy_power_m {R : Type} (N : Nat) (a87 : api_Band) (a88 : Int) (a89 : Int) (k : Int → Option R) : Option R :=
  energy_load N a87 a88 a89 (fun r93 =>
  bif api_Band.Up a87 then
   k (w64 (w64 (w64 (api_Band.Pull a87 * r93) + api_Band.Drag a87) * a89))
  else
   bif decide (w64 (api_Band.Drag a87 - w64 (api_Band.Pull a87 * r93)) ≥ (0 : Int)) then
    k (w64 (w64 (api_Band.Drag a87 - w64 (api_Band.Pull a87 * r93)) * a89))
   else
    bif api_Band.Den a87 == (0 : Int) then
     Option.none
    else
     k (w64 ((0 : Int) - w64 (Int.tdiv (w64 (w64 (w64 (w64 (api_Band.Pull a87 * r93) - api_Band.Drag a87) * a89) * api_Band.Num a87)) (api_Band.Den a87)))))
noncomputable def energy_power {R : Type} : Nat → api_Band → Int → Int → (Int → Option R) → Option R := lock (@energy_power_m R)
theorem energy_power_def {R : Type} (N : Nat) (a87 : api_Band) (a88 : Int) (a89 : Int) (k : Int → Option R) : energy_power N a87 a88 a89 k = energy_power_m N a87 a88 a89 k := by unfold energy_power; rw [lock_eq]
def energy_power_sp : Sp := ⟨[rAgg api_BandC, rInt .i64, rInt .i64], []⟩
theorem energy_power_sp_ok : energy_power_sp.Ok := ⟨(allCons (rAgg_ok api_BandC_ok api_BandC_len) (allCons (rInt_ok .i64) (allCons (rInt_ok .i64) allNil))), eNil⟩
def energy_power_rs : Sp := ⟨[rInt .i64], []⟩
theorem energy_power_rs_ok : energy_power_rs.Ok := ⟨(allCons (rInt_ok .i64) allNil), eNil⟩
def energy_power_run {R : Type} (N : Nat) (args : List SV) (T : Tab) (kf : SV × Tab → Option R) : Option R :=
  energy_power_m N (Cod.dec api_BandC (lget (toCs (lget args 0)))) (toI (lget args 1)) (toI (lget args 2)) (fun q0 => kf (lget [.int .i64 q0] 0, []))
def energy_power_lp {R : Type} (N : Nat) : Lp R := fun body S k => Option.none
noncomputable def energy_power_go {R : Type} (N : Nat) (args : List SV) (T : Tab) (kf : SV × Tab → Option R) : Option R :=
  energy_power N (Cod.dec api_BandC (lget (toCs (lget args 0)))) (toI (lget args 1)) (toI (lget args 2)) (fun q0 => kf (lget [.int .i64 q0] 0, []))
noncomputable def energy_power_cal {R : Type} (N : Nat) : Cal R := callM (energy_load_cal N) 46 0 energy_power_sp (energy_power_go N)
theorem energy_power_cal_ok {R : Type} (N : Nat) : CalOk E.P (energy_power_cal (R := R) N) :=
  callM_ok hE (energy_load_cal_ok N) (lp := energy_power_lp N) (jn := noJn) (keys := []) kNil (by kernel_rfl) (js := []) jNil (by kernel_rfl) energy_power_sp_ok energy_power_rs_ok (fun args T kf => Eq.trans (energy_power_def N (Cod.dec api_BandC (lget (toCs (lget args 0)))) (toI (lget args 1)) (toI (lget args 2)) (fun q0 => kf (lget [.int .i64 q0] 0, []))) (by kernel_rfl : energy_power_run N args T kf = fnM E (energy_load_cal N) (energy_power_lp N) (noJn) 46 (energy_power_sp.vs args) (energy_power_sp.tab T) 0 (resK energy_power_rs kf)))


def energy_Power_m {R : Type} (N : Nat) (a67 : api_Band) (a68 : Int) (a69 : Int) (k : Int → Int → Option R) : Option R :=
  energy_check N a67 a68 a69 (fun r86 =>
  bif r86 != (0 : Int) then
   k (0 : Int) r86
  else
   energy_power N a67 a68 a69 (fun r94 =>
   k r94 (0 : Int)))
noncomputable def energy_Power {R : Type} : Nat → api_Band → Int → Int → (Int → Int → Option R) → Option R := lock (@energy_Power_m R)
theorem energy_Power_def {R : Type} (N : Nat) (a67 : api_Band) (a68 : Int) (a69 : Int) (k : Int → Int → Option R) : energy_Power N a67 a68 a69 k = energy_Power_m N a67 a68 a69 k := by unfold energy_Power; rw [lock_eq]
def energy_Power_sp : Sp := ⟨[rAgg api_BandC, rInt .i64, rInt .i64], []⟩
theorem energy_Power_sp_ok : energy_Power_sp.Ok := ⟨(allCons (rAgg_ok api_BandC_ok api_BandC_len) (allCons (rInt_ok .i64) (allCons (rInt_ok .i64) allNil))), eNil⟩
def energy_Power_rs : Sp := ⟨[rTup [rInt .i64, rInt .i64]], []⟩
theorem energy_Power_rs_ok : energy_Power_rs.Ok := ⟨(allCons (rTup_ok (allCons (rInt_ok .i64) (allCons (rInt_ok .i64) allNil))) allNil), eNil⟩
def energy_Power_run {R : Type} (N : Nat) (args : List SV) (T : Tab) (kf : SV × Tab → Option R) : Option R :=
  energy_Power_m N (Cod.dec api_BandC (lget (toCs (lget args 0)))) (toI (lget args 1)) (toI (lget args 2)) (fun q0 q1 => kf (lget [.tup [.int .i64 q0, .int .i64 q1]] 0, []))
def energy_Power_lp {R : Type} (N : Nat) : Lp R := fun body S k => Option.none
noncomputable def energy_Power_go {R : Type} (N : Nat) (args : List SV) (T : Tab) (kf : SV × Tab → Option R) : Option R :=
  energy_Power N (Cod.dec api_BandC (lget (toCs (lget args 0)))) (toI (lget args 1)) (toI (lget args 2)) (fun q0 q1 => kf (lget [.tup [.int .i64 q0, .int .i64 q1]] 0, []))
noncomputable def energy_Power_cal {R : Type} (N : Nat) : Cal R := callM (energy_power_cal N) 20 0 energy_Power_sp (energy_Power_go N)
theorem energy_Power_cal_ok {R : Type} (N : Nat) : CalOk E.P (energy_Power_cal (R := R) N) :=
  callM_ok hE (energy_power_cal_ok N) (lp := energy_Power_lp N) (jn := noJn) (keys := []) kNil (by kernel_rfl) (js := []) jNil (by kernel_rfl) energy_Power_sp_ok energy_Power_rs_ok (fun args T kf => Eq.trans (energy_Power_def N (Cod.dec api_BandC (lget (toCs (lget args 0)))) (toI (lget args 1)) (toI (lget args 2)) (fun q0 q1 => kf (lget [.tup [.int .i64 q0, .int .i64 q1]] 0, []))) (by kernel_rfl : energy_Power_run N args T kf = fnM E (energy_power_cal N) (energy_Power_lp N) (noJn) 20 (energy_Power_sp.vs args) (energy_Power_sp.tab T) 0 (resK energy_Power_rs kf)))


def energy_Load_m {R : Type} (N : Nat) (a95 : api_Band) (a96 : Int) (a97 : Int) (k : Int → Int → Option R) : Option R :=
  energy_check N a95 a96 a97 (fun r98 =>
  bif r98 != (0 : Int) then
   k (0 : Int) r98
  else
   energy_load N a95 a96 a97 (fun r99 =>
   k r99 (0 : Int)))
noncomputable def energy_Load {R : Type} : Nat → api_Band → Int → Int → (Int → Int → Option R) → Option R := lock (@energy_Load_m R)
theorem energy_Load_def {R : Type} (N : Nat) (a95 : api_Band) (a96 : Int) (a97 : Int) (k : Int → Int → Option R) : energy_Load N a95 a96 a97 k = energy_Load_m N a95 a96 a97 k := by unfold energy_Load; rw [lock_eq]
def energy_Load_sp : Sp := ⟨[rAgg api_BandC, rInt .i64, rInt .i64], []⟩
theorem energy_Load_sp_ok : energy_Load_sp.Ok := ⟨(allCons (rAgg_ok api_BandC_ok api_BandC_len) (allCons (rInt_ok .i64) (allCons (rInt_ok .i64) allNil))), eNil⟩
def energy_Load_rs : Sp := ⟨[rTup [rInt .i64, rInt .i64]], []⟩
theorem energy_Load_rs_ok : energy_Load_rs.Ok := ⟨(allCons (rTup_ok (allCons (rInt_ok .i64) (allCons (rInt_ok .i64) allNil))) allNil), eNil⟩
def energy_Load_run {R : Type} (N : Nat) (args : List SV) (T : Tab) (kf : SV × Tab → Option R) : Option R :=
  energy_Load_m N (Cod.dec api_BandC (lget (toCs (lget args 0)))) (toI (lget args 1)) (toI (lget args 2)) (fun q0 q1 => kf (lget [.tup [.int .i64 q0, .int .i64 q1]] 0, []))
def energy_Load_lp {R : Type} (N : Nat) : Lp R := fun body S k => Option.none
noncomputable def energy_Load_go {R : Type} (N : Nat) (args : List SV) (T : Tab) (kf : SV × Tab → Option R) : Option R :=
  energy_Load N (Cod.dec api_BandC (lget (toCs (lget args 0)))) (toI (lget args 1)) (toI (lget args 2)) (fun q0 q1 => kf (lget [.tup [.int .i64 q0, .int .i64 q1]] 0, []))
noncomputable def energy_Load_cal {R : Type} (N : Nat) : Cal R := callM (energy_Power_cal N) 21 0 energy_Load_sp (energy_Load_go N)
theorem energy_Load_cal_ok {R : Type} (N : Nat) : CalOk E.P (energy_Load_cal (R := R) N) :=
  callM_ok hE (energy_Power_cal_ok N) (lp := energy_Load_lp N) (jn := noJn) (keys := []) kNil (by kernel_rfl) (js := []) jNil (by kernel_rfl) energy_Load_sp_ok energy_Load_rs_ok (fun args T kf => Eq.trans (energy_Load_def N (Cod.dec api_BandC (lget (toCs (lget args 0)))) (toI (lget args 1)) (toI (lget args 2)) (fun q0 q1 => kf (lget [.tup [.int .i64 q0, .int .i64 q1]] 0, []))) (by kernel_rfl : energy_Load_run N args T kf = fnM E (energy_Power_cal N) (energy_Load_lp N) (noJn) 21 (energy_Load_sp.vs args) (energy_Load_sp.tab T) 0 (resK energy_Load_rs kf)))


def energy_serves_m {R : Type} (N : Nat) (a109 : api_Band) (a110 : Int) (a111 : Int) (k : Bool → Option R) : Option R :=
  energy_load N a109 a110 a111 (fun r112 =>
  k (decide (r112 ≤ api_Band.Most a109)))
noncomputable def energy_serves {R : Type} : Nat → api_Band → Int → Int → (Bool → Option R) → Option R := lock (@energy_serves_m R)
theorem energy_serves_def {R : Type} (N : Nat) (a109 : api_Band) (a110 : Int) (a111 : Int) (k : Bool → Option R) : energy_serves N a109 a110 a111 k = energy_serves_m N a109 a110 a111 k := by unfold energy_serves; rw [lock_eq]
def energy_serves_sp : Sp := ⟨[rAgg api_BandC, rInt .i64, rInt .i64], []⟩
theorem energy_serves_sp_ok : energy_serves_sp.Ok := ⟨(allCons (rAgg_ok api_BandC_ok api_BandC_len) (allCons (rInt_ok .i64) (allCons (rInt_ok .i64) allNil))), eNil⟩
def energy_serves_rs : Sp := ⟨[rBool], []⟩
theorem energy_serves_rs_ok : energy_serves_rs.Ok := ⟨(allCons rBool_ok allNil), eNil⟩
def energy_serves_run {R : Type} (N : Nat) (args : List SV) (T : Tab) (kf : SV × Tab → Option R) : Option R :=
  energy_serves_m N (Cod.dec api_BandC (lget (toCs (lget args 0)))) (toI (lget args 1)) (toI (lget args 2)) (fun q0 => kf (lget [.bool q0] 0, []))
def energy_serves_lp {R : Type} (N : Nat) : Lp R := fun body S k => Option.none
noncomputable def energy_serves_go {R : Type} (N : Nat) (args : List SV) (T : Tab) (kf : SV × Tab → Option R) : Option R :=
  energy_serves N (Cod.dec api_BandC (lget (toCs (lget args 0)))) (toI (lget args 1)) (toI (lget args 2)) (fun q0 => kf (lget [.bool q0] 0, []))
noncomputable def energy_serves_cal {R : Type} (N : Nat) : Cal R := callM (energy_Load_cal N) 49 0 energy_serves_sp (energy_serves_go N)
theorem energy_serves_cal_ok {R : Type} (N : Nat) : CalOk E.P (energy_serves_cal (R := R) N) :=
  callM_ok hE (energy_Load_cal_ok N) (lp := energy_serves_lp N) (jn := noJn) (keys := []) kNil (by kernel_rfl) (js := []) jNil (by kernel_rfl) energy_serves_sp_ok energy_serves_rs_ok (fun args T kf => Eq.trans (energy_serves_def N (Cod.dec api_BandC (lget (toCs (lget args 0)))) (toI (lget args 1)) (toI (lget args 2)) (fun q0 => kf (lget [.bool q0] 0, []))) (by kernel_rfl : energy_serves_run N args T kf = fnM E (energy_Load_cal N) (energy_serves_lp N) (noJn) 49 (energy_serves_sp.vs args) (energy_serves_sp.tab T) 0 (resK energy_serves_rs kf)))

def energy_Slow_L7 : LoopSp := ⟨⟨[1, 2, 18, 19, 20], ⟨(dr 1 ((rInt .i64) :: (rPtr 0 0) :: (dr 15 ((rSl intC) :: (rInt .i64) :: (rInt .i64) :: (dr 9 []))))), [(0, eBlkC api_BandC)]⟩, 1⟩, [(Option.none, ⟨[4, 5], ⟨(dr 4 ((rInt .i64) :: (rInt .i64) :: (dr 24 []))), []⟩, 0⟩), (some 0, ⟨[], ⟨(dr 30 []), []⟩, 0⟩)]⟩
theorem energy_Slow_L7_ok : energy_Slow_L7.Ok := ⟨⟨(drCons 1 (allCons (rInt_ok .i64) (allCons (rPtr_ok 0 0) (drCons 15 (allCons (rSl_ok intC_ok) (allCons (rInt_ok .i64) (allCons (rInt_ok .i64) (drCons 9 allNil)))))))), (eCons (eBlkC_ok api_BandC_ok api_BandC_len) eNil)⟩, (xCons ⟨(drCons 4 (allCons (rInt_ok .i64) (allCons (rInt_ok .i64) (drCons 24 allNil)))), eNil⟩ (xCons ⟨(drCons 30 allNil), eNil⟩ xNil))⟩
def energy_Slow_h7 (v104 : Int) (v105 : Arr Int) (v106 : Int) (v107 : Int) (v108 : api_Band) : St := ⟨(un 1 ((.int .i64 v104) :: (.ptr 0 0) :: (un 15 ((slC intC v105) :: (.int .i64 v106) :: (.int .i64 v107) :: (un 9 []))))), [(0, .blk (Cod.enc api_BandC v108))], 1⟩
def energy_Slow_x7_r (q0 : Int) (q1 : Int) : St := ⟨(un 4 ((.int .i64 q0) :: (.int .i64 q1) :: (un 24 []))), [], 0⟩
def energy_Slow_x7_0  : St := ⟨(un 30 []), [], 0⟩
def energy_Slow_b7 {R : Type} (N : Nat) (rc : Int → Arr Int → Int → Int → api_Band → Option R) (v104 : Int) (v105 : Arr Int) (v106 : Int) (v107 : Int) (v108 : api_Band) (kr : Int → Int → Option R) (k0 : Unit → Option R) : Option R :=
  bif decide (v107 < v106) then
   bif decide ((0 : Int) ≤ v107) && decide (v107 < (↑(Arr.n v105) : Int)) then
    energy_serves N v108 v104 (Arr.f v105 (Int.toNat v107)) (fun r113 =>
    bif r113 then
     kr (Arr.f v105 (Int.toNat v107)) (0 : Int)
    else
     rc v104 v105 v106 (w64 (v107 + (1 : Int))) v108)
   else
    Option.none
  else
   k0 ()
def energy_Slow_l7 {R : Type} (N : Nat) : Nat → Int → Arr Int → Int → Int → api_Band → (Int → Int → Option R) → (Unit → Option R) → Option R
  | 0, _, _, _, _, _, _, _ => Option.none
  | n + 1, v104, v105, v106, v107, v108, kr, k0 => energy_Slow_b7 N (fun v104 v105 v106 v107 v108 => energy_Slow_l7 N n v104 v105 v106 v107 v108 kr k0) v104 v105 v106 v107 v108 kr k0


def energy_Slow_m {R : Type} (N : Nat) (a100 : api_Band) (a101 : Int) (k : Int → Int → Option R) : Option R :=
  energy_Check N a100 (fun r102 =>
  bif r102 != (0 : Int) then
   k (0 : Int) r102
  else
   energy_from0 N a101 (100 : Int) (fun r103 =>
   bif !r103 then
    k (0 : Int) (1 : Int)
   else
    energy_Slow_l7 N N a101 (api_Band.Paces a100) ((↑(Arr.n (api_Band.Paces a100)) : Int)) (0 : Int) a100 (fun r114 r115 =>
     k r114 r115) (fun (_ : Unit) =>
     k (0 : Int) (3 : Int))))
noncomputable def energy_Slow {R : Type} : Nat → api_Band → Int → (Int → Int → Option R) → Option R := lock (@energy_Slow_m R)
theorem energy_Slow_def {R : Type} (N : Nat) (a100 : api_Band) (a101 : Int) (k : Int → Int → Option R) : energy_Slow N a100 a101 k = energy_Slow_m N a100 a101 k := by unfold energy_Slow; rw [lock_eq]
def energy_Slow_sp : Sp := ⟨[rAgg api_BandC, rInt .i64], []⟩
theorem energy_Slow_sp_ok : energy_Slow_sp.Ok := ⟨(allCons (rAgg_ok api_BandC_ok api_BandC_len) (allCons (rInt_ok .i64) allNil)), eNil⟩
def energy_Slow_rs : Sp := ⟨[rTup [rInt .i64, rInt .i64]], []⟩
theorem energy_Slow_rs_ok : energy_Slow_rs.Ok := ⟨(allCons (rTup_ok (allCons (rInt_ok .i64) (allCons (rInt_ok .i64) allNil))) allNil), eNil⟩
def energy_Slow_run {R : Type} (N : Nat) (args : List SV) (T : Tab) (kf : SV × Tab → Option R) : Option R :=
  energy_Slow_m N (Cod.dec api_BandC (lget (toCs (lget args 0)))) (toI (lget args 1)) (fun q0 q1 => kf (lget [.tup [.int .i64 q0, .int .i64 q1]] 0, []))
def energy_Slow_d7 {R : Type} (N : Nat) (S0 : St) (k : Exit → St → Option R) : Option R :=
  energy_Slow_l7 N N (toI (lget S0.tmps 1)) (lstC intC (lget S0.tmps 18)) (toI (lget S0.tmps 19)) (toI (lget S0.tmps 20)) (Cod.dec api_BandC (lget (entCs (entAt S0.tab 0)))) (fun q0 q1 => k .ret (energy_Slow_x7_r q0 q1)) (fun (_ : Unit) => k (.exit 0) (energy_Slow_x7_0 ))
def energy_Slow_lp {R : Type} (N : Nat) : Lp R := fun body S k => bif (Go.Sx.keyOf body).getD 0 == 7 then energy_Slow_L7.head.raw 0 S (fun S0 => energy_Slow_d7 N S0 k) else Option.none
theorem energy_Slow_l7_eq {R : Type} (N : Nat) (k : Exit → St → Option R) (n : Nat) : ∀ (v0 : Int) (v1 : Arr Int) (v2 : Int) (v3 : Int) (v4 : api_Band), loopM E.Θ (energy_serves_cal N) (energy_Slow_lp N) (noJn) 0 energy_Slow_L7 (bodyAt E 22 7) n (energy_Slow_h7 v0 v1 v2 v3 v4) k = energy_Slow_l7 N n v0 v1 v2 v3 v4 (fun q0 q1 => k .ret (energy_Slow_x7_r q0 q1)) (fun (_ : Unit) => k (.exit 0) (energy_Slow_x7_0 )) := by
  induction n with
  | zero => intro v0 v1 v2 v3 v4; rfl
  | succ n ih =>
    intro v0 v1 v2 v3 v4
    refine Eq.trans (b := energy_Slow_b7 N (fun v0 v1 v2 v3 v4 => loopM E.Θ (energy_serves_cal N) (energy_Slow_lp N) (noJn) 0 energy_Slow_L7 (bodyAt E 22 7) n (energy_Slow_h7 v0 v1 v2 v3 v4) k) v0 v1 v2 v3 v4 (fun q0 q1 => k .ret (energy_Slow_x7_r q0 q1)) (fun (_ : Unit) => k (.exit 0) (energy_Slow_x7_0 ))) (by kernel_rfl) ?_
    have h : (fun (v0 : Int) (v1 : Arr Int) (v2 : Int) (v3 : Int) (v4 : api_Band) => loopM E.Θ (energy_serves_cal N) (energy_Slow_lp N) (noJn) 0 energy_Slow_L7 (bodyAt E 22 7) n (energy_Slow_h7 v0 v1 v2 v3 v4) k) = (fun (v0 : Int) (v1 : Arr Int) (v2 : Int) (v3 : Int) (v4 : api_Band) => energy_Slow_l7 N n v0 v1 v2 v3 v4 (fun q0 q1 => k .ret (energy_Slow_x7_r q0 q1)) (fun (_ : Unit) => k (.exit 0) (energy_Slow_x7_0 ))) := funext fun v0 => funext fun v1 => funext fun v2 => funext fun v3 => funext fun v4 => ih v0 v1 v2 v3 v4
    rw [h]
    rfl
theorem energy_Slow_k7 {R : Type} (N : Nat) : LpKey (R := R) E 22 0 (energy_Slow_lp N) 7 :=
  lpKey_of hE (energy_serves_cal_ok N) (jn := noJn) energy_Slow_L7_ok [] kNil (by kernel_rfl) [] jNil (by kernel_rfl) N fun S k =>
    Eq.trans (b := energy_Slow_L7.head.raw 0 S (fun S0 => energy_Slow_d7 N S0 k)) (by kernel_rfl) (congrArg (energy_Slow_L7.head.raw 0 S) (funext fun S0 => Eq.trans (energy_Slow_l7_eq N k N (toI (lget S0.tmps 1)) (lstC intC (lget S0.tmps 18)) (toI (lget S0.tmps 19)) (toI (lget S0.tmps 20)) (Cod.dec api_BandC (lget (entCs (entAt S0.tab 0))))).symm (by kernel_rfl)))
noncomputable def energy_Slow_go {R : Type} (N : Nat) (args : List SV) (T : Tab) (kf : SV × Tab → Option R) : Option R :=
  energy_Slow N (Cod.dec api_BandC (lget (toCs (lget args 0)))) (toI (lget args 1)) (fun q0 q1 => kf (lget [.tup [.int .i64 q0, .int .i64 q1]] 0, []))
noncomputable def energy_Slow_cal {R : Type} (N : Nat) : Cal R := callM (energy_serves_cal N) 22 0 energy_Slow_sp (energy_Slow_go N)
theorem energy_Slow_cal_ok {R : Type} (N : Nat) : CalOk E.P (energy_Slow_cal (R := R) N) :=
  callM_ok hE (energy_serves_cal_ok N) (lp := energy_Slow_lp N) (jn := noJn) (keys := [7]) (kCons (energy_Slow_k7 N) kNil) (by kernel_rfl) (js := []) jNil (by kernel_rfl) energy_Slow_sp_ok energy_Slow_rs_ok (fun args T kf => Eq.trans (energy_Slow_def N (Cod.dec api_BandC (lget (toCs (lget args 0)))) (toI (lget args 1)) (fun q0 q1 => kf (lget [.tup [.int .i64 q0, .int .i64 q1]] 0, []))) (by kernel_rfl : energy_Slow_run N args T kf = fnM E (energy_serves_cal N) (energy_Slow_lp N) (noJn) 22 (energy_Slow_sp.vs args) (energy_Slow_sp.tab T) 0 (resK energy_Slow_rs kf)))


def newelref11_asked_m {R : Type} (N : Nat) (a119 : api_Band) (a120 : Int) (a121 : Int) (k : Int → Option R) : Option R :=
  newelref11_Check N a119 (fun r122 =>
  bif r122 != (0 : Int) then
   k (110 : Int)
  else
   newelref11_Pace N a119 a121 (fun r123 =>
   bif !r123 then
    k (112 : Int)
   else
    newelref11_within N a120 (0 : Int) (100 : Int) (fun r124 =>
    bif !r124 then
     k (1 : Int)
    else
     k (0 : Int))))
noncomputable def newelref11_asked {R : Type} : Nat → api_Band → Int → Int → (Int → Option R) → Option R := lock (@newelref11_asked_m R)
theorem newelref11_asked_def {R : Type} (N : Nat) (a119 : api_Band) (a120 : Int) (a121 : Int) (k : Int → Option R) : newelref11_asked N a119 a120 a121 k = newelref11_asked_m N a119 a120 a121 k := by unfold newelref11_asked; rw [lock_eq]
def newelref11_asked_sp : Sp := ⟨[rAgg api_BandC, rInt .i64, rInt .i64], []⟩
theorem newelref11_asked_sp_ok : newelref11_asked_sp.Ok := ⟨(allCons (rAgg_ok api_BandC_ok api_BandC_len) (allCons (rInt_ok .i64) (allCons (rInt_ok .i64) allNil))), eNil⟩
def newelref11_asked_rs : Sp := ⟨[rInt .i64], []⟩
theorem newelref11_asked_rs_ok : newelref11_asked_rs.Ok := ⟨(allCons (rInt_ok .i64) allNil), eNil⟩
def newelref11_asked_run {R : Type} (N : Nat) (args : List SV) (T : Tab) (kf : SV × Tab → Option R) : Option R :=
  newelref11_asked_m N (Cod.dec api_BandC (lget (toCs (lget args 0)))) (toI (lget args 1)) (toI (lget args 2)) (fun q0 => kf (lget [.int .i64 q0] 0, []))
def newelref11_asked_lp {R : Type} (N : Nat) : Lp R := fun body S k => Option.none
noncomputable def newelref11_asked_go {R : Type} (N : Nat) (args : List SV) (T : Tab) (kf : SV × Tab → Option R) : Option R :=
  newelref11_asked N (Cod.dec api_BandC (lget (toCs (lget args 0)))) (toI (lget args 1)) (toI (lget args 2)) (fun q0 => kf (lget [.int .i64 q0] 0, []))
noncomputable def newelref11_asked_cal {R : Type} (N : Nat) : Cal R := callM (energy_Slow_cal N) 50 0 newelref11_asked_sp (newelref11_asked_go N)
theorem newelref11_asked_cal_ok {R : Type} (N : Nat) : CalOk E.P (newelref11_asked_cal (R := R) N) :=
  callM_ok hE (energy_Slow_cal_ok N) (lp := newelref11_asked_lp N) (jn := noJn) (keys := []) kNil (by kernel_rfl) (js := []) jNil (by kernel_rfl) newelref11_asked_sp_ok newelref11_asked_rs_ok (fun args T kf => Eq.trans (newelref11_asked_def N (Cod.dec api_BandC (lget (toCs (lget args 0)))) (toI (lget args 1)) (toI (lget args 2)) (fun q0 => kf (lget [.int .i64 q0] 0, []))) (by kernel_rfl : newelref11_asked_run N args T kf = fnM E (energy_Slow_cal N) (newelref11_asked_lp N) (noJn) 50 (newelref11_asked_sp.vs args) (newelref11_asked_sp.tab T) 0 (resK newelref11_asked_rs kf)))


def newelref11_load_m {R : Type} (N : Nat) (a126 : api_Band) (a127 : Int) (a128 : Int) (k : Int → Option R) : Option R :=
  bif a128 == (0 : Int) then
   Option.none
  else
   k (w64 (api_Band.Body a126 * w64 (Int.tdiv (w64 (w64 (w64 (a127 * api_Band.Ride a126) + a128) - (1 : Int))) a128)))
noncomputable def newelref11_load {R : Type} : Nat → api_Band → Int → Int → (Int → Option R) → Option R := lock (@newelref11_load_m R)
theorem newelref11_load_def {R : Type} (N : Nat) (a126 : api_Band) (a127 : Int) (a128 : Int) (k : Int → Option R) : newelref11_load N a126 a127 a128 k = newelref11_load_m N a126 a127 a128 k := by unfold newelref11_load; rw [lock_eq]
def newelref11_load_sp : Sp := ⟨[rAgg api_BandC, rInt .i64, rInt .i64], []⟩
theorem newelref11_load_sp_ok : newelref11_load_sp.Ok := ⟨(allCons (rAgg_ok api_BandC_ok api_BandC_len) (allCons (rInt_ok .i64) (allCons (rInt_ok .i64) allNil))), eNil⟩
def newelref11_load_rs : Sp := ⟨[rInt .i64], []⟩
theorem newelref11_load_rs_ok : newelref11_load_rs.Ok := ⟨(allCons (rInt_ok .i64) allNil), eNil⟩
def newelref11_load_run {R : Type} (N : Nat) (args : List SV) (T : Tab) (kf : SV × Tab → Option R) : Option R :=
  newelref11_load_m N (Cod.dec api_BandC (lget (toCs (lget args 0)))) (toI (lget args 1)) (toI (lget args 2)) (fun q0 => kf (lget [.int .i64 q0] 0, []))
def newelref11_load_lp {R : Type} (N : Nat) : Lp R := fun body S k => Option.none
noncomputable def newelref11_load_go {R : Type} (N : Nat) (args : List SV) (T : Tab) (kf : SV × Tab → Option R) : Option R :=
  newelref11_load N (Cod.dec api_BandC (lget (toCs (lget args 0)))) (toI (lget args 1)) (toI (lget args 2)) (fun q0 => kf (lget [.int .i64 q0] 0, []))
noncomputable def newelref11_load_cal {R : Type} (N : Nat) : Cal R := callM (newelref11_asked_cal N) 51 0 newelref11_load_sp (newelref11_load_go N)
theorem newelref11_load_cal_ok {R : Type} (N : Nat) : CalOk E.P (newelref11_load_cal (R := R) N) :=
  callM_ok hE (newelref11_asked_cal_ok N) (lp := newelref11_load_lp N) (jn := noJn) (keys := []) kNil (by kernel_rfl) (js := []) jNil (by kernel_rfl) newelref11_load_sp_ok newelref11_load_rs_ok (fun args T kf => Eq.trans (newelref11_load_def N (Cod.dec api_BandC (lget (toCs (lget args 0)))) (toI (lget args 1)) (toI (lget args 2)) (fun q0 => kf (lget [.int .i64 q0] 0, []))) (by kernel_rfl : newelref11_load_run N args T kf = fnM E (newelref11_asked_cal N) (newelref11_load_lp N) (noJn) 51 (newelref11_load_sp.vs args) (newelref11_load_sp.tab T) 0 (resK newelref11_load_rs kf)))


def newelref11_Load_m {R : Type} (N : Nat) (a116 : api_Band) (a117 : Int) (a118 : Int) (k : Int → Int → Option R) : Option R :=
  newelref11_asked N a116 a117 a118 (fun r125 =>
  bif r125 != (0 : Int) then
   k (0 : Int) r125
  else
   newelref11_load N a116 a117 a118 (fun r129 =>
   k r129 (0 : Int)))
noncomputable def newelref11_Load {R : Type} : Nat → api_Band → Int → Int → (Int → Int → Option R) → Option R := lock (@newelref11_Load_m R)
theorem newelref11_Load_def {R : Type} (N : Nat) (a116 : api_Band) (a117 : Int) (a118 : Int) (k : Int → Int → Option R) : newelref11_Load N a116 a117 a118 k = newelref11_Load_m N a116 a117 a118 k := by unfold newelref11_Load; rw [lock_eq]
def newelref11_Load_sp : Sp := ⟨[rAgg api_BandC, rInt .i64, rInt .i64], []⟩
theorem newelref11_Load_sp_ok : newelref11_Load_sp.Ok := ⟨(allCons (rAgg_ok api_BandC_ok api_BandC_len) (allCons (rInt_ok .i64) (allCons (rInt_ok .i64) allNil))), eNil⟩
def newelref11_Load_rs : Sp := ⟨[rTup [rInt .i64, rInt .i64]], []⟩
theorem newelref11_Load_rs_ok : newelref11_Load_rs.Ok := ⟨(allCons (rTup_ok (allCons (rInt_ok .i64) (allCons (rInt_ok .i64) allNil))) allNil), eNil⟩
def newelref11_Load_run {R : Type} (N : Nat) (args : List SV) (T : Tab) (kf : SV × Tab → Option R) : Option R :=
  newelref11_Load_m N (Cod.dec api_BandC (lget (toCs (lget args 0)))) (toI (lget args 1)) (toI (lget args 2)) (fun q0 q1 => kf (lget [.tup [.int .i64 q0, .int .i64 q1]] 0, []))
def newelref11_Load_lp {R : Type} (N : Nat) : Lp R := fun body S k => Option.none
noncomputable def newelref11_Load_go {R : Type} (N : Nat) (args : List SV) (T : Tab) (kf : SV × Tab → Option R) : Option R :=
  newelref11_Load N (Cod.dec api_BandC (lget (toCs (lget args 0)))) (toI (lget args 1)) (toI (lget args 2)) (fun q0 q1 => kf (lget [.tup [.int .i64 q0, .int .i64 q1]] 0, []))
noncomputable def newelref11_Load_cal {R : Type} (N : Nat) : Cal R := callM (newelref11_load_cal N) 23 0 newelref11_Load_sp (newelref11_Load_go N)
theorem newelref11_Load_cal_ok {R : Type} (N : Nat) : CalOk E.P (newelref11_Load_cal (R := R) N) :=
  callM_ok hE (newelref11_load_cal_ok N) (lp := newelref11_Load_lp N) (jn := noJn) (keys := []) kNil (by kernel_rfl) (js := []) jNil (by kernel_rfl) newelref11_Load_sp_ok newelref11_Load_rs_ok (fun args T kf => Eq.trans (newelref11_Load_def N (Cod.dec api_BandC (lget (toCs (lget args 0)))) (toI (lget args 1)) (toI (lget args 2)) (fun q0 q1 => kf (lget [.tup [.int .i64 q0, .int .i64 q1]] 0, []))) (by kernel_rfl : newelref11_Load_run N args T kf = fnM E (newelref11_load_cal N) (newelref11_Load_lp N) (noJn) 23 (newelref11_Load_sp.vs args) (newelref11_Load_sp.tab T) 0 (resK newelref11_Load_rs kf)))


def newelref11_power_m {R : Type} (N : Nat) (a134 : api_Band) (a135 : Int) (a136 : Int) (k : Int → Option R) : Option R :=
  newelref11_load N a134 a135 a136 (fun r137 =>
  bif api_Band.Up a134 then
   newelref11_load N a134 a135 a136 (fun r138 =>
   bif decide (w64 (api_Band.Drag a134 + w64 (api_Band.Pull a134 * r138)) ≥ (0 : Int)) then
    k (w64 (w64 (api_Band.Drag a134 + w64 (api_Band.Pull a134 * r138)) * a136))
   else
    bif api_Band.Den a134 == (0 : Int) then
     Option.none
    else
     k (w64 ((0 : Int) - w64 (Int.tdiv (w64 (w64 (w64 ((0 : Int) - w64 (api_Band.Drag a134 + w64 (api_Band.Pull a134 * r138))) * a136) * api_Band.Num a134)) (api_Band.Den a134)))))
  else
   bif decide (w64 (api_Band.Drag a134 - w64 (api_Band.Pull a134 * r137)) ≥ (0 : Int)) then
    k (w64 (w64 (api_Band.Drag a134 - w64 (api_Band.Pull a134 * r137)) * a136))
   else
    bif api_Band.Den a134 == (0 : Int) then
     Option.none
    else
     k (w64 ((0 : Int) - w64 (Int.tdiv (w64 (w64 (w64 ((0 : Int) - w64 (api_Band.Drag a134 - w64 (api_Band.Pull a134 * r137))) * a136) * api_Band.Num a134)) (api_Band.Den a134)))))
noncomputable def newelref11_power {R : Type} : Nat → api_Band → Int → Int → (Int → Option R) → Option R := lock (@newelref11_power_m R)
theorem newelref11_power_def {R : Type} (N : Nat) (a134 : api_Band) (a135 : Int) (a136 : Int) (k : Int → Option R) : newelref11_power N a134 a135 a136 k = newelref11_power_m N a134 a135 a136 k := by unfold newelref11_power; rw [lock_eq]
def newelref11_power_sp : Sp := ⟨[rAgg api_BandC, rInt .i64, rInt .i64], []⟩
theorem newelref11_power_sp_ok : newelref11_power_sp.Ok := ⟨(allCons (rAgg_ok api_BandC_ok api_BandC_len) (allCons (rInt_ok .i64) (allCons (rInt_ok .i64) allNil))), eNil⟩
def newelref11_power_rs : Sp := ⟨[rInt .i64], []⟩
theorem newelref11_power_rs_ok : newelref11_power_rs.Ok := ⟨(allCons (rInt_ok .i64) allNil), eNil⟩
def newelref11_power_run {R : Type} (N : Nat) (args : List SV) (T : Tab) (kf : SV × Tab → Option R) : Option R :=
  newelref11_power_m N (Cod.dec api_BandC (lget (toCs (lget args 0)))) (toI (lget args 1)) (toI (lget args 2)) (fun q0 => kf (lget [.int .i64 q0] 0, []))
def newelref11_power_lp {R : Type} (N : Nat) : Lp R := fun body S k => Option.none
noncomputable def newelref11_power_go {R : Type} (N : Nat) (args : List SV) (T : Tab) (kf : SV × Tab → Option R) : Option R :=
  newelref11_power N (Cod.dec api_BandC (lget (toCs (lget args 0)))) (toI (lget args 1)) (toI (lget args 2)) (fun q0 => kf (lget [.int .i64 q0] 0, []))
noncomputable def newelref11_power_cal {R : Type} (N : Nat) : Cal R := callM (newelref11_Load_cal N) 52 0 newelref11_power_sp (newelref11_power_go N)
theorem newelref11_power_cal_ok {R : Type} (N : Nat) : CalOk E.P (newelref11_power_cal (R := R) N) :=
  callM_ok hE (newelref11_Load_cal_ok N) (lp := newelref11_power_lp N) (jn := noJn) (keys := []) kNil (by kernel_rfl) (js := []) jNil (by kernel_rfl) newelref11_power_sp_ok newelref11_power_rs_ok (fun args T kf => Eq.trans (newelref11_power_def N (Cod.dec api_BandC (lget (toCs (lget args 0)))) (toI (lget args 1)) (toI (lget args 2)) (fun q0 => kf (lget [.int .i64 q0] 0, []))) (by kernel_rfl : newelref11_power_run N args T kf = fnM E (newelref11_Load_cal N) (newelref11_power_lp N) (noJn) 52 (newelref11_power_sp.vs args) (newelref11_power_sp.tab T) 0 (resK newelref11_power_rs kf)))


def newelref11_Power_m {R : Type} (N : Nat) (a130 : api_Band) (a131 : Int) (a132 : Int) (k : Int → Int → Option R) : Option R :=
  newelref11_asked N a130 a131 a132 (fun r133 =>
  bif r133 != (0 : Int) then
   k (0 : Int) r133
  else
   newelref11_power N a130 a131 a132 (fun r139 =>
   k r139 (0 : Int)))
noncomputable def newelref11_Power {R : Type} : Nat → api_Band → Int → Int → (Int → Int → Option R) → Option R := lock (@newelref11_Power_m R)
theorem newelref11_Power_def {R : Type} (N : Nat) (a130 : api_Band) (a131 : Int) (a132 : Int) (k : Int → Int → Option R) : newelref11_Power N a130 a131 a132 k = newelref11_Power_m N a130 a131 a132 k := by unfold newelref11_Power; rw [lock_eq]
def newelref11_Power_sp : Sp := ⟨[rAgg api_BandC, rInt .i64, rInt .i64], []⟩
theorem newelref11_Power_sp_ok : newelref11_Power_sp.Ok := ⟨(allCons (rAgg_ok api_BandC_ok api_BandC_len) (allCons (rInt_ok .i64) (allCons (rInt_ok .i64) allNil))), eNil⟩
def newelref11_Power_rs : Sp := ⟨[rTup [rInt .i64, rInt .i64]], []⟩
theorem newelref11_Power_rs_ok : newelref11_Power_rs.Ok := ⟨(allCons (rTup_ok (allCons (rInt_ok .i64) (allCons (rInt_ok .i64) allNil))) allNil), eNil⟩
def newelref11_Power_run {R : Type} (N : Nat) (args : List SV) (T : Tab) (kf : SV × Tab → Option R) : Option R :=
  newelref11_Power_m N (Cod.dec api_BandC (lget (toCs (lget args 0)))) (toI (lget args 1)) (toI (lget args 2)) (fun q0 q1 => kf (lget [.tup [.int .i64 q0, .int .i64 q1]] 0, []))
def newelref11_Power_lp {R : Type} (N : Nat) : Lp R := fun body S k => Option.none
noncomputable def newelref11_Power_go {R : Type} (N : Nat) (args : List SV) (T : Tab) (kf : SV × Tab → Option R) : Option R :=
  newelref11_Power N (Cod.dec api_BandC (lget (toCs (lget args 0)))) (toI (lget args 1)) (toI (lget args 2)) (fun q0 q1 => kf (lget [.tup [.int .i64 q0, .int .i64 q1]] 0, []))
noncomputable def newelref11_Power_cal {R : Type} (N : Nat) : Cal R := callM (newelref11_power_cal N) 24 0 newelref11_Power_sp (newelref11_Power_go N)
theorem newelref11_Power_cal_ok {R : Type} (N : Nat) : CalOk E.P (newelref11_Power_cal (R := R) N) :=
  callM_ok hE (newelref11_power_cal_ok N) (lp := newelref11_Power_lp N) (jn := noJn) (keys := []) kNil (by kernel_rfl) (js := []) jNil (by kernel_rfl) newelref11_Power_sp_ok newelref11_Power_rs_ok (fun args T kf => Eq.trans (newelref11_Power_def N (Cod.dec api_BandC (lget (toCs (lget args 0)))) (toI (lget args 1)) (toI (lget args 2)) (fun q0 q1 => kf (lget [.tup [.int .i64 q0, .int .i64 q1]] 0, []))) (by kernel_rfl : newelref11_Power_run N args T kf = fnM E (newelref11_power_cal N) (newelref11_Power_lp N) (noJn) 24 (newelref11_Power_sp.vs args) (newelref11_Power_sp.tab T) 0 (resK newelref11_Power_rs kf)))

def newelref11_Slow_L6 : LoopSp := ⟨⟨[1, 2, 6], ⟨(dr 1 ((rInt .i64) :: (rPtr 0 0) :: (dr 3 ((rInt .i64) :: (dr 29 []))))), [(0, eBlkC api_BandC)]⟩, 1⟩, [(Option.none, ⟨[4, 5], ⟨(dr 4 ((rInt .i64) :: (rInt .i64) :: (dr 30 []))), []⟩, 0⟩), (some 0, ⟨[], ⟨(dr 36 []), []⟩, 0⟩)]⟩
theorem newelref11_Slow_L6_ok : newelref11_Slow_L6.Ok := ⟨⟨(drCons 1 (allCons (rInt_ok .i64) (allCons (rPtr_ok 0 0) (drCons 3 (allCons (rInt_ok .i64) (drCons 29 allNil)))))), (eCons (eBlkC_ok api_BandC_ok api_BandC_len) eNil)⟩, (xCons ⟨(drCons 4 (allCons (rInt_ok .i64) (allCons (rInt_ok .i64) (drCons 30 allNil)))), eNil⟩ (xCons ⟨(drCons 36 allNil), eNil⟩ xNil))⟩
def newelref11_Slow_h6 (v144 : Int) (v145 : Int) (v146 : api_Band) : St := ⟨(un 1 ((.int .i64 v144) :: (.ptr 0 0) :: (un 3 ((.int .i64 v145) :: (un 29 []))))), [(0, .blk (Cod.enc api_BandC v146))], 1⟩
def newelref11_Slow_x6_r (q0 : Int) (q1 : Int) : St := ⟨(un 4 ((.int .i64 q0) :: (.int .i64 q1) :: (un 30 []))), [], 0⟩
def newelref11_Slow_x6_0  : St := ⟨(un 36 []), [], 0⟩
def newelref11_Slow_b6 {R : Type} (N : Nat) (rc : Int → Int → api_Band → Option R) (v144 : Int) (v145 : Int) (v146 : api_Band) (kr : Int → Int → Option R) (k0 : Unit → Option R) : Option R :=
  bif decide (v145 < (↑(Arr.n (api_Band.Paces v146)) : Int)) then
   bif decide ((0 : Int) ≤ v145) && decide (v145 < (↑(Arr.n (api_Band.Paces v146)) : Int)) then
    newelref11_load N v146 v144 (Arr.f (api_Band.Paces v146) (Int.toNat v145)) (fun r147 =>
    bif decide (r147 ≤ api_Band.Most v146) then
     bif decide ((0 : Int) ≤ v145) && decide (v145 < (↑(Arr.n (api_Band.Paces v146)) : Int)) then
      kr (Arr.f (api_Band.Paces v146) (Int.toNat v145)) (0 : Int)
     else
      Option.none
    else
     rc v144 (w64 (v145 + (1 : Int))) v146)
   else
    Option.none
  else
   k0 ()
def newelref11_Slow_l6 {R : Type} (N : Nat) : Nat → Int → Int → api_Band → (Int → Int → Option R) → (Unit → Option R) → Option R
  | 0, _, _, _, _, _ => Option.none
  | n + 1, v144, v145, v146, kr, k0 => newelref11_Slow_b6 N (fun v144 v145 v146 => newelref11_Slow_l6 N n v144 v145 v146 kr k0) v144 v145 v146 kr k0


def newelref11_Slow_m {R : Type} (N : Nat) (a140 : api_Band) (a141 : Int) (k : Int → Int → Option R) : Option R :=
  newelref11_Check N a140 (fun r142 =>
  bif r142 != (0 : Int) then
   k (0 : Int) (110 : Int)
  else
   newelref11_within N a141 (0 : Int) (100 : Int) (fun r143 =>
   bif !r143 then
    k (0 : Int) (1 : Int)
   else
    newelref11_Slow_l6 N N a141 (0 : Int) a140 (fun r148 r149 =>
     k r148 r149) (fun (_ : Unit) =>
     k (0 : Int) (3 : Int))))
noncomputable def newelref11_Slow {R : Type} : Nat → api_Band → Int → (Int → Int → Option R) → Option R := lock (@newelref11_Slow_m R)
theorem newelref11_Slow_def {R : Type} (N : Nat) (a140 : api_Band) (a141 : Int) (k : Int → Int → Option R) : newelref11_Slow N a140 a141 k = newelref11_Slow_m N a140 a141 k := by unfold newelref11_Slow; rw [lock_eq]
def newelref11_Slow_sp : Sp := ⟨[rAgg api_BandC, rInt .i64], []⟩
theorem newelref11_Slow_sp_ok : newelref11_Slow_sp.Ok := ⟨(allCons (rAgg_ok api_BandC_ok api_BandC_len) (allCons (rInt_ok .i64) allNil)), eNil⟩
def newelref11_Slow_rs : Sp := ⟨[rTup [rInt .i64, rInt .i64]], []⟩
theorem newelref11_Slow_rs_ok : newelref11_Slow_rs.Ok := ⟨(allCons (rTup_ok (allCons (rInt_ok .i64) (allCons (rInt_ok .i64) allNil))) allNil), eNil⟩
def newelref11_Slow_run {R : Type} (N : Nat) (args : List SV) (T : Tab) (kf : SV × Tab → Option R) : Option R :=
  newelref11_Slow_m N (Cod.dec api_BandC (lget (toCs (lget args 0)))) (toI (lget args 1)) (fun q0 q1 => kf (lget [.tup [.int .i64 q0, .int .i64 q1]] 0, []))
def newelref11_Slow_d6 {R : Type} (N : Nat) (S0 : St) (k : Exit → St → Option R) : Option R :=
  newelref11_Slow_l6 N N (toI (lget S0.tmps 1)) (toI (lget S0.tmps 6)) (Cod.dec api_BandC (lget (entCs (entAt S0.tab 0)))) (fun q0 q1 => k .ret (newelref11_Slow_x6_r q0 q1)) (fun (_ : Unit) => k (.exit 0) (newelref11_Slow_x6_0 ))
def newelref11_Slow_lp {R : Type} (N : Nat) : Lp R := fun body S k => bif (Go.Sx.keyOf body).getD 0 == 6 then newelref11_Slow_L6.head.raw 0 S (fun S0 => newelref11_Slow_d6 N S0 k) else Option.none
theorem newelref11_Slow_l6_eq {R : Type} (N : Nat) (k : Exit → St → Option R) (n : Nat) : ∀ (v0 : Int) (v1 : Int) (v2 : api_Band), loopM E.Θ (newelref11_Power_cal N) (newelref11_Slow_lp N) (noJn) 0 newelref11_Slow_L6 (bodyAt E 25 6) n (newelref11_Slow_h6 v0 v1 v2) k = newelref11_Slow_l6 N n v0 v1 v2 (fun q0 q1 => k .ret (newelref11_Slow_x6_r q0 q1)) (fun (_ : Unit) => k (.exit 0) (newelref11_Slow_x6_0 )) := by
  induction n with
  | zero => intro v0 v1 v2; rfl
  | succ n ih =>
    intro v0 v1 v2
    refine Eq.trans (b := newelref11_Slow_b6 N (fun v0 v1 v2 => loopM E.Θ (newelref11_Power_cal N) (newelref11_Slow_lp N) (noJn) 0 newelref11_Slow_L6 (bodyAt E 25 6) n (newelref11_Slow_h6 v0 v1 v2) k) v0 v1 v2 (fun q0 q1 => k .ret (newelref11_Slow_x6_r q0 q1)) (fun (_ : Unit) => k (.exit 0) (newelref11_Slow_x6_0 ))) (by kernel_rfl) ?_
    have h : (fun (v0 : Int) (v1 : Int) (v2 : api_Band) => loopM E.Θ (newelref11_Power_cal N) (newelref11_Slow_lp N) (noJn) 0 newelref11_Slow_L6 (bodyAt E 25 6) n (newelref11_Slow_h6 v0 v1 v2) k) = (fun (v0 : Int) (v1 : Int) (v2 : api_Band) => newelref11_Slow_l6 N n v0 v1 v2 (fun q0 q1 => k .ret (newelref11_Slow_x6_r q0 q1)) (fun (_ : Unit) => k (.exit 0) (newelref11_Slow_x6_0 ))) := funext fun v0 => funext fun v1 => funext fun v2 => ih v0 v1 v2
    rw [h]
    rfl
theorem newelref11_Slow_k6 {R : Type} (N : Nat) : LpKey (R := R) E 25 0 (newelref11_Slow_lp N) 6 :=
  lpKey_of hE (newelref11_Power_cal_ok N) (jn := noJn) newelref11_Slow_L6_ok [] kNil (by kernel_rfl) [] jNil (by kernel_rfl) N fun S k =>
    Eq.trans (b := newelref11_Slow_L6.head.raw 0 S (fun S0 => newelref11_Slow_d6 N S0 k)) (by kernel_rfl) (congrArg (newelref11_Slow_L6.head.raw 0 S) (funext fun S0 => Eq.trans (newelref11_Slow_l6_eq N k N (toI (lget S0.tmps 1)) (toI (lget S0.tmps 6)) (Cod.dec api_BandC (lget (entCs (entAt S0.tab 0))))).symm (by kernel_rfl)))
noncomputable def newelref11_Slow_go {R : Type} (N : Nat) (args : List SV) (T : Tab) (kf : SV × Tab → Option R) : Option R :=
  newelref11_Slow N (Cod.dec api_BandC (lget (toCs (lget args 0)))) (toI (lget args 1)) (fun q0 q1 => kf (lget [.tup [.int .i64 q0, .int .i64 q1]] 0, []))
noncomputable def newelref11_Slow_cal {R : Type} (N : Nat) : Cal R := callM (newelref11_Power_cal N) 25 0 newelref11_Slow_sp (newelref11_Slow_go N)
theorem newelref11_Slow_cal_ok {R : Type} (N : Nat) : CalOk E.P (newelref11_Slow_cal (R := R) N) :=
  callM_ok hE (newelref11_Power_cal_ok N) (lp := newelref11_Slow_lp N) (jn := noJn) (keys := [6]) (kCons (newelref11_Slow_k6 N) kNil) (by kernel_rfl) (js := []) jNil (by kernel_rfl) newelref11_Slow_sp_ok newelref11_Slow_rs_ok (fun args T kf => Eq.trans (newelref11_Slow_def N (Cod.dec api_BandC (lget (toCs (lget args 0)))) (toI (lget args 1)) (fun q0 q1 => kf (lget [.tup [.int .i64 q0, .int .i64 q1]] 0, []))) (by kernel_rfl : newelref11_Slow_run N args T kf = fnM E (newelref11_Power_cal N) (newelref11_Slow_lp N) (noJn) 25 (newelref11_Slow_sp.vs args) (newelref11_Slow_sp.tab T) 0 (resK newelref11_Slow_rs kf)))


def energy_checkPlan_1_m {R : Type} (N : Nat) (a190 : Int) (a191 : Bool) (a192 : Int) (a193 : Int) (a194 : Int) (a195 : Int) (a196 : Int) (a197 : Arr Int) (a198 : Int) (a199 : Int) (k : Bool → Option R) : Option R :=
  slices_Contains___int_int_ N a197 a190 (fun r200 =>
  k !r200)
noncomputable def energy_checkPlan_1 {R : Type} : Nat → Int → Bool → Int → Int → Int → Int → Int → Arr Int → Int → Int → (Bool → Option R) → Option R := lock (@energy_checkPlan_1_m R)
theorem energy_checkPlan_1_def {R : Type} (N : Nat) (a190 : Int) (a191 : Bool) (a192 : Int) (a193 : Int) (a194 : Int) (a195 : Int) (a196 : Int) (a197 : Arr Int) (a198 : Int) (a199 : Int) (k : Bool → Option R) : energy_checkPlan_1 N a190 a191 a192 a193 a194 a195 a196 a197 a198 a199 k = energy_checkPlan_1_m N a190 a191 a192 a193 a194 a195 a196 a197 a198 a199 k := by unfold energy_checkPlan_1; rw [lock_eq]
def energy_checkPlan_1_sp : Sp := ⟨[rInt .i64, rPtr 0 0], [(0, eBlk [rBool, rInt .i64, rInt .i64, rInt .i64, rInt .i64, rInt .i64, rSl intC, rInt .i64, rInt .i64])]⟩
theorem energy_checkPlan_1_sp_ok : energy_checkPlan_1_sp.Ok := ⟨(allCons (rInt_ok .i64) (allCons (rPtr_ok 0 0) allNil)), (eCons (eBlk_ok (allCons rBool_ok (allCons (rInt_ok .i64) (allCons (rInt_ok .i64) (allCons (rInt_ok .i64) (allCons (rInt_ok .i64) (allCons (rInt_ok .i64) (allCons (rSl_ok intC_ok) (allCons (rInt_ok .i64) (allCons (rInt_ok .i64) allNil)))))))))) eNil)⟩
def energy_checkPlan_1_rs : Sp := ⟨[rBool], [(0, eBlk [rBool, rInt .i64, rInt .i64, rInt .i64, rInt .i64, rInt .i64, rSl intC, rInt .i64, rInt .i64])]⟩
theorem energy_checkPlan_1_rs_ok : energy_checkPlan_1_rs.Ok := ⟨(allCons rBool_ok allNil), (eCons (eBlk_ok (allCons rBool_ok (allCons (rInt_ok .i64) (allCons (rInt_ok .i64) (allCons (rInt_ok .i64) (allCons (rInt_ok .i64) (allCons (rInt_ok .i64) (allCons (rSl_ok intC_ok) (allCons (rInt_ok .i64) (allCons (rInt_ok .i64) allNil)))))))))) eNil)⟩
def energy_checkPlan_1_run {R : Type} (N : Nat) (args : List SV) (T : Tab) (kf : SV × Tab → Option R) : Option R :=
  energy_checkPlan_1_m N (toI (lget args 0)) (toB (lget (entCs (entAt T 0)) 0)) (toI (lget (entCs (entAt T 0)) 1)) (toI (lget (entCs (entAt T 0)) 2)) (toI (lget (entCs (entAt T 0)) 3)) (toI (lget (entCs (entAt T 0)) 4)) (toI (lget (entCs (entAt T 0)) 5)) (lstC intC (lget (entCs (entAt T 0)) 6)) (toI (lget (entCs (entAt T 0)) 7)) (toI (lget (entCs (entAt T 0)) 8)) (fun q0 => kf (lget [.bool q0] 0, [(0, .blk [.bool (toB (lget (entCs (entAt T 0)) 0)), .int .i64 (toI (lget (entCs (entAt T 0)) 1)), .int .i64 (toI (lget (entCs (entAt T 0)) 2)), .int .i64 (toI (lget (entCs (entAt T 0)) 3)), .int .i64 (toI (lget (entCs (entAt T 0)) 4)), .int .i64 (toI (lget (entCs (entAt T 0)) 5)), slC intC (lstC intC (lget (entCs (entAt T 0)) 6)), .int .i64 (toI (lget (entCs (entAt T 0)) 7)), .int .i64 (toI (lget (entCs (entAt T 0)) 8))])]))
def energy_checkPlan_1_lp {R : Type} (N : Nat) : Lp R := fun body S k => Option.none
noncomputable def energy_checkPlan_1_go {R : Type} (N : Nat) (args : List SV) (T : Tab) (kf : SV × Tab → Option R) : Option R :=
  energy_checkPlan_1 N (toI (lget args 0)) (toB (lget (entCs (entAt T 0)) 0)) (toI (lget (entCs (entAt T 0)) 1)) (toI (lget (entCs (entAt T 0)) 2)) (toI (lget (entCs (entAt T 0)) 3)) (toI (lget (entCs (entAt T 0)) 4)) (toI (lget (entCs (entAt T 0)) 5)) (lstC intC (lget (entCs (entAt T 0)) 6)) (toI (lget (entCs (entAt T 0)) 7)) (toI (lget (entCs (entAt T 0)) 8)) (fun q0 => kf (lget [.bool q0] 0, [(0, .blk [.bool (toB (lget (entCs (entAt T 0)) 0)), .int .i64 (toI (lget (entCs (entAt T 0)) 1)), .int .i64 (toI (lget (entCs (entAt T 0)) 2)), .int .i64 (toI (lget (entCs (entAt T 0)) 3)), .int .i64 (toI (lget (entCs (entAt T 0)) 4)), .int .i64 (toI (lget (entCs (entAt T 0)) 5)), slC intC (lstC intC (lget (entCs (entAt T 0)) 6)), .int .i64 (toI (lget (entCs (entAt T 0)) 7)), .int .i64 (toI (lget (entCs (entAt T 0)) 8))])]))
noncomputable def energy_checkPlan_1_cal {R : Type} (N : Nat) : Cal R := callM (newelref11_Slow_cal N) 63 1 energy_checkPlan_1_sp (energy_checkPlan_1_go N)
theorem energy_checkPlan_1_cal_ok {R : Type} (N : Nat) : CalOk E.P (energy_checkPlan_1_cal (R := R) N) :=
  callM_ok hE (newelref11_Slow_cal_ok N) (lp := energy_checkPlan_1_lp N) (jn := noJn) (keys := []) kNil (by kernel_rfl) (js := []) jNil (by kernel_rfl) energy_checkPlan_1_sp_ok energy_checkPlan_1_rs_ok (fun args T kf => Eq.trans (energy_checkPlan_1_def N (toI (lget args 0)) (toB (lget (entCs (entAt T 0)) 0)) (toI (lget (entCs (entAt T 0)) 1)) (toI (lget (entCs (entAt T 0)) 2)) (toI (lget (entCs (entAt T 0)) 3)) (toI (lget (entCs (entAt T 0)) 4)) (toI (lget (entCs (entAt T 0)) 5)) (lstC intC (lget (entCs (entAt T 0)) 6)) (toI (lget (entCs (entAt T 0)) 7)) (toI (lget (entCs (entAt T 0)) 8)) (fun q0 => kf (lget [.bool q0] 0, [(0, .blk [.bool (toB (lget (entCs (entAt T 0)) 0)), .int .i64 (toI (lget (entCs (entAt T 0)) 1)), .int .i64 (toI (lget (entCs (entAt T 0)) 2)), .int .i64 (toI (lget (entCs (entAt T 0)) 3)), .int .i64 (toI (lget (entCs (entAt T 0)) 4)), .int .i64 (toI (lget (entCs (entAt T 0)) 5)), slC intC (lstC intC (lget (entCs (entAt T 0)) 6)), .int .i64 (toI (lget (entCs (entAt T 0)) 7)), .int .i64 (toI (lget (entCs (entAt T 0)) 8))])]))) (by kernel_rfl : energy_checkPlan_1_run N args T kf = fnM E (newelref11_Slow_cal N) (energy_checkPlan_1_lp N) (noJn) 63 (energy_checkPlan_1_sp.vs args) (energy_checkPlan_1_sp.tab T) 1 (resK energy_checkPlan_1_rs kf)))

def slices_IndexFunc___int_int__L2 : LoopSp := ⟨⟨[0, 1, 7, 8], ⟨((rSl intC) :: (rFunc 63 0 [rPtr 0 0]) :: (dr 5 ((rInt .i64) :: (rInt .i64) :: (dr 10 [])))), [(0, eBlk [rBool, rInt .i64, rInt .i64, rInt .i64, rInt .i64, rInt .i64, rSl intC, rInt .i64, rInt .i64])]⟩, 1⟩, [(Option.none, ⟨[4], ⟨(dr 4 ((rInt .i64) :: (dr 14 []))), [(0, eBlk [rBool, rInt .i64, rInt .i64, rInt .i64, rInt .i64, rInt .i64, rSl intC, rInt .i64, rInt .i64])]⟩, 1⟩), (some 0, ⟨[], ⟨(dr 19 []), [(0, eBlk [rBool, rInt .i64, rInt .i64, rInt .i64, rInt .i64, rInt .i64, rSl intC, rInt .i64, rInt .i64])]⟩, 1⟩)]⟩
theorem slices_IndexFunc___int_int__L2_ok : slices_IndexFunc___int_int__L2.Ok := ⟨⟨(allCons (rSl_ok intC_ok) (allCons (rFunc_ok 63 0 (allCons (rPtr_ok 0 0) allNil)) (drCons 5 (allCons (rInt_ok .i64) (allCons (rInt_ok .i64) (drCons 10 allNil)))))), (eCons (eBlk_ok (allCons rBool_ok (allCons (rInt_ok .i64) (allCons (rInt_ok .i64) (allCons (rInt_ok .i64) (allCons (rInt_ok .i64) (allCons (rInt_ok .i64) (allCons (rSl_ok intC_ok) (allCons (rInt_ok .i64) (allCons (rInt_ok .i64) allNil)))))))))) eNil)⟩, (xCons ⟨(drCons 4 (allCons (rInt_ok .i64) (drCons 14 allNil))), (eCons (eBlk_ok (allCons rBool_ok (allCons (rInt_ok .i64) (allCons (rInt_ok .i64) (allCons (rInt_ok .i64) (allCons (rInt_ok .i64) (allCons (rInt_ok .i64) (allCons (rSl_ok intC_ok) (allCons (rInt_ok .i64) (allCons (rInt_ok .i64) allNil)))))))))) eNil)⟩ (xCons ⟨(drCons 19 allNil), (eCons (eBlk_ok (allCons rBool_ok (allCons (rInt_ok .i64) (allCons (rInt_ok .i64) (allCons (rInt_ok .i64) (allCons (rInt_ok .i64) (allCons (rInt_ok .i64) (allCons (rSl_ok intC_ok) (allCons (rInt_ok .i64) (allCons (rInt_ok .i64) allNil)))))))))) eNil)⟩ xNil))⟩
def slices_IndexFunc___int_int__h2 (v178 : Arr Int) (v179 : Int) (v180 : Int) (v181 : Bool) (v182 : Int) (v183 : Int) (v184 : Int) (v185 : Int) (v186 : Int) (v187 : Arr Int) (v188 : Int) (v189 : Int) : St := ⟨((slC intC v178) :: (.func 63 0 [.ptr 0 0]) :: (un 5 ((.int .i64 v179) :: (.int .i64 v180) :: (un 10 [])))), [(0, .blk [.bool v181, .int .i64 v182, .int .i64 v183, .int .i64 v184, .int .i64 v185, .int .i64 v186, slC intC v187, .int .i64 v188, .int .i64 v189])], 1⟩
def slices_IndexFunc___int_int__x2_r (v181 : Bool) (v182 : Int) (v183 : Int) (v184 : Int) (v185 : Int) (v186 : Int) (v187 : Arr Int) (v188 : Int) (v189 : Int) (q0 : Int) : St := ⟨(un 4 ((.int .i64 q0) :: (un 14 []))), [(0, .blk [.bool v181, .int .i64 v182, .int .i64 v183, .int .i64 v184, .int .i64 v185, .int .i64 v186, slC intC v187, .int .i64 v188, .int .i64 v189])], 1⟩
def slices_IndexFunc___int_int__x2_0 (v181 : Bool) (v182 : Int) (v183 : Int) (v184 : Int) (v185 : Int) (v186 : Int) (v187 : Arr Int) (v188 : Int) (v189 : Int) : St := ⟨(un 19 []), [(0, .blk [.bool v181, .int .i64 v182, .int .i64 v183, .int .i64 v184, .int .i64 v185, .int .i64 v186, slC intC v187, .int .i64 v188, .int .i64 v189])], 1⟩
def slices_IndexFunc___int_int__b2 {R : Type} (N : Nat) (rc : Arr Int → Int → Int → Bool → Int → Int → Int → Int → Int → Arr Int → Int → Int → Option R) (v178 : Arr Int) (v179 : Int) (v180 : Int) (v181 : Bool) (v182 : Int) (v183 : Int) (v184 : Int) (v185 : Int) (v186 : Int) (v187 : Arr Int) (v188 : Int) (v189 : Int) (kr : Int → Option R) (k0 : Unit → Option R) : Option R :=
  bif decide (v180 < v179) then
   bif decide ((0 : Int) ≤ v180) && decide (v180 < (↑(Arr.n v178) : Int)) then
    energy_checkPlan_1 N (Arr.f v178 (Int.toNat v180)) v181 v182 v183 v184 v185 v186 v187 v188 v189 (fun r201 =>
    bif r201 then
     kr v180
    else
     rc v178 v179 (w64 (v180 + (1 : Int))) v181 v182 v183 v184 v185 v186 v187 v188 v189)
   else
    Option.none
  else
   k0 ()
def slices_IndexFunc___int_int__l2 {R : Type} (N : Nat) : Nat → Arr Int → Int → Int → Bool → Int → Int → Int → Int → Int → Arr Int → Int → Int → (Int → Option R) → (Unit → Option R) → Option R
  | 0, _, _, _, _, _, _, _, _, _, _, _, _, _, _ => Option.none
  | n + 1, v178, v179, v180, v181, v182, v183, v184, v185, v186, v187, v188, v189, kr, k0 => slices_IndexFunc___int_int__b2 N (fun v178 v179 v180 v181 v182 v183 v184 v185 v186 v187 v188 v189 => slices_IndexFunc___int_int__l2 N n v178 v179 v180 v181 v182 v183 v184 v185 v186 v187 v188 v189 kr k0) v178 v179 v180 v181 v182 v183 v184 v185 v186 v187 v188 v189 kr k0


def slices_IndexFunc___int_int__m {R : Type} (N : Nat) (a168 : Arr Int) (a169 : Bool) (a170 : Int) (a171 : Int) (a172 : Int) (a173 : Int) (a174 : Int) (a175 : Arr Int) (a176 : Int) (a177 : Int) (k : Int → Option R) : Option R :=
  slices_IndexFunc___int_int__l2 N N a168 ((↑(Arr.n a168) : Int)) (0 : Int) a169 a170 a171 a172 a173 a174 a175 a176 a177 (fun r202 =>
   k r202) (fun (_ : Unit) =>
   k (-1 : Int))
noncomputable def slices_IndexFunc___int_int_ {R : Type} : Nat → Arr Int → Bool → Int → Int → Int → Int → Int → Arr Int → Int → Int → (Int → Option R) → Option R := lock (@slices_IndexFunc___int_int__m R)
theorem slices_IndexFunc___int_int__def {R : Type} (N : Nat) (a168 : Arr Int) (a169 : Bool) (a170 : Int) (a171 : Int) (a172 : Int) (a173 : Int) (a174 : Int) (a175 : Arr Int) (a176 : Int) (a177 : Int) (k : Int → Option R) : slices_IndexFunc___int_int_ N a168 a169 a170 a171 a172 a173 a174 a175 a176 a177 k = slices_IndexFunc___int_int__m N a168 a169 a170 a171 a172 a173 a174 a175 a176 a177 k := by unfold slices_IndexFunc___int_int_; rw [lock_eq]
def slices_IndexFunc___int_int__sp : Sp := ⟨[rSl intC, rFunc 63 0 [rPtr 0 0]], [(0, eBlk [rBool, rInt .i64, rInt .i64, rInt .i64, rInt .i64, rInt .i64, rSl intC, rInt .i64, rInt .i64])]⟩
theorem slices_IndexFunc___int_int__sp_ok : slices_IndexFunc___int_int__sp.Ok := ⟨(allCons (rSl_ok intC_ok) (allCons (rFunc_ok 63 0 (allCons (rPtr_ok 0 0) allNil)) allNil)), (eCons (eBlk_ok (allCons rBool_ok (allCons (rInt_ok .i64) (allCons (rInt_ok .i64) (allCons (rInt_ok .i64) (allCons (rInt_ok .i64) (allCons (rInt_ok .i64) (allCons (rSl_ok intC_ok) (allCons (rInt_ok .i64) (allCons (rInt_ok .i64) allNil)))))))))) eNil)⟩
def slices_IndexFunc___int_int__rs : Sp := ⟨[rInt .i64], [(0, eBlk [rBool, rInt .i64, rInt .i64, rInt .i64, rInt .i64, rInt .i64, rSl intC, rInt .i64, rInt .i64])]⟩
theorem slices_IndexFunc___int_int__rs_ok : slices_IndexFunc___int_int__rs.Ok := ⟨(allCons (rInt_ok .i64) allNil), (eCons (eBlk_ok (allCons rBool_ok (allCons (rInt_ok .i64) (allCons (rInt_ok .i64) (allCons (rInt_ok .i64) (allCons (rInt_ok .i64) (allCons (rInt_ok .i64) (allCons (rSl_ok intC_ok) (allCons (rInt_ok .i64) (allCons (rInt_ok .i64) allNil)))))))))) eNil)⟩
def slices_IndexFunc___int_int__run {R : Type} (N : Nat) (args : List SV) (T : Tab) (kf : SV × Tab → Option R) : Option R :=
  slices_IndexFunc___int_int__m N (lstC intC (lget args 0)) (toB (lget (entCs (entAt T 0)) 0)) (toI (lget (entCs (entAt T 0)) 1)) (toI (lget (entCs (entAt T 0)) 2)) (toI (lget (entCs (entAt T 0)) 3)) (toI (lget (entCs (entAt T 0)) 4)) (toI (lget (entCs (entAt T 0)) 5)) (lstC intC (lget (entCs (entAt T 0)) 6)) (toI (lget (entCs (entAt T 0)) 7)) (toI (lget (entCs (entAt T 0)) 8)) (fun q0 => kf (lget [.int .i64 q0] 0, [(0, .blk [.bool (toB (lget (entCs (entAt T 0)) 0)), .int .i64 (toI (lget (entCs (entAt T 0)) 1)), .int .i64 (toI (lget (entCs (entAt T 0)) 2)), .int .i64 (toI (lget (entCs (entAt T 0)) 3)), .int .i64 (toI (lget (entCs (entAt T 0)) 4)), .int .i64 (toI (lget (entCs (entAt T 0)) 5)), slC intC (lstC intC (lget (entCs (entAt T 0)) 6)), .int .i64 (toI (lget (entCs (entAt T 0)) 7)), .int .i64 (toI (lget (entCs (entAt T 0)) 8))])]))
def slices_IndexFunc___int_int__d2 {R : Type} (N : Nat) (S0 : St) (k : Exit → St → Option R) : Option R :=
  slices_IndexFunc___int_int__l2 N N (lstC intC (lget S0.tmps 0)) (toI (lget S0.tmps 7)) (toI (lget S0.tmps 8)) (toB (lget (entCs (entAt S0.tab 0)) 0)) (toI (lget (entCs (entAt S0.tab 0)) 1)) (toI (lget (entCs (entAt S0.tab 0)) 2)) (toI (lget (entCs (entAt S0.tab 0)) 3)) (toI (lget (entCs (entAt S0.tab 0)) 4)) (toI (lget (entCs (entAt S0.tab 0)) 5)) (lstC intC (lget (entCs (entAt S0.tab 0)) 6)) (toI (lget (entCs (entAt S0.tab 0)) 7)) (toI (lget (entCs (entAt S0.tab 0)) 8)) (fun q0 => k .ret (slices_IndexFunc___int_int__x2_r (toB (lget (entCs (entAt S0.tab 0)) 0)) (toI (lget (entCs (entAt S0.tab 0)) 1)) (toI (lget (entCs (entAt S0.tab 0)) 2)) (toI (lget (entCs (entAt S0.tab 0)) 3)) (toI (lget (entCs (entAt S0.tab 0)) 4)) (toI (lget (entCs (entAt S0.tab 0)) 5)) (lstC intC (lget (entCs (entAt S0.tab 0)) 6)) (toI (lget (entCs (entAt S0.tab 0)) 7)) (toI (lget (entCs (entAt S0.tab 0)) 8)) q0)) (fun (_ : Unit) => k (.exit 0) (slices_IndexFunc___int_int__x2_0 (toB (lget (entCs (entAt S0.tab 0)) 0)) (toI (lget (entCs (entAt S0.tab 0)) 1)) (toI (lget (entCs (entAt S0.tab 0)) 2)) (toI (lget (entCs (entAt S0.tab 0)) 3)) (toI (lget (entCs (entAt S0.tab 0)) 4)) (toI (lget (entCs (entAt S0.tab 0)) 5)) (lstC intC (lget (entCs (entAt S0.tab 0)) 6)) (toI (lget (entCs (entAt S0.tab 0)) 7)) (toI (lget (entCs (entAt S0.tab 0)) 8))))
def slices_IndexFunc___int_int__lp {R : Type} (N : Nat) : Lp R := fun body S k => bif (Go.Sx.keyOf body).getD 0 == 2 then slices_IndexFunc___int_int__L2.head.raw 1 S (fun S0 => slices_IndexFunc___int_int__d2 N S0 k) else Option.none
theorem slices_IndexFunc___int_int__l2_eq {R : Type} (N : Nat) (k : Exit → St → Option R) (n : Nat) : ∀ (v0 : Arr Int) (v1 : Int) (v2 : Int) (v3 : Bool) (v4 : Int) (v5 : Int) (v6 : Int) (v7 : Int) (v8 : Int) (v9 : Arr Int) (v10 : Int) (v11 : Int), loopM E.Θ (energy_checkPlan_1_cal N) (slices_IndexFunc___int_int__lp N) (noJn) 1 slices_IndexFunc___int_int__L2 (bodyAt E 67 2) n (slices_IndexFunc___int_int__h2 v0 v1 v2 v3 v4 v5 v6 v7 v8 v9 v10 v11) k = slices_IndexFunc___int_int__l2 N n v0 v1 v2 v3 v4 v5 v6 v7 v8 v9 v10 v11 (fun q0 => k .ret (slices_IndexFunc___int_int__x2_r v3 v4 v5 v6 v7 v8 v9 v10 v11 q0)) (fun (_ : Unit) => k (.exit 0) (slices_IndexFunc___int_int__x2_0 v3 v4 v5 v6 v7 v8 v9 v10 v11)) := by
  induction n with
  | zero => intro v0 v1 v2 v3 v4 v5 v6 v7 v8 v9 v10 v11; rfl
  | succ n ih =>
    intro v0 v1 v2 v3 v4 v5 v6 v7 v8 v9 v10 v11
    refine Eq.trans (b := slices_IndexFunc___int_int__b2 N (fun v0 v1 v2 v3 v4 v5 v6 v7 v8 v9 v10 v11 => loopM E.Θ (energy_checkPlan_1_cal N) (slices_IndexFunc___int_int__lp N) (noJn) 1 slices_IndexFunc___int_int__L2 (bodyAt E 67 2) n (slices_IndexFunc___int_int__h2 v0 v1 v2 v3 v4 v5 v6 v7 v8 v9 v10 v11) k) v0 v1 v2 v3 v4 v5 v6 v7 v8 v9 v10 v11 (fun q0 => k .ret (slices_IndexFunc___int_int__x2_r v3 v4 v5 v6 v7 v8 v9 v10 v11 q0)) (fun (_ : Unit) => k (.exit 0) (slices_IndexFunc___int_int__x2_0 v3 v4 v5 v6 v7 v8 v9 v10 v11))) (by kernel_rfl) ?_
    have h : (fun (v0 : Arr Int) (v1 : Int) (v2 : Int) (v3 : Bool) (v4 : Int) (v5 : Int) (v6 : Int) (v7 : Int) (v8 : Int) (v9 : Arr Int) (v10 : Int) (v11 : Int) => loopM E.Θ (energy_checkPlan_1_cal N) (slices_IndexFunc___int_int__lp N) (noJn) 1 slices_IndexFunc___int_int__L2 (bodyAt E 67 2) n (slices_IndexFunc___int_int__h2 v0 v1 v2 v3 v4 v5 v6 v7 v8 v9 v10 v11) k) = (fun (v0 : Arr Int) (v1 : Int) (v2 : Int) (v3 : Bool) (v4 : Int) (v5 : Int) (v6 : Int) (v7 : Int) (v8 : Int) (v9 : Arr Int) (v10 : Int) (v11 : Int) => slices_IndexFunc___int_int__l2 N n v0 v1 v2 v3 v4 v5 v6 v7 v8 v9 v10 v11 (fun q0 => k .ret (slices_IndexFunc___int_int__x2_r v3 v4 v5 v6 v7 v8 v9 v10 v11 q0)) (fun (_ : Unit) => k (.exit 0) (slices_IndexFunc___int_int__x2_0 v3 v4 v5 v6 v7 v8 v9 v10 v11))) := funext fun v0 => funext fun v1 => funext fun v2 => funext fun v3 => funext fun v4 => funext fun v5 => funext fun v6 => funext fun v7 => funext fun v8 => funext fun v9 => funext fun v10 => funext fun v11 => ih v0 v1 v2 v3 v4 v5 v6 v7 v8 v9 v10 v11
    rw [h]
    rfl
theorem slices_IndexFunc___int_int__k2 {R : Type} (N : Nat) : LpKey (R := R) E 67 1 (slices_IndexFunc___int_int__lp N) 2 :=
  lpKey_of hE (energy_checkPlan_1_cal_ok N) (jn := noJn) slices_IndexFunc___int_int__L2_ok [] kNil (by kernel_rfl) [] jNil (by kernel_rfl) N fun S k =>
    Eq.trans (b := slices_IndexFunc___int_int__L2.head.raw 1 S (fun S0 => slices_IndexFunc___int_int__d2 N S0 k)) (by kernel_rfl) (congrArg (slices_IndexFunc___int_int__L2.head.raw 1 S) (funext fun S0 => Eq.trans (slices_IndexFunc___int_int__l2_eq N k N (lstC intC (lget S0.tmps 0)) (toI (lget S0.tmps 7)) (toI (lget S0.tmps 8)) (toB (lget (entCs (entAt S0.tab 0)) 0)) (toI (lget (entCs (entAt S0.tab 0)) 1)) (toI (lget (entCs (entAt S0.tab 0)) 2)) (toI (lget (entCs (entAt S0.tab 0)) 3)) (toI (lget (entCs (entAt S0.tab 0)) 4)) (toI (lget (entCs (entAt S0.tab 0)) 5)) (lstC intC (lget (entCs (entAt S0.tab 0)) 6)) (toI (lget (entCs (entAt S0.tab 0)) 7)) (toI (lget (entCs (entAt S0.tab 0)) 8))).symm (by kernel_rfl)))
noncomputable def slices_IndexFunc___int_int__go {R : Type} (N : Nat) (args : List SV) (T : Tab) (kf : SV × Tab → Option R) : Option R :=
  slices_IndexFunc___int_int_ N (lstC intC (lget args 0)) (toB (lget (entCs (entAt T 0)) 0)) (toI (lget (entCs (entAt T 0)) 1)) (toI (lget (entCs (entAt T 0)) 2)) (toI (lget (entCs (entAt T 0)) 3)) (toI (lget (entCs (entAt T 0)) 4)) (toI (lget (entCs (entAt T 0)) 5)) (lstC intC (lget (entCs (entAt T 0)) 6)) (toI (lget (entCs (entAt T 0)) 7)) (toI (lget (entCs (entAt T 0)) 8)) (fun q0 => kf (lget [.int .i64 q0] 0, [(0, .blk [.bool (toB (lget (entCs (entAt T 0)) 0)), .int .i64 (toI (lget (entCs (entAt T 0)) 1)), .int .i64 (toI (lget (entCs (entAt T 0)) 2)), .int .i64 (toI (lget (entCs (entAt T 0)) 3)), .int .i64 (toI (lget (entCs (entAt T 0)) 4)), .int .i64 (toI (lget (entCs (entAt T 0)) 5)), slC intC (lstC intC (lget (entCs (entAt T 0)) 6)), .int .i64 (toI (lget (entCs (entAt T 0)) 7)), .int .i64 (toI (lget (entCs (entAt T 0)) 8))])]))
noncomputable def slices_IndexFunc___int_int__cal {R : Type} (N : Nat) : Cal R := callM (energy_checkPlan_1_cal N) 67 1 slices_IndexFunc___int_int__sp (slices_IndexFunc___int_int__go N)
theorem slices_IndexFunc___int_int__cal_ok {R : Type} (N : Nat) : CalOk E.P (slices_IndexFunc___int_int__cal (R := R) N) :=
  callM_ok hE (energy_checkPlan_1_cal_ok N) (lp := slices_IndexFunc___int_int__lp N) (jn := noJn) (keys := [2]) (kCons (slices_IndexFunc___int_int__k2 N) kNil) (by kernel_rfl) (js := []) jNil (by kernel_rfl) slices_IndexFunc___int_int__sp_ok slices_IndexFunc___int_int__rs_ok (fun args T kf => Eq.trans (slices_IndexFunc___int_int__def N (lstC intC (lget args 0)) (toB (lget (entCs (entAt T 0)) 0)) (toI (lget (entCs (entAt T 0)) 1)) (toI (lget (entCs (entAt T 0)) 2)) (toI (lget (entCs (entAt T 0)) 3)) (toI (lget (entCs (entAt T 0)) 4)) (toI (lget (entCs (entAt T 0)) 5)) (lstC intC (lget (entCs (entAt T 0)) 6)) (toI (lget (entCs (entAt T 0)) 7)) (toI (lget (entCs (entAt T 0)) 8)) (fun q0 => kf (lget [.int .i64 q0] 0, [(0, .blk [.bool (toB (lget (entCs (entAt T 0)) 0)), .int .i64 (toI (lget (entCs (entAt T 0)) 1)), .int .i64 (toI (lget (entCs (entAt T 0)) 2)), .int .i64 (toI (lget (entCs (entAt T 0)) 3)), .int .i64 (toI (lget (entCs (entAt T 0)) 4)), .int .i64 (toI (lget (entCs (entAt T 0)) 5)), slC intC (lstC intC (lget (entCs (entAt T 0)) 6)), .int .i64 (toI (lget (entCs (entAt T 0)) 7)), .int .i64 (toI (lget (entCs (entAt T 0)) 8))])]))) (by kernel_rfl : slices_IndexFunc___int_int__run N args T kf = fnM E (energy_checkPlan_1_cal N) (slices_IndexFunc___int_int__lp N) (noJn) 67 (slices_IndexFunc___int_int__sp.vs args) (slices_IndexFunc___int_int__sp.tab T) 1 (resK slices_IndexFunc___int_int__rs kf)))


def slices_ContainsFunc___int_int__m {R : Type} (N : Nat) (a158 : Arr Int) (a159 : Bool) (a160 : Int) (a161 : Int) (a162 : Int) (a163 : Int) (a164 : Int) (a165 : Arr Int) (a166 : Int) (a167 : Int) (k : Bool → Option R) : Option R :=
  slices_IndexFunc___int_int_ N a158 a159 a160 a161 a162 a163 a164 a165 a166 a167 (fun r203 =>
  k (decide (r203 ≥ (0 : Int))))
noncomputable def slices_ContainsFunc___int_int_ {R : Type} : Nat → Arr Int → Bool → Int → Int → Int → Int → Int → Arr Int → Int → Int → (Bool → Option R) → Option R := lock (@slices_ContainsFunc___int_int__m R)
theorem slices_ContainsFunc___int_int__def {R : Type} (N : Nat) (a158 : Arr Int) (a159 : Bool) (a160 : Int) (a161 : Int) (a162 : Int) (a163 : Int) (a164 : Int) (a165 : Arr Int) (a166 : Int) (a167 : Int) (k : Bool → Option R) : slices_ContainsFunc___int_int_ N a158 a159 a160 a161 a162 a163 a164 a165 a166 a167 k = slices_ContainsFunc___int_int__m N a158 a159 a160 a161 a162 a163 a164 a165 a166 a167 k := by unfold slices_ContainsFunc___int_int_; rw [lock_eq]
def slices_ContainsFunc___int_int__sp : Sp := ⟨[rSl intC, rFunc 63 0 [rPtr 0 0]], [(0, eBlk [rBool, rInt .i64, rInt .i64, rInt .i64, rInt .i64, rInt .i64, rSl intC, rInt .i64, rInt .i64])]⟩
theorem slices_ContainsFunc___int_int__sp_ok : slices_ContainsFunc___int_int__sp.Ok := ⟨(allCons (rSl_ok intC_ok) (allCons (rFunc_ok 63 0 (allCons (rPtr_ok 0 0) allNil)) allNil)), (eCons (eBlk_ok (allCons rBool_ok (allCons (rInt_ok .i64) (allCons (rInt_ok .i64) (allCons (rInt_ok .i64) (allCons (rInt_ok .i64) (allCons (rInt_ok .i64) (allCons (rSl_ok intC_ok) (allCons (rInt_ok .i64) (allCons (rInt_ok .i64) allNil)))))))))) eNil)⟩
def slices_ContainsFunc___int_int__rs : Sp := ⟨[rBool], [(0, eBlk [rBool, rInt .i64, rInt .i64, rInt .i64, rInt .i64, rInt .i64, rSl intC, rInt .i64, rInt .i64])]⟩
theorem slices_ContainsFunc___int_int__rs_ok : slices_ContainsFunc___int_int__rs.Ok := ⟨(allCons rBool_ok allNil), (eCons (eBlk_ok (allCons rBool_ok (allCons (rInt_ok .i64) (allCons (rInt_ok .i64) (allCons (rInt_ok .i64) (allCons (rInt_ok .i64) (allCons (rInt_ok .i64) (allCons (rSl_ok intC_ok) (allCons (rInt_ok .i64) (allCons (rInt_ok .i64) allNil)))))))))) eNil)⟩
def slices_ContainsFunc___int_int__run {R : Type} (N : Nat) (args : List SV) (T : Tab) (kf : SV × Tab → Option R) : Option R :=
  slices_ContainsFunc___int_int__m N (lstC intC (lget args 0)) (toB (lget (entCs (entAt T 0)) 0)) (toI (lget (entCs (entAt T 0)) 1)) (toI (lget (entCs (entAt T 0)) 2)) (toI (lget (entCs (entAt T 0)) 3)) (toI (lget (entCs (entAt T 0)) 4)) (toI (lget (entCs (entAt T 0)) 5)) (lstC intC (lget (entCs (entAt T 0)) 6)) (toI (lget (entCs (entAt T 0)) 7)) (toI (lget (entCs (entAt T 0)) 8)) (fun q0 => kf (lget [.bool q0] 0, [(0, .blk [.bool (toB (lget (entCs (entAt T 0)) 0)), .int .i64 (toI (lget (entCs (entAt T 0)) 1)), .int .i64 (toI (lget (entCs (entAt T 0)) 2)), .int .i64 (toI (lget (entCs (entAt T 0)) 3)), .int .i64 (toI (lget (entCs (entAt T 0)) 4)), .int .i64 (toI (lget (entCs (entAt T 0)) 5)), slC intC (lstC intC (lget (entCs (entAt T 0)) 6)), .int .i64 (toI (lget (entCs (entAt T 0)) 7)), .int .i64 (toI (lget (entCs (entAt T 0)) 8))])]))
def slices_ContainsFunc___int_int__lp {R : Type} (N : Nat) : Lp R := fun body S k => Option.none
noncomputable def slices_ContainsFunc___int_int__go {R : Type} (N : Nat) (args : List SV) (T : Tab) (kf : SV × Tab → Option R) : Option R :=
  slices_ContainsFunc___int_int_ N (lstC intC (lget args 0)) (toB (lget (entCs (entAt T 0)) 0)) (toI (lget (entCs (entAt T 0)) 1)) (toI (lget (entCs (entAt T 0)) 2)) (toI (lget (entCs (entAt T 0)) 3)) (toI (lget (entCs (entAt T 0)) 4)) (toI (lget (entCs (entAt T 0)) 5)) (lstC intC (lget (entCs (entAt T 0)) 6)) (toI (lget (entCs (entAt T 0)) 7)) (toI (lget (entCs (entAt T 0)) 8)) (fun q0 => kf (lget [.bool q0] 0, [(0, .blk [.bool (toB (lget (entCs (entAt T 0)) 0)), .int .i64 (toI (lget (entCs (entAt T 0)) 1)), .int .i64 (toI (lget (entCs (entAt T 0)) 2)), .int .i64 (toI (lget (entCs (entAt T 0)) 3)), .int .i64 (toI (lget (entCs (entAt T 0)) 4)), .int .i64 (toI (lget (entCs (entAt T 0)) 5)), slC intC (lstC intC (lget (entCs (entAt T 0)) 6)), .int .i64 (toI (lget (entCs (entAt T 0)) 7)), .int .i64 (toI (lget (entCs (entAt T 0)) 8))])]))
noncomputable def slices_ContainsFunc___int_int__cal {R : Type} (N : Nat) : Cal R := callM (slices_IndexFunc___int_int__cal N) 62 1 slices_ContainsFunc___int_int__sp (slices_ContainsFunc___int_int__go N)
theorem slices_ContainsFunc___int_int__cal_ok {R : Type} (N : Nat) : CalOk E.P (slices_ContainsFunc___int_int__cal (R := R) N) :=
  callM_ok hE (slices_IndexFunc___int_int__cal_ok N) (lp := slices_ContainsFunc___int_int__lp N) (jn := noJn) (keys := []) kNil (by kernel_rfl) (js := []) jNil (by kernel_rfl) slices_ContainsFunc___int_int__sp_ok slices_ContainsFunc___int_int__rs_ok (fun args T kf => Eq.trans (slices_ContainsFunc___int_int__def N (lstC intC (lget args 0)) (toB (lget (entCs (entAt T 0)) 0)) (toI (lget (entCs (entAt T 0)) 1)) (toI (lget (entCs (entAt T 0)) 2)) (toI (lget (entCs (entAt T 0)) 3)) (toI (lget (entCs (entAt T 0)) 4)) (toI (lget (entCs (entAt T 0)) 5)) (lstC intC (lget (entCs (entAt T 0)) 6)) (toI (lget (entCs (entAt T 0)) 7)) (toI (lget (entCs (entAt T 0)) 8)) (fun q0 => kf (lget [.bool q0] 0, [(0, .blk [.bool (toB (lget (entCs (entAt T 0)) 0)), .int .i64 (toI (lget (entCs (entAt T 0)) 1)), .int .i64 (toI (lget (entCs (entAt T 0)) 2)), .int .i64 (toI (lget (entCs (entAt T 0)) 3)), .int .i64 (toI (lget (entCs (entAt T 0)) 4)), .int .i64 (toI (lget (entCs (entAt T 0)) 5)), slC intC (lstC intC (lget (entCs (entAt T 0)) 6)), .int .i64 (toI (lget (entCs (entAt T 0)) 7)), .int .i64 (toI (lget (entCs (entAt T 0)) 8))])]))) (by kernel_rfl : slices_ContainsFunc___int_int__run N args T kf = fnM E (slices_IndexFunc___int_int__cal N) (slices_ContainsFunc___int_int__lp N) (noJn) 62 (slices_ContainsFunc___int_int__sp.vs args) (slices_ContainsFunc___int_int__sp.tab T) 1 (resK slices_ContainsFunc___int_int__rs kf)))


def energy_checkPlan_m {R : Type} (N : Nat) (a154 : api_Band) (a155 : api_Times) (a156 : Arr Int) (k : Int → Option R) : Option R :=
  energy_checkTimes N a154 a155 (fun r157 =>
  bif r157 != (0 : Int) then
   k r157
  else
   bif (↑(Arr.n a156) : Int) != (↑(Arr.n (api_Times.Periods a155)) : Int) then
    k (112 : Int)
   else
    slices_ContainsFunc___int_int_ N a156 (api_Band.Up a154) (api_Band.Pull a154) (api_Band.Drag a154) (api_Band.Body a154) (api_Band.Ride a154) (api_Band.Most a154) (api_Band.Paces a154) (api_Band.Num a154) (api_Band.Den a154) (fun r204 =>
    bif r204 then
     k (112 : Int)
    else
     k (0 : Int)))
noncomputable def energy_checkPlan {R : Type} : Nat → api_Band → api_Times → Arr Int → (Int → Option R) → Option R := lock (@energy_checkPlan_m R)
theorem energy_checkPlan_def {R : Type} (N : Nat) (a154 : api_Band) (a155 : api_Times) (a156 : Arr Int) (k : Int → Option R) : energy_checkPlan N a154 a155 a156 k = energy_checkPlan_m N a154 a155 a156 k := by unfold energy_checkPlan; rw [lock_eq]
def energy_checkPlan_sp : Sp := ⟨[rAgg api_BandC, rAgg api_TimesC, rSl intC], []⟩
theorem energy_checkPlan_sp_ok : energy_checkPlan_sp.Ok := ⟨(allCons (rAgg_ok api_BandC_ok api_BandC_len) (allCons (rAgg_ok api_TimesC_ok api_TimesC_len) (allCons (rSl_ok intC_ok) allNil))), eNil⟩
def energy_checkPlan_rs : Sp := ⟨[rInt .i64], []⟩
theorem energy_checkPlan_rs_ok : energy_checkPlan_rs.Ok := ⟨(allCons (rInt_ok .i64) allNil), eNil⟩
def energy_checkPlan_run {R : Type} (N : Nat) (args : List SV) (T : Tab) (kf : SV × Tab → Option R) : Option R :=
  energy_checkPlan_m N (Cod.dec api_BandC (lget (toCs (lget args 0)))) (Cod.dec api_TimesC (lget (toCs (lget args 1)))) (lstC intC (lget args 2)) (fun q0 => kf (lget [.int .i64 q0] 0, []))
def energy_checkPlan_lp {R : Type} (N : Nat) : Lp R := fun body S k => Option.none
noncomputable def energy_checkPlan_go {R : Type} (N : Nat) (args : List SV) (T : Tab) (kf : SV × Tab → Option R) : Option R :=
  energy_checkPlan N (Cod.dec api_BandC (lget (toCs (lget args 0)))) (Cod.dec api_TimesC (lget (toCs (lget args 1)))) (lstC intC (lget args 2)) (fun q0 => kf (lget [.int .i64 q0] 0, []))
noncomputable def energy_checkPlan_cal {R : Type} (N : Nat) : Cal R := callM (slices_ContainsFunc___int_int__cal N) 53 0 energy_checkPlan_sp (energy_checkPlan_go N)
theorem energy_checkPlan_cal_ok {R : Type} (N : Nat) : CalOk E.P (energy_checkPlan_cal (R := R) N) :=
  callM_ok hE (slices_ContainsFunc___int_int__cal_ok N) (lp := energy_checkPlan_lp N) (jn := noJn) (keys := []) kNil (by kernel_rfl) (js := []) jNil (by kernel_rfl) energy_checkPlan_sp_ok energy_checkPlan_rs_ok (fun args T kf => Eq.trans (energy_checkPlan_def N (Cod.dec api_BandC (lget (toCs (lget args 0)))) (Cod.dec api_TimesC (lget (toCs (lget args 1)))) (lstC intC (lget args 2)) (fun q0 => kf (lget [.int .i64 q0] 0, []))) (by kernel_rfl : energy_checkPlan_run N args T kf = fnM E (slices_ContainsFunc___int_int__cal N) (energy_checkPlan_lp N) (noJn) 53 (energy_checkPlan_sp.vs args) (energy_checkPlan_sp.tab T) 0 (resK energy_checkPlan_rs kf)))

def energy_bill_L3 : LoopSp := ⟨⟨[1, 2, 5, 6, 10, 11, 12], ⟨(dr 1 ((rSl intC) :: (rPtr 0 0) :: (dr 2 ((rInt .i64) :: (rInt .i64) :: (dr 3 ((rSl api_PeriodC) :: (rInt .i64) :: (rInt .i64) :: (dr 29 []))))))), [(0, eBlkC api_TimesC)]⟩, 1⟩, [(some 0, ⟨[2, 5, 6], ⟨(dr 2 ((rPtr 0 0) :: (dr 2 ((rInt .i64) :: (rInt .i64) :: (dr 35 []))))), [(0, eBlkC api_TimesC)]⟩, 1⟩)]⟩
theorem energy_bill_L3_ok : energy_bill_L3.Ok := ⟨⟨(drCons 1 (allCons (rSl_ok intC_ok) (allCons (rPtr_ok 0 0) (drCons 2 (allCons (rInt_ok .i64) (allCons (rInt_ok .i64) (drCons 3 (allCons (rSl_ok api_PeriodC_ok) (allCons (rInt_ok .i64) (allCons (rInt_ok .i64) (drCons 29 allNil))))))))))), (eCons (eBlkC_ok api_TimesC_ok api_TimesC_len) eNil)⟩, (xCons ⟨(drCons 2 (allCons (rPtr_ok 0 0) (drCons 2 (allCons (rInt_ok .i64) (allCons (rInt_ok .i64) (drCons 35 allNil)))))), (eCons (eBlkC_ok api_TimesC_ok api_TimesC_len) eNil)⟩ xNil)⟩
def energy_bill_h3 (v220 : Arr Int) (v221 : Int) (v222 : Int) (v223 : Arr api_Period) (v224 : Int) (v225 : Int) (v226 : api_Times) : St := ⟨(un 1 ((slC intC v220) :: (.ptr 0 0) :: (un 2 ((.int .i64 v221) :: (.int .i64 v222) :: (un 3 ((slC api_PeriodC v223) :: (.int .i64 v224) :: (.int .i64 v225) :: (un 29 []))))))), [(0, .blk (Cod.enc api_TimesC v226))], 1⟩
def energy_bill_x3_0 (v226 : api_Times) (q0 : Int) (q1 : Int) : St := ⟨(un 2 ((.ptr 0 0) :: (un 2 ((.int .i64 q0) :: (.int .i64 q1) :: (un 35 []))))), [(0, .blk (Cod.enc api_TimesC v226))], 1⟩
def energy_bill_b3 {R : Type} (N : Nat) (rc : Arr Int → Int → Int → Arr api_Period → Int → Int → api_Times → Option R) (v220 : Arr Int) (v221 : Int) (v222 : Int) (v223 : Arr api_Period) (v224 : Int) (v225 : Int) (v226 : api_Times) (k0 : Int → Int → Option R) : Option R :=
  bif decide (v225 < v224) then
   bif decide ((0 : Int) ≤ v225) && decide (v225 < (↑(Arr.n v223) : Int)) then
    bif decide ((0 : Int) ≤ v225) && decide (v225 < (↑(Arr.n v220) : Int)) then
     bif decide ((0 : Int) ≤ v225) && decide (v225 < (↑(Arr.n v220) : Int)) then
      rc v220 (w64 (v221 + w64 (w64 (Arr.f v220 (Int.toNat v225) * api_Period.Lasts (Arr.f v223 (Int.toNat v225))) * api_Period.Price (Arr.f v223 (Int.toNat v225))))) (if Arr.f v220 (Int.toNat v225) > v222 then Arr.f v220 (Int.toNat v225) else v222) v223 v224 (w64 (v225 + (1 : Int))) v226
     else
      Option.none
    else
     Option.none
   else
    Option.none
  else
   k0 v221 v222
def energy_bill_l3 {R : Type} (N : Nat) : Nat → Arr Int → Int → Int → Arr api_Period → Int → Int → api_Times → (Int → Int → Option R) → Option R
  | 0, _, _, _, _, _, _, _, _ => Option.none
  | n + 1, v220, v221, v222, v223, v224, v225, v226, k0 => energy_bill_b3 N (fun v220 v221 v222 v223 v224 v225 v226 => energy_bill_l3 N n v220 v221 v222 v223 v224 v225 v226 k0) v220 v221 v222 v223 v224 v225 v226 k0


def energy_bill_m {R : Type} (N : Nat) (a218 : api_Times) (a219 : Arr Int) (k : Int → Option R) : Option R :=
  energy_bill_l3 N N a219 (0 : Int) (0 : Int) (api_Times.Periods a218) ((↑(Arr.n (api_Times.Periods a218)) : Int)) (0 : Int) a218 (fun r227 r228 =>
   k (w64 (r227 + w64 (api_Times.Peak a218 * r228))))
noncomputable def energy_bill {R : Type} : Nat → api_Times → Arr Int → (Int → Option R) → Option R := lock (@energy_bill_m R)
theorem energy_bill_def {R : Type} (N : Nat) (a218 : api_Times) (a219 : Arr Int) (k : Int → Option R) : energy_bill N a218 a219 k = energy_bill_m N a218 a219 k := by unfold energy_bill; rw [lock_eq]
def energy_bill_sp : Sp := ⟨[rAgg api_TimesC, rSl intC], []⟩
theorem energy_bill_sp_ok : energy_bill_sp.Ok := ⟨(allCons (rAgg_ok api_TimesC_ok api_TimesC_len) (allCons (rSl_ok intC_ok) allNil)), eNil⟩
def energy_bill_rs : Sp := ⟨[rInt .i64], []⟩
theorem energy_bill_rs_ok : energy_bill_rs.Ok := ⟨(allCons (rInt_ok .i64) allNil), eNil⟩
def energy_bill_run {R : Type} (N : Nat) (args : List SV) (T : Tab) (kf : SV × Tab → Option R) : Option R :=
  energy_bill_m N (Cod.dec api_TimesC (lget (toCs (lget args 0)))) (lstC intC (lget args 1)) (fun q0 => kf (lget [.int .i64 q0] 0, []))
def energy_bill_d3 {R : Type} (N : Nat) (S0 : St) (k : Exit → St → Option R) : Option R :=
  energy_bill_l3 N N (lstC intC (lget S0.tmps 1)) (toI (lget S0.tmps 5)) (toI (lget S0.tmps 6)) (lstC api_PeriodC (lget S0.tmps 10)) (toI (lget S0.tmps 11)) (toI (lget S0.tmps 12)) (Cod.dec api_TimesC (lget (entCs (entAt S0.tab 0)))) (fun q0 q1 => k (.exit 0) (energy_bill_x3_0 (Cod.dec api_TimesC (lget (entCs (entAt S0.tab 0)))) q0 q1))
def energy_bill_lp {R : Type} (N : Nat) : Lp R := fun body S k => bif (Go.Sx.keyOf body).getD 0 == 3 then energy_bill_L3.head.raw 0 S (fun S0 => energy_bill_d3 N S0 k) else Option.none
theorem energy_bill_l3_eq {R : Type} (N : Nat) (k : Exit → St → Option R) (n : Nat) : ∀ (v0 : Arr Int) (v1 : Int) (v2 : Int) (v3 : Arr api_Period) (v4 : Int) (v5 : Int) (v6 : api_Times), loopM E.Θ (energy_checkPlan_cal N) (energy_bill_lp N) (noJn) 0 energy_bill_L3 (bodyAt E 54 3) n (energy_bill_h3 v0 v1 v2 v3 v4 v5 v6) k = energy_bill_l3 N n v0 v1 v2 v3 v4 v5 v6 (fun q0 q1 => k (.exit 0) (energy_bill_x3_0 v6 q0 q1)) := by
  induction n with
  | zero => intro v0 v1 v2 v3 v4 v5 v6; rfl
  | succ n ih =>
    intro v0 v1 v2 v3 v4 v5 v6
    refine Eq.trans (b := energy_bill_b3 N (fun v0 v1 v2 v3 v4 v5 v6 => loopM E.Θ (energy_checkPlan_cal N) (energy_bill_lp N) (noJn) 0 energy_bill_L3 (bodyAt E 54 3) n (energy_bill_h3 v0 v1 v2 v3 v4 v5 v6) k) v0 v1 v2 v3 v4 v5 v6 (fun q0 q1 => k (.exit 0) (energy_bill_x3_0 v6 q0 q1))) (by kernel_rfl) ?_
    have h : (fun (v0 : Arr Int) (v1 : Int) (v2 : Int) (v3 : Arr api_Period) (v4 : Int) (v5 : Int) (v6 : api_Times) => loopM E.Θ (energy_checkPlan_cal N) (energy_bill_lp N) (noJn) 0 energy_bill_L3 (bodyAt E 54 3) n (energy_bill_h3 v0 v1 v2 v3 v4 v5 v6) k) = (fun (v0 : Arr Int) (v1 : Int) (v2 : Int) (v3 : Arr api_Period) (v4 : Int) (v5 : Int) (v6 : api_Times) => energy_bill_l3 N n v0 v1 v2 v3 v4 v5 v6 (fun q0 q1 => k (.exit 0) (energy_bill_x3_0 v6 q0 q1))) := funext fun v0 => funext fun v1 => funext fun v2 => funext fun v3 => funext fun v4 => funext fun v5 => funext fun v6 => ih v0 v1 v2 v3 v4 v5 v6
    rw [h]
    rfl
theorem energy_bill_k3 {R : Type} (N : Nat) : LpKey (R := R) E 54 0 (energy_bill_lp N) 3 :=
  lpKey_of hE (energy_checkPlan_cal_ok N) (jn := noJn) energy_bill_L3_ok [] kNil (by kernel_rfl) [] jNil (by kernel_rfl) N fun S k =>
    Eq.trans (b := energy_bill_L3.head.raw 0 S (fun S0 => energy_bill_d3 N S0 k)) (by kernel_rfl) (congrArg (energy_bill_L3.head.raw 0 S) (funext fun S0 => Eq.trans (energy_bill_l3_eq N k N (lstC intC (lget S0.tmps 1)) (toI (lget S0.tmps 5)) (toI (lget S0.tmps 6)) (lstC api_PeriodC (lget S0.tmps 10)) (toI (lget S0.tmps 11)) (toI (lget S0.tmps 12)) (Cod.dec api_TimesC (lget (entCs (entAt S0.tab 0))))).symm (by kernel_rfl)))
noncomputable def energy_bill_go {R : Type} (N : Nat) (args : List SV) (T : Tab) (kf : SV × Tab → Option R) : Option R :=
  energy_bill N (Cod.dec api_TimesC (lget (toCs (lget args 0)))) (lstC intC (lget args 1)) (fun q0 => kf (lget [.int .i64 q0] 0, []))
noncomputable def energy_bill_cal {R : Type} (N : Nat) : Cal R := callM (energy_checkPlan_cal N) 54 0 energy_bill_sp (energy_bill_go N)
theorem energy_bill_cal_ok {R : Type} (N : Nat) : CalOk E.P (energy_bill_cal (R := R) N) :=
  callM_ok hE (energy_checkPlan_cal_ok N) (lp := energy_bill_lp N) (jn := noJn) (keys := [3]) (kCons (energy_bill_k3 N) kNil) (by kernel_rfl) (js := []) jNil (by kernel_rfl) energy_bill_sp_ok energy_bill_rs_ok (fun args T kf => Eq.trans (energy_bill_def N (Cod.dec api_TimesC (lget (toCs (lget args 0)))) (lstC intC (lget args 1)) (fun q0 => kf (lget [.int .i64 q0] 0, []))) (by kernel_rfl : energy_bill_run N args T kf = fnM E (energy_checkPlan_cal N) (energy_bill_lp N) (noJn) 54 (energy_bill_sp.vs args) (energy_bill_sp.tab T) 0 (resK energy_bill_rs kf)))

def energy_Bill_L8 : LoopSp := ⟨⟨[2, 4, 5, 11, 30, 31, 32], ⟨(dr 2 ((rSl intC) :: (dr 1 ((rPtr 0 0) :: (rPtr 1 0) :: (dr 5 ((rRow 2) :: (dr 18 ((rSl intC) :: (rInt .i64) :: (rInt .i64) :: (dr 34 []))))))))), [(0, eBlkC api_BandC), (1, eBlkC api_TimesC), (2, eRow intC)]⟩, 3⟩, [(Option.none, ⟨[8, 9], ⟨(dr 8 ((rInt .i64) :: (rInt .i64) :: (dr 57 []))), []⟩, 0⟩), (some 0, ⟨[5, 11], ⟨(dr 5 ((rPtr 0 0) :: (dr 5 ((rRow 1) :: (dr 55 []))))), [(0, eBlkC api_TimesC), (1, eRow intC)]⟩, 2⟩)]⟩
theorem energy_Bill_L8_ok : energy_Bill_L8.Ok := ⟨⟨(drCons 2 (allCons (rSl_ok intC_ok) (drCons 1 (allCons (rPtr_ok 0 0) (allCons (rPtr_ok 1 0) (drCons 5 (allCons (rRow_ok 2) (drCons 18 (allCons (rSl_ok intC_ok) (allCons (rInt_ok .i64) (allCons (rInt_ok .i64) (drCons 34 allNil)))))))))))), (eCons (eBlkC_ok api_BandC_ok api_BandC_len) (eCons (eBlkC_ok api_TimesC_ok api_TimesC_len) (eCons (eRow_ok intC_ok) eNil)))⟩, (xCons ⟨(drCons 8 (allCons (rInt_ok .i64) (allCons (rInt_ok .i64) (drCons 57 allNil)))), eNil⟩ (xCons ⟨(drCons 5 (allCons (rPtr_ok 0 0) (drCons 5 (allCons (rRow_ok 1) (drCons 55 allNil))))), (eCons (eBlkC_ok api_TimesC_ok api_TimesC_len) (eCons (eRow_ok intC_ok) eNil))⟩ xNil))⟩
def energy_Bill_h8 (v206 : Arr Int) (v207 : Arr Int) (v208 : Int) (v209 : Int) (v210 : api_Band) (v211 : api_Times) (v212 : Bool) (v213 : Arr Int) : St := ⟨(un 2 ((slC intC v206) :: (un 1 ((.ptr 0 0) :: (.ptr 1 0) :: (un 5 ((.row 2) :: (un 18 ((slC intC v207) :: (.int .i64 v208) :: (.int .i64 v209) :: (un 34 []))))))))), [(0, .blk (Cod.enc api_BandC v210)), (1, .blk (Cod.enc api_TimesC v211)), (2, rowE intC v212 v213)], 3⟩
def energy_Bill_x8_r (q0 : Int) (q1 : Int) : St := ⟨(un 8 ((.int .i64 q0) :: (.int .i64 q1) :: (un 57 []))), [], 0⟩
def energy_Bill_x8_0 (v211 : api_Times) (v212 : Bool) (q2 : Arr Int) : St := ⟨(un 5 ((.ptr 0 0) :: (un 5 ((.row 1) :: (un 55 []))))), [(0, .blk (Cod.enc api_TimesC v211)), (1, rowE intC v212 q2)], 2⟩
def energy_Bill_b8 {R : Type} (N : Nat) (rc : Arr Int → Arr Int → Int → Int → api_Band → api_Times → Bool → Arr Int → Option R) (v206 : Arr Int) (v207 : Arr Int) (v208 : Int) (v209 : Int) (v210 : api_Band) (v211 : api_Times) (v212 : Bool) (v213 : Arr Int) (kr : Int → Int → Option R) (k0 : Arr Int → Option R) : Option R :=
  bif decide (v209 < v208) then
   bif decide ((0 : Int) ≤ v209) && decide (v209 < (↑(Arr.n v207) : Int)) then
    bif decide ((0 : Int) ≤ v209) && decide (v209 < (↑(Arr.n (api_Times.Periods v211)) : Int)) then
     bif decide (Arr.f v207 (Int.toNat v209) < api_Span.Low (api_Period.Flow (Arr.f (api_Times.Periods v211) (Int.toNat v209)))) then
      kr (0 : Int) (1 : Int)
     else
      bif decide (Arr.f v207 (Int.toNat v209) > api_Span.High (api_Period.Flow (Arr.f (api_Times.Periods v211) (Int.toNat v209)))) then
       kr (0 : Int) (1 : Int)
      else
       bif decide ((0 : Int) ≤ v209) && decide (v209 < (↑(Arr.n v206) : Int)) then
        energy_power N v210 (Arr.f v207 (Int.toNat v209)) (Arr.f v206 (Int.toNat v209)) (fun r214 =>
        bif decide ((0 : Int) ≤ v209) && decide (v209 < (↑(Arr.n v213) : Int)) then
         rc v206 v207 v208 (w64 (v209 + (1 : Int))) v210 v211 v212 (lst intC (Arr.n v213) (setCs (Int.toNat v209) (0 : Nat) (Cod.cell intC (Arr.f v213)) [SV.int IntKind.i64 r214]))
        else
         Option.none)
       else
        Option.none
    else
     Option.none
   else
    Option.none
  else
   k0 v213
def energy_Bill_l8 {R : Type} (N : Nat) : Nat → Arr Int → Arr Int → Int → Int → api_Band → api_Times → Bool → Arr Int → (Int → Int → Option R) → (Arr Int → Option R) → Option R
  | 0, _, _, _, _, _, _, _, _, _, _ => Option.none
  | n + 1, v206, v207, v208, v209, v210, v211, v212, v213, kr, k0 => energy_Bill_b8 N (fun v206 v207 v208 v209 v210 v211 v212 v213 => energy_Bill_l8 N n v206 v207 v208 v209 v210 v211 v212 v213 kr k0) v206 v207 v208 v209 v210 v211 v212 v213 kr k0


def energy_Bill_m {R : Type} (N : Nat) (a150 : api_Band) (a151 : api_Times) (a152 : Arr Int) (a153 : Arr Int) (k : Int → Int → Option R) : Option R :=
  energy_checkPlan N a150 a151 a152 (fun r205 =>
  bif r205 != (0 : Int) then
   k (0 : Int) r205
  else
   bif (↑(Arr.n a153) : Int) != (↑(Arr.n a152) : Int) then
    k (0 : Int) (1 : Int)
   else
    bif decide ((↑(Arr.n a152) : Int) ≤ (↑(Arr.n a152) : Int)) && decide ((↑(Arr.n a152) : Int) ≤ (1073741824 : Int)) then
     energy_Bill_l8 N N a152 a153 ((↑(Arr.n a153) : Int)) (0 : Int) a150 a151 false (lst intC (Int.toNat (↑(Arr.n a152) : Int)) (zeroC [SV.int IntKind.i64 (0 : Int)])) (fun r215 r216 =>
      k r215 r216) (fun r217 =>
      energy_bill N a151 r217 (fun r229 =>
      k r229 (0 : Int)))
    else
     Option.none)
noncomputable def energy_Bill {R : Type} : Nat → api_Band → api_Times → Arr Int → Arr Int → (Int → Int → Option R) → Option R := lock (@energy_Bill_m R)
theorem energy_Bill_def {R : Type} (N : Nat) (a150 : api_Band) (a151 : api_Times) (a152 : Arr Int) (a153 : Arr Int) (k : Int → Int → Option R) : energy_Bill N a150 a151 a152 a153 k = energy_Bill_m N a150 a151 a152 a153 k := by unfold energy_Bill; rw [lock_eq]
def energy_Bill_sp : Sp := ⟨[rAgg api_BandC, rAgg api_TimesC, rSl intC, rSl intC], []⟩
theorem energy_Bill_sp_ok : energy_Bill_sp.Ok := ⟨(allCons (rAgg_ok api_BandC_ok api_BandC_len) (allCons (rAgg_ok api_TimesC_ok api_TimesC_len) (allCons (rSl_ok intC_ok) (allCons (rSl_ok intC_ok) allNil)))), eNil⟩
def energy_Bill_rs : Sp := ⟨[rTup [rInt .i64, rInt .i64]], []⟩
theorem energy_Bill_rs_ok : energy_Bill_rs.Ok := ⟨(allCons (rTup_ok (allCons (rInt_ok .i64) (allCons (rInt_ok .i64) allNil))) allNil), eNil⟩
def energy_Bill_run {R : Type} (N : Nat) (args : List SV) (T : Tab) (kf : SV × Tab → Option R) : Option R :=
  energy_Bill_m N (Cod.dec api_BandC (lget (toCs (lget args 0)))) (Cod.dec api_TimesC (lget (toCs (lget args 1)))) (lstC intC (lget args 2)) (lstC intC (lget args 3)) (fun q0 q1 => kf (lget [.tup [.int .i64 q0, .int .i64 q1]] 0, []))
def energy_Bill_d8 {R : Type} (N : Nat) (S0 : St) (k : Exit → St → Option R) : Option R :=
  energy_Bill_l8 N N (lstC intC (lget S0.tmps 2)) (lstC intC (lget S0.tmps 30)) (toI (lget S0.tmps 31)) (toI (lget S0.tmps 32)) (Cod.dec api_BandC (lget (entCs (entAt S0.tab 0)))) (Cod.dec api_TimesC (lget (entCs (entAt S0.tab 1)))) (entNl (entAt S0.tab 2)) (lst intC (entN (entAt S0.tab 2)) (entC (entAt S0.tab 2))) (fun q0 q1 => k .ret (energy_Bill_x8_r q0 q1)) (fun q2 => k (.exit 0) (energy_Bill_x8_0 (Cod.dec api_TimesC (lget (entCs (entAt S0.tab 1)))) (entNl (entAt S0.tab 2)) q2))
def energy_Bill_lp {R : Type} (N : Nat) : Lp R := fun body S k => bif (Go.Sx.keyOf body).getD 0 == 8 then energy_Bill_L8.head.raw 0 S (fun S0 => energy_Bill_d8 N S0 k) else Option.none
theorem energy_Bill_l8_eq {R : Type} (N : Nat) (k : Exit → St → Option R) (n : Nat) : ∀ (v0 : Arr Int) (v1 : Arr Int) (v2 : Int) (v3 : Int) (v4 : api_Band) (v5 : api_Times) (v6 : Bool) (v7 : Arr Int), loopM E.Θ (energy_bill_cal N) (energy_Bill_lp N) (noJn) 0 energy_Bill_L8 (bodyAt E 27 8) n (energy_Bill_h8 v0 v1 v2 v3 v4 v5 v6 v7) k = energy_Bill_l8 N n v0 v1 v2 v3 v4 v5 v6 v7 (fun q0 q1 => k .ret (energy_Bill_x8_r q0 q1)) (fun q2 => k (.exit 0) (energy_Bill_x8_0 v5 v6 q2)) := by
  induction n with
  | zero => intro v0 v1 v2 v3 v4 v5 v6 v7; rfl
  | succ n ih =>
    intro v0 v1 v2 v3 v4 v5 v6 v7
    refine Eq.trans (b := energy_Bill_b8 N (fun v0 v1 v2 v3 v4 v5 v6 v7 => loopM E.Θ (energy_bill_cal N) (energy_Bill_lp N) (noJn) 0 energy_Bill_L8 (bodyAt E 27 8) n (energy_Bill_h8 v0 v1 v2 v3 v4 v5 v6 v7) k) v0 v1 v2 v3 v4 v5 v6 v7 (fun q0 q1 => k .ret (energy_Bill_x8_r q0 q1)) (fun q2 => k (.exit 0) (energy_Bill_x8_0 v5 v6 q2))) (by kernel_rfl) ?_
    have h : (fun (v0 : Arr Int) (v1 : Arr Int) (v2 : Int) (v3 : Int) (v4 : api_Band) (v5 : api_Times) (v6 : Bool) (v7 : Arr Int) => loopM E.Θ (energy_bill_cal N) (energy_Bill_lp N) (noJn) 0 energy_Bill_L8 (bodyAt E 27 8) n (energy_Bill_h8 v0 v1 v2 v3 v4 v5 v6 v7) k) = (fun (v0 : Arr Int) (v1 : Arr Int) (v2 : Int) (v3 : Int) (v4 : api_Band) (v5 : api_Times) (v6 : Bool) (v7 : Arr Int) => energy_Bill_l8 N n v0 v1 v2 v3 v4 v5 v6 v7 (fun q0 q1 => k .ret (energy_Bill_x8_r q0 q1)) (fun q2 => k (.exit 0) (energy_Bill_x8_0 v5 v6 q2))) := funext fun v0 => funext fun v1 => funext fun v2 => funext fun v3 => funext fun v4 => funext fun v5 => funext fun v6 => funext fun v7 => ih v0 v1 v2 v3 v4 v5 v6 v7
    rw [h]
    rfl
theorem energy_Bill_k8 {R : Type} (N : Nat) : LpKey (R := R) E 27 0 (energy_Bill_lp N) 8 :=
  lpKey_of hE (energy_bill_cal_ok N) (jn := noJn) energy_Bill_L8_ok [] kNil (by kernel_rfl) [] jNil (by kernel_rfl) N fun S k =>
    Eq.trans (b := energy_Bill_L8.head.raw 0 S (fun S0 => energy_Bill_d8 N S0 k)) (by kernel_rfl) (congrArg (energy_Bill_L8.head.raw 0 S) (funext fun S0 => Eq.trans (energy_Bill_l8_eq N k N (lstC intC (lget S0.tmps 2)) (lstC intC (lget S0.tmps 30)) (toI (lget S0.tmps 31)) (toI (lget S0.tmps 32)) (Cod.dec api_BandC (lget (entCs (entAt S0.tab 0)))) (Cod.dec api_TimesC (lget (entCs (entAt S0.tab 1)))) (entNl (entAt S0.tab 2)) (lst intC (entN (entAt S0.tab 2)) (entC (entAt S0.tab 2)))).symm (by kernel_rfl)))
noncomputable def energy_Bill_go {R : Type} (N : Nat) (args : List SV) (T : Tab) (kf : SV × Tab → Option R) : Option R :=
  energy_Bill N (Cod.dec api_BandC (lget (toCs (lget args 0)))) (Cod.dec api_TimesC (lget (toCs (lget args 1)))) (lstC intC (lget args 2)) (lstC intC (lget args 3)) (fun q0 q1 => kf (lget [.tup [.int .i64 q0, .int .i64 q1]] 0, []))
noncomputable def energy_Bill_cal {R : Type} (N : Nat) : Cal R := callM (energy_bill_cal N) 27 0 energy_Bill_sp (energy_Bill_go N)
theorem energy_Bill_cal_ok {R : Type} (N : Nat) : CalOk E.P (energy_Bill_cal (R := R) N) :=
  callM_ok hE (energy_bill_cal_ok N) (lp := energy_Bill_lp N) (jn := noJn) (keys := [8]) (kCons (energy_Bill_k8 N) kNil) (by kernel_rfl) (js := []) jNil (by kernel_rfl) energy_Bill_sp_ok energy_Bill_rs_ok (fun args T kf => Eq.trans (energy_Bill_def N (Cod.dec api_BandC (lget (toCs (lget args 0)))) (Cod.dec api_TimesC (lget (toCs (lget args 1)))) (lstC intC (lget args 2)) (lstC intC (lget args 3)) (fun q0 q1 => kf (lget [.tup [.int .i64 q0, .int .i64 q1]] 0, []))) (by kernel_rfl : energy_Bill_run N args T kf = fnM E (energy_bill_cal N) (energy_Bill_lp N) (noJn) 27 (energy_Bill_sp.vs args) (energy_Bill_sp.tab T) 0 (resK energy_Bill_rs kf)))

def newelref11_Are_L4 : LoopSp := ⟨⟨[1, 2, 5], ⟨(dr 1 ((rSl intC) :: (rPtr 0 0) :: (dr 2 ((rInt .i64) :: (dr 32 []))))), [(0, eBlkC api_TimesC)]⟩, 1⟩, [(Option.none, ⟨[4], ⟨(dr 4 ((rBool) :: (dr 33 []))), []⟩, 0⟩), (some 0, ⟨[], ⟨(dr 38 []), []⟩, 0⟩)]⟩
theorem newelref11_Are_L4_ok : newelref11_Are_L4.Ok := ⟨⟨(drCons 1 (allCons (rSl_ok intC_ok) (allCons (rPtr_ok 0 0) (drCons 2 (allCons (rInt_ok .i64) (drCons 32 allNil)))))), (eCons (eBlkC_ok api_TimesC_ok api_TimesC_len) eNil)⟩, (xCons ⟨(drCons 4 (allCons rBool_ok (drCons 33 allNil))), eNil⟩ (xCons ⟨(drCons 38 allNil), eNil⟩ xNil))⟩
def newelref11_Are_h4 (v237 : Arr Int) (v238 : Int) (v239 : api_Times) : St := ⟨(un 1 ((slC intC v237) :: (.ptr 0 0) :: (un 2 ((.int .i64 v238) :: (un 32 []))))), [(0, .blk (Cod.enc api_TimesC v239))], 1⟩
def newelref11_Are_x4_r (q0 : Bool) : St := ⟨(un 4 ((.bool q0) :: (un 33 []))), [], 0⟩
def newelref11_Are_x4_0  : St := ⟨(un 38 []), [], 0⟩
def newelref11_Are_b4 {R : Type} (N : Nat) (rc : Arr Int → Int → api_Times → Option R) (v237 : Arr Int) (v238 : Int) (v239 : api_Times) (kr : Bool → Option R) (k0 : Unit → Option R) : Option R :=
  bif decide (v238 < (↑(Arr.n v237) : Int)) then
   bif decide ((0 : Int) ≤ v238) && decide (v238 < (↑(Arr.n v237) : Int)) then
    bif decide ((0 : Int) ≤ v238) && decide (v238 < (↑(Arr.n (api_Times.Periods v239)) : Int)) then
     bif decide ((0 : Int) ≤ v238) && decide (v238 < (↑(Arr.n (api_Times.Periods v239)) : Int)) then
      newelref11_within N (Arr.f v237 (Int.toNat v238)) (api_Span.Low (api_Period.Flow (Arr.f (api_Times.Periods v239) (Int.toNat v238)))) (api_Span.High (api_Period.Flow (Arr.f (api_Times.Periods v239) (Int.toNat v238)))) (fun r240 =>
      bif !r240 then
       kr false
      else
       rc v237 (w64 (v238 + (1 : Int))) v239)
     else
      Option.none
    else
     Option.none
   else
    Option.none
  else
   k0 ()
def newelref11_Are_l4 {R : Type} (N : Nat) : Nat → Arr Int → Int → api_Times → (Bool → Option R) → (Unit → Option R) → Option R
  | 0, _, _, _, _, _ => Option.none
  | n + 1, v237, v238, v239, kr, k0 => newelref11_Are_b4 N (fun v237 v238 v239 => newelref11_Are_l4 N n v237 v238 v239 kr k0) v237 v238 v239 kr k0


def newelref11_Are_m {R : Type} (N : Nat) (a235 : api_Times) (a236 : Arr Int) (k : Bool → Option R) : Option R :=
  bif (↑(Arr.n a236) : Int) != (↑(Arr.n (api_Times.Periods a235)) : Int) then
   k false
  else
   newelref11_Are_l4 N N a236 (0 : Int) a235 (fun r241 =>
    k r241) (fun (_ : Unit) =>
    k true)
noncomputable def newelref11_Are {R : Type} : Nat → api_Times → Arr Int → (Bool → Option R) → Option R := lock (@newelref11_Are_m R)
theorem newelref11_Are_def {R : Type} (N : Nat) (a235 : api_Times) (a236 : Arr Int) (k : Bool → Option R) : newelref11_Are N a235 a236 k = newelref11_Are_m N a235 a236 k := by unfold newelref11_Are; rw [lock_eq]
def newelref11_Are_sp : Sp := ⟨[rAgg api_TimesC, rSl intC], []⟩
theorem newelref11_Are_sp_ok : newelref11_Are_sp.Ok := ⟨(allCons (rAgg_ok api_TimesC_ok api_TimesC_len) (allCons (rSl_ok intC_ok) allNil)), eNil⟩
def newelref11_Are_rs : Sp := ⟨[rBool], []⟩
theorem newelref11_Are_rs_ok : newelref11_Are_rs.Ok := ⟨(allCons rBool_ok allNil), eNil⟩
def newelref11_Are_run {R : Type} (N : Nat) (args : List SV) (T : Tab) (kf : SV × Tab → Option R) : Option R :=
  newelref11_Are_m N (Cod.dec api_TimesC (lget (toCs (lget args 0)))) (lstC intC (lget args 1)) (fun q0 => kf (lget [.bool q0] 0, []))
def newelref11_Are_d4 {R : Type} (N : Nat) (S0 : St) (k : Exit → St → Option R) : Option R :=
  newelref11_Are_l4 N N (lstC intC (lget S0.tmps 1)) (toI (lget S0.tmps 5)) (Cod.dec api_TimesC (lget (entCs (entAt S0.tab 0)))) (fun q0 => k .ret (newelref11_Are_x4_r q0)) (fun (_ : Unit) => k (.exit 0) (newelref11_Are_x4_0 ))
def newelref11_Are_lp {R : Type} (N : Nat) : Lp R := fun body S k => bif (Go.Sx.keyOf body).getD 0 == 4 then newelref11_Are_L4.head.raw 0 S (fun S0 => newelref11_Are_d4 N S0 k) else Option.none
theorem newelref11_Are_l4_eq {R : Type} (N : Nat) (k : Exit → St → Option R) (n : Nat) : ∀ (v0 : Arr Int) (v1 : Int) (v2 : api_Times), loopM E.Θ (energy_Bill_cal N) (newelref11_Are_lp N) (noJn) 0 newelref11_Are_L4 (bodyAt E 32 4) n (newelref11_Are_h4 v0 v1 v2) k = newelref11_Are_l4 N n v0 v1 v2 (fun q0 => k .ret (newelref11_Are_x4_r q0)) (fun (_ : Unit) => k (.exit 0) (newelref11_Are_x4_0 )) := by
  induction n with
  | zero => intro v0 v1 v2; rfl
  | succ n ih =>
    intro v0 v1 v2
    refine Eq.trans (b := newelref11_Are_b4 N (fun v0 v1 v2 => loopM E.Θ (energy_Bill_cal N) (newelref11_Are_lp N) (noJn) 0 newelref11_Are_L4 (bodyAt E 32 4) n (newelref11_Are_h4 v0 v1 v2) k) v0 v1 v2 (fun q0 => k .ret (newelref11_Are_x4_r q0)) (fun (_ : Unit) => k (.exit 0) (newelref11_Are_x4_0 ))) (by kernel_rfl) ?_
    have h : (fun (v0 : Arr Int) (v1 : Int) (v2 : api_Times) => loopM E.Θ (energy_Bill_cal N) (newelref11_Are_lp N) (noJn) 0 newelref11_Are_L4 (bodyAt E 32 4) n (newelref11_Are_h4 v0 v1 v2) k) = (fun (v0 : Arr Int) (v1 : Int) (v2 : api_Times) => newelref11_Are_l4 N n v0 v1 v2 (fun q0 => k .ret (newelref11_Are_x4_r q0)) (fun (_ : Unit) => k (.exit 0) (newelref11_Are_x4_0 ))) := funext fun v0 => funext fun v1 => funext fun v2 => ih v0 v1 v2
    rw [h]
    rfl
theorem newelref11_Are_k4 {R : Type} (N : Nat) : LpKey (R := R) E 32 0 (newelref11_Are_lp N) 4 :=
  lpKey_of hE (energy_Bill_cal_ok N) (jn := noJn) newelref11_Are_L4_ok [] kNil (by kernel_rfl) [] jNil (by kernel_rfl) N fun S k =>
    Eq.trans (b := newelref11_Are_L4.head.raw 0 S (fun S0 => newelref11_Are_d4 N S0 k)) (by kernel_rfl) (congrArg (newelref11_Are_L4.head.raw 0 S) (funext fun S0 => Eq.trans (newelref11_Are_l4_eq N k N (lstC intC (lget S0.tmps 1)) (toI (lget S0.tmps 5)) (Cod.dec api_TimesC (lget (entCs (entAt S0.tab 0))))).symm (by kernel_rfl)))
noncomputable def newelref11_Are_go {R : Type} (N : Nat) (args : List SV) (T : Tab) (kf : SV × Tab → Option R) : Option R :=
  newelref11_Are N (Cod.dec api_TimesC (lget (toCs (lget args 0)))) (lstC intC (lget args 1)) (fun q0 => kf (lget [.bool q0] 0, []))
noncomputable def newelref11_Are_cal {R : Type} (N : Nat) : Cal R := callM (energy_Bill_cal N) 32 0 newelref11_Are_sp (newelref11_Are_go N)
theorem newelref11_Are_cal_ok {R : Type} (N : Nat) : CalOk E.P (newelref11_Are_cal (R := R) N) :=
  callM_ok hE (energy_Bill_cal_ok N) (lp := newelref11_Are_lp N) (jn := noJn) (keys := [4]) (kCons (newelref11_Are_k4 N) kNil) (by kernel_rfl) (js := []) jNil (by kernel_rfl) newelref11_Are_sp_ok newelref11_Are_rs_ok (fun args T kf => Eq.trans (newelref11_Are_def N (Cod.dec api_TimesC (lget (toCs (lget args 0)))) (lstC intC (lget args 1)) (fun q0 => kf (lget [.bool q0] 0, []))) (by kernel_rfl : newelref11_Are_run N args T kf = fnM E (energy_Bill_cal N) (newelref11_Are_lp N) (noJn) 32 (newelref11_Are_sp.vs args) (newelref11_Are_sp.tab T) 0 (resK newelref11_Are_rs kf)))

def newelref11_bill_L3 : LoopSp := ⟨⟨[2, 3, 4, 5, 9, 10, 11], ⟨(dr 2 ((rSl intC) :: (rSl intC) :: (rPtr 0 0) :: (rPtr 1 0) :: (dr 3 ((rInt .i64) :: (rInt .i64) :: (rInt .i64) :: (dr 43 []))))), [(0, eBlkC api_BandC), (1, eBlkC api_TimesC)]⟩, 2⟩, [(some 0, ⟨[5, 9, 10], ⟨(dr 5 ((rPtr 0 0) :: (dr 3 ((rInt .i64) :: (rInt .i64) :: (dr 44 []))))), [(0, eBlkC api_TimesC)]⟩, 1⟩)]⟩
theorem newelref11_bill_L3_ok : newelref11_bill_L3.Ok := ⟨⟨(drCons 2 (allCons (rSl_ok intC_ok) (allCons (rSl_ok intC_ok) (allCons (rPtr_ok 0 0) (allCons (rPtr_ok 1 0) (drCons 3 (allCons (rInt_ok .i64) (allCons (rInt_ok .i64) (allCons (rInt_ok .i64) (drCons 43 allNil)))))))))), (eCons (eBlkC_ok api_BandC_ok api_BandC_len) (eCons (eBlkC_ok api_TimesC_ok api_TimesC_len) eNil))⟩, (xCons ⟨(drCons 5 (allCons (rPtr_ok 0 0) (drCons 3 (allCons (rInt_ok .i64) (allCons (rInt_ok .i64) (drCons 44 allNil)))))), (eCons (eBlkC_ok api_TimesC_ok api_TimesC_len) eNil)⟩ xNil)⟩
def newelref11_bill_h3 (v247 : Arr Int) (v248 : Arr Int) (v249 : Int) (v250 : Int) (v251 : Int) (v252 : api_Band) (v253 : api_Times) : St := ⟨(un 2 ((slC intC v247) :: (slC intC v248) :: (.ptr 0 0) :: (.ptr 1 0) :: (un 3 ((.int .i64 v249) :: (.int .i64 v250) :: (.int .i64 v251) :: (un 43 []))))), [(0, .blk (Cod.enc api_BandC v252)), (1, .blk (Cod.enc api_TimesC v253))], 2⟩
def newelref11_bill_x3_0 (v253 : api_Times) (q0 : Int) (q1 : Int) : St := ⟨(un 5 ((.ptr 0 0) :: (un 3 ((.int .i64 q0) :: (.int .i64 q1) :: (un 44 []))))), [(0, .blk (Cod.enc api_TimesC v253))], 1⟩
def newelref11_bill_b3 {R : Type} (N : Nat) (rc : Arr Int → Arr Int → Int → Int → Int → api_Band → api_Times → Option R) (v247 : Arr Int) (v248 : Arr Int) (v249 : Int) (v250 : Int) (v251 : Int) (v252 : api_Band) (v253 : api_Times) (k0 : Int → Int → Option R) : Option R :=
  bif decide (v251 < (↑(Arr.n v247) : Int)) then
   bif decide ((0 : Int) ≤ v251) && decide (v251 < (↑(Arr.n v248) : Int)) then
    bif decide ((0 : Int) ≤ v251) && decide (v251 < (↑(Arr.n v247) : Int)) then
     newelref11_power N v252 (Arr.f v248 (Int.toNat v251)) (Arr.f v247 (Int.toNat v251)) (fun r254 =>
     bif decide ((0 : Int) ≤ v251) && decide (v251 < (↑(Arr.n (api_Times.Periods v253)) : Int)) then
      bif decide ((0 : Int) ≤ v251) && decide (v251 < (↑(Arr.n (api_Times.Periods v253)) : Int)) then
       rc v247 v248 (w64 (v249 + w64 (w64 (r254 * api_Period.Lasts (Arr.f (api_Times.Periods v253) (Int.toNat v251))) * api_Period.Price (Arr.f (api_Times.Periods v253) (Int.toNat v251))))) (if r254 > v250 then r254 else v250) (w64 (v251 + (1 : Int))) v252 v253
      else
       Option.none
     else
      Option.none)
    else
     Option.none
   else
    Option.none
  else
   k0 v249 v250
def newelref11_bill_l3 {R : Type} (N : Nat) : Nat → Arr Int → Arr Int → Int → Int → Int → api_Band → api_Times → (Int → Int → Option R) → Option R
  | 0, _, _, _, _, _, _, _, _ => Option.none
  | n + 1, v247, v248, v249, v250, v251, v252, v253, k0 => newelref11_bill_b3 N (fun v247 v248 v249 v250 v251 v252 v253 => newelref11_bill_l3 N n v247 v248 v249 v250 v251 v252 v253 k0) v247 v248 v249 v250 v251 v252 v253 k0


def newelref11_bill_m {R : Type} (N : Nat) (a243 : api_Band) (a244 : api_Times) (a245 : Arr Int) (a246 : Arr Int) (k : Int → Option R) : Option R :=
  newelref11_bill_l3 N N a245 a246 (0 : Int) (0 : Int) (0 : Int) a243 a244 (fun r255 r256 =>
   k (w64 (r255 + w64 (r256 * api_Times.Peak a244))))
noncomputable def newelref11_bill {R : Type} : Nat → api_Band → api_Times → Arr Int → Arr Int → (Int → Option R) → Option R := lock (@newelref11_bill_m R)
theorem newelref11_bill_def {R : Type} (N : Nat) (a243 : api_Band) (a244 : api_Times) (a245 : Arr Int) (a246 : Arr Int) (k : Int → Option R) : newelref11_bill N a243 a244 a245 a246 k = newelref11_bill_m N a243 a244 a245 a246 k := by unfold newelref11_bill; rw [lock_eq]
def newelref11_bill_sp : Sp := ⟨[rAgg api_BandC, rAgg api_TimesC, rSl intC, rSl intC], []⟩
theorem newelref11_bill_sp_ok : newelref11_bill_sp.Ok := ⟨(allCons (rAgg_ok api_BandC_ok api_BandC_len) (allCons (rAgg_ok api_TimesC_ok api_TimesC_len) (allCons (rSl_ok intC_ok) (allCons (rSl_ok intC_ok) allNil)))), eNil⟩
def newelref11_bill_rs : Sp := ⟨[rInt .i64], []⟩
theorem newelref11_bill_rs_ok : newelref11_bill_rs.Ok := ⟨(allCons (rInt_ok .i64) allNil), eNil⟩
def newelref11_bill_run {R : Type} (N : Nat) (args : List SV) (T : Tab) (kf : SV × Tab → Option R) : Option R :=
  newelref11_bill_m N (Cod.dec api_BandC (lget (toCs (lget args 0)))) (Cod.dec api_TimesC (lget (toCs (lget args 1)))) (lstC intC (lget args 2)) (lstC intC (lget args 3)) (fun q0 => kf (lget [.int .i64 q0] 0, []))
def newelref11_bill_d3 {R : Type} (N : Nat) (S0 : St) (k : Exit → St → Option R) : Option R :=
  newelref11_bill_l3 N N (lstC intC (lget S0.tmps 2)) (lstC intC (lget S0.tmps 3)) (toI (lget S0.tmps 9)) (toI (lget S0.tmps 10)) (toI (lget S0.tmps 11)) (Cod.dec api_BandC (lget (entCs (entAt S0.tab 0)))) (Cod.dec api_TimesC (lget (entCs (entAt S0.tab 1)))) (fun q0 q1 => k (.exit 0) (newelref11_bill_x3_0 (Cod.dec api_TimesC (lget (entCs (entAt S0.tab 1)))) q0 q1))
def newelref11_bill_lp {R : Type} (N : Nat) : Lp R := fun body S k => bif (Go.Sx.keyOf body).getD 0 == 3 then newelref11_bill_L3.head.raw 0 S (fun S0 => newelref11_bill_d3 N S0 k) else Option.none
theorem newelref11_bill_l3_eq {R : Type} (N : Nat) (k : Exit → St → Option R) (n : Nat) : ∀ (v0 : Arr Int) (v1 : Arr Int) (v2 : Int) (v3 : Int) (v4 : Int) (v5 : api_Band) (v6 : api_Times), loopM E.Θ (newelref11_Are_cal N) (newelref11_bill_lp N) (noJn) 0 newelref11_bill_L3 (bodyAt E 43 3) n (newelref11_bill_h3 v0 v1 v2 v3 v4 v5 v6) k = newelref11_bill_l3 N n v0 v1 v2 v3 v4 v5 v6 (fun q0 q1 => k (.exit 0) (newelref11_bill_x3_0 v6 q0 q1)) := by
  induction n with
  | zero => intro v0 v1 v2 v3 v4 v5 v6; rfl
  | succ n ih =>
    intro v0 v1 v2 v3 v4 v5 v6
    refine Eq.trans (b := newelref11_bill_b3 N (fun v0 v1 v2 v3 v4 v5 v6 => loopM E.Θ (newelref11_Are_cal N) (newelref11_bill_lp N) (noJn) 0 newelref11_bill_L3 (bodyAt E 43 3) n (newelref11_bill_h3 v0 v1 v2 v3 v4 v5 v6) k) v0 v1 v2 v3 v4 v5 v6 (fun q0 q1 => k (.exit 0) (newelref11_bill_x3_0 v6 q0 q1))) (by kernel_rfl) ?_
    have h : (fun (v0 : Arr Int) (v1 : Arr Int) (v2 : Int) (v3 : Int) (v4 : Int) (v5 : api_Band) (v6 : api_Times) => loopM E.Θ (newelref11_Are_cal N) (newelref11_bill_lp N) (noJn) 0 newelref11_bill_L3 (bodyAt E 43 3) n (newelref11_bill_h3 v0 v1 v2 v3 v4 v5 v6) k) = (fun (v0 : Arr Int) (v1 : Arr Int) (v2 : Int) (v3 : Int) (v4 : Int) (v5 : api_Band) (v6 : api_Times) => newelref11_bill_l3 N n v0 v1 v2 v3 v4 v5 v6 (fun q0 q1 => k (.exit 0) (newelref11_bill_x3_0 v6 q0 q1))) := funext fun v0 => funext fun v1 => funext fun v2 => funext fun v3 => funext fun v4 => funext fun v5 => funext fun v6 => ih v0 v1 v2 v3 v4 v5 v6
    rw [h]
    rfl
theorem newelref11_bill_k3 {R : Type} (N : Nat) : LpKey (R := R) E 43 0 (newelref11_bill_lp N) 3 :=
  lpKey_of hE (newelref11_Are_cal_ok N) (jn := noJn) newelref11_bill_L3_ok [] kNil (by kernel_rfl) [] jNil (by kernel_rfl) N fun S k =>
    Eq.trans (b := newelref11_bill_L3.head.raw 0 S (fun S0 => newelref11_bill_d3 N S0 k)) (by kernel_rfl) (congrArg (newelref11_bill_L3.head.raw 0 S) (funext fun S0 => Eq.trans (newelref11_bill_l3_eq N k N (lstC intC (lget S0.tmps 2)) (lstC intC (lget S0.tmps 3)) (toI (lget S0.tmps 9)) (toI (lget S0.tmps 10)) (toI (lget S0.tmps 11)) (Cod.dec api_BandC (lget (entCs (entAt S0.tab 0)))) (Cod.dec api_TimesC (lget (entCs (entAt S0.tab 1))))).symm (by kernel_rfl)))
noncomputable def newelref11_bill_go {R : Type} (N : Nat) (args : List SV) (T : Tab) (kf : SV × Tab → Option R) : Option R :=
  newelref11_bill N (Cod.dec api_BandC (lget (toCs (lget args 0)))) (Cod.dec api_TimesC (lget (toCs (lget args 1)))) (lstC intC (lget args 2)) (lstC intC (lget args 3)) (fun q0 => kf (lget [.int .i64 q0] 0, []))
noncomputable def newelref11_bill_cal {R : Type} (N : Nat) : Cal R := callM (newelref11_Are_cal N) 43 0 newelref11_bill_sp (newelref11_bill_go N)
theorem newelref11_bill_cal_ok {R : Type} (N : Nat) : CalOk E.P (newelref11_bill_cal (R := R) N) :=
  callM_ok hE (newelref11_Are_cal_ok N) (lp := newelref11_bill_lp N) (jn := noJn) (keys := [3]) (kCons (newelref11_bill_k3 N) kNil) (by kernel_rfl) (js := []) jNil (by kernel_rfl) newelref11_bill_sp_ok newelref11_bill_rs_ok (fun args T kf => Eq.trans (newelref11_bill_def N (Cod.dec api_BandC (lget (toCs (lget args 0)))) (Cod.dec api_TimesC (lget (toCs (lget args 1)))) (lstC intC (lget args 2)) (lstC intC (lget args 3)) (fun q0 => kf (lget [.int .i64 q0] 0, []))) (by kernel_rfl : newelref11_bill_run N args T kf = fnM E (newelref11_Are_cal N) (newelref11_bill_lp N) (noJn) 43 (newelref11_bill_sp.vs args) (newelref11_bill_sp.tab T) 0 (resK newelref11_bill_rs kf)))


def newelref11_Bill_m {R : Type} (N : Nat) (a230 : api_Band) (a231 : api_Times) (a232 : Arr Int) (a233 : Arr Int) (k : Int → Int → Option R) : Option R :=
  newelref11_CheckPlan N a230 a231 a232 (fun r234 =>
  bif r234 != (0 : Int) then
   k (0 : Int) r234
  else
   newelref11_Are N a231 a233 (fun r242 =>
   bif !r242 then
    k (0 : Int) (1 : Int)
   else
    newelref11_bill N a230 a231 a232 a233 (fun r257 =>
    k r257 (0 : Int))))
noncomputable def newelref11_Bill {R : Type} : Nat → api_Band → api_Times → Arr Int → Arr Int → (Int → Int → Option R) → Option R := lock (@newelref11_Bill_m R)
theorem newelref11_Bill_def {R : Type} (N : Nat) (a230 : api_Band) (a231 : api_Times) (a232 : Arr Int) (a233 : Arr Int) (k : Int → Int → Option R) : newelref11_Bill N a230 a231 a232 a233 k = newelref11_Bill_m N a230 a231 a232 a233 k := by unfold newelref11_Bill; rw [lock_eq]
def newelref11_Bill_sp : Sp := ⟨[rAgg api_BandC, rAgg api_TimesC, rSl intC, rSl intC], []⟩
theorem newelref11_Bill_sp_ok : newelref11_Bill_sp.Ok := ⟨(allCons (rAgg_ok api_BandC_ok api_BandC_len) (allCons (rAgg_ok api_TimesC_ok api_TimesC_len) (allCons (rSl_ok intC_ok) (allCons (rSl_ok intC_ok) allNil)))), eNil⟩
def newelref11_Bill_rs : Sp := ⟨[rTup [rInt .i64, rInt .i64]], []⟩
theorem newelref11_Bill_rs_ok : newelref11_Bill_rs.Ok := ⟨(allCons (rTup_ok (allCons (rInt_ok .i64) (allCons (rInt_ok .i64) allNil))) allNil), eNil⟩
def newelref11_Bill_run {R : Type} (N : Nat) (args : List SV) (T : Tab) (kf : SV × Tab → Option R) : Option R :=
  newelref11_Bill_m N (Cod.dec api_BandC (lget (toCs (lget args 0)))) (Cod.dec api_TimesC (lget (toCs (lget args 1)))) (lstC intC (lget args 2)) (lstC intC (lget args 3)) (fun q0 q1 => kf (lget [.tup [.int .i64 q0, .int .i64 q1]] 0, []))
def newelref11_Bill_lp {R : Type} (N : Nat) : Lp R := fun body S k => Option.none
noncomputable def newelref11_Bill_go {R : Type} (N : Nat) (args : List SV) (T : Tab) (kf : SV × Tab → Option R) : Option R :=
  newelref11_Bill N (Cod.dec api_BandC (lget (toCs (lget args 0)))) (Cod.dec api_TimesC (lget (toCs (lget args 1)))) (lstC intC (lget args 2)) (lstC intC (lget args 3)) (fun q0 q1 => kf (lget [.tup [.int .i64 q0, .int .i64 q1]] 0, []))
noncomputable def newelref11_Bill_cal {R : Type} (N : Nat) : Cal R := callM (newelref11_bill_cal N) 28 0 newelref11_Bill_sp (newelref11_Bill_go N)
theorem newelref11_Bill_cal_ok {R : Type} (N : Nat) : CalOk E.P (newelref11_Bill_cal (R := R) N) :=
  callM_ok hE (newelref11_bill_cal_ok N) (lp := newelref11_Bill_lp N) (jn := noJn) (keys := []) kNil (by kernel_rfl) (js := []) jNil (by kernel_rfl) newelref11_Bill_sp_ok newelref11_Bill_rs_ok (fun args T kf => Eq.trans (newelref11_Bill_def N (Cod.dec api_BandC (lget (toCs (lget args 0)))) (Cod.dec api_TimesC (lget (toCs (lget args 1)))) (lstC intC (lget args 2)) (lstC intC (lget args 3)) (fun q0 q1 => kf (lget [.tup [.int .i64 q0, .int .i64 q1]] 0, []))) (by kernel_rfl : newelref11_Bill_run N args T kf = fnM E (newelref11_bill_cal N) (newelref11_Bill_lp N) (noJn) 28 (newelref11_Bill_sp.vs args) (newelref11_Bill_sp.tab T) 0 (resK newelref11_Bill_rs kf)))


def energy_ends_m {R : Type} (N : Nat) (a273 : api_Band) (a274 : api_Period) (a275 : Int) (k : Int → Int → Option R) : Option R :=
  energy_power N a273 (api_Span.Low (api_Period.Flow a274)) a275 (fun r276 =>
  energy_power N a273 (api_Span.High (api_Period.Flow a274)) a275 (fun r277 =>
  k (if r277 < r276 then r277 else r276) (if r277 > r276 then r277 else r276)))
noncomputable def energy_ends {R : Type} : Nat → api_Band → api_Period → Int → (Int → Int → Option R) → Option R := lock (@energy_ends_m R)
theorem energy_ends_def {R : Type} (N : Nat) (a273 : api_Band) (a274 : api_Period) (a275 : Int) (k : Int → Int → Option R) : energy_ends N a273 a274 a275 k = energy_ends_m N a273 a274 a275 k := by unfold energy_ends; rw [lock_eq]
def energy_ends_sp : Sp := ⟨[rAgg api_BandC, rAgg api_PeriodC, rInt .i64], []⟩
theorem energy_ends_sp_ok : energy_ends_sp.Ok := ⟨(allCons (rAgg_ok api_BandC_ok api_BandC_len) (allCons (rAgg_ok api_PeriodC_ok api_PeriodC_len) (allCons (rInt_ok .i64) allNil))), eNil⟩
def energy_ends_rs : Sp := ⟨[rTup [rInt .i64, rInt .i64]], []⟩
theorem energy_ends_rs_ok : energy_ends_rs.Ok := ⟨(allCons (rTup_ok (allCons (rInt_ok .i64) (allCons (rInt_ok .i64) allNil))) allNil), eNil⟩
def energy_ends_run {R : Type} (N : Nat) (args : List SV) (T : Tab) (kf : SV × Tab → Option R) : Option R :=
  energy_ends_m N (Cod.dec api_BandC (lget (toCs (lget args 0)))) (Cod.dec api_PeriodC (lget (toCs (lget args 1)))) (toI (lget args 2)) (fun q0 q1 => kf (lget [.tup [.int .i64 q0, .int .i64 q1]] 0, []))
def energy_ends_lp {R : Type} (N : Nat) : Lp R := fun body S k => Option.none
noncomputable def energy_ends_go {R : Type} (N : Nat) (args : List SV) (T : Tab) (kf : SV × Tab → Option R) : Option R :=
  energy_ends N (Cod.dec api_BandC (lget (toCs (lget args 0)))) (Cod.dec api_PeriodC (lget (toCs (lget args 1)))) (toI (lget args 2)) (fun q0 q1 => kf (lget [.tup [.int .i64 q0, .int .i64 q1]] 0, []))
noncomputable def energy_ends_cal {R : Type} (N : Nat) : Cal R := callM (newelref11_Bill_cal N) 55 0 energy_ends_sp (energy_ends_go N)
theorem energy_ends_cal_ok {R : Type} (N : Nat) : CalOk E.P (energy_ends_cal (R := R) N) :=
  callM_ok hE (newelref11_Bill_cal_ok N) (lp := energy_ends_lp N) (jn := noJn) (keys := []) kNil (by kernel_rfl) (js := []) jNil (by kernel_rfl) energy_ends_sp_ok energy_ends_rs_ok (fun args T kf => Eq.trans (energy_ends_def N (Cod.dec api_BandC (lget (toCs (lget args 0)))) (Cod.dec api_PeriodC (lget (toCs (lget args 1)))) (toI (lget args 2)) (fun q0 q1 => kf (lget [.tup [.int .i64 q0, .int .i64 q1]] 0, []))) (by kernel_rfl : energy_ends_run N args T kf = fnM E (newelref11_Bill_cal N) (energy_ends_lp N) (noJn) 55 (energy_ends_sp.vs args) (energy_ends_sp.tab T) 0 (resK energy_ends_rs kf)))

def energy_Bounds_L6 : LoopSp := ⟨⟨[2, 3, 4, 6, 9, 10, 28, 29, 30], ⟨(dr 2 ((rSl intC) :: (rPtr 0 0) :: (rPtr 1 0) :: (dr 1 ((rPtr 2 0) :: (dr 2 ((rRow 3) :: (rRow 4) :: (dr 17 ((rSl api_PeriodC) :: (rInt .i64) :: (rInt .i64) :: (dr 28 []))))))))), [(0, eBlkC api_BandC), (1, eBlkC api_TimesC), (2, eBlkC api_SpanC), (3, eRow intC), (4, eRow intC)]⟩, 5⟩, [(some 0, ⟨[4, 6, 9, 10], ⟨(dr 4 ((rPtr 0 0) :: (dr 1 ((rPtr 1 0) :: (dr 2 ((rRow 2) :: (rRow 3) :: (dr 48 []))))))), [(0, eBlkC api_TimesC), (1, eBlkC api_SpanC), (2, eRow intC), (3, eRow intC)]⟩, 4⟩)]⟩
theorem energy_Bounds_L6_ok : energy_Bounds_L6.Ok := ⟨⟨(drCons 2 (allCons (rSl_ok intC_ok) (allCons (rPtr_ok 0 0) (allCons (rPtr_ok 1 0) (drCons 1 (allCons (rPtr_ok 2 0) (drCons 2 (allCons (rRow_ok 3) (allCons (rRow_ok 4) (drCons 17 (allCons (rSl_ok api_PeriodC_ok) (allCons (rInt_ok .i64) (allCons (rInt_ok .i64) (drCons 28 allNil)))))))))))))), (eCons (eBlkC_ok api_BandC_ok api_BandC_len) (eCons (eBlkC_ok api_TimesC_ok api_TimesC_len) (eCons (eBlkC_ok api_SpanC_ok api_SpanC_len) (eCons (eRow_ok intC_ok) (eCons (eRow_ok intC_ok) eNil)))))⟩, (xCons ⟨(drCons 4 (allCons (rPtr_ok 0 0) (drCons 1 (allCons (rPtr_ok 1 0) (drCons 2 (allCons (rRow_ok 2) (allCons (rRow_ok 3) (drCons 48 allNil)))))))), (eCons (eBlkC_ok api_TimesC_ok api_TimesC_len) (eCons (eBlkC_ok api_SpanC_ok api_SpanC_len) (eCons (eRow_ok intC_ok) (eCons (eRow_ok intC_ok) eNil))))⟩ xNil)⟩
def energy_Bounds_h6 (v262 : Arr Int) (v263 : Arr api_Period) (v264 : Int) (v265 : Int) (v266 : api_Band) (v267 : api_Times) (v268 : api_Span) (v269 : Bool) (v270 : Arr Int) (v271 : Bool) (v272 : Arr Int) : St := ⟨(un 2 ((slC intC v262) :: (.ptr 0 0) :: (.ptr 1 0) :: (un 1 ((.ptr 2 0) :: (un 2 ((.row 3) :: (.row 4) :: (un 17 ((slC api_PeriodC v263) :: (.int .i64 v264) :: (.int .i64 v265) :: (un 28 []))))))))), [(0, .blk (Cod.enc api_BandC v266)), (1, .blk (Cod.enc api_TimesC v267)), (2, .blk (Cod.enc api_SpanC v268)), (3, rowE intC v269 v270), (4, rowE intC v271 v272)], 5⟩
def energy_Bounds_x6_0 (v267 : api_Times) (v268 : api_Span) (v269 : Bool) (v271 : Bool) (q3 : Arr Int) (q5 : Arr Int) : St := ⟨(un 4 ((.ptr 0 0) :: (un 1 ((.ptr 1 0) :: (un 2 ((.row 2) :: (.row 3) :: (un 48 []))))))), [(0, .blk (Cod.enc api_TimesC v267)), (1, .blk (Cod.enc api_SpanC v268)), (2, rowE intC v269 q3), (3, rowE intC v271 q5)], 4⟩
def energy_Bounds_b6 {R : Type} (N : Nat) (rc : Arr Int → Arr api_Period → Int → Int → api_Band → api_Times → api_Span → Bool → Arr Int → Bool → Arr Int → Option R) (v262 : Arr Int) (v263 : Arr api_Period) (v264 : Int) (v265 : Int) (v266 : api_Band) (v267 : api_Times) (v268 : api_Span) (v269 : Bool) (v270 : Arr Int) (v271 : Bool) (v272 : Arr Int) (k0 : Arr Int → Arr Int → Option R) : Option R :=
  bif decide (v265 < v264) then
   bif decide ((0 : Int) ≤ v265) && decide (v265 < (↑(Arr.n v263) : Int)) then
    bif decide ((0 : Int) ≤ v265) && decide (v265 < (↑(Arr.n v262) : Int)) then
     energy_ends N v266 (Arr.f v263 (Int.toNat v265)) (Arr.f v262 (Int.toNat v265)) (fun r278 r279 =>
     bif decide ((0 : Int) ≤ v265) && decide (v265 < (↑(Arr.n v270) : Int)) then
      bif decide ((0 : Int) ≤ v265) && decide (v265 < (↑(Arr.n v272) : Int)) then
       rc v262 v263 v264 (w64 (v265 + (1 : Int))) v266 v267 v268 v269 (lst intC (Arr.n v270) (setCs (Int.toNat v265) (0 : Nat) (Cod.cell intC (Arr.f v270)) [SV.int IntKind.i64 r278])) v271 (lst intC (Arr.n v272) (setCs (Int.toNat v265) (0 : Nat) (Cod.cell intC (Arr.f v272)) [SV.int IntKind.i64 r279]))
      else
       Option.none
     else
      Option.none)
    else
     Option.none
   else
    Option.none
  else
   k0 v270 v272
def energy_Bounds_l6 {R : Type} (N : Nat) : Nat → Arr Int → Arr api_Period → Int → Int → api_Band → api_Times → api_Span → Bool → Arr Int → Bool → Arr Int → (Arr Int → Arr Int → Option R) → Option R
  | 0, _, _, _, _, _, _, _, _, _, _, _, _ => Option.none
  | n + 1, v262, v263, v264, v265, v266, v267, v268, v269, v270, v271, v272, k0 => energy_Bounds_b6 N (fun v262 v263 v264 v265 v266 v267 v268 v269 v270 v271 v272 => energy_Bounds_l6 N n v262 v263 v264 v265 v266 v267 v268 v269 v270 v271 v272 k0) v262 v263 v264 v265 v266 v267 v268 v269 v270 v271 v272 k0


def energy_Bounds_m {R : Type} (N : Nat) (a258 : api_Band) (a259 : api_Times) (a260 : Arr Int) (k : api_Span → Int → Option R) : Option R :=
  energy_checkPlan N a258 a259 a260 (fun r261 =>
  bif r261 != (0 : Int) then
   k (api_Span.mk (0 : Int) (0 : Int)) r261
  else
   bif decide ((↑(Arr.n a260) : Int) ≤ (↑(Arr.n a260) : Int)) && decide ((↑(Arr.n a260) : Int) ≤ (1073741824 : Int)) then
    bif decide ((↑(Arr.n a260) : Int) ≤ (↑(Arr.n a260) : Int)) && decide ((↑(Arr.n a260) : Int) ≤ (1073741824 : Int)) then
     energy_Bounds_l6 N N a260 (api_Times.Periods a259) ((↑(Arr.n (api_Times.Periods a259)) : Int)) (0 : Int) a258 a259 (api_Span.mk (0 : Int) (0 : Int)) false (lst intC (Int.toNat (↑(Arr.n a260) : Int)) (zeroC [SV.int IntKind.i64 (0 : Int)])) false (lst intC (Int.toNat (↑(Arr.n a260) : Int)) (zeroC [SV.int IntKind.i64 (0 : Int)])) (fun r280 r281 =>
      energy_bill N a259 r280 (fun r282 =>
      energy_bill N a259 r281 (fun r283 =>
      k (api_Span.mk r282 r283) (0 : Int))))
    else
     Option.none
   else
    Option.none)
noncomputable def energy_Bounds {R : Type} : Nat → api_Band → api_Times → Arr Int → (api_Span → Int → Option R) → Option R := lock (@energy_Bounds_m R)
theorem energy_Bounds_def {R : Type} (N : Nat) (a258 : api_Band) (a259 : api_Times) (a260 : Arr Int) (k : api_Span → Int → Option R) : energy_Bounds N a258 a259 a260 k = energy_Bounds_m N a258 a259 a260 k := by unfold energy_Bounds; rw [lock_eq]
def energy_Bounds_sp : Sp := ⟨[rAgg api_BandC, rAgg api_TimesC, rSl intC], []⟩
theorem energy_Bounds_sp_ok : energy_Bounds_sp.Ok := ⟨(allCons (rAgg_ok api_BandC_ok api_BandC_len) (allCons (rAgg_ok api_TimesC_ok api_TimesC_len) (allCons (rSl_ok intC_ok) allNil))), eNil⟩
def energy_Bounds_rs : Sp := ⟨[rTup [rAgg api_SpanC, rInt .i64]], []⟩
theorem energy_Bounds_rs_ok : energy_Bounds_rs.Ok := ⟨(allCons (rTup_ok (allCons (rAgg_ok api_SpanC_ok api_SpanC_len) (allCons (rInt_ok .i64) allNil))) allNil), eNil⟩
def energy_Bounds_run {R : Type} (N : Nat) (args : List SV) (T : Tab) (kf : SV × Tab → Option R) : Option R :=
  energy_Bounds_m N (Cod.dec api_BandC (lget (toCs (lget args 0)))) (Cod.dec api_TimesC (lget (toCs (lget args 1)))) (lstC intC (lget args 2)) (fun q0 q1 => kf (lget [.tup [.agg (Cod.enc api_SpanC q0), .int .i64 q1]] 0, []))
def energy_Bounds_d6 {R : Type} (N : Nat) (S0 : St) (k : Exit → St → Option R) : Option R :=
  energy_Bounds_l6 N N (lstC intC (lget S0.tmps 2)) (lstC api_PeriodC (lget S0.tmps 28)) (toI (lget S0.tmps 29)) (toI (lget S0.tmps 30)) (Cod.dec api_BandC (lget (entCs (entAt S0.tab 0)))) (Cod.dec api_TimesC (lget (entCs (entAt S0.tab 1)))) (Cod.dec api_SpanC (lget (entCs (entAt S0.tab 2)))) (entNl (entAt S0.tab 3)) (lst intC (entN (entAt S0.tab 3)) (entC (entAt S0.tab 3))) (entNl (entAt S0.tab 4)) (lst intC (entN (entAt S0.tab 4)) (entC (entAt S0.tab 4))) (fun q3 q5 => k (.exit 0) (energy_Bounds_x6_0 (Cod.dec api_TimesC (lget (entCs (entAt S0.tab 1)))) (Cod.dec api_SpanC (lget (entCs (entAt S0.tab 2)))) (entNl (entAt S0.tab 3)) (entNl (entAt S0.tab 4)) q3 q5))
def energy_Bounds_lp {R : Type} (N : Nat) : Lp R := fun body S k => bif (Go.Sx.keyOf body).getD 0 == 6 then energy_Bounds_L6.head.raw 0 S (fun S0 => energy_Bounds_d6 N S0 k) else Option.none
theorem energy_Bounds_l6_eq {R : Type} (N : Nat) (k : Exit → St → Option R) (n : Nat) : ∀ (v0 : Arr Int) (v1 : Arr api_Period) (v2 : Int) (v3 : Int) (v4 : api_Band) (v5 : api_Times) (v6 : api_Span) (v7 : Bool) (v8 : Arr Int) (v9 : Bool) (v10 : Arr Int), loopM E.Θ (energy_ends_cal N) (energy_Bounds_lp N) (noJn) 0 energy_Bounds_L6 (bodyAt E 29 6) n (energy_Bounds_h6 v0 v1 v2 v3 v4 v5 v6 v7 v8 v9 v10) k = energy_Bounds_l6 N n v0 v1 v2 v3 v4 v5 v6 v7 v8 v9 v10 (fun q3 q5 => k (.exit 0) (energy_Bounds_x6_0 v5 v6 v7 v9 q3 q5)) := by
  induction n with
  | zero => intro v0 v1 v2 v3 v4 v5 v6 v7 v8 v9 v10; rfl
  | succ n ih =>
    intro v0 v1 v2 v3 v4 v5 v6 v7 v8 v9 v10
    refine Eq.trans (b := energy_Bounds_b6 N (fun v0 v1 v2 v3 v4 v5 v6 v7 v8 v9 v10 => loopM E.Θ (energy_ends_cal N) (energy_Bounds_lp N) (noJn) 0 energy_Bounds_L6 (bodyAt E 29 6) n (energy_Bounds_h6 v0 v1 v2 v3 v4 v5 v6 v7 v8 v9 v10) k) v0 v1 v2 v3 v4 v5 v6 v7 v8 v9 v10 (fun q3 q5 => k (.exit 0) (energy_Bounds_x6_0 v5 v6 v7 v9 q3 q5))) (by kernel_rfl) ?_
    have h : (fun (v0 : Arr Int) (v1 : Arr api_Period) (v2 : Int) (v3 : Int) (v4 : api_Band) (v5 : api_Times) (v6 : api_Span) (v7 : Bool) (v8 : Arr Int) (v9 : Bool) (v10 : Arr Int) => loopM E.Θ (energy_ends_cal N) (energy_Bounds_lp N) (noJn) 0 energy_Bounds_L6 (bodyAt E 29 6) n (energy_Bounds_h6 v0 v1 v2 v3 v4 v5 v6 v7 v8 v9 v10) k) = (fun (v0 : Arr Int) (v1 : Arr api_Period) (v2 : Int) (v3 : Int) (v4 : api_Band) (v5 : api_Times) (v6 : api_Span) (v7 : Bool) (v8 : Arr Int) (v9 : Bool) (v10 : Arr Int) => energy_Bounds_l6 N n v0 v1 v2 v3 v4 v5 v6 v7 v8 v9 v10 (fun q3 q5 => k (.exit 0) (energy_Bounds_x6_0 v5 v6 v7 v9 q3 q5))) := funext fun v0 => funext fun v1 => funext fun v2 => funext fun v3 => funext fun v4 => funext fun v5 => funext fun v6 => funext fun v7 => funext fun v8 => funext fun v9 => funext fun v10 => ih v0 v1 v2 v3 v4 v5 v6 v7 v8 v9 v10
    rw [h]
    rfl
theorem energy_Bounds_k6 {R : Type} (N : Nat) : LpKey (R := R) E 29 0 (energy_Bounds_lp N) 6 :=
  lpKey_of hE (energy_ends_cal_ok N) (jn := noJn) energy_Bounds_L6_ok [] kNil (by kernel_rfl) [] jNil (by kernel_rfl) N fun S k =>
    Eq.trans (b := energy_Bounds_L6.head.raw 0 S (fun S0 => energy_Bounds_d6 N S0 k)) (by kernel_rfl) (congrArg (energy_Bounds_L6.head.raw 0 S) (funext fun S0 => Eq.trans (energy_Bounds_l6_eq N k N (lstC intC (lget S0.tmps 2)) (lstC api_PeriodC (lget S0.tmps 28)) (toI (lget S0.tmps 29)) (toI (lget S0.tmps 30)) (Cod.dec api_BandC (lget (entCs (entAt S0.tab 0)))) (Cod.dec api_TimesC (lget (entCs (entAt S0.tab 1)))) (Cod.dec api_SpanC (lget (entCs (entAt S0.tab 2)))) (entNl (entAt S0.tab 3)) (lst intC (entN (entAt S0.tab 3)) (entC (entAt S0.tab 3))) (entNl (entAt S0.tab 4)) (lst intC (entN (entAt S0.tab 4)) (entC (entAt S0.tab 4)))).symm (by kernel_rfl)))
noncomputable def energy_Bounds_go {R : Type} (N : Nat) (args : List SV) (T : Tab) (kf : SV × Tab → Option R) : Option R :=
  energy_Bounds N (Cod.dec api_BandC (lget (toCs (lget args 0)))) (Cod.dec api_TimesC (lget (toCs (lget args 1)))) (lstC intC (lget args 2)) (fun q0 q1 => kf (lget [.tup [.agg (Cod.enc api_SpanC q0), .int .i64 q1]] 0, []))
noncomputable def energy_Bounds_cal {R : Type} (N : Nat) : Cal R := callM (energy_ends_cal N) 29 0 energy_Bounds_sp (energy_Bounds_go N)
theorem energy_Bounds_cal_ok {R : Type} (N : Nat) : CalOk E.P (energy_Bounds_cal (R := R) N) :=
  callM_ok hE (energy_ends_cal_ok N) (lp := energy_Bounds_lp N) (jn := noJn) (keys := [6]) (kCons (energy_Bounds_k6 N) kNil) (by kernel_rfl) (js := []) jNil (by kernel_rfl) energy_Bounds_sp_ok energy_Bounds_rs_ok (fun args T kf => Eq.trans (energy_Bounds_def N (Cod.dec api_BandC (lget (toCs (lget args 0)))) (Cod.dec api_TimesC (lget (toCs (lget args 1)))) (lstC intC (lget args 2)) (fun q0 q1 => kf (lget [.tup [.agg (Cod.enc api_SpanC q0), .int .i64 q1]] 0, []))) (by kernel_rfl : energy_Bounds_run N args T kf = fnM E (energy_ends_cal N) (energy_Bounds_lp N) (noJn) 29 (energy_Bounds_sp.vs args) (energy_Bounds_sp.tab T) 0 (resK energy_Bounds_rs kf)))

def newelref11_ends_L3 : LoopSp := ⟨⟨[2, 3, 4, 7, 8], ⟨(dr 2 ((rBool) :: (rPtr 0 0) :: (rPtr 1 0) :: (dr 2 ((rRow 2) :: (rInt .i64) :: (dr 32 []))))), [(0, eBlkC api_BandC), (1, eBlkC api_TimesC), (2, eRow intC)]⟩, 3⟩, [(some 0, ⟨[7], ⟨(dr 7 ((rRow 0) :: (dr 33 []))), [(0, eRow intC)]⟩, 1⟩)]⟩
theorem newelref11_ends_L3_ok : newelref11_ends_L3.Ok := ⟨⟨(drCons 2 (allCons rBool_ok (allCons (rPtr_ok 0 0) (allCons (rPtr_ok 1 0) (drCons 2 (allCons (rRow_ok 2) (allCons (rInt_ok .i64) (drCons 32 allNil)))))))), (eCons (eBlkC_ok api_BandC_ok api_BandC_len) (eCons (eBlkC_ok api_TimesC_ok api_TimesC_len) (eCons (eRow_ok intC_ok) eNil)))⟩, (xCons ⟨(drCons 7 (allCons (rRow_ok 0) (drCons 33 allNil))), (eCons (eRow_ok intC_ok) eNil)⟩ xNil)⟩
def newelref11_ends_h3 (v291 : Bool) (v292 : Int) (v293 : api_Band) (v294 : api_Times) (v295 : Bool) (v296 : Arr Int) : St := ⟨(un 2 ((.bool v291) :: (.ptr 0 0) :: (.ptr 1 0) :: (un 2 ((.row 2) :: (.int .i64 v292) :: (un 32 []))))), [(0, .blk (Cod.enc api_BandC v293)), (1, .blk (Cod.enc api_TimesC v294)), (2, rowE intC v295 v296)], 3⟩
def newelref11_ends_x3_0 (q0 : Bool) (q1 : Arr Int) : St := ⟨(un 7 ((.row 0) :: (un 33 []))), [(0, rowE intC q0 q1)], 1⟩
def newelref11_ends_b3 {R : Type} (N : Nat) (rc : Bool → Int → api_Band → api_Times → Bool → Arr Int → Option R) (v291 : Bool) (v292 : Int) (v293 : api_Band) (v294 : api_Times) (v295 : Bool) (v296 : Arr Int) (k0 : Bool → Arr Int → Option R) : Option R :=
  bif decide (v292 < (↑(Arr.n (api_Times.Periods v294)) : Int)) then
   bif api_Band.Up v293 == v291 then
    bif decide ((0 : Int) ≤ v292) && decide (v292 < (↑(Arr.n (api_Times.Periods v294)) : Int)) then
     bif room (Arr.n v296 + (1 : Nat)) then
      rc v291 (w64 (v292 + (1 : Int))) v293 v294 false (lst intC (Arr.n v296 + (1 : Nat)) (catC (Arr.n v296) (Cod.cell intC (Arr.f v296)) (litC [SV.int IntKind.i64 (0 : Int)] [[SV.int IntKind.i64 (api_Span.High (api_Period.Flow (Arr.f (api_Times.Periods v294) (Int.toNat v292))))]])))
     else
      Option.none
    else
     Option.none
   else
    bif decide ((0 : Int) ≤ v292) && decide (v292 < (↑(Arr.n (api_Times.Periods v294)) : Int)) then
     bif room (Arr.n v296 + (1 : Nat)) then
      rc v291 (w64 (v292 + (1 : Int))) v293 v294 false (lst intC (Arr.n v296 + (1 : Nat)) (catC (Arr.n v296) (Cod.cell intC (Arr.f v296)) (litC [SV.int IntKind.i64 (0 : Int)] [[SV.int IntKind.i64 (api_Span.Low (api_Period.Flow (Arr.f (api_Times.Periods v294) (Int.toNat v292))))]])))
     else
      Option.none
    else
     Option.none
  else
   k0 v295 v296
def newelref11_ends_l3 {R : Type} (N : Nat) : Nat → Bool → Int → api_Band → api_Times → Bool → Arr Int → (Bool → Arr Int → Option R) → Option R
  | 0, _, _, _, _, _, _, _ => Option.none
  | n + 1, v291, v292, v293, v294, v295, v296, k0 => newelref11_ends_b3 N (fun v291 v292 v293 v294 v295 v296 => newelref11_ends_l3 N n v291 v292 v293 v294 v295 v296 k0) v291 v292 v293 v294 v295 v296 k0


def newelref11_ends_m {R : Type} (N : Nat) (a288 : api_Band) (a289 : api_Times) (a290 : Bool) (k : Bool → Arr Int → Option R) : Option R :=
  newelref11_ends_l3 N N a290 (0 : Int) a288 a289 true (lst intC (0 : Nat) (zeroC [SV.int IntKind.i64 (0 : Int)])) (fun r297 r298 =>
   k r297 r298)
noncomputable def newelref11_ends {R : Type} : Nat → api_Band → api_Times → Bool → (Bool → Arr Int → Option R) → Option R := lock (@newelref11_ends_m R)
theorem newelref11_ends_def {R : Type} (N : Nat) (a288 : api_Band) (a289 : api_Times) (a290 : Bool) (k : Bool → Arr Int → Option R) : newelref11_ends N a288 a289 a290 k = newelref11_ends_m N a288 a289 a290 k := by unfold newelref11_ends; rw [lock_eq]
def newelref11_ends_sp : Sp := ⟨[rAgg api_BandC, rAgg api_TimesC, rBool], []⟩
theorem newelref11_ends_sp_ok : newelref11_ends_sp.Ok := ⟨(allCons (rAgg_ok api_BandC_ok api_BandC_len) (allCons (rAgg_ok api_TimesC_ok api_TimesC_len) (allCons rBool_ok allNil))), eNil⟩
def newelref11_ends_rs : Sp := ⟨[rRow 0], [(0, eRow intC)]⟩
theorem newelref11_ends_rs_ok : newelref11_ends_rs.Ok := ⟨(allCons (rRow_ok 0) allNil), (eCons (eRow_ok intC_ok) eNil)⟩
def newelref11_ends_run {R : Type} (N : Nat) (args : List SV) (T : Tab) (kf : SV × Tab → Option R) : Option R :=
  newelref11_ends_m N (Cod.dec api_BandC (lget (toCs (lget args 0)))) (Cod.dec api_TimesC (lget (toCs (lget args 1)))) (toB (lget args 2)) (fun q0 q1 => kf (lget [.row 0] 0, [(0, rowE intC q0 q1)]))
def newelref11_ends_d3 {R : Type} (N : Nat) (S0 : St) (k : Exit → St → Option R) : Option R :=
  newelref11_ends_l3 N N (toB (lget S0.tmps 2)) (toI (lget S0.tmps 8)) (Cod.dec api_BandC (lget (entCs (entAt S0.tab 0)))) (Cod.dec api_TimesC (lget (entCs (entAt S0.tab 1)))) (entNl (entAt S0.tab 2)) (lst intC (entN (entAt S0.tab 2)) (entC (entAt S0.tab 2))) (fun q0 q1 => k (.exit 0) (newelref11_ends_x3_0 q0 q1))
def newelref11_ends_lp {R : Type} (N : Nat) : Lp R := fun body S k => bif (Go.Sx.keyOf body).getD 0 == 3 then newelref11_ends_L3.head.raw 0 S (fun S0 => newelref11_ends_d3 N S0 k) else Option.none
theorem newelref11_ends_l3_eq {R : Type} (N : Nat) (k : Exit → St → Option R) (n : Nat) : ∀ (v0 : Bool) (v1 : Int) (v2 : api_Band) (v3 : api_Times) (v4 : Bool) (v5 : Arr Int), loopM E.Θ (energy_Bounds_cal N) (newelref11_ends_lp N) (noJn) 0 newelref11_ends_L3 (bodyAt E 42 3) n (newelref11_ends_h3 v0 v1 v2 v3 v4 v5) k = newelref11_ends_l3 N n v0 v1 v2 v3 v4 v5 (fun q0 q1 => k (.exit 0) (newelref11_ends_x3_0 q0 q1)) := by
  induction n with
  | zero => intro v0 v1 v2 v3 v4 v5; rfl
  | succ n ih =>
    intro v0 v1 v2 v3 v4 v5
    refine Eq.trans (b := newelref11_ends_b3 N (fun v0 v1 v2 v3 v4 v5 => loopM E.Θ (energy_Bounds_cal N) (newelref11_ends_lp N) (noJn) 0 newelref11_ends_L3 (bodyAt E 42 3) n (newelref11_ends_h3 v0 v1 v2 v3 v4 v5) k) v0 v1 v2 v3 v4 v5 (fun q0 q1 => k (.exit 0) (newelref11_ends_x3_0 q0 q1))) (by kernel_rfl) ?_
    have h : (fun (v0 : Bool) (v1 : Int) (v2 : api_Band) (v3 : api_Times) (v4 : Bool) (v5 : Arr Int) => loopM E.Θ (energy_Bounds_cal N) (newelref11_ends_lp N) (noJn) 0 newelref11_ends_L3 (bodyAt E 42 3) n (newelref11_ends_h3 v0 v1 v2 v3 v4 v5) k) = (fun (v0 : Bool) (v1 : Int) (v2 : api_Band) (v3 : api_Times) (v4 : Bool) (v5 : Arr Int) => newelref11_ends_l3 N n v0 v1 v2 v3 v4 v5 (fun q0 q1 => k (.exit 0) (newelref11_ends_x3_0 q0 q1))) := funext fun v0 => funext fun v1 => funext fun v2 => funext fun v3 => funext fun v4 => funext fun v5 => ih v0 v1 v2 v3 v4 v5
    rw [h]
    rfl
theorem newelref11_ends_k3 {R : Type} (N : Nat) : LpKey (R := R) E 42 0 (newelref11_ends_lp N) 3 :=
  lpKey_of hE (energy_Bounds_cal_ok N) (jn := noJn) newelref11_ends_L3_ok [] kNil (by kernel_rfl) [] jNil (by kernel_rfl) N fun S k =>
    Eq.trans (b := newelref11_ends_L3.head.raw 0 S (fun S0 => newelref11_ends_d3 N S0 k)) (by kernel_rfl) (congrArg (newelref11_ends_L3.head.raw 0 S) (funext fun S0 => Eq.trans (newelref11_ends_l3_eq N k N (toB (lget S0.tmps 2)) (toI (lget S0.tmps 8)) (Cod.dec api_BandC (lget (entCs (entAt S0.tab 0)))) (Cod.dec api_TimesC (lget (entCs (entAt S0.tab 1)))) (entNl (entAt S0.tab 2)) (lst intC (entN (entAt S0.tab 2)) (entC (entAt S0.tab 2)))).symm (by kernel_rfl)))
noncomputable def newelref11_ends_go {R : Type} (N : Nat) (args : List SV) (T : Tab) (kf : SV × Tab → Option R) : Option R :=
  newelref11_ends N (Cod.dec api_BandC (lget (toCs (lget args 0)))) (Cod.dec api_TimesC (lget (toCs (lget args 1)))) (toB (lget args 2)) (fun q0 q1 => kf (lget [.row 0] 0, [(0, rowE intC q0 q1)]))
noncomputable def newelref11_ends_cal {R : Type} (N : Nat) : Cal R := callM (energy_Bounds_cal N) 42 0 newelref11_ends_sp (newelref11_ends_go N)
theorem newelref11_ends_cal_ok {R : Type} (N : Nat) : CalOk E.P (newelref11_ends_cal (R := R) N) :=
  callM_ok hE (energy_Bounds_cal_ok N) (lp := newelref11_ends_lp N) (jn := noJn) (keys := [3]) (kCons (newelref11_ends_k3 N) kNil) (by kernel_rfl) (js := []) jNil (by kernel_rfl) newelref11_ends_sp_ok newelref11_ends_rs_ok (fun args T kf => Eq.trans (newelref11_ends_def N (Cod.dec api_BandC (lget (toCs (lget args 0)))) (Cod.dec api_TimesC (lget (toCs (lget args 1)))) (toB (lget args 2)) (fun q0 q1 => kf (lget [.row 0] 0, [(0, rowE intC q0 q1)]))) (by kernel_rfl : newelref11_ends_run N args T kf = fnM E (energy_Bounds_cal N) (newelref11_ends_lp N) (noJn) 42 (newelref11_ends_sp.vs args) (newelref11_ends_sp.tab T) 0 (resK newelref11_ends_rs kf)))


def newelref11_Bounds_m {R : Type} (N : Nat) (a284 : api_Band) (a285 : api_Times) (a286 : Arr Int) (k : api_Span → Int → Option R) : Option R :=
  newelref11_CheckPlan N a284 a285 a286 (fun r287 =>
  bif r287 != (0 : Int) then
   k (api_Span.mk (0 : Int) (0 : Int)) r287
  else
   newelref11_ends N a284 a285 false (fun r299 r300 =>
   newelref11_bill N a284 a285 a286 r300 (fun r301 =>
   newelref11_ends N a284 a285 true (fun r302 r303 =>
   newelref11_bill N a284 a285 a286 r303 (fun r304 =>
   k (api_Span.mk r301 r304) (0 : Int))))))
noncomputable def newelref11_Bounds {R : Type} : Nat → api_Band → api_Times → Arr Int → (api_Span → Int → Option R) → Option R := lock (@newelref11_Bounds_m R)
theorem newelref11_Bounds_def {R : Type} (N : Nat) (a284 : api_Band) (a285 : api_Times) (a286 : Arr Int) (k : api_Span → Int → Option R) : newelref11_Bounds N a284 a285 a286 k = newelref11_Bounds_m N a284 a285 a286 k := by unfold newelref11_Bounds; rw [lock_eq]
def newelref11_Bounds_sp : Sp := ⟨[rAgg api_BandC, rAgg api_TimesC, rSl intC], []⟩
theorem newelref11_Bounds_sp_ok : newelref11_Bounds_sp.Ok := ⟨(allCons (rAgg_ok api_BandC_ok api_BandC_len) (allCons (rAgg_ok api_TimesC_ok api_TimesC_len) (allCons (rSl_ok intC_ok) allNil))), eNil⟩
def newelref11_Bounds_rs : Sp := ⟨[rTup [rAgg api_SpanC, rInt .i64]], []⟩
theorem newelref11_Bounds_rs_ok : newelref11_Bounds_rs.Ok := ⟨(allCons (rTup_ok (allCons (rAgg_ok api_SpanC_ok api_SpanC_len) (allCons (rInt_ok .i64) allNil))) allNil), eNil⟩
def newelref11_Bounds_run {R : Type} (N : Nat) (args : List SV) (T : Tab) (kf : SV × Tab → Option R) : Option R :=
  newelref11_Bounds_m N (Cod.dec api_BandC (lget (toCs (lget args 0)))) (Cod.dec api_TimesC (lget (toCs (lget args 1)))) (lstC intC (lget args 2)) (fun q0 q1 => kf (lget [.tup [.agg (Cod.enc api_SpanC q0), .int .i64 q1]] 0, []))
def newelref11_Bounds_lp {R : Type} (N : Nat) : Lp R := fun body S k => Option.none
noncomputable def newelref11_Bounds_go {R : Type} (N : Nat) (args : List SV) (T : Tab) (kf : SV × Tab → Option R) : Option R :=
  newelref11_Bounds N (Cod.dec api_BandC (lget (toCs (lget args 0)))) (Cod.dec api_TimesC (lget (toCs (lget args 1)))) (lstC intC (lget args 2)) (fun q0 q1 => kf (lget [.tup [.agg (Cod.enc api_SpanC q0), .int .i64 q1]] 0, []))
noncomputable def newelref11_Bounds_cal {R : Type} (N : Nat) : Cal R := callM (newelref11_ends_cal N) 30 0 newelref11_Bounds_sp (newelref11_Bounds_go N)
theorem newelref11_Bounds_cal_ok {R : Type} (N : Nat) : CalOk E.P (newelref11_Bounds_cal (R := R) N) :=
  callM_ok hE (newelref11_ends_cal_ok N) (lp := newelref11_Bounds_lp N) (jn := noJn) (keys := []) kNil (by kernel_rfl) (js := []) jNil (by kernel_rfl) newelref11_Bounds_sp_ok newelref11_Bounds_rs_ok (fun args T kf => Eq.trans (newelref11_Bounds_def N (Cod.dec api_BandC (lget (toCs (lget args 0)))) (Cod.dec api_TimesC (lget (toCs (lget args 1)))) (lstC intC (lget args 2)) (fun q0 q1 => kf (lget [.tup [.agg (Cod.enc api_SpanC q0), .int .i64 q1]] 0, []))) (by kernel_rfl : newelref11_Bounds_run N args T kf = fnM E (newelref11_ends_cal N) (newelref11_Bounds_lp N) (noJn) 30 (newelref11_Bounds_sp.vs args) (newelref11_Bounds_sp.tab T) 0 (resK newelref11_Bounds_rs kf)))

def newelref11_Serves_L2 : LoopSp := ⟨⟨[2, 3, 4, 7], ⟨(dr 2 ((rSl intC) :: (rPtr 0 0) :: (rPtr 1 0) :: (dr 2 ((rInt .i64) :: (dr 22 []))))), [(0, eBlkC api_BandC), (1, eBlkC api_TimesC)]⟩, 2⟩, [(Option.none, ⟨[6], ⟨(dr 6 ((rBool) :: (dr 23 []))), []⟩, 0⟩), (some 0, ⟨[], ⟨(dr 30 []), []⟩, 0⟩)]⟩
theorem newelref11_Serves_L2_ok : newelref11_Serves_L2.Ok := ⟨⟨(drCons 2 (allCons (rSl_ok intC_ok) (allCons (rPtr_ok 0 0) (allCons (rPtr_ok 1 0) (drCons 2 (allCons (rInt_ok .i64) (drCons 22 allNil))))))), (eCons (eBlkC_ok api_BandC_ok api_BandC_len) (eCons (eBlkC_ok api_TimesC_ok api_TimesC_len) eNil))⟩, (xCons ⟨(drCons 6 (allCons rBool_ok (drCons 23 allNil))), eNil⟩ (xCons ⟨(drCons 30 allNil), eNil⟩ xNil))⟩
def newelref11_Serves_h2 (v308 : Arr Int) (v309 : Int) (v310 : api_Band) (v311 : api_Times) : St := ⟨(un 2 ((slC intC v308) :: (.ptr 0 0) :: (.ptr 1 0) :: (un 2 ((.int .i64 v309) :: (un 22 []))))), [(0, .blk (Cod.enc api_BandC v310)), (1, .blk (Cod.enc api_TimesC v311))], 2⟩
def newelref11_Serves_x2_r (q0 : Bool) : St := ⟨(un 6 ((.bool q0) :: (un 23 []))), [], 0⟩
def newelref11_Serves_x2_0  : St := ⟨(un 30 []), [], 0⟩
def newelref11_Serves_b2 {R : Type} (N : Nat) (rc : Arr Int → Int → api_Band → api_Times → Option R) (v308 : Arr Int) (v309 : Int) (v310 : api_Band) (v311 : api_Times) (kr : Bool → Option R) (k0 : Unit → Option R) : Option R :=
  bif decide (v309 < (↑(Arr.n v308) : Int)) then
   bif decide ((0 : Int) ≤ v309) && decide (v309 < (↑(Arr.n (api_Times.Periods v311)) : Int)) then
    bif decide ((0 : Int) ≤ v309) && decide (v309 < (↑(Arr.n v308) : Int)) then
     newelref11_load N v310 (api_Span.High (api_Period.Flow (Arr.f (api_Times.Periods v311) (Int.toNat v309)))) (Arr.f v308 (Int.toNat v309)) (fun r312 =>
     bif decide (r312 > api_Band.Most v310) then
      kr false
     else
      rc v308 (w64 (v309 + (1 : Int))) v310 v311)
    else
     Option.none
   else
    Option.none
  else
   k0 ()
def newelref11_Serves_l2 {R : Type} (N : Nat) : Nat → Arr Int → Int → api_Band → api_Times → (Bool → Option R) → (Unit → Option R) → Option R
  | 0, _, _, _, _, _, _ => Option.none
  | n + 1, v308, v309, v310, v311, kr, k0 => newelref11_Serves_b2 N (fun v308 v309 v310 v311 => newelref11_Serves_l2 N n v308 v309 v310 v311 kr k0) v308 v309 v310 v311 kr k0


def newelref11_Serves_m {R : Type} (N : Nat) (a305 : api_Band) (a306 : api_Times) (a307 : Arr Int) (k : Bool → Option R) : Option R :=
  newelref11_Serves_l2 N N a307 (0 : Int) a305 a306 (fun r313 =>
   k r313) (fun (_ : Unit) =>
   k true)
noncomputable def newelref11_Serves {R : Type} : Nat → api_Band → api_Times → Arr Int → (Bool → Option R) → Option R := lock (@newelref11_Serves_m R)
theorem newelref11_Serves_def {R : Type} (N : Nat) (a305 : api_Band) (a306 : api_Times) (a307 : Arr Int) (k : Bool → Option R) : newelref11_Serves N a305 a306 a307 k = newelref11_Serves_m N a305 a306 a307 k := by unfold newelref11_Serves; rw [lock_eq]
def newelref11_Serves_sp : Sp := ⟨[rAgg api_BandC, rAgg api_TimesC, rSl intC], []⟩
theorem newelref11_Serves_sp_ok : newelref11_Serves_sp.Ok := ⟨(allCons (rAgg_ok api_BandC_ok api_BandC_len) (allCons (rAgg_ok api_TimesC_ok api_TimesC_len) (allCons (rSl_ok intC_ok) allNil))), eNil⟩
def newelref11_Serves_rs : Sp := ⟨[rBool], []⟩
theorem newelref11_Serves_rs_ok : newelref11_Serves_rs.Ok := ⟨(allCons rBool_ok allNil), eNil⟩
def newelref11_Serves_run {R : Type} (N : Nat) (args : List SV) (T : Tab) (kf : SV × Tab → Option R) : Option R :=
  newelref11_Serves_m N (Cod.dec api_BandC (lget (toCs (lget args 0)))) (Cod.dec api_TimesC (lget (toCs (lget args 1)))) (lstC intC (lget args 2)) (fun q0 => kf (lget [.bool q0] 0, []))
def newelref11_Serves_d2 {R : Type} (N : Nat) (S0 : St) (k : Exit → St → Option R) : Option R :=
  newelref11_Serves_l2 N N (lstC intC (lget S0.tmps 2)) (toI (lget S0.tmps 7)) (Cod.dec api_BandC (lget (entCs (entAt S0.tab 0)))) (Cod.dec api_TimesC (lget (entCs (entAt S0.tab 1)))) (fun q0 => k .ret (newelref11_Serves_x2_r q0)) (fun (_ : Unit) => k (.exit 0) (newelref11_Serves_x2_0 ))
def newelref11_Serves_lp {R : Type} (N : Nat) : Lp R := fun body S k => bif (Go.Sx.keyOf body).getD 0 == 2 then newelref11_Serves_L2.head.raw 0 S (fun S0 => newelref11_Serves_d2 N S0 k) else Option.none
theorem newelref11_Serves_l2_eq {R : Type} (N : Nat) (k : Exit → St → Option R) (n : Nat) : ∀ (v0 : Arr Int) (v1 : Int) (v2 : api_Band) (v3 : api_Times), loopM E.Θ (newelref11_Bounds_cal N) (newelref11_Serves_lp N) (noJn) 0 newelref11_Serves_L2 (bodyAt E 34 2) n (newelref11_Serves_h2 v0 v1 v2 v3) k = newelref11_Serves_l2 N n v0 v1 v2 v3 (fun q0 => k .ret (newelref11_Serves_x2_r q0)) (fun (_ : Unit) => k (.exit 0) (newelref11_Serves_x2_0 )) := by
  induction n with
  | zero => intro v0 v1 v2 v3; rfl
  | succ n ih =>
    intro v0 v1 v2 v3
    refine Eq.trans (b := newelref11_Serves_b2 N (fun v0 v1 v2 v3 => loopM E.Θ (newelref11_Bounds_cal N) (newelref11_Serves_lp N) (noJn) 0 newelref11_Serves_L2 (bodyAt E 34 2) n (newelref11_Serves_h2 v0 v1 v2 v3) k) v0 v1 v2 v3 (fun q0 => k .ret (newelref11_Serves_x2_r q0)) (fun (_ : Unit) => k (.exit 0) (newelref11_Serves_x2_0 ))) (by kernel_rfl) ?_
    have h : (fun (v0 : Arr Int) (v1 : Int) (v2 : api_Band) (v3 : api_Times) => loopM E.Θ (newelref11_Bounds_cal N) (newelref11_Serves_lp N) (noJn) 0 newelref11_Serves_L2 (bodyAt E 34 2) n (newelref11_Serves_h2 v0 v1 v2 v3) k) = (fun (v0 : Arr Int) (v1 : Int) (v2 : api_Band) (v3 : api_Times) => newelref11_Serves_l2 N n v0 v1 v2 v3 (fun q0 => k .ret (newelref11_Serves_x2_r q0)) (fun (_ : Unit) => k (.exit 0) (newelref11_Serves_x2_0 ))) := funext fun v0 => funext fun v1 => funext fun v2 => funext fun v3 => ih v0 v1 v2 v3
    rw [h]
    rfl
theorem newelref11_Serves_k2 {R : Type} (N : Nat) : LpKey (R := R) E 34 0 (newelref11_Serves_lp N) 2 :=
  lpKey_of hE (newelref11_Bounds_cal_ok N) (jn := noJn) newelref11_Serves_L2_ok [] kNil (by kernel_rfl) [] jNil (by kernel_rfl) N fun S k =>
    Eq.trans (b := newelref11_Serves_L2.head.raw 0 S (fun S0 => newelref11_Serves_d2 N S0 k)) (by kernel_rfl) (congrArg (newelref11_Serves_L2.head.raw 0 S) (funext fun S0 => Eq.trans (newelref11_Serves_l2_eq N k N (lstC intC (lget S0.tmps 2)) (toI (lget S0.tmps 7)) (Cod.dec api_BandC (lget (entCs (entAt S0.tab 0)))) (Cod.dec api_TimesC (lget (entCs (entAt S0.tab 1))))).symm (by kernel_rfl)))
noncomputable def newelref11_Serves_go {R : Type} (N : Nat) (args : List SV) (T : Tab) (kf : SV × Tab → Option R) : Option R :=
  newelref11_Serves N (Cod.dec api_BandC (lget (toCs (lget args 0)))) (Cod.dec api_TimesC (lget (toCs (lget args 1)))) (lstC intC (lget args 2)) (fun q0 => kf (lget [.bool q0] 0, []))
noncomputable def newelref11_Serves_cal {R : Type} (N : Nat) : Cal R := callM (newelref11_Bounds_cal N) 34 0 newelref11_Serves_sp (newelref11_Serves_go N)
theorem newelref11_Serves_cal_ok {R : Type} (N : Nat) : CalOk E.P (newelref11_Serves_cal (R := R) N) :=
  callM_ok hE (newelref11_Bounds_cal_ok N) (lp := newelref11_Serves_lp N) (jn := noJn) (keys := [2]) (kCons (newelref11_Serves_k2 N) kNil) (by kernel_rfl) (js := []) jNil (by kernel_rfl) newelref11_Serves_sp_ok newelref11_Serves_rs_ok (fun args T kf => Eq.trans (newelref11_Serves_def N (Cod.dec api_BandC (lget (toCs (lget args 0)))) (Cod.dec api_TimesC (lget (toCs (lget args 1)))) (lstC intC (lget args 2)) (fun q0 => kf (lget [.bool q0] 0, []))) (by kernel_rfl : newelref11_Serves_run N args T kf = fnM E (newelref11_Bounds_cal N) (newelref11_Serves_lp N) (noJn) 34 (newelref11_Serves_sp.vs args) (newelref11_Serves_sp.tab T) 0 (resK newelref11_Serves_rs kf)))

def energy_flows_L2 : LoopSp := ⟨⟨[2, 4, 5, 7, 8, 9], ⟨(dr 2 ((rInt .i64) :: (dr 1 ((rPtr 0 0) :: (rPtr 1 0) :: (dr 1 ((rPtr 2 0) :: (rRow 3) :: (rInt .i64) :: (dr 33 []))))))), [(0, eBlkC api_BandC), (1, eBlkC api_PeriodC), (2, eBlkC api_SpanC), (3, eRow intC)]⟩, 4⟩, [(some 0, ⟨[8], ⟨(dr 8 ((rRow 0) :: (dr 34 []))), [(0, eRow intC)]⟩, 1⟩)]⟩
theorem energy_flows_L2_ok : energy_flows_L2.Ok := ⟨⟨(drCons 2 (allCons (rInt_ok .i64) (drCons 1 (allCons (rPtr_ok 0 0) (allCons (rPtr_ok 1 0) (drCons 1 (allCons (rPtr_ok 2 0) (allCons (rRow_ok 3) (allCons (rInt_ok .i64) (drCons 33 allNil)))))))))), (eCons (eBlkC_ok api_BandC_ok api_BandC_len) (eCons (eBlkC_ok api_PeriodC_ok api_PeriodC_len) (eCons (eBlkC_ok api_SpanC_ok api_SpanC_len) (eCons (eRow_ok intC_ok) eNil))))⟩, (xCons ⟨(drCons 8 (allCons (rRow_ok 0) (drCons 34 allNil))), (eCons (eRow_ok intC_ok) eNil)⟩ xNil)⟩
def energy_flows_h2 (v324 : Int) (v325 : Int) (v326 : api_Band) (v327 : api_Period) (v328 : api_Span) (v329 : Bool) (v330 : Arr Int) : St := ⟨(un 2 ((.int .i64 v324) :: (un 1 ((.ptr 0 0) :: (.ptr 1 0) :: (un 1 ((.ptr 2 0) :: (.row 3) :: (.int .i64 v325) :: (un 33 []))))))), [(0, .blk (Cod.enc api_BandC v326)), (1, .blk (Cod.enc api_PeriodC v327)), (2, .blk (Cod.enc api_SpanC v328)), (3, rowE intC v329 v330)], 4⟩
def energy_flows_x2_0 (q0 : Bool) (q1 : Arr Int) : St := ⟨(un 8 ((.row 0) :: (un 34 []))), [(0, rowE intC q0 q1)], 1⟩
def energy_flows_b2 {R : Type} (N : Nat) (rc : Int → Int → api_Band → api_Period → api_Span → Bool → Arr Int → Option R) (v324 : Int) (v325 : Int) (v326 : api_Band) (v327 : api_Period) (v328 : api_Span) (v329 : Bool) (v330 : Arr Int) (k0 : Bool → Arr Int → Option R) : Option R :=
  bif decide (v325 ≤ api_Span.High (api_Period.Flow v327)) then
   energy_power N v326 v325 v324 (fun r331 =>
   bif decide (api_Span.Low v328 ≤ w64 (r331 * api_Period.Lasts v327)) then
    bif decide (w64 (r331 * api_Period.Lasts v327) ≤ api_Span.High v328) then
     bif room (Arr.n v330 + (1 : Nat)) then
      rc v324 (w64 (v325 + (1 : Int))) v326 v327 v328 false (lst intC (Arr.n v330 + (1 : Nat)) (catC (Arr.n v330) (Cod.cell intC (Arr.f v330)) (litC [SV.int IntKind.i64 (0 : Int)] [[SV.int IntKind.i64 v325]])))
     else
      Option.none
    else
     rc v324 (w64 (v325 + (1 : Int))) v326 v327 v328 v329 v330
   else
    rc v324 (w64 (v325 + (1 : Int))) v326 v327 v328 v329 v330)
  else
   k0 v329 v330
def energy_flows_l2 {R : Type} (N : Nat) : Nat → Int → Int → api_Band → api_Period → api_Span → Bool → Arr Int → (Bool → Arr Int → Option R) → Option R
  | 0, _, _, _, _, _, _, _, _ => Option.none
  | n + 1, v324, v325, v326, v327, v328, v329, v330, k0 => energy_flows_b2 N (fun v324 v325 v326 v327 v328 v329 v330 => energy_flows_l2 N n v324 v325 v326 v327 v328 v329 v330 k0) v324 v325 v326 v327 v328 v329 v330 k0


def energy_flows_m {R : Type} (N : Nat) (a320 : api_Band) (a321 : api_Period) (a322 : Int) (a323 : api_Span) (k : Bool → Arr Int → Option R) : Option R :=
  energy_flows_l2 N N a322 (api_Span.Low (api_Period.Flow a321)) a320 a321 a323 true (lst intC (0 : Nat) (zeroC [SV.int IntKind.i64 (0 : Int)])) (fun r332 r333 =>
   k r332 r333)
noncomputable def energy_flows {R : Type} : Nat → api_Band → api_Period → Int → api_Span → (Bool → Arr Int → Option R) → Option R := lock (@energy_flows_m R)
theorem energy_flows_def {R : Type} (N : Nat) (a320 : api_Band) (a321 : api_Period) (a322 : Int) (a323 : api_Span) (k : Bool → Arr Int → Option R) : energy_flows N a320 a321 a322 a323 k = energy_flows_m N a320 a321 a322 a323 k := by unfold energy_flows; rw [lock_eq]
def energy_flows_sp : Sp := ⟨[rAgg api_BandC, rAgg api_PeriodC, rInt .i64, rAgg api_SpanC], []⟩
theorem energy_flows_sp_ok : energy_flows_sp.Ok := ⟨(allCons (rAgg_ok api_BandC_ok api_BandC_len) (allCons (rAgg_ok api_PeriodC_ok api_PeriodC_len) (allCons (rInt_ok .i64) (allCons (rAgg_ok api_SpanC_ok api_SpanC_len) allNil)))), eNil⟩
def energy_flows_rs : Sp := ⟨[rRow 0], [(0, eRow intC)]⟩
theorem energy_flows_rs_ok : energy_flows_rs.Ok := ⟨(allCons (rRow_ok 0) allNil), (eCons (eRow_ok intC_ok) eNil)⟩
def energy_flows_run {R : Type} (N : Nat) (args : List SV) (T : Tab) (kf : SV × Tab → Option R) : Option R :=
  energy_flows_m N (Cod.dec api_BandC (lget (toCs (lget args 0)))) (Cod.dec api_PeriodC (lget (toCs (lget args 1)))) (toI (lget args 2)) (Cod.dec api_SpanC (lget (toCs (lget args 3)))) (fun q0 q1 => kf (lget [.row 0] 0, [(0, rowE intC q0 q1)]))
def energy_flows_d2 {R : Type} (N : Nat) (S0 : St) (k : Exit → St → Option R) : Option R :=
  energy_flows_l2 N N (toI (lget S0.tmps 2)) (toI (lget S0.tmps 9)) (Cod.dec api_BandC (lget (entCs (entAt S0.tab 0)))) (Cod.dec api_PeriodC (lget (entCs (entAt S0.tab 1)))) (Cod.dec api_SpanC (lget (entCs (entAt S0.tab 2)))) (entNl (entAt S0.tab 3)) (lst intC (entN (entAt S0.tab 3)) (entC (entAt S0.tab 3))) (fun q0 q1 => k (.exit 0) (energy_flows_x2_0 q0 q1))
def energy_flows_lp {R : Type} (N : Nat) : Lp R := fun body S k => bif (Go.Sx.keyOf body).getD 0 == 2 then energy_flows_L2.head.raw 0 S (fun S0 => energy_flows_d2 N S0 k) else Option.none
theorem energy_flows_l2_eq {R : Type} (N : Nat) (k : Exit → St → Option R) (n : Nat) : ∀ (v0 : Int) (v1 : Int) (v2 : api_Band) (v3 : api_Period) (v4 : api_Span) (v5 : Bool) (v6 : Arr Int), loopM E.Θ (newelref11_Serves_cal N) (energy_flows_lp N) (noJn) 0 energy_flows_L2 (bodyAt E 56 2) n (energy_flows_h2 v0 v1 v2 v3 v4 v5 v6) k = energy_flows_l2 N n v0 v1 v2 v3 v4 v5 v6 (fun q0 q1 => k (.exit 0) (energy_flows_x2_0 q0 q1)) := by
  induction n with
  | zero => intro v0 v1 v2 v3 v4 v5 v6; rfl
  | succ n ih =>
    intro v0 v1 v2 v3 v4 v5 v6
    refine Eq.trans (b := energy_flows_b2 N (fun v0 v1 v2 v3 v4 v5 v6 => loopM E.Θ (newelref11_Serves_cal N) (energy_flows_lp N) (noJn) 0 energy_flows_L2 (bodyAt E 56 2) n (energy_flows_h2 v0 v1 v2 v3 v4 v5 v6) k) v0 v1 v2 v3 v4 v5 v6 (fun q0 q1 => k (.exit 0) (energy_flows_x2_0 q0 q1))) (by kernel_rfl) ?_
    have h : (fun (v0 : Int) (v1 : Int) (v2 : api_Band) (v3 : api_Period) (v4 : api_Span) (v5 : Bool) (v6 : Arr Int) => loopM E.Θ (newelref11_Serves_cal N) (energy_flows_lp N) (noJn) 0 energy_flows_L2 (bodyAt E 56 2) n (energy_flows_h2 v0 v1 v2 v3 v4 v5 v6) k) = (fun (v0 : Int) (v1 : Int) (v2 : api_Band) (v3 : api_Period) (v4 : api_Span) (v5 : Bool) (v6 : Arr Int) => energy_flows_l2 N n v0 v1 v2 v3 v4 v5 v6 (fun q0 q1 => k (.exit 0) (energy_flows_x2_0 q0 q1))) := funext fun v0 => funext fun v1 => funext fun v2 => funext fun v3 => funext fun v4 => funext fun v5 => funext fun v6 => ih v0 v1 v2 v3 v4 v5 v6
    rw [h]
    rfl
theorem energy_flows_k2 {R : Type} (N : Nat) : LpKey (R := R) E 56 0 (energy_flows_lp N) 2 :=
  lpKey_of hE (newelref11_Serves_cal_ok N) (jn := noJn) energy_flows_L2_ok [] kNil (by kernel_rfl) [] jNil (by kernel_rfl) N fun S k =>
    Eq.trans (b := energy_flows_L2.head.raw 0 S (fun S0 => energy_flows_d2 N S0 k)) (by kernel_rfl) (congrArg (energy_flows_L2.head.raw 0 S) (funext fun S0 => Eq.trans (energy_flows_l2_eq N k N (toI (lget S0.tmps 2)) (toI (lget S0.tmps 9)) (Cod.dec api_BandC (lget (entCs (entAt S0.tab 0)))) (Cod.dec api_PeriodC (lget (entCs (entAt S0.tab 1)))) (Cod.dec api_SpanC (lget (entCs (entAt S0.tab 2)))) (entNl (entAt S0.tab 3)) (lst intC (entN (entAt S0.tab 3)) (entC (entAt S0.tab 3)))).symm (by kernel_rfl)))
noncomputable def energy_flows_go {R : Type} (N : Nat) (args : List SV) (T : Tab) (kf : SV × Tab → Option R) : Option R :=
  energy_flows N (Cod.dec api_BandC (lget (toCs (lget args 0)))) (Cod.dec api_PeriodC (lget (toCs (lget args 1)))) (toI (lget args 2)) (Cod.dec api_SpanC (lget (toCs (lget args 3)))) (fun q0 q1 => kf (lget [.row 0] 0, [(0, rowE intC q0 q1)]))
noncomputable def energy_flows_cal {R : Type} (N : Nat) : Cal R := callM (newelref11_Serves_cal N) 56 0 energy_flows_sp (energy_flows_go N)
theorem energy_flows_cal_ok {R : Type} (N : Nat) : CalOk E.P (energy_flows_cal (R := R) N) :=
  callM_ok hE (newelref11_Serves_cal_ok N) (lp := energy_flows_lp N) (jn := noJn) (keys := [2]) (kCons (energy_flows_k2 N) kNil) (by kernel_rfl) (js := []) jNil (by kernel_rfl) energy_flows_sp_ok energy_flows_rs_ok (fun args T kf => Eq.trans (energy_flows_def N (Cod.dec api_BandC (lget (toCs (lget args 0)))) (Cod.dec api_PeriodC (lget (toCs (lget args 1)))) (toI (lget args 2)) (Cod.dec api_SpanC (lget (toCs (lget args 3)))) (fun q0 q1 => kf (lget [.row 0] 0, [(0, rowE intC q0 q1)]))) (by kernel_rfl : energy_flows_run N args T kf = fnM E (newelref11_Serves_cal N) (energy_flows_lp N) (noJn) 56 (energy_flows_sp.vs args) (energy_flows_sp.tab T) 0 (resK energy_flows_rs kf)))


def energy_Flows_m {R : Type} (N : Nat) (a314 : api_Band) (a315 : api_Times) (a316 : Arr Int) (a317 : Int) (a318 : api_Span) (k : Int → Bool → Arr Int → Option R) : Option R :=
  energy_checkPlan N a314 a315 a316 (fun r319 =>
  bif r319 != (0 : Int) then
   k r319 true (lst intC (0 : Nat) (zeroC [SV.int IntKind.i64 (0 : Int)]))
  else
   bif decide (a317 < (0 : Int)) then
    k (1 : Int) true (lst intC (0 : Nat) (zeroC [SV.int IntKind.i64 (0 : Int)]))
   else
    bif decide (a317 ≥ (↑(Arr.n a316) : Int)) then
     k (1 : Int) true (lst intC (0 : Nat) (zeroC [SV.int IntKind.i64 (0 : Int)]))
    else
     bif decide (api_Span.Low a318 > api_Span.High a318) then
      k (1 : Int) true (lst intC (0 : Nat) (zeroC [SV.int IntKind.i64 (0 : Int)]))
     else
      bif decide ((0 : Int) ≤ a317) && decide (a317 < (↑(Arr.n (api_Times.Periods a315)) : Int)) then
       bif decide ((0 : Int) ≤ a317) && decide (a317 < (↑(Arr.n a316) : Int)) then
        energy_flows N a314 (Arr.f (api_Times.Periods a315) (Int.toNat a317)) (Arr.f a316 (Int.toNat a317)) a318 (fun r334 r335 =>
        k (0 : Int) r334 r335)
       else
        Option.none
      else
       Option.none)
noncomputable def energy_Flows {R : Type} : Nat → api_Band → api_Times → Arr Int → Int → api_Span → (Int → Bool → Arr Int → Option R) → Option R := lock (@energy_Flows_m R)
theorem energy_Flows_def {R : Type} (N : Nat) (a314 : api_Band) (a315 : api_Times) (a316 : Arr Int) (a317 : Int) (a318 : api_Span) (k : Int → Bool → Arr Int → Option R) : energy_Flows N a314 a315 a316 a317 a318 k = energy_Flows_m N a314 a315 a316 a317 a318 k := by unfold energy_Flows; rw [lock_eq]
def energy_Flows_sp : Sp := ⟨[rAgg api_BandC, rAgg api_TimesC, rSl intC, rInt .i64, rAgg api_SpanC], []⟩
theorem energy_Flows_sp_ok : energy_Flows_sp.Ok := ⟨(allCons (rAgg_ok api_BandC_ok api_BandC_len) (allCons (rAgg_ok api_TimesC_ok api_TimesC_len) (allCons (rSl_ok intC_ok) (allCons (rInt_ok .i64) (allCons (rAgg_ok api_SpanC_ok api_SpanC_len) allNil))))), eNil⟩
def energy_Flows_rs : Sp := ⟨[rTup [rRow 0, rInt .i64]], [(0, eRow intC)]⟩
theorem energy_Flows_rs_ok : energy_Flows_rs.Ok := ⟨(allCons (rTup_ok (allCons (rRow_ok 0) (allCons (rInt_ok .i64) allNil))) allNil), (eCons (eRow_ok intC_ok) eNil)⟩
def energy_Flows_run {R : Type} (N : Nat) (args : List SV) (T : Tab) (kf : SV × Tab → Option R) : Option R :=
  energy_Flows_m N (Cod.dec api_BandC (lget (toCs (lget args 0)))) (Cod.dec api_TimesC (lget (toCs (lget args 1)))) (lstC intC (lget args 2)) (toI (lget args 3)) (Cod.dec api_SpanC (lget (toCs (lget args 4)))) (fun q0 q1 q2 => kf (lget [.tup [.row 0, .int .i64 q0]] 0, [(0, rowE intC q1 q2)]))
def energy_Flows_lp {R : Type} (N : Nat) : Lp R := fun body S k => Option.none
noncomputable def energy_Flows_go {R : Type} (N : Nat) (args : List SV) (T : Tab) (kf : SV × Tab → Option R) : Option R :=
  energy_Flows N (Cod.dec api_BandC (lget (toCs (lget args 0)))) (Cod.dec api_TimesC (lget (toCs (lget args 1)))) (lstC intC (lget args 2)) (toI (lget args 3)) (Cod.dec api_SpanC (lget (toCs (lget args 4)))) (fun q0 q1 q2 => kf (lget [.tup [.row 0, .int .i64 q0]] 0, [(0, rowE intC q1 q2)]))
noncomputable def energy_Flows_cal {R : Type} (N : Nat) : Cal R := callM (energy_flows_cal N) 35 0 energy_Flows_sp (energy_Flows_go N)
theorem energy_Flows_cal_ok {R : Type} (N : Nat) : CalOk E.P (energy_Flows_cal (R := R) N) :=
  callM_ok hE (energy_flows_cal_ok N) (lp := energy_Flows_lp N) (jn := noJn) (keys := []) kNil (by kernel_rfl) (js := []) jNil (by kernel_rfl) energy_Flows_sp_ok energy_Flows_rs_ok (fun args T kf => Eq.trans (energy_Flows_def N (Cod.dec api_BandC (lget (toCs (lget args 0)))) (Cod.dec api_TimesC (lget (toCs (lget args 1)))) (lstC intC (lget args 2)) (toI (lget args 3)) (Cod.dec api_SpanC (lget (toCs (lget args 4)))) (fun q0 q1 q2 => kf (lget [.tup [.row 0, .int .i64 q0]] 0, [(0, rowE intC q1 q2)]))) (by kernel_rfl : energy_Flows_run N args T kf = fnM E (energy_flows_cal N) (energy_Flows_lp N) (noJn) 35 (energy_Flows_sp.vs args) (energy_Flows_sp.tab T) 0 (resK energy_Flows_rs kf)))


def newelref11_Energy_m {R : Type} (N : Nat) (a354 : api_Band) (a355 : api_Period) (a356 : Int) (a357 : Int) (k : Int → Option R) : Option R :=
  newelref11_power N a354 a356 a357 (fun r358 =>
  k (w64 (r358 * api_Period.Lasts a355)))
noncomputable def newelref11_Energy {R : Type} : Nat → api_Band → api_Period → Int → Int → (Int → Option R) → Option R := lock (@newelref11_Energy_m R)
theorem newelref11_Energy_def {R : Type} (N : Nat) (a354 : api_Band) (a355 : api_Period) (a356 : Int) (a357 : Int) (k : Int → Option R) : newelref11_Energy N a354 a355 a356 a357 k = newelref11_Energy_m N a354 a355 a356 a357 k := by unfold newelref11_Energy; rw [lock_eq]
def newelref11_Energy_sp : Sp := ⟨[rAgg api_BandC, rAgg api_PeriodC, rInt .i64, rInt .i64], []⟩
theorem newelref11_Energy_sp_ok : newelref11_Energy_sp.Ok := ⟨(allCons (rAgg_ok api_BandC_ok api_BandC_len) (allCons (rAgg_ok api_PeriodC_ok api_PeriodC_len) (allCons (rInt_ok .i64) (allCons (rInt_ok .i64) allNil)))), eNil⟩
def newelref11_Energy_rs : Sp := ⟨[rInt .i64], []⟩
theorem newelref11_Energy_rs_ok : newelref11_Energy_rs.Ok := ⟨(allCons (rInt_ok .i64) allNil), eNil⟩
def newelref11_Energy_run {R : Type} (N : Nat) (args : List SV) (T : Tab) (kf : SV × Tab → Option R) : Option R :=
  newelref11_Energy_m N (Cod.dec api_BandC (lget (toCs (lget args 0)))) (Cod.dec api_PeriodC (lget (toCs (lget args 1)))) (toI (lget args 2)) (toI (lget args 3)) (fun q0 => kf (lget [.int .i64 q0] 0, []))
def newelref11_Energy_lp {R : Type} (N : Nat) : Lp R := fun body S k => Option.none
noncomputable def newelref11_Energy_go {R : Type} (N : Nat) (args : List SV) (T : Tab) (kf : SV × Tab → Option R) : Option R :=
  newelref11_Energy N (Cod.dec api_BandC (lget (toCs (lget args 0)))) (Cod.dec api_PeriodC (lget (toCs (lget args 1)))) (toI (lget args 2)) (toI (lget args 3)) (fun q0 => kf (lget [.int .i64 q0] 0, []))
noncomputable def newelref11_Energy_cal {R : Type} (N : Nat) : Cal R := callM (energy_Flows_cal N) 64 0 newelref11_Energy_sp (newelref11_Energy_go N)
theorem newelref11_Energy_cal_ok {R : Type} (N : Nat) : CalOk E.P (newelref11_Energy_cal (R := R) N) :=
  callM_ok hE (energy_Flows_cal_ok N) (lp := newelref11_Energy_lp N) (jn := noJn) (keys := []) kNil (by kernel_rfl) (js := []) jNil (by kernel_rfl) newelref11_Energy_sp_ok newelref11_Energy_rs_ok (fun args T kf => Eq.trans (newelref11_Energy_def N (Cod.dec api_BandC (lget (toCs (lget args 0)))) (Cod.dec api_PeriodC (lget (toCs (lget args 1)))) (toI (lget args 2)) (toI (lget args 3)) (fun q0 => kf (lget [.int .i64 q0] 0, []))) (by kernel_rfl : newelref11_Energy_run N args T kf = fnM E (energy_Flows_cal N) (newelref11_Energy_lp N) (noJn) 64 (newelref11_Energy_sp.vs args) (newelref11_Energy_sp.tab T) 0 (resK newelref11_Energy_rs kf)))

def newelref11_flows_L3 : LoopSp := ⟨⟨[2, 4, 5, 7, 9, 10], ⟨(dr 2 ((rInt .i64) :: (dr 1 ((rPtr 0 0) :: (rPtr 1 0) :: (dr 1 ((rPtr 2 0) :: (dr 1 ((rRow 3) :: (rInt .i64) :: (dr 25 []))))))))), [(0, eBlkC api_BandC), (1, eBlkC api_PeriodC), (2, eBlkC api_SpanC), (3, eRow intC)]⟩, 4⟩, [(some 0, ⟨[9], ⟨(dr 9 ((rRow 0) :: (dr 26 []))), [(0, eRow intC)]⟩, 1⟩)]⟩
theorem newelref11_flows_L3_ok : newelref11_flows_L3.Ok := ⟨⟨(drCons 2 (allCons (rInt_ok .i64) (drCons 1 (allCons (rPtr_ok 0 0) (allCons (rPtr_ok 1 0) (drCons 1 (allCons (rPtr_ok 2 0) (drCons 1 (allCons (rRow_ok 3) (allCons (rInt_ok .i64) (drCons 25 allNil))))))))))), (eCons (eBlkC_ok api_BandC_ok api_BandC_len) (eCons (eBlkC_ok api_PeriodC_ok api_PeriodC_len) (eCons (eBlkC_ok api_SpanC_ok api_SpanC_len) (eCons (eRow_ok intC_ok) eNil))))⟩, (xCons ⟨(drCons 9 (allCons (rRow_ok 0) (drCons 26 allNil))), (eCons (eRow_ok intC_ok) eNil)⟩ xNil)⟩
def newelref11_flows_h3 (v347 : Int) (v348 : Int) (v349 : api_Band) (v350 : api_Period) (v351 : api_Span) (v352 : Bool) (v353 : Arr Int) : St := ⟨(un 2 ((.int .i64 v347) :: (un 1 ((.ptr 0 0) :: (.ptr 1 0) :: (un 1 ((.ptr 2 0) :: (un 1 ((.row 3) :: (.int .i64 v348) :: (un 25 []))))))))), [(0, .blk (Cod.enc api_BandC v349)), (1, .blk (Cod.enc api_PeriodC v350)), (2, .blk (Cod.enc api_SpanC v351)), (3, rowE intC v352 v353)], 4⟩
def newelref11_flows_x3_0 (q0 : Bool) (q1 : Arr Int) : St := ⟨(un 9 ((.row 0) :: (un 26 []))), [(0, rowE intC q0 q1)], 1⟩
def newelref11_flows_b3 {R : Type} (N : Nat) (rc : Int → Int → api_Band → api_Period → api_Span → Bool → Arr Int → Option R) (v347 : Int) (v348 : Int) (v349 : api_Band) (v350 : api_Period) (v351 : api_Span) (v352 : Bool) (v353 : Arr Int) (k0 : Bool → Arr Int → Option R) : Option R :=
  bif decide (v348 ≤ api_Span.High (api_Period.Flow v350)) then
   newelref11_Energy N v349 v350 v348 v347 (fun r359 =>
   newelref11_within N r359 (api_Span.Low v351) (api_Span.High v351) (fun r360 =>
   bif r360 then
    bif room (Arr.n v353 + (1 : Nat)) then
     rc v347 (w64 (v348 + (1 : Int))) v349 v350 v351 false (lst intC (Arr.n v353 + (1 : Nat)) (catC (Arr.n v353) (Cod.cell intC (Arr.f v353)) (litC [SV.int IntKind.i64 (0 : Int)] [[SV.int IntKind.i64 v348]])))
    else
     Option.none
   else
    rc v347 (w64 (v348 + (1 : Int))) v349 v350 v351 v352 v353))
  else
   k0 v352 v353
def newelref11_flows_l3 {R : Type} (N : Nat) : Nat → Int → Int → api_Band → api_Period → api_Span → Bool → Arr Int → (Bool → Arr Int → Option R) → Option R
  | 0, _, _, _, _, _, _, _, _ => Option.none
  | n + 1, v347, v348, v349, v350, v351, v352, v353, k0 => newelref11_flows_b3 N (fun v347 v348 v349 v350 v351 v352 v353 => newelref11_flows_l3 N n v347 v348 v349 v350 v351 v352 v353 k0) v347 v348 v349 v350 v351 v352 v353 k0


def newelref11_flows_m {R : Type} (N : Nat) (a343 : api_Band) (a344 : api_Period) (a345 : Int) (a346 : api_Span) (k : Bool → Arr Int → Option R) : Option R :=
  newelref11_flows_l3 N N a345 (api_Span.Low (api_Period.Flow a344)) a343 a344 a346 true (lst intC (0 : Nat) (zeroC [SV.int IntKind.i64 (0 : Int)])) (fun r361 r362 =>
   k r361 r362)
noncomputable def newelref11_flows {R : Type} : Nat → api_Band → api_Period → Int → api_Span → (Bool → Arr Int → Option R) → Option R := lock (@newelref11_flows_m R)
theorem newelref11_flows_def {R : Type} (N : Nat) (a343 : api_Band) (a344 : api_Period) (a345 : Int) (a346 : api_Span) (k : Bool → Arr Int → Option R) : newelref11_flows N a343 a344 a345 a346 k = newelref11_flows_m N a343 a344 a345 a346 k := by unfold newelref11_flows; rw [lock_eq]
def newelref11_flows_sp : Sp := ⟨[rAgg api_BandC, rAgg api_PeriodC, rInt .i64, rAgg api_SpanC], []⟩
theorem newelref11_flows_sp_ok : newelref11_flows_sp.Ok := ⟨(allCons (rAgg_ok api_BandC_ok api_BandC_len) (allCons (rAgg_ok api_PeriodC_ok api_PeriodC_len) (allCons (rInt_ok .i64) (allCons (rAgg_ok api_SpanC_ok api_SpanC_len) allNil)))), eNil⟩
def newelref11_flows_rs : Sp := ⟨[rRow 0], [(0, eRow intC)]⟩
theorem newelref11_flows_rs_ok : newelref11_flows_rs.Ok := ⟨(allCons (rRow_ok 0) allNil), (eCons (eRow_ok intC_ok) eNil)⟩
def newelref11_flows_run {R : Type} (N : Nat) (args : List SV) (T : Tab) (kf : SV × Tab → Option R) : Option R :=
  newelref11_flows_m N (Cod.dec api_BandC (lget (toCs (lget args 0)))) (Cod.dec api_PeriodC (lget (toCs (lget args 1)))) (toI (lget args 2)) (Cod.dec api_SpanC (lget (toCs (lget args 3)))) (fun q0 q1 => kf (lget [.row 0] 0, [(0, rowE intC q0 q1)]))
def newelref11_flows_d3 {R : Type} (N : Nat) (S0 : St) (k : Exit → St → Option R) : Option R :=
  newelref11_flows_l3 N N (toI (lget S0.tmps 2)) (toI (lget S0.tmps 10)) (Cod.dec api_BandC (lget (entCs (entAt S0.tab 0)))) (Cod.dec api_PeriodC (lget (entCs (entAt S0.tab 1)))) (Cod.dec api_SpanC (lget (entCs (entAt S0.tab 2)))) (entNl (entAt S0.tab 3)) (lst intC (entN (entAt S0.tab 3)) (entC (entAt S0.tab 3))) (fun q0 q1 => k (.exit 0) (newelref11_flows_x3_0 q0 q1))
def newelref11_flows_lp {R : Type} (N : Nat) : Lp R := fun body S k => bif (Go.Sx.keyOf body).getD 0 == 3 then newelref11_flows_L3.head.raw 0 S (fun S0 => newelref11_flows_d3 N S0 k) else Option.none
theorem newelref11_flows_l3_eq {R : Type} (N : Nat) (k : Exit → St → Option R) (n : Nat) : ∀ (v0 : Int) (v1 : Int) (v2 : api_Band) (v3 : api_Period) (v4 : api_Span) (v5 : Bool) (v6 : Arr Int), loopM E.Θ (newelref11_Energy_cal N) (newelref11_flows_lp N) (noJn) 0 newelref11_flows_L3 (bodyAt E 57 3) n (newelref11_flows_h3 v0 v1 v2 v3 v4 v5 v6) k = newelref11_flows_l3 N n v0 v1 v2 v3 v4 v5 v6 (fun q0 q1 => k (.exit 0) (newelref11_flows_x3_0 q0 q1)) := by
  induction n with
  | zero => intro v0 v1 v2 v3 v4 v5 v6; rfl
  | succ n ih =>
    intro v0 v1 v2 v3 v4 v5 v6
    refine Eq.trans (b := newelref11_flows_b3 N (fun v0 v1 v2 v3 v4 v5 v6 => loopM E.Θ (newelref11_Energy_cal N) (newelref11_flows_lp N) (noJn) 0 newelref11_flows_L3 (bodyAt E 57 3) n (newelref11_flows_h3 v0 v1 v2 v3 v4 v5 v6) k) v0 v1 v2 v3 v4 v5 v6 (fun q0 q1 => k (.exit 0) (newelref11_flows_x3_0 q0 q1))) (by kernel_rfl) ?_
    have h : (fun (v0 : Int) (v1 : Int) (v2 : api_Band) (v3 : api_Period) (v4 : api_Span) (v5 : Bool) (v6 : Arr Int) => loopM E.Θ (newelref11_Energy_cal N) (newelref11_flows_lp N) (noJn) 0 newelref11_flows_L3 (bodyAt E 57 3) n (newelref11_flows_h3 v0 v1 v2 v3 v4 v5 v6) k) = (fun (v0 : Int) (v1 : Int) (v2 : api_Band) (v3 : api_Period) (v4 : api_Span) (v5 : Bool) (v6 : Arr Int) => newelref11_flows_l3 N n v0 v1 v2 v3 v4 v5 v6 (fun q0 q1 => k (.exit 0) (newelref11_flows_x3_0 q0 q1))) := funext fun v0 => funext fun v1 => funext fun v2 => funext fun v3 => funext fun v4 => funext fun v5 => funext fun v6 => ih v0 v1 v2 v3 v4 v5 v6
    rw [h]
    rfl
theorem newelref11_flows_k3 {R : Type} (N : Nat) : LpKey (R := R) E 57 0 (newelref11_flows_lp N) 3 :=
  lpKey_of hE (newelref11_Energy_cal_ok N) (jn := noJn) newelref11_flows_L3_ok [] kNil (by kernel_rfl) [] jNil (by kernel_rfl) N fun S k =>
    Eq.trans (b := newelref11_flows_L3.head.raw 0 S (fun S0 => newelref11_flows_d3 N S0 k)) (by kernel_rfl) (congrArg (newelref11_flows_L3.head.raw 0 S) (funext fun S0 => Eq.trans (newelref11_flows_l3_eq N k N (toI (lget S0.tmps 2)) (toI (lget S0.tmps 10)) (Cod.dec api_BandC (lget (entCs (entAt S0.tab 0)))) (Cod.dec api_PeriodC (lget (entCs (entAt S0.tab 1)))) (Cod.dec api_SpanC (lget (entCs (entAt S0.tab 2)))) (entNl (entAt S0.tab 3)) (lst intC (entN (entAt S0.tab 3)) (entC (entAt S0.tab 3)))).symm (by kernel_rfl)))
noncomputable def newelref11_flows_go {R : Type} (N : Nat) (args : List SV) (T : Tab) (kf : SV × Tab → Option R) : Option R :=
  newelref11_flows N (Cod.dec api_BandC (lget (toCs (lget args 0)))) (Cod.dec api_PeriodC (lget (toCs (lget args 1)))) (toI (lget args 2)) (Cod.dec api_SpanC (lget (toCs (lget args 3)))) (fun q0 q1 => kf (lget [.row 0] 0, [(0, rowE intC q0 q1)]))
noncomputable def newelref11_flows_cal {R : Type} (N : Nat) : Cal R := callM (newelref11_Energy_cal N) 57 0 newelref11_flows_sp (newelref11_flows_go N)
theorem newelref11_flows_cal_ok {R : Type} (N : Nat) : CalOk E.P (newelref11_flows_cal (R := R) N) :=
  callM_ok hE (newelref11_Energy_cal_ok N) (lp := newelref11_flows_lp N) (jn := noJn) (keys := [3]) (kCons (newelref11_flows_k3 N) kNil) (by kernel_rfl) (js := []) jNil (by kernel_rfl) newelref11_flows_sp_ok newelref11_flows_rs_ok (fun args T kf => Eq.trans (newelref11_flows_def N (Cod.dec api_BandC (lget (toCs (lget args 0)))) (Cod.dec api_PeriodC (lget (toCs (lget args 1)))) (toI (lget args 2)) (Cod.dec api_SpanC (lget (toCs (lget args 3)))) (fun q0 q1 => kf (lget [.row 0] 0, [(0, rowE intC q0 q1)]))) (by kernel_rfl : newelref11_flows_run N args T kf = fnM E (newelref11_Energy_cal N) (newelref11_flows_lp N) (noJn) 57 (newelref11_flows_sp.vs args) (newelref11_flows_sp.tab T) 0 (resK newelref11_flows_rs kf)))


def newelref11_Flows_m {R : Type} (N : Nat) (a336 : api_Band) (a337 : api_Times) (a338 : Arr Int) (a339 : Int) (a340 : api_Span) (k : Int → Bool → Arr Int → Option R) : Option R :=
  newelref11_CheckPlan N a336 a337 a338 (fun r341 =>
  bif r341 != (0 : Int) then
   k r341 true (lst intC (0 : Nat) (zeroC [SV.int IntKind.i64 (0 : Int)]))
  else
   newelref11_within N a339 (0 : Int) (w64 ((↑(Arr.n a338) : Int) - (1 : Int))) (fun r342 =>
   bif !r342 then
    k (1 : Int) true (lst intC (0 : Nat) (zeroC [SV.int IntKind.i64 (0 : Int)]))
   else
    bif decide (api_Span.High a340 < api_Span.Low a340) then
     k (1 : Int) true (lst intC (0 : Nat) (zeroC [SV.int IntKind.i64 (0 : Int)]))
    else
     bif decide ((0 : Int) ≤ a339) && decide (a339 < (↑(Arr.n (api_Times.Periods a337)) : Int)) then
      bif decide ((0 : Int) ≤ a339) && decide (a339 < (↑(Arr.n a338) : Int)) then
       newelref11_flows N a336 (Arr.f (api_Times.Periods a337) (Int.toNat a339)) (Arr.f a338 (Int.toNat a339)) a340 (fun r363 r364 =>
       k (0 : Int) r363 r364)
      else
       Option.none
     else
      Option.none))
noncomputable def newelref11_Flows {R : Type} : Nat → api_Band → api_Times → Arr Int → Int → api_Span → (Int → Bool → Arr Int → Option R) → Option R := lock (@newelref11_Flows_m R)
theorem newelref11_Flows_def {R : Type} (N : Nat) (a336 : api_Band) (a337 : api_Times) (a338 : Arr Int) (a339 : Int) (a340 : api_Span) (k : Int → Bool → Arr Int → Option R) : newelref11_Flows N a336 a337 a338 a339 a340 k = newelref11_Flows_m N a336 a337 a338 a339 a340 k := by unfold newelref11_Flows; rw [lock_eq]
def newelref11_Flows_sp : Sp := ⟨[rAgg api_BandC, rAgg api_TimesC, rSl intC, rInt .i64, rAgg api_SpanC], []⟩
theorem newelref11_Flows_sp_ok : newelref11_Flows_sp.Ok := ⟨(allCons (rAgg_ok api_BandC_ok api_BandC_len) (allCons (rAgg_ok api_TimesC_ok api_TimesC_len) (allCons (rSl_ok intC_ok) (allCons (rInt_ok .i64) (allCons (rAgg_ok api_SpanC_ok api_SpanC_len) allNil))))), eNil⟩
def newelref11_Flows_rs : Sp := ⟨[rTup [rRow 0, rInt .i64]], [(0, eRow intC)]⟩
theorem newelref11_Flows_rs_ok : newelref11_Flows_rs.Ok := ⟨(allCons (rTup_ok (allCons (rRow_ok 0) (allCons (rInt_ok .i64) allNil))) allNil), (eCons (eRow_ok intC_ok) eNil)⟩
def newelref11_Flows_run {R : Type} (N : Nat) (args : List SV) (T : Tab) (kf : SV × Tab → Option R) : Option R :=
  newelref11_Flows_m N (Cod.dec api_BandC (lget (toCs (lget args 0)))) (Cod.dec api_TimesC (lget (toCs (lget args 1)))) (lstC intC (lget args 2)) (toI (lget args 3)) (Cod.dec api_SpanC (lget (toCs (lget args 4)))) (fun q0 q1 q2 => kf (lget [.tup [.row 0, .int .i64 q0]] 0, [(0, rowE intC q1 q2)]))
def newelref11_Flows_lp {R : Type} (N : Nat) : Lp R := fun body S k => Option.none
noncomputable def newelref11_Flows_go {R : Type} (N : Nat) (args : List SV) (T : Tab) (kf : SV × Tab → Option R) : Option R :=
  newelref11_Flows N (Cod.dec api_BandC (lget (toCs (lget args 0)))) (Cod.dec api_TimesC (lget (toCs (lget args 1)))) (lstC intC (lget args 2)) (toI (lget args 3)) (Cod.dec api_SpanC (lget (toCs (lget args 4)))) (fun q0 q1 q2 => kf (lget [.tup [.row 0, .int .i64 q0]] 0, [(0, rowE intC q1 q2)]))
noncomputable def newelref11_Flows_cal {R : Type} (N : Nat) : Cal R := callM (newelref11_flows_cal N) 36 0 newelref11_Flows_sp (newelref11_Flows_go N)
theorem newelref11_Flows_cal_ok {R : Type} (N : Nat) : CalOk E.P (newelref11_Flows_cal (R := R) N) :=
  callM_ok hE (newelref11_flows_cal_ok N) (lp := newelref11_Flows_lp N) (jn := noJn) (keys := []) kNil (by kernel_rfl) (js := []) jNil (by kernel_rfl) newelref11_Flows_sp_ok newelref11_Flows_rs_ok (fun args T kf => Eq.trans (newelref11_Flows_def N (Cod.dec api_BandC (lget (toCs (lget args 0)))) (Cod.dec api_TimesC (lget (toCs (lget args 1)))) (lstC intC (lget args 2)) (toI (lget args 3)) (Cod.dec api_SpanC (lget (toCs (lget args 4)))) (fun q0 q1 q2 => kf (lget [.tup [.row 0, .int .i64 q0]] 0, [(0, rowE intC q1 q2)]))) (by kernel_rfl : newelref11_Flows_run N args T kf = fnM E (newelref11_flows_cal N) (newelref11_Flows_lp N) (noJn) 36 (newelref11_Flows_sp.vs args) (newelref11_Flows_sp.tab T) 0 (resK newelref11_Flows_rs kf)))


def energy_Explains_1_m {R : Type} (N : Nat) (a375 : api_Span) (k : Bool → Option R) : Option R :=
  k (decide (api_Span.Low a375 > api_Span.High a375))
noncomputable def energy_Explains_1 {R : Type} : Nat → api_Span → (Bool → Option R) → Option R := lock (@energy_Explains_1_m R)
theorem energy_Explains_1_def {R : Type} (N : Nat) (a375 : api_Span) (k : Bool → Option R) : energy_Explains_1 N a375 k = energy_Explains_1_m N a375 k := by unfold energy_Explains_1; rw [lock_eq]
def energy_Explains_1_sp : Sp := ⟨[rAgg api_SpanC], []⟩
theorem energy_Explains_1_sp_ok : energy_Explains_1_sp.Ok := ⟨(allCons (rAgg_ok api_SpanC_ok api_SpanC_len) allNil), eNil⟩
def energy_Explains_1_rs : Sp := ⟨[rBool], []⟩
theorem energy_Explains_1_rs_ok : energy_Explains_1_rs.Ok := ⟨(allCons rBool_ok allNil), eNil⟩
def energy_Explains_1_run {R : Type} (N : Nat) (args : List SV) (T : Tab) (kf : SV × Tab → Option R) : Option R :=
  energy_Explains_1_m N (Cod.dec api_SpanC (lget (toCs (lget args 0)))) (fun q0 => kf (lget [.bool q0] 0, []))
def energy_Explains_1_lp {R : Type} (N : Nat) : Lp R := fun body S k => Option.none
noncomputable def energy_Explains_1_go {R : Type} (N : Nat) (args : List SV) (T : Tab) (kf : SV × Tab → Option R) : Option R :=
  energy_Explains_1 N (Cod.dec api_SpanC (lget (toCs (lget args 0)))) (fun q0 => kf (lget [.bool q0] 0, []))
noncomputable def energy_Explains_1_cal {R : Type} (N : Nat) : Cal R := callM (newelref11_Flows_cal N) 59 0 energy_Explains_1_sp (energy_Explains_1_go N)
theorem energy_Explains_1_cal_ok {R : Type} (N : Nat) : CalOk E.P (energy_Explains_1_cal (R := R) N) :=
  callM_ok hE (newelref11_Flows_cal_ok N) (lp := energy_Explains_1_lp N) (jn := noJn) (keys := []) kNil (by kernel_rfl) (js := []) jNil (by kernel_rfl) energy_Explains_1_sp_ok energy_Explains_1_rs_ok (fun args T kf => Eq.trans (energy_Explains_1_def N (Cod.dec api_SpanC (lget (toCs (lget args 0)))) (fun q0 => kf (lget [.bool q0] 0, []))) (by kernel_rfl : energy_Explains_1_run N args T kf = fnM E (newelref11_Flows_cal N) (energy_Explains_1_lp N) (noJn) 59 (energy_Explains_1_sp.vs args) (energy_Explains_1_sp.tab T) 0 (resK energy_Explains_1_rs kf)))


end
end Go.Proofs.Ytfaefhegfcidpaa
