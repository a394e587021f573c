import Derived.Test.YtlikcijophbkbaaG1
set_option maxRecDepth 100000
set_option maxHeartbeats 0
set_option linter.unusedVariables false
namespace Go.Proofs.Ytlikcijophbkbaa
open Go.Sx
noncomputable section
def newelref01_Check_L4 : LoopSp := ⟨⟨[1, 3], ⟨(dr 1 ((rPtr 0 0) :: (dr 1 ((rInt .i64) :: (dr 53 []))))), [(0, eBlkC api_EscalatorC)]⟩, 1⟩, [(Option.none, ⟨[2], ⟨(dr 2 ((rInt .i64) :: (dr 54 []))), []⟩, 0⟩), (some 0, ⟨[], ⟨(dr 57 []), []⟩, 0⟩)]⟩
theorem newelref01_Check_L4_ok : newelref01_Check_L4.Ok := ⟨⟨(drCons 1 (allCons (rPtr_ok 0 0) (drCons 1 (allCons (rInt_ok .i64) (drCons 53 allNil))))), (eCons (eBlkC_ok api_EscalatorC_ok api_EscalatorC_len) eNil)⟩, (xCons ⟨(drCons 2 (allCons (rInt_ok .i64) (drCons 54 allNil))), eNil⟩ (xCons ⟨(drCons 57 allNil), eNil⟩ xNil))⟩
def newelref01_Check_h4 (v270 : Int) (v271 : api_Escalator) : St := ⟨(un 1 ((.ptr 0 0) :: (un 1 ((.int .i64 v270) :: (un 53 []))))), [(0, .blk (Cod.enc api_EscalatorC v271))], 1⟩
def newelref01_Check_x4_r (q0 : Int) : St := ⟨(un 2 ((.int .i64 q0) :: (un 54 []))), [], 0⟩
def newelref01_Check_x4_0  : St := ⟨(un 57 []), [], 0⟩
def newelref01_Check_b4 {R : Type} (N : Nat) (rc : Int → api_Escalator → Option R) (v270 : Int) (v271 : api_Escalator) (kr : Int → Option R) (k0 : Unit → Option R) : Option R :=
  bif decide (v270 < (↑(Arr.n (api_Escalator.Brakes v271)) : Int)) then
   bif decide ((0 : Int) ≤ v270) && decide (v270 < (↑(Arr.n (api_Escalator.Brakes v271)) : Int)) then
    newelref01_within N (api_Brake.Force (Arr.f (api_Escalator.Brakes v271) (Int.toNat v270))) (0 : Int) (10000000 : Int) (fun r272 =>
    bif !r272 then
     kr (10 : Int)
    else
     bif decide ((0 : Int) ≤ v270) && decide (v270 < (↑(Arr.n (api_Escalator.Brakes v271)) : Int)) then
      newelref01_within N (api_Brake.Delay (Arr.f (api_Escalator.Brakes v271) (Int.toNat v270))) (0 : Int) (20 : Int) (fun r273 =>
      bif !r273 then
       kr (10 : Int)
      else
       rc (w64 (v270 + (1 : Int))) v271)
     else
      Option.none)
   else
    Option.none
  else
   k0 ()
def newelref01_Check_l4 {R : Type} (N : Nat) : Nat → Int → api_Escalator → (Int → Option R) → (Unit → Option R) → Option R
  | 0, _, _, _, _ => Option.none
  | n + 1, v270, v271, kr, k0 => newelref01_Check_b4 N (fun v270 v271 => newelref01_Check_l4 N n v270 v271 kr k0) v270 v271 kr k0
def newelref01_Check_m {R : Type} (N : Nat) (a265 : api_Escalator) (k : Int → Option R) : Option R :=
  newelref01_within N (api_Escalator.Empty a265) (1 : Int) (100000 : Int) (fun r266 =>
  bif !r266 then
   k (10 : Int)
  else
   newelref01_within N (api_Escalator.Pull a265) (0 : Int) (100 : Int) (fun r267 =>
   bif !r267 then
    k (10 : Int)
   else
    newelref01_within N (api_Escalator.Drag a265) (0 : Int) (10000000 : Int) (fun r268 =>
    bif !r268 then
     k (10 : Int)
    else
     newelref01_within N (api_Escalator.Motor a265) (0 : Int) (10000000 : Int) (fun r269 =>
     bif !r269 then
      k (10 : Int)
     else
      bif decide ((↑(Arr.n (api_Escalator.Brakes a265)) : Int) > (3 : Int)) then
       k (10 : Int)
      else
       newelref01_Check_l4 N N (0 : Int) a265 (fun r274 =>
        k r274) (fun (_ : Unit) =>
        k (0 : Int))))))
noncomputable def newelref01_Check {R : Type} : Nat → api_Escalator → (Int → Option R) → Option R := lock (@newelref01_Check_m R)
theorem newelref01_Check_def {R : Type} (N : Nat) (a265 : api_Escalator) (k : Int → Option R) : newelref01_Check N a265 k = newelref01_Check_m N a265 k := by unfold newelref01_Check; rw [lock_eq]
def newelref01_Check_sp : Sp := ⟨[rAgg api_EscalatorC], []⟩
theorem newelref01_Check_sp_ok : newelref01_Check_sp.Ok := ⟨(allCons (rAgg_ok api_EscalatorC_ok api_EscalatorC_len) allNil), eNil⟩
def newelref01_Check_rs : Sp := ⟨[rInt .i64], []⟩
theorem newelref01_Check_rs_ok : newelref01_Check_rs.Ok := ⟨(allCons (rInt_ok .i64) allNil), eNil⟩
def newelref01_Check_run {R : Type} (N : Nat) (args : List SV) (T : Tab) (kf : SV × Tab → Option R) : Option R :=
  newelref01_Check_m N (Cod.dec api_EscalatorC (lget (toCs (lget args 0)))) (fun q0 => kf (lget [.int .i64 q0] 0, []))
def newelref01_Check_d4 {R : Type} (N : Nat) (S0 : St) (k : Exit → St → Option R) : Option R :=
  newelref01_Check_l4 N N (toI (lget S0.tmps 3)) (Cod.dec api_EscalatorC (lget (entCs (entAt S0.tab 0)))) (fun q0 => k .ret (newelref01_Check_x4_r q0)) (fun (_ : Unit) => k (.exit 0) (newelref01_Check_x4_0 ))
def newelref01_Check_lp {R : Type} (N : Nat) : Lp R := fun body S k => bif (Go.Sx.keyOf body).getD 0 == 4 then (newelref01_Check_L4.head.raw 0 S (fun S0 => newelref01_Check_d4 N S0 k)) else Option.none
theorem newelref01_Check_l4_eq {R : Type} (N : Nat) (k : Exit → St → Option R) (n : Nat) : ∀ (v0 : Int) (v1 : api_Escalator), loopM E.Θ (newelref01_within_cal N) (newelref01_Check_lp N) (noJn) 0 newelref01_Check_L4 (bodyAt E 34 4) n (newelref01_Check_h4 v0 v1) k = newelref01_Check_l4 N n v0 v1 (fun q0 => k .ret (newelref01_Check_x4_r q0)) (fun (_ : Unit) => k (.exit 0) (newelref01_Check_x4_0 )) := by
  induction n with
  | zero => intro v0 v1; rfl
  | succ n ih =>
    intro v0 v1
    refine Eq.trans (b := newelref01_Check_b4 N (fun v0 v1 => loopM E.Θ (newelref01_within_cal N) (newelref01_Check_lp N) (noJn) 0 newelref01_Check_L4 (bodyAt E 34 4) n (newelref01_Check_h4 v0 v1) k) v0 v1 (fun q0 => k .ret (newelref01_Check_x4_r q0)) (fun (_ : Unit) => k (.exit 0) (newelref01_Check_x4_0 ))) (by kernel_rfl) ?_
    have h : (fun (v0 : Int) (v1 : api_Escalator) => loopM E.Θ (newelref01_within_cal N) (newelref01_Check_lp N) (noJn) 0 newelref01_Check_L4 (bodyAt E 34 4) n (newelref01_Check_h4 v0 v1) k) = (fun (v0 : Int) (v1 : api_Escalator) => newelref01_Check_l4 N n v0 v1 (fun q0 => k .ret (newelref01_Check_x4_r q0)) (fun (_ : Unit) => k (.exit 0) (newelref01_Check_x4_0 ))) := funext fun v0 => funext fun v1 => ih v0 v1
    rw [h]
    rfl
theorem newelref01_Check_k4 {R : Type} (N : Nat) : LpKey (R := R) E 34 0 (newelref01_Check_lp N) 4 :=
  lpKey_of hE (newelref01_within_cal_ok N) (lp := newelref01_Check_lp N) (jn := noJn) newelref01_Check_L4_ok [] kNil (by kernel_rfl) [] jNil (by kernel_rfl) N fun S k =>
    Eq.trans (b := newelref01_Check_L4.head.raw 0 S (fun S0 => newelref01_Check_d4 N S0 k)) (by kernel_rfl) (congrArg (newelref01_Check_L4.head.raw 0 S) (funext fun S0 => Eq.trans (newelref01_Check_l4_eq N k N (toI (lget S0.tmps 3)) (Cod.dec api_EscalatorC (lget (entCs (entAt S0.tab 0))))).symm (by kernel_rfl)))
noncomputable def newelref01_Check_go {R : Type} (N : Nat) (args : List SV) (T : Tab) (kf : SV × Tab → Option R) : Option R :=
  newelref01_Check N (Cod.dec api_EscalatorC (lget (toCs (lget args 0)))) (fun q0 => kf (lget [.int .i64 q0] 0, []))
noncomputable def newelref01_Check_cal {R : Type} (N : Nat) : Cal R := callM (newelref01_within_cal N) 34 0 newelref01_Check_sp (newelref01_Check_go N)
theorem newelref01_Check_cal_ok {R : Type} (N : Nat) : CalOk E.P (newelref01_Check_cal (R := R) N) :=
  callM_ok hE (newelref01_within_cal_ok N) (lp := newelref01_Check_lp N) (jn := noJn) (keys := [4]) (kCons (newelref01_Check_k4 N) kNil) (by kernel_rfl) (js := []) jNil (by kernel_rfl) newelref01_Check_sp_ok newelref01_Check_rs_ok (fun args T kf => Eq.trans (newelref01_Check_def N (Cod.dec api_EscalatorC (lget (toCs (lget args 0)))) (fun q0 => kf (lget [.int .i64 q0] 0, []))) (by kernel_rfl : newelref01_Check_run N args T kf = fnM E (newelref01_within_cal N) (newelref01_Check_lp N) (noJn) 34 (newelref01_Check_sp.vs args) (newelref01_Check_sp.tab T) 0 (resK newelref01_Check_rs kf)))
def newelref01_CheckStop_m {R : Type} (N : Nat) (a275 : api_Escalator) (a276 : api_Stop) (k : Int → Option R) : Option R :=
  newelref01_Check N a275 (fun r277 =>
  bif r277 != (0 : Int) then
   k (10 : Int)
  else
   newelref01_within N (api_Stop.Speed a276) (0 : Int) (1000 : Int) (fun r278 =>
   bif !r278 then
    k (11 : Int)
   else
    bif decide (api_Span.Low (api_Stop.Loads a276) < (0 : Int)) then
     k (11 : Int)
    else
     bif decide (api_Span.High (api_Stop.Loads a276) < api_Span.Low (api_Stop.Loads a276)) then
      k (11 : Int)
     else
      bif decide (api_Span.High (api_Stop.Loads a276) > (100000 : Int)) then
       k (11 : Int)
      else
       newelref01_within N (api_Stop.Fail a276) (0 : Int) (w64 (w64 ((1 : Int) * (2 : Int) ^ min (Int.toNat (IntKind.wrap IntKind.u64 (↑(Arr.n (api_Escalator.Brakes a275)) : Int))) (IntKind.bits IntKind.i64)) - (1 : Int))) (fun r279 =>
       bif !r279 then
        k (11 : Int)
       else
        k (0 : Int))))
noncomputable def newelref01_CheckStop {R : Type} : Nat → api_Escalator → api_Stop → (Int → Option R) → Option R := lock (@newelref01_CheckStop_m R)
theorem newelref01_CheckStop_def {R : Type} (N : Nat) (a275 : api_Escalator) (a276 : api_Stop) (k : Int → Option R) : newelref01_CheckStop N a275 a276 k = newelref01_CheckStop_m N a275 a276 k := by unfold newelref01_CheckStop; rw [lock_eq]
def newelref01_CheckStop_sp : Sp := ⟨[rAgg api_EscalatorC, rAgg api_StopC], []⟩
theorem newelref01_CheckStop_sp_ok : newelref01_CheckStop_sp.Ok := ⟨(allCons (rAgg_ok api_EscalatorC_ok api_EscalatorC_len) (allCons (rAgg_ok api_StopC_ok api_StopC_len) allNil)), eNil⟩
def newelref01_CheckStop_rs : Sp := ⟨[rInt .i64], []⟩
theorem newelref01_CheckStop_rs_ok : newelref01_CheckStop_rs.Ok := ⟨(allCons (rInt_ok .i64) allNil), eNil⟩
def newelref01_CheckStop_run {R : Type} (N : Nat) (args : List SV) (T : Tab) (kf : SV × Tab → Option R) : Option R :=
  newelref01_CheckStop_m N (Cod.dec api_EscalatorC (lget (toCs (lget args 0)))) (Cod.dec api_StopC (lget (toCs (lget args 1)))) (fun q0 => kf (lget [.int .i64 q0] 0, []))
def newelref01_CheckStop_lp {R : Type} (N : Nat) : Lp R := fun body S k => Option.none
noncomputable def newelref01_CheckStop_go {R : Type} (N : Nat) (args : List SV) (T : Tab) (kf : SV × Tab → Option R) : Option R :=
  newelref01_CheckStop N (Cod.dec api_EscalatorC (lget (toCs (lget args 0)))) (Cod.dec api_StopC (lget (toCs (lget args 1)))) (fun q0 => kf (lget [.int .i64 q0] 0, []))
noncomputable def newelref01_CheckStop_cal {R : Type} (N : Nat) : Cal R := callM (newelref01_Check_cal N) 13 0 newelref01_CheckStop_sp (newelref01_CheckStop_go N)
theorem newelref01_CheckStop_cal_ok {R : Type} (N : Nat) : CalOk E.P (newelref01_CheckStop_cal (R := R) N) :=
  callM_ok hE (newelref01_Check_cal_ok N) (lp := newelref01_CheckStop_lp N) (jn := noJn) (keys := []) kNil (by kernel_rfl) (js := []) jNil (by kernel_rfl) newelref01_CheckStop_sp_ok newelref01_CheckStop_rs_ok (fun args T kf => Eq.trans (newelref01_CheckStop_def N (Cod.dec api_EscalatorC (lget (toCs (lget args 0)))) (Cod.dec api_StopC (lget (toCs (lget args 1)))) (fun q0 => kf (lget [.int .i64 q0] 0, []))) (by kernel_rfl : newelref01_CheckStop_run N args T kf = fnM E (newelref01_Check_cal N) (newelref01_CheckStop_lp N) (noJn) 13 (newelref01_CheckStop_sp.vs args) (newelref01_CheckStop_sp.tab T) 0 (resK newelref01_CheckStop_rs kf)))
def newellaw01_Far_m {R : Type} (N : Nat) (a280 : api_Escalator) (k : Bool → Option R) : Option R :=
  k (decide ((↑(Arr.n (api_Escalator.Brakes a280)) : Int) > (10 : Int)))
noncomputable def newellaw01_Far {R : Type} : Nat → api_Escalator → (Bool → Option R) → Option R := lock (@newellaw01_Far_m R)
theorem newellaw01_Far_def {R : Type} (N : Nat) (a280 : api_Escalator) (k : Bool → Option R) : newellaw01_Far N a280 k = newellaw01_Far_m N a280 k := by unfold newellaw01_Far; rw [lock_eq]
def newellaw01_Far_sp : Sp := ⟨[rAgg api_EscalatorC], []⟩
theorem newellaw01_Far_sp_ok : newellaw01_Far_sp.Ok := ⟨(allCons (rAgg_ok api_EscalatorC_ok api_EscalatorC_len) allNil), eNil⟩
def newellaw01_Far_rs : Sp := ⟨[rBool], []⟩
theorem newellaw01_Far_rs_ok : newellaw01_Far_rs.Ok := ⟨(allCons rBool_ok allNil), eNil⟩
def newellaw01_Far_run {R : Type} (N : Nat) (args : List SV) (T : Tab) (kf : SV × Tab → Option R) : Option R :=
  newellaw01_Far_m N (Cod.dec api_EscalatorC (lget (toCs (lget args 0)))) (fun q0 => kf (lget [.bool q0] 0, []))
def newellaw01_Far_lp {R : Type} (N : Nat) : Lp R := fun body S k => Option.none
noncomputable def newellaw01_Far_go {R : Type} (N : Nat) (args : List SV) (T : Tab) (kf : SV × Tab → Option R) : Option R :=
  newellaw01_Far N (Cod.dec api_EscalatorC (lget (toCs (lget args 0)))) (fun q0 => kf (lget [.bool q0] 0, []))
noncomputable def newellaw01_Far_cal {R : Type} (N : Nat) : Cal R := callM (newelref01_CheckStop_cal N) 7 0 newellaw01_Far_sp (newellaw01_Far_go N)
theorem newellaw01_Far_cal_ok {R : Type} (N : Nat) : CalOk E.P (newellaw01_Far_cal (R := R) N) :=
  callM_ok hE (newelref01_CheckStop_cal_ok N) (lp := newellaw01_Far_lp N) (jn := noJn) (keys := []) kNil (by kernel_rfl) (js := []) jNil (by kernel_rfl) newellaw01_Far_sp_ok newellaw01_Far_rs_ok (fun args T kf => Eq.trans (newellaw01_Far_def N (Cod.dec api_EscalatorC (lget (toCs (lget args 0)))) (fun q0 => kf (lget [.bool q0] 0, []))) (by kernel_rfl : newellaw01_Far_run N args T kf = fnM E (newelref01_CheckStop_cal N) (newellaw01_Far_lp N) (noJn) 7 (newellaw01_Far_sp.vs args) (newellaw01_Far_sp.tab T) 0 (resK newellaw01_Far_rs kf)))
def drive_floor_m {R : Type} (N : Nat) (a281 : Int) (a282 : Int) (k : Int → Option R) : Option R :=
  bif a282 == (0 : Int) then
   Option.none
  else
   bif a282 == (0 : Int) then
    Option.none
   else
    bif decide (Int.tmod a281 a282 < (0 : Int)) then
     k (w64 (w64 (Int.tdiv a281 a282) - (1 : Int)))
    else
     k (w64 (Int.tdiv a281 a282))
noncomputable def drive_floor {R : Type} : Nat → Int → Int → (Int → Option R) → Option R := lock (@drive_floor_m R)
theorem drive_floor_def {R : Type} (N : Nat) (a281 : Int) (a282 : Int) (k : Int → Option R) : drive_floor N a281 a282 k = drive_floor_m N a281 a282 k := by unfold drive_floor; rw [lock_eq]
def drive_floor_sp : Sp := ⟨[rInt .i64, rInt .i64], []⟩
theorem drive_floor_sp_ok : drive_floor_sp.Ok := ⟨(allCons (rInt_ok .i64) (allCons (rInt_ok .i64) allNil)), eNil⟩
def drive_floor_rs : Sp := ⟨[rInt .i64], []⟩
theorem drive_floor_rs_ok : drive_floor_rs.Ok := ⟨(allCons (rInt_ok .i64) allNil), eNil⟩
def drive_floor_run {R : Type} (N : Nat) (args : List SV) (T : Tab) (kf : SV × Tab → Option R) : Option R :=
  drive_floor_m N (toI (lget args 0)) (toI (lget args 1)) (fun q0 => kf (lget [.int .i64 q0] 0, []))
def drive_floor_lp {R : Type} (N : Nat) : Lp R := fun body S k => Option.none
noncomputable def drive_floor_go {R : Type} (N : Nat) (args : List SV) (T : Tab) (kf : SV × Tab → Option R) : Option R :=
  drive_floor N (toI (lget args 0)) (toI (lget args 1)) (fun q0 => kf (lget [.int .i64 q0] 0, []))
noncomputable def drive_floor_cal {R : Type} (N : Nat) : Cal R := callM (newellaw01_Far_cal N) 87 0 drive_floor_sp (drive_floor_go N)
theorem drive_floor_cal_ok {R : Type} (N : Nat) : CalOk E.P (drive_floor_cal (R := R) N) :=
  callM_ok hE (newellaw01_Far_cal_ok N) (lp := drive_floor_lp N) (jn := noJn) (keys := []) kNil (by kernel_rfl) (js := []) jNil (by kernel_rfl) drive_floor_sp_ok drive_floor_rs_ok (fun args T kf => Eq.trans (drive_floor_def N (toI (lget args 0)) (toI (lget args 1)) (fun q0 => kf (lget [.int .i64 q0] 0, []))) (by kernel_rfl : drive_floor_run N args T kf = fnM E (newellaw01_Far_cal N) (drive_floor_lp N) (noJn) 87 (drive_floor_sp.vs args) (drive_floor_sp.tab T) 0 (resK drive_floor_rs kf)))
def drive_ahead_m {R : Type} (N : Nat) (a283 : Int) (a284 : Int) (a285 : Int) (a286 : Int) (k : Int → Option R) : Option R :=
  drive_floor N (w64 (a284 - a285)) a286 (fun r287 =>
  k (mxI (0 : Int) (w64 (a283 + r287))))
noncomputable def drive_ahead {R : Type} : Nat → Int → Int → Int → Int → (Int → Option R) → Option R := lock (@drive_ahead_m R)
theorem drive_ahead_def {R : Type} (N : Nat) (a283 : Int) (a284 : Int) (a285 : Int) (a286 : Int) (k : Int → Option R) : drive_ahead N a283 a284 a285 a286 k = drive_ahead_m N a283 a284 a285 a286 k := by unfold drive_ahead; rw [lock_eq]
def drive_ahead_sp : Sp := ⟨[rInt .i64, rInt .i64, rInt .i64, rInt .i64], []⟩
theorem drive_ahead_sp_ok : drive_ahead_sp.Ok := ⟨(allCons (rInt_ok .i64) (allCons (rInt_ok .i64) (allCons (rInt_ok .i64) (allCons (rInt_ok .i64) allNil)))), eNil⟩
def drive_ahead_rs : Sp := ⟨[rInt .i64], []⟩
theorem drive_ahead_rs_ok : drive_ahead_rs.Ok := ⟨(allCons (rInt_ok .i64) allNil), eNil⟩
def drive_ahead_run {R : Type} (N : Nat) (args : List SV) (T : Tab) (kf : SV × Tab → Option R) : Option R :=
  drive_ahead_m N (toI (lget args 0)) (toI (lget args 1)) (toI (lget args 2)) (toI (lget args 3)) (fun q0 => kf (lget [.int .i64 q0] 0, []))
def drive_ahead_lp {R : Type} (N : Nat) : Lp R := fun body S k => Option.none
noncomputable def drive_ahead_go {R : Type} (N : Nat) (args : List SV) (T : Tab) (kf : SV × Tab → Option R) : Option R :=
  drive_ahead N (toI (lget args 0)) (toI (lget args 1)) (toI (lget args 2)) (toI (lget args 3)) (fun q0 => kf (lget [.int .i64 q0] 0, []))
noncomputable def drive_ahead_cal {R : Type} (N : Nat) : Cal R := callM (drive_floor_cal N) 79 0 drive_ahead_sp (drive_ahead_go N)
theorem drive_ahead_cal_ok {R : Type} (N : Nat) : CalOk E.P (drive_ahead_cal (R := R) N) :=
  callM_ok hE (drive_floor_cal_ok N) (lp := drive_ahead_lp N) (jn := noJn) (keys := []) kNil (by kernel_rfl) (js := []) jNil (by kernel_rfl) drive_ahead_sp_ok drive_ahead_rs_ok (fun args T kf => Eq.trans (drive_ahead_def N (toI (lget args 0)) (toI (lget args 1)) (toI (lget args 2)) (toI (lget args 3)) (fun q0 => kf (lget [.int .i64 q0] 0, []))) (by kernel_rfl : drive_ahead_run N args T kf = fnM E (drive_floor_cal N) (drive_ahead_lp N) (noJn) 79 (drive_ahead_sp.vs args) (drive_ahead_sp.tab T) 0 (resK drive_ahead_rs kf)))
def drive_in_m {R : Type} (N : Nat) (a288 : Int) (a289 : api_Span) (k : Bool → Option R) : Option R :=
  bif decide (api_Span.Low a289 ≤ a288) then
   k (decide (a288 ≤ api_Span.High a289))
  else
   k false
noncomputable def drive_in {R : Type} : Nat → Int → api_Span → (Bool → Option R) → Option R := lock (@drive_in_m R)
theorem drive_in_def {R : Type} (N : Nat) (a288 : Int) (a289 : api_Span) (k : Bool → Option R) : drive_in N a288 a289 k = drive_in_m N a288 a289 k := by unfold drive_in; rw [lock_eq]
def drive_in_sp : Sp := ⟨[rInt .i64, rAgg api_SpanC], []⟩
theorem drive_in_sp_ok : drive_in_sp.Ok := ⟨(allCons (rInt_ok .i64) (allCons (rAgg_ok api_SpanC_ok api_SpanC_len) allNil)), eNil⟩
def drive_in_rs : Sp := ⟨[rBool], []⟩
theorem drive_in_rs_ok : drive_in_rs.Ok := ⟨(allCons rBool_ok allNil), eNil⟩
def drive_in_run {R : Type} (N : Nat) (args : List SV) (T : Tab) (kf : SV × Tab → Option R) : Option R :=
  drive_in_m N (toI (lget args 0)) (Cod.dec api_SpanC (lget (toCs (lget args 1)))) (fun q0 => kf (lget [.bool q0] 0, []))
def drive_in_lp {R : Type} (N : Nat) : Lp R := fun body S k => Option.none
noncomputable def drive_in_go {R : Type} (N : Nat) (args : List SV) (T : Tab) (kf : SV × Tab → Option R) : Option R :=
  drive_in N (toI (lget args 0)) (Cod.dec api_SpanC (lget (toCs (lget args 1)))) (fun q0 => kf (lget [.bool q0] 0, []))
noncomputable def drive_in_cal {R : Type} (N : Nat) : Cal R := callM (drive_ahead_cal N) 40 0 drive_in_sp (drive_in_go N)
theorem drive_in_cal_ok {R : Type} (N : Nat) : CalOk E.P (drive_in_cal (R := R) N) :=
  callM_ok hE (drive_ahead_cal_ok N) (lp := drive_in_lp N) (jn := noJn) (keys := []) kNil (by kernel_rfl) (js := []) jNil (by kernel_rfl) drive_in_sp_ok drive_in_rs_ok (fun args T kf => Eq.trans (drive_in_def N (toI (lget args 0)) (Cod.dec api_SpanC (lget (toCs (lget args 1)))) (fun q0 => kf (lget [.bool q0] 0, []))) (by kernel_rfl : drive_in_run N args T kf = fnM E (drive_ahead_cal N) (drive_in_lp N) (noJn) 40 (drive_in_sp.vs args) (drive_in_sp.tab T) 0 (resK drive_in_rs kf)))
def drive_to_m {R : Type} (N : Nat) (a290 : Int) (k : api_Span → Option R) : Option R :=
  k (api_Span.mk (0 : Int) a290)
noncomputable def drive_to {R : Type} : Nat → Int → (api_Span → Option R) → Option R := lock (@drive_to_m R)
theorem drive_to_def {R : Type} (N : Nat) (a290 : Int) (k : api_Span → Option R) : drive_to N a290 k = drive_to_m N a290 k := by unfold drive_to; rw [lock_eq]
def drive_to_sp : Sp := ⟨[rInt .i64], []⟩
theorem drive_to_sp_ok : drive_to_sp.Ok := ⟨(allCons (rInt_ok .i64) allNil), eNil⟩
def drive_to_rs : Sp := ⟨[rAgg api_SpanC], []⟩
theorem drive_to_rs_ok : drive_to_rs.Ok := ⟨(allCons (rAgg_ok api_SpanC_ok api_SpanC_len) allNil), eNil⟩
def drive_to_run {R : Type} (N : Nat) (args : List SV) (T : Tab) (kf : SV × Tab → Option R) : Option R :=
  drive_to_m N (toI (lget args 0)) (fun q0 => kf (lget [.agg (Cod.enc api_SpanC q0)] 0, []))
def drive_to_lp {R : Type} (N : Nat) : Lp R := fun body S k => Option.none
noncomputable def drive_to_go {R : Type} (N : Nat) (args : List SV) (T : Tab) (kf : SV × Tab → Option R) : Option R :=
  drive_to N (toI (lget args 0)) (fun q0 => kf (lget [.agg (Cod.enc api_SpanC q0)] 0, []))
noncomputable def drive_to_cal {R : Type} (N : Nat) : Cal R := callM (drive_in_cal N) 64 0 drive_to_sp (drive_to_go N)
theorem drive_to_cal_ok {R : Type} (N : Nat) : CalOk E.P (drive_to_cal (R := R) N) :=
  callM_ok hE (drive_in_cal_ok N) (lp := drive_to_lp N) (jn := noJn) (keys := []) kNil (by kernel_rfl) (js := []) jNil (by kernel_rfl) drive_to_sp_ok drive_to_rs_ok (fun args T kf => Eq.trans (drive_to_def N (toI (lget args 0)) (fun q0 => kf (lget [.agg (Cod.enc api_SpanC q0)] 0, []))) (by kernel_rfl : drive_to_run N args T kf = fnM E (drive_in_cal N) (drive_to_lp N) (noJn) 64 (drive_to_sp.vs args) (drive_to_sp.tab T) 0 (resK drive_to_rs kf)))
def drive_Check_1_m {R : Type} (N : Nat) (a301 : api_Brake) (k : Bool → Option R) : Option R :=
  drive_to N (10000000 : Int) (fun r302 =>
  drive_in N (api_Brake.Force a301) r302 (fun r303 =>
  bif r303 then
   drive_to N (20 : Int) (fun r304 =>
   drive_in N (api_Brake.Delay a301) r304 (fun r305 =>
   k r305))
  else
   k false))
noncomputable def drive_Check_1 {R : Type} : Nat → api_Brake → (Bool → Option R) → Option R := lock (@drive_Check_1_m R)
theorem drive_Check_1_def {R : Type} (N : Nat) (a301 : api_Brake) (k : Bool → Option R) : drive_Check_1 N a301 k = drive_Check_1_m N a301 k := by unfold drive_Check_1; rw [lock_eq]
def drive_Check_1_sp : Sp := ⟨[rAgg api_BrakeC], []⟩
theorem drive_Check_1_sp_ok : drive_Check_1_sp.Ok := ⟨(allCons (rAgg_ok api_BrakeC_ok api_BrakeC_len) allNil), eNil⟩
def drive_Check_1_rs : Sp := ⟨[rBool], []⟩
theorem drive_Check_1_rs_ok : drive_Check_1_rs.Ok := ⟨(allCons rBool_ok allNil), eNil⟩
def drive_Check_1_run {R : Type} (N : Nat) (args : List SV) (T : Tab) (kf : SV × Tab → Option R) : Option R :=
  drive_Check_1_m N (Cod.dec api_BrakeC (lget (toCs (lget args 0)))) (fun q0 => kf (lget [.bool q0] 0, []))
def drive_Check_1_lp {R : Type} (N : Nat) : Lp R := fun body S k => Option.none
noncomputable def drive_Check_1_go {R : Type} (N : Nat) (args : List SV) (T : Tab) (kf : SV × Tab → Option R) : Option R :=
  drive_Check_1 N (Cod.dec api_BrakeC (lget (toCs (lget args 0)))) (fun q0 => kf (lget [.bool q0] 0, []))
noncomputable def drive_Check_1_cal {R : Type} (N : Nat) : Cal R := callM (drive_to_cal N) 78 0 drive_Check_1_sp (drive_Check_1_go N)
theorem drive_Check_1_cal_ok {R : Type} (N : Nat) : CalOk E.P (drive_Check_1_cal (R := R) N) :=
  callM_ok hE (drive_to_cal_ok N) (lp := drive_Check_1_lp N) (jn := noJn) (keys := []) kNil (by kernel_rfl) (js := []) jNil (by kernel_rfl) drive_Check_1_sp_ok drive_Check_1_rs_ok (fun args T kf => Eq.trans (drive_Check_1_def N (Cod.dec api_BrakeC (lget (toCs (lget args 0)))) (fun q0 => kf (lget [.bool q0] 0, []))) (by kernel_rfl : drive_Check_1_run N args T kf = fnM E (drive_to_cal N) (drive_Check_1_lp N) (noJn) 78 (drive_Check_1_sp.vs args) (drive_Check_1_sp.tab T) 0 (resK drive_Check_1_rs kf)))
def drive_Check_L5 : LoopSp := ⟨⟨[3, 42, 43, 44], ⟨(dr 3 ((rFunc 78 0 []) :: (dr 38 ((rSl api_BrakeC) :: (rInt .i64) :: (rInt .i64) :: (dr 8 []))))), []⟩, 0⟩, [(Option.none, ⟨[2], ⟨(dr 2 ((rInt .i64) :: (dr 50 []))), []⟩, 0⟩), (some 0, ⟨[], ⟨(dr 53 []), []⟩, 0⟩)]⟩
theorem drive_Check_L5_ok : drive_Check_L5.Ok := ⟨⟨(drCons 3 (allCons (rFunc_ok 78 0 allNil) (drCons 38 (allCons (rSl_ok api_BrakeC_ok) (allCons (rInt_ok .i64) (allCons (rInt_ok .i64) (drCons 8 allNil))))))), eNil⟩, (xCons ⟨(drCons 2 (allCons (rInt_ok .i64) (drCons 50 allNil))), eNil⟩ (xCons ⟨(drCons 53 allNil), eNil⟩ xNil))⟩
def drive_Check_h5 (v298 : Arr api_Brake) (v299 : Int) (v300 : Int) : St := ⟨(un 3 ((.func 78 0 []) :: (un 38 ((slC api_BrakeC v298) :: (.int .i64 v299) :: (.int .i64 v300) :: (un 8 []))))), [], 0⟩
def drive_Check_x5_r (q0 : Int) : St := ⟨(un 2 ((.int .i64 q0) :: (un 50 []))), [], 0⟩
def drive_Check_x5_0  : St := ⟨(un 53 []), [], 0⟩
def drive_Check_b5 {R : Type} (N : Nat) (rc : Arr api_Brake → Int → Int → Option R) (v298 : Arr api_Brake) (v299 : Int) (v300 : Int) (kr : Int → Option R) (k0 : Unit → Option R) : Option R :=
  bif decide (v300 < v299) then
   bif decide ((0 : Int) ≤ v300) && decide (v300 < (↑(Arr.n v298) : Int)) then
    drive_Check_1 N (Arr.f v298 (Int.toNat v300)) (fun r306 =>
    bif !r306 then
     kr (10 : Int)
    else
     rc v298 v299 (w64 (v300 + (1 : Int))))
   else
    Option.none
  else
   k0 ()
def drive_Check_l5 {R : Type} (N : Nat) : Nat → Arr api_Brake → Int → Int → (Int → Option R) → (Unit → Option R) → Option R
  | 0, _, _, _, _, _ => Option.none
  | n + 1, v298, v299, v300, kr, k0 => drive_Check_b5 N (fun v298 v299 v300 => drive_Check_l5 N n v298 v299 v300 kr k0) v298 v299 v300 kr k0
def drive_Check_m {R : Type} (N : Nat) (a291 : api_Escalator) (k : Int → Option R) : Option R :=
  bif decide (api_Escalator.Empty a291 < (1 : Int)) then
   k (10 : Int)
  else
   bif decide (api_Escalator.Empty a291 > (100000 : Int)) then
    k (10 : Int)
   else
    drive_to N (100 : Int) (fun r292 =>
    drive_in N (api_Escalator.Pull a291) r292 (fun r293 =>
    bif !r293 then
     k (10 : Int)
    else
     drive_to N (10000000 : Int) (fun r294 =>
     drive_in N (api_Escalator.Drag a291) r294 (fun r295 =>
     bif !r295 then
      k (10 : Int)
     else
      drive_to N (10000000 : Int) (fun r296 =>
      drive_in N (api_Escalator.Motor a291) r296 (fun r297 =>
      bif !r297 then
       k (10 : Int)
      else
       bif decide ((↑(Arr.n (api_Escalator.Brakes a291)) : Int) > (3 : Int)) then
        k (10 : Int)
       else
        drive_Check_l5 N N (api_Escalator.Brakes a291) ((↑(Arr.n (api_Escalator.Brakes a291)) : Int)) (0 : Int) (fun r307 =>
         k r307) (fun (_ : Unit) =>
         k (0 : Int))))))))
noncomputable def drive_Check {R : Type} : Nat → api_Escalator → (Int → Option R) → Option R := lock (@drive_Check_m R)
theorem drive_Check_def {R : Type} (N : Nat) (a291 : api_Escalator) (k : Int → Option R) : drive_Check N a291 k = drive_Check_m N a291 k := by unfold drive_Check; rw [lock_eq]
def drive_Check_sp : Sp := ⟨[rAgg api_EscalatorC], []⟩
theorem drive_Check_sp_ok : drive_Check_sp.Ok := ⟨(allCons (rAgg_ok api_EscalatorC_ok api_EscalatorC_len) allNil), eNil⟩
def drive_Check_rs : Sp := ⟨[rInt .i64], []⟩
theorem drive_Check_rs_ok : drive_Check_rs.Ok := ⟨(allCons (rInt_ok .i64) allNil), eNil⟩
def drive_Check_run {R : Type} (N : Nat) (args : List SV) (T : Tab) (kf : SV × Tab → Option R) : Option R :=
  drive_Check_m N (Cod.dec api_EscalatorC (lget (toCs (lget args 0)))) (fun q0 => kf (lget [.int .i64 q0] 0, []))
def drive_Check_d5 {R : Type} (N : Nat) (S0 : St) (k : Exit → St → Option R) : Option R :=
  drive_Check_l5 N N (lstC api_BrakeC (lget S0.tmps 42)) (toI (lget S0.tmps 43)) (toI (lget S0.tmps 44)) (fun q0 => k .ret (drive_Check_x5_r q0)) (fun (_ : Unit) => k (.exit 0) (drive_Check_x5_0 ))
def drive_Check_lp {R : Type} (N : Nat) : Lp R := fun body S k => bif (Go.Sx.keyOf body).getD 0 == 5 then (drive_Check_L5.head.raw 0 S (fun S0 => drive_Check_d5 N S0 k)) else Option.none
theorem drive_Check_l5_eq {R : Type} (N : Nat) (k : Exit → St → Option R) (n : Nat) : ∀ (v0 : Arr api_Brake) (v1 : Int) (v2 : Int), loopM E.Θ (drive_Check_1_cal N) (drive_Check_lp N) (noJn) 0 drive_Check_L5 (bodyAt E 63 5) n (drive_Check_h5 v0 v1 v2) k = drive_Check_l5 N n v0 v1 v2 (fun q0 => k .ret (drive_Check_x5_r q0)) (fun (_ : Unit) => k (.exit 0) (drive_Check_x5_0 )) := by
  induction n with
  | zero => intro v0 v1 v2; rfl
  | succ n ih =>
    intro v0 v1 v2
    refine Eq.trans (b := drive_Check_b5 N (fun v0 v1 v2 => loopM E.Θ (drive_Check_1_cal N) (drive_Check_lp N) (noJn) 0 drive_Check_L5 (bodyAt E 63 5) n (drive_Check_h5 v0 v1 v2) k) v0 v1 v2 (fun q0 => k .ret (drive_Check_x5_r q0)) (fun (_ : Unit) => k (.exit 0) (drive_Check_x5_0 ))) (by kernel_rfl) ?_
    have h : (fun (v0 : Arr api_Brake) (v1 : Int) (v2 : Int) => loopM E.Θ (drive_Check_1_cal N) (drive_Check_lp N) (noJn) 0 drive_Check_L5 (bodyAt E 63 5) n (drive_Check_h5 v0 v1 v2) k) = (fun (v0 : Arr api_Brake) (v1 : Int) (v2 : Int) => drive_Check_l5 N n v0 v1 v2 (fun q0 => k .ret (drive_Check_x5_r q0)) (fun (_ : Unit) => k (.exit 0) (drive_Check_x5_0 ))) := funext fun v0 => funext fun v1 => funext fun v2 => ih v0 v1 v2
    rw [h]
    rfl
theorem drive_Check_k5 {R : Type} (N : Nat) : LpKey (R := R) E 63 0 (drive_Check_lp N) 5 :=
  lpKey_of hE (drive_Check_1_cal_ok N) (lp := drive_Check_lp N) (jn := noJn) drive_Check_L5_ok [] kNil (by kernel_rfl) [] jNil (by kernel_rfl) N fun S k =>
    Eq.trans (b := drive_Check_L5.head.raw 0 S (fun S0 => drive_Check_d5 N S0 k)) (by kernel_rfl) (congrArg (drive_Check_L5.head.raw 0 S) (funext fun S0 => Eq.trans (drive_Check_l5_eq N k N (lstC api_BrakeC (lget S0.tmps 42)) (toI (lget S0.tmps 43)) (toI (lget S0.tmps 44))).symm (by kernel_rfl)))
noncomputable def drive_Check_go {R : Type} (N : Nat) (args : List SV) (T : Tab) (kf : SV × Tab → Option R) : Option R :=
  drive_Check N (Cod.dec api_EscalatorC (lget (toCs (lget args 0)))) (fun q0 => kf (lget [.int .i64 q0] 0, []))
noncomputable def drive_Check_cal {R : Type} (N : Nat) : Cal R := callM (drive_Check_1_cal N) 63 0 drive_Check_sp (drive_Check_go N)
theorem drive_Check_cal_ok {R : Type} (N : Nat) : CalOk E.P (drive_Check_cal (R := R) N) :=
  callM_ok hE (drive_Check_1_cal_ok N) (lp := drive_Check_lp N) (jn := noJn) (keys := [5]) (kCons (drive_Check_k5 N) kNil) (by kernel_rfl) (js := []) jNil (by kernel_rfl) drive_Check_sp_ok drive_Check_rs_ok (fun args T kf => Eq.trans (drive_Check_def N (Cod.dec api_EscalatorC (lget (toCs (lget args 0)))) (fun q0 => kf (lget [.int .i64 q0] 0, []))) (by kernel_rfl : drive_Check_run N args T kf = fnM E (drive_Check_1_cal N) (drive_Check_lp N) (noJn) 63 (drive_Check_sp.vs args) (drive_Check_sp.tab T) 0 (resK drive_Check_rs kf)))
def drive_checkStop_m {R : Type} (N : Nat) (a308 : api_Escalator) (a309 : api_Stop) (k : Int → Option R) : Option R :=
  drive_Check N a308 (fun r310 =>
  bif r310 != (0 : Int) then
   k r310
  else
   drive_to N (1000 : Int) (fun r311 =>
   drive_in N (api_Stop.Speed a309) r311 (fun r312 =>
   bif !r312 then
    k (11 : Int)
   else
    bif decide (api_Span.Low (api_Stop.Loads a309) < (0 : Int)) then
     k (11 : Int)
    else
     bif decide (api_Span.Low (api_Stop.Loads a309) > api_Span.High (api_Stop.Loads a309)) then
      k (11 : Int)
     else
      bif decide (api_Span.High (api_Stop.Loads a309) > (100000 : Int)) then
       k (11 : Int)
      else
       bif decide (api_Stop.Fail a309 < (0 : Int)) then
        k (11 : Int)
       else
        bif decide (api_Stop.Fail a309 ≥ w64 ((1 : Int) * (2 : Int) ^ min (Int.toNat (↑(Arr.n (api_Escalator.Brakes a308)) : Int)) (IntKind.bits IntKind.i64))) then
         k (11 : Int)
        else
         k (0 : Int))))
noncomputable def drive_checkStop {R : Type} : Nat → api_Escalator → api_Stop → (Int → Option R) → Option R := lock (@drive_checkStop_m R)
theorem drive_checkStop_def {R : Type} (N : Nat) (a308 : api_Escalator) (a309 : api_Stop) (k : Int → Option R) : drive_checkStop N a308 a309 k = drive_checkStop_m N a308 a309 k := by unfold drive_checkStop; rw [lock_eq]
def drive_checkStop_sp : Sp := ⟨[rAgg api_EscalatorC, rAgg api_StopC], []⟩
theorem drive_checkStop_sp_ok : drive_checkStop_sp.Ok := ⟨(allCons (rAgg_ok api_EscalatorC_ok api_EscalatorC_len) (allCons (rAgg_ok api_StopC_ok api_StopC_len) allNil)), eNil⟩
def drive_checkStop_rs : Sp := ⟨[rInt .i64], []⟩
theorem drive_checkStop_rs_ok : drive_checkStop_rs.Ok := ⟨(allCons (rInt_ok .i64) allNil), eNil⟩
def drive_checkStop_run {R : Type} (N : Nat) (args : List SV) (T : Tab) (kf : SV × Tab → Option R) : Option R :=
  drive_checkStop_m N (Cod.dec api_EscalatorC (lget (toCs (lget args 0)))) (Cod.dec api_StopC (lget (toCs (lget args 1)))) (fun q0 => kf (lget [.int .i64 q0] 0, []))
def drive_checkStop_lp {R : Type} (N : Nat) : Lp R := fun body S k => Option.none
noncomputable def drive_checkStop_go {R : Type} (N : Nat) (args : List SV) (T : Tab) (kf : SV × Tab → Option R) : Option R :=
  drive_checkStop N (Cod.dec api_EscalatorC (lget (toCs (lget args 0)))) (Cod.dec api_StopC (lget (toCs (lget args 1)))) (fun q0 => kf (lget [.int .i64 q0] 0, []))
noncomputable def drive_checkStop_cal {R : Type} (N : Nat) : Cal R := callM (drive_Check_cal N) 36 0 drive_checkStop_sp (drive_checkStop_go N)
theorem drive_checkStop_cal_ok {R : Type} (N : Nat) : CalOk E.P (drive_checkStop_cal (R := R) N) :=
  callM_ok hE (drive_Check_cal_ok N) (lp := drive_checkStop_lp N) (jn := noJn) (keys := []) kNil (by kernel_rfl) (js := []) jNil (by kernel_rfl) drive_checkStop_sp_ok drive_checkStop_rs_ok (fun args T kf => Eq.trans (drive_checkStop_def N (Cod.dec api_EscalatorC (lget (toCs (lget args 0)))) (Cod.dec api_StopC (lget (toCs (lget args 1)))) (fun q0 => kf (lget [.int .i64 q0] 0, []))) (by kernel_rfl : drive_checkStop_run N args T kf = fnM E (drive_Check_cal N) (drive_checkStop_lp N) (noJn) 36 (drive_checkStop_sp.vs args) (drive_checkStop_sp.tab T) 0 (resK drive_checkStop_rs kf)))
def drive_tick_m {R : Type} (N : Nat) (a313 : api_Escalator) (a314 : Int) (a315 : Int) (a316 : Int) (k : Int → Option R) : Option R :=
  bif api_Escalator.Up a313 then
   bif decide (a314 < (0 : Int)) then
    drive_ahead N (w64 ((0 : Int) - a314)) (w64 ((0 : Int) - w64 ((0 : Int) - w64 (api_Escalator.Pull a313 * a315)))) (w64 (api_Escalator.Drag a313 + a316)) (w64 (api_Escalator.Empty a313 + a315)) (fun r317 =>
    k (w64 ((0 : Int) - r317)))
   else
    bif a314 == (0 : Int) then
     bif decide (w64 ((0 : Int) - w64 (api_Escalator.Pull a313 * a315)) < (0 : Int)) then
      drive_ahead N (w64 ((0 : Int) - a314)) (w64 ((0 : Int) - w64 ((0 : Int) - w64 (api_Escalator.Pull a313 * a315)))) (w64 (api_Escalator.Drag a313 + a316)) (w64 (api_Escalator.Empty a313 + a315)) (fun r318 =>
      k (w64 ((0 : Int) - r318)))
     else
      drive_ahead N a314 (w64 ((0 : Int) - w64 (api_Escalator.Pull a313 * a315))) (w64 (api_Escalator.Drag a313 + a316)) (w64 (api_Escalator.Empty a313 + a315)) (fun r319 =>
      k r319)
    else
     drive_ahead N a314 (w64 ((0 : Int) - w64 (api_Escalator.Pull a313 * a315))) (w64 (api_Escalator.Drag a313 + a316)) (w64 (api_Escalator.Empty a313 + a315)) (fun r320 =>
     k r320)
  else
   bif decide (a314 < (0 : Int)) then
    drive_ahead N (w64 ((0 : Int) - a314)) (w64 ((0 : Int) - w64 (api_Escalator.Pull a313 * a315))) (w64 (api_Escalator.Drag a313 + a316)) (w64 (api_Escalator.Empty a313 + a315)) (fun r321 =>
    k (w64 ((0 : Int) - r321)))
   else
    bif a314 == (0 : Int) then
     bif decide (w64 (api_Escalator.Pull a313 * a315) < (0 : Int)) then
      drive_ahead N (w64 ((0 : Int) - a314)) (w64 ((0 : Int) - w64 (api_Escalator.Pull a313 * a315))) (w64 (api_Escalator.Drag a313 + a316)) (w64 (api_Escalator.Empty a313 + a315)) (fun r322 =>
      k (w64 ((0 : Int) - r322)))
     else
      drive_ahead N a314 (w64 (api_Escalator.Pull a313 * a315)) (w64 (api_Escalator.Drag a313 + a316)) (w64 (api_Escalator.Empty a313 + a315)) (fun r323 =>
      k r323)
    else
     drive_ahead N a314 (w64 (api_Escalator.Pull a313 * a315)) (w64 (api_Escalator.Drag a313 + a316)) (w64 (api_Escalator.Empty a313 + a315)) (fun r324 =>
     k r324)
noncomputable def drive_tick {R : Type} : Nat → api_Escalator → Int → Int → Int → (Int → Option R) → Option R := lock (@drive_tick_m R)
theorem drive_tick_def {R : Type} (N : Nat) (a313 : api_Escalator) (a314 : Int) (a315 : Int) (a316 : Int) (k : Int → Option R) : drive_tick N a313 a314 a315 a316 k = drive_tick_m N a313 a314 a315 a316 k := by unfold drive_tick; rw [lock_eq]
def drive_tick_sp : Sp := ⟨[rAgg api_EscalatorC, rInt .i64, rInt .i64, rInt .i64], []⟩
theorem drive_tick_sp_ok : drive_tick_sp.Ok := ⟨(allCons (rAgg_ok api_EscalatorC_ok api_EscalatorC_len) (allCons (rInt_ok .i64) (allCons (rInt_ok .i64) (allCons (rInt_ok .i64) allNil)))), eNil⟩
def drive_tick_rs : Sp := ⟨[rInt .i64], []⟩
theorem drive_tick_rs_ok : drive_tick_rs.Ok := ⟨(allCons (rInt_ok .i64) allNil), eNil⟩
def drive_tick_run {R : Type} (N : Nat) (args : List SV) (T : Tab) (kf : SV × Tab → Option R) : Option R :=
  drive_tick_m N (Cod.dec api_EscalatorC (lget (toCs (lget args 0)))) (toI (lget args 1)) (toI (lget args 2)) (toI (lget args 3)) (fun q0 => kf (lget [.int .i64 q0] 0, []))
def drive_tick_lp {R : Type} (N : Nat) : Lp R := fun body S k => Option.none
noncomputable def drive_tick_go {R : Type} (N : Nat) (args : List SV) (T : Tab) (kf : SV × Tab → Option R) : Option R :=
  drive_tick N (Cod.dec api_EscalatorC (lget (toCs (lget args 0)))) (toI (lget args 1)) (toI (lget args 2)) (toI (lget args 3)) (fun q0 => kf (lget [.int .i64 q0] 0, []))
noncomputable def drive_tick_cal {R : Type} (N : Nat) : Cal R := callM (drive_checkStop_cal N) 67 0 drive_tick_sp (drive_tick_go N)
theorem drive_tick_cal_ok {R : Type} (N : Nat) : CalOk E.P (drive_tick_cal (R := R) N) :=
  callM_ok hE (drive_checkStop_cal_ok N) (lp := drive_tick_lp N) (jn := noJn) (keys := []) kNil (by kernel_rfl) (js := []) jNil (by kernel_rfl) drive_tick_sp_ok drive_tick_rs_ok (fun args T kf => Eq.trans (drive_tick_def N (Cod.dec api_EscalatorC (lget (toCs (lget args 0)))) (toI (lget args 1)) (toI (lget args 2)) (toI (lget args 3)) (fun q0 => kf (lget [.int .i64 q0] 0, []))) (by kernel_rfl : drive_tick_run N args T kf = fnM E (drive_checkStop_cal N) (drive_tick_lp N) (noJn) 67 (drive_tick_sp.vs args) (drive_tick_sp.tab T) 0 (resK drive_tick_rs kf)))
def drive_motion_grip_L2 : LoopSp := ⟨⟨[0, 2, 9, 10, 11], ⟨((rEptr drive_motionC) :: (dr 1 ((rInt .i64) :: (dr 6 ((rSl api_BrakeC) :: (rInt .i64) :: (rInt .i64) :: (dr 28 [])))))), []⟩, 0⟩, [(some 0, ⟨[2], ⟨(dr 2 ((rInt .i64) :: (dr 37 []))), []⟩, 0⟩)]⟩
theorem drive_motion_grip_L2_ok : drive_motion_grip_L2.Ok := ⟨⟨(allCons (rEptr_ok drive_motionC_ok) (drCons 1 (allCons (rInt_ok .i64) (drCons 6 (allCons (rSl_ok api_BrakeC_ok) (allCons (rInt_ok .i64) (allCons (rInt_ok .i64) (drCons 28 allNil)))))))), eNil⟩, (xCons ⟨(drCons 2 (allCons (rInt_ok .i64) (drCons 37 allNil))), eNil⟩ xNil)⟩
def drive_motion_grip_h2 (v343 : drive_motion) (v344 : Int) (v345 : Arr api_Brake) (v346 : Int) (v347 : Int) : St := ⟨((.eptr (Cod.size drive_motionC) (lget (Cod.enc drive_motionC v343))) :: (un 1 ((.int .i64 v344) :: (un 6 ((slC api_BrakeC v345) :: (.int .i64 v346) :: (.int .i64 v347) :: (un 28 [])))))), [], 0⟩
def drive_motion_grip_x2_0 (q0 : Int) : St := ⟨(un 2 ((.int .i64 q0) :: (un 37 []))), [], 0⟩
def drive_motion_grip_b2 {R : Type} (N : Nat) (rc : drive_motion → Int → Arr api_Brake → Int → Int → Option R) (v343 : drive_motion) (v344 : Int) (v345 : Arr api_Brake) (v346 : Int) (v347 : Int) (k0 : Int → Option R) : Option R :=
  bif decide (v347 < v346) then
   bif decide ((0 : Int) ≤ v347) && decide (v347 < (↑(Arr.n v345) : Int)) then
    bif decide (v347 < (0 : Int)) then
     Option.none
    else
     bif w64 (↑(BitVec.toNat (BitVec.ofInt (IntKind.bits IntKind.i64) (Int.fdiv (api_Stop.Fail (drive_motion.f_s v343)) ((2 : Int) ^ min (Int.toNat v347) (IntKind.bits IntKind.i64))) &&& BitVec.ofInt (IntKind.bits IntKind.i64) (1 : Int))) : Int) == (0 : Int) then
      bif decide (api_Brake.Delay (Arr.f v345 (Int.toNat v347)) ≤ drive_motion.f_time v343) then
       rc v343 (w64 (v344 + api_Brake.Force (Arr.f v345 (Int.toNat v347)))) v345 v346 (w64 (v347 + (1 : Int)))
      else
       rc v343 v344 v345 v346 (w64 (v347 + (1 : Int)))
     else
      rc v343 v344 v345 v346 (w64 (v347 + (1 : Int)))
   else
    Option.none
  else
   k0 v344
def drive_motion_grip_l2 {R : Type} (N : Nat) : Nat → drive_motion → Int → Arr api_Brake → Int → Int → (Int → Option R) → Option R
  | 0, _, _, _, _, _, _ => Option.none
  | n + 1, v343, v344, v345, v346, v347, k0 => drive_motion_grip_b2 N (fun v343 v344 v345 v346 v347 => drive_motion_grip_l2 N n v343 v344 v345 v346 v347 k0) v343 v344 v345 v346 v347 k0
def drive_motion_grip_m {R : Type} (N : Nat) (a342 : drive_motion) (k : Int → Option R) : Option R :=
  drive_motion_grip_l2 N N a342 (0 : Int) (api_Escalator.Brakes (drive_motion.f_e a342)) ((↑(Arr.n (api_Escalator.Brakes (drive_motion.f_e a342))) : Int)) (0 : Int) (fun r348 =>
   k r348)
noncomputable def drive_motion_grip {R : Type} : Nat → drive_motion → (Int → Option R) → Option R := lock (@drive_motion_grip_m R)
theorem drive_motion_grip_def {R : Type} (N : Nat) (a342 : drive_motion) (k : Int → Option R) : drive_motion_grip N a342 k = drive_motion_grip_m N a342 k := by unfold drive_motion_grip; rw [lock_eq]
def drive_motion_grip_sp : Sp := ⟨[rEptr drive_motionC], []⟩
theorem drive_motion_grip_sp_ok : drive_motion_grip_sp.Ok := ⟨(allCons (rEptr_ok drive_motionC_ok) allNil), eNil⟩
def drive_motion_grip_rs : Sp := ⟨[rInt .i64], []⟩
theorem drive_motion_grip_rs_ok : drive_motion_grip_rs.Ok := ⟨(allCons (rInt_ok .i64) allNil), eNil⟩
def drive_motion_grip_run {R : Type} (N : Nat) (args : List SV) (T : Tab) (kf : SV × Tab → Option R) : Option R :=
  drive_motion_grip_m N (Cod.dec drive_motionC (toE (lget args 0))) (fun q0 => kf (lget [.int .i64 q0] 0, []))
def drive_motion_grip_d2 {R : Type} (N : Nat) (S0 : St) (k : Exit → St → Option R) : Option R :=
  drive_motion_grip_l2 N N (Cod.dec drive_motionC (toE (lget S0.tmps 0))) (toI (lget S0.tmps 2)) (lstC api_BrakeC (lget S0.tmps 9)) (toI (lget S0.tmps 10)) (toI (lget S0.tmps 11)) (fun q0 => k (.exit 0) (drive_motion_grip_x2_0 q0))
def drive_motion_grip_lp {R : Type} (N : Nat) : Lp R := fun body S k => bif (Go.Sx.keyOf body).getD 0 == 2 then (drive_motion_grip_L2.head.raw 0 S (fun S0 => drive_motion_grip_d2 N S0 k)) else Option.none
theorem drive_motion_grip_l2_eq {R : Type} (N : Nat) (k : Exit → St → Option R) (n : Nat) : ∀ (v0 : drive_motion) (v1 : Int) (v2 : Arr api_Brake) (v3 : Int) (v4 : Int), loopM E.Θ (drive_tick_cal N) (drive_motion_grip_lp N) (noJn) 0 drive_motion_grip_L2 (bodyAt E 68 2) n (drive_motion_grip_h2 v0 v1 v2 v3 v4) k = drive_motion_grip_l2 N n v0 v1 v2 v3 v4 (fun q0 => k (.exit 0) (drive_motion_grip_x2_0 q0)) := by
  induction n with
  | zero => intro v0 v1 v2 v3 v4; rfl
  | succ n ih =>
    intro v0 v1 v2 v3 v4
    refine Eq.trans (b := drive_motion_grip_b2 N (fun v0 v1 v2 v3 v4 => loopM E.Θ (drive_tick_cal N) (drive_motion_grip_lp N) (noJn) 0 drive_motion_grip_L2 (bodyAt E 68 2) n (drive_motion_grip_h2 v0 v1 v2 v3 v4) k) v0 v1 v2 v3 v4 (fun q0 => k (.exit 0) (drive_motion_grip_x2_0 q0))) (by kernel_rfl) ?_
    have h : (fun (v0 : drive_motion) (v1 : Int) (v2 : Arr api_Brake) (v3 : Int) (v4 : Int) => loopM E.Θ (drive_tick_cal N) (drive_motion_grip_lp N) (noJn) 0 drive_motion_grip_L2 (bodyAt E 68 2) n (drive_motion_grip_h2 v0 v1 v2 v3 v4) k) = (fun (v0 : drive_motion) (v1 : Int) (v2 : Arr api_Brake) (v3 : Int) (v4 : Int) => drive_motion_grip_l2 N n v0 v1 v2 v3 v4 (fun q0 => k (.exit 0) (drive_motion_grip_x2_0 q0))) := funext fun v0 => funext fun v1 => funext fun v2 => funext fun v3 => funext fun v4 => ih v0 v1 v2 v3 v4
    rw [h]
    rfl
theorem drive_motion_grip_k2 {R : Type} (N : Nat) : LpKey (R := R) E 68 0 (drive_motion_grip_lp N) 2 :=
  lpKey_of hE (drive_tick_cal_ok N) (lp := drive_motion_grip_lp N) (jn := noJn) drive_motion_grip_L2_ok [] kNil (by kernel_rfl) [] jNil (by kernel_rfl) N fun S k =>
    Eq.trans (b := drive_motion_grip_L2.head.raw 0 S (fun S0 => drive_motion_grip_d2 N S0 k)) (by kernel_rfl) (congrArg (drive_motion_grip_L2.head.raw 0 S) (funext fun S0 => Eq.trans (drive_motion_grip_l2_eq N k N (Cod.dec drive_motionC (toE (lget S0.tmps 0))) (toI (lget S0.tmps 2)) (lstC api_BrakeC (lget S0.tmps 9)) (toI (lget S0.tmps 10)) (toI (lget S0.tmps 11))).symm (by kernel_rfl)))
noncomputable def drive_motion_grip_go {R : Type} (N : Nat) (args : List SV) (T : Tab) (kf : SV × Tab → Option R) : Option R :=
  drive_motion_grip N (Cod.dec drive_motionC (toE (lget args 0))) (fun q0 => kf (lget [.int .i64 q0] 0, []))
noncomputable def drive_motion_grip_cal {R : Type} (N : Nat) : Cal R := callM (drive_tick_cal N) 68 0 drive_motion_grip_sp (drive_motion_grip_go N)
theorem drive_motion_grip_cal_ok {R : Type} (N : Nat) : CalOk E.P (drive_motion_grip_cal (R := R) N) :=
  callM_ok hE (drive_tick_cal_ok N) (lp := drive_motion_grip_lp N) (jn := noJn) (keys := [2]) (kCons (drive_motion_grip_k2 N) kNil) (by kernel_rfl) (js := []) jNil (by kernel_rfl) drive_motion_grip_sp_ok drive_motion_grip_rs_ok (fun args T kf => Eq.trans (drive_motion_grip_def N (Cod.dec drive_motionC (toE (lget args 0))) (fun q0 => kf (lget [.int .i64 q0] 0, []))) (by kernel_rfl : drive_motion_grip_run N args T kf = fnM E (drive_tick_cal N) (drive_motion_grip_lp N) (noJn) 68 (drive_motion_grip_sp.vs args) (drive_motion_grip_sp.tab T) 0 (resK drive_motion_grip_rs kf)))
def drive_motion_with_m {R : Type} (N : Nat) (a340 : Int) (a341 : drive_motion) (k : Int → drive_motion → Option R) : Option R :=
  drive_motion_grip N a341 (fun r349 =>
  drive_tick N (drive_motion.f_e a341) (drive_motion.f_speed a341) a340 r349 (fun r350 =>
  k r350 (drive_motion.mk (drive_motion.f_e a341) (drive_motion.f_s a341) r350 (w64 (drive_motion.f_time a341 + (1 : Int))))))
noncomputable def drive_motion_with {R : Type} : Nat → Int → drive_motion → (Int → drive_motion → Option R) → Option R := lock (@drive_motion_with_m R)
theorem drive_motion_with_def {R : Type} (N : Nat) (a340 : Int) (a341 : drive_motion) (k : Int → drive_motion → Option R) : drive_motion_with N a340 a341 k = drive_motion_with_m N a340 a341 k := by unfold drive_motion_with; rw [lock_eq]
def drive_motion_with_sp : Sp := ⟨[rPtr 0 0, rInt .i64], [(0, eBlkC drive_motionC)]⟩
theorem drive_motion_with_sp_ok : drive_motion_with_sp.Ok := ⟨(allCons (rPtr_ok 0 0) (allCons (rInt_ok .i64) allNil)), (eCons (eBlkC_ok drive_motionC_ok drive_motionC_len) eNil)⟩
def drive_motion_with_rs : Sp := ⟨[rInt .i64], [(0, eBlkC drive_motionC)]⟩
theorem drive_motion_with_rs_ok : drive_motion_with_rs.Ok := ⟨(allCons (rInt_ok .i64) allNil), (eCons (eBlkC_ok drive_motionC_ok drive_motionC_len) eNil)⟩
def drive_motion_with_run {R : Type} (N : Nat) (args : List SV) (T : Tab) (kf : SV × Tab → Option R) : Option R :=
  drive_motion_with_m N (toI (lget args 1)) (Cod.dec drive_motionC (lget (entCs (entAt T 0)))) (fun q0 q1 => kf (lget [.int .i64 q0] 0, [(0, .blk (Cod.enc drive_motionC q1))]))
def drive_motion_with_lp {R : Type} (N : Nat) : Lp R := fun body S k => Option.none
noncomputable def drive_motion_with_go {R : Type} (N : Nat) (args : List SV) (T : Tab) (kf : SV × Tab → Option R) : Option R :=
  drive_motion_with N (toI (lget args 1)) (Cod.dec drive_motionC (lget (entCs (entAt T 0)))) (fun q0 q1 => kf (lget [.int .i64 q0] 0, [(0, .blk (Cod.enc drive_motionC q1))]))
noncomputable def drive_motion_with_cal {R : Type} (N : Nat) : Cal R := callM (drive_motion_grip_cal N) 41 1 drive_motion_with_sp (drive_motion_with_go N)
theorem drive_motion_with_cal_ok {R : Type} (N : Nat) : CalOk E.P (drive_motion_with_cal (R := R) N) :=
  callM_ok hE (drive_motion_grip_cal_ok N) (lp := drive_motion_with_lp N) (jn := noJn) (keys := []) kNil (by kernel_rfl) (js := []) jNil (by kernel_rfl) drive_motion_with_sp_ok drive_motion_with_rs_ok (fun args T kf => Eq.trans (drive_motion_with_def N (toI (lget args 1)) (Cod.dec drive_motionC (lget (entCs (entAt T 0)))) (fun q0 q1 => kf (lget [.int .i64 q0] 0, [(0, .blk (Cod.enc drive_motionC q1))]))) (by kernel_rfl : drive_motion_with_run N args T kf = fnM E (drive_motion_grip_cal N) (drive_motion_with_lp N) (noJn) 41 (drive_motion_with_sp.vs args) (drive_motion_with_sp.tab T) 1 (resK drive_motion_with_rs kf)))
def drive_motion_extreme_m {R : Type} (N : Nat) (a338 : Bool) (a339 : drive_motion) (k : Int → drive_motion → Option R) : Option R :=
  drive_motion_with N (api_Span.Low (api_Stop.Loads (drive_motion.f_s a339))) a339 (fun r351 r352 =>
  drive_motion_with N (api_Span.High (api_Stop.Loads (drive_motion.f_s a339))) a339 (fun r353 r354 =>
  bif a338 then
   bif decide (r353 > r351) then
    k (api_Span.High (api_Stop.Loads (drive_motion.f_s r354))) r354
   else
    bif !a338 then
     bif decide (r353 < r351) then
      k (api_Span.High (api_Stop.Loads (drive_motion.f_s r354))) r354
     else
      k (api_Span.Low (api_Stop.Loads (drive_motion.f_s r352))) r352
    else
     k (api_Span.Low (api_Stop.Loads (drive_motion.f_s r352))) r352
  else
   bif !a338 then
    bif decide (r353 < r351) then
     k (api_Span.High (api_Stop.Loads (drive_motion.f_s r354))) r354
    else
     k (api_Span.Low (api_Stop.Loads (drive_motion.f_s r352))) r352
   else
    k (api_Span.Low (api_Stop.Loads (drive_motion.f_s r352))) r352))
noncomputable def drive_motion_extreme {R : Type} : Nat → Bool → drive_motion → (Int → drive_motion → Option R) → Option R := lock (@drive_motion_extreme_m R)
theorem drive_motion_extreme_def {R : Type} (N : Nat) (a338 : Bool) (a339 : drive_motion) (k : Int → drive_motion → Option R) : drive_motion_extreme N a338 a339 k = drive_motion_extreme_m N a338 a339 k := by unfold drive_motion_extreme; rw [lock_eq]
def drive_motion_extreme_sp : Sp := ⟨[rPtr 0 0, rBool], [(0, eBlkC drive_motionC)]⟩
theorem drive_motion_extreme_sp_ok : drive_motion_extreme_sp.Ok := ⟨(allCons (rPtr_ok 0 0) (allCons rBool_ok allNil)), (eCons (eBlkC_ok drive_motionC_ok drive_motionC_len) eNil)⟩
def drive_motion_extreme_rs : Sp := ⟨[rInt .i64], [(0, eBlkC drive_motionC)]⟩
theorem drive_motion_extreme_rs_ok : drive_motion_extreme_rs.Ok := ⟨(allCons (rInt_ok .i64) allNil), (eCons (eBlkC_ok drive_motionC_ok drive_motionC_len) eNil)⟩
def drive_motion_extreme_run {R : Type} (N : Nat) (args : List SV) (T : Tab) (kf : SV × Tab → Option R) : Option R :=
  drive_motion_extreme_m N (toB (lget args 1)) (Cod.dec drive_motionC (lget (entCs (entAt T 0)))) (fun q0 q1 => kf (lget [.int .i64 q0] 0, [(0, .blk (Cod.enc drive_motionC q1))]))
def drive_motion_extreme_lp {R : Type} (N : Nat) : Lp R := fun body S k => Option.none
noncomputable def drive_motion_extreme_go {R : Type} (N : Nat) (args : List SV) (T : Tab) (kf : SV × Tab → Option R) : Option R :=
  drive_motion_extreme N (toB (lget args 1)) (Cod.dec drive_motionC (lget (entCs (entAt T 0)))) (fun q0 q1 => kf (lget [.int .i64 q0] 0, [(0, .blk (Cod.enc drive_motionC q1))]))
noncomputable def drive_motion_extreme_cal {R : Type} (N : Nat) : Cal R := callM (drive_motion_with_cal N) 65 1 drive_motion_extreme_sp (drive_motion_extreme_go N)
theorem drive_motion_extreme_cal_ok {R : Type} (N : Nat) : CalOk E.P (drive_motion_extreme_cal (R := R) N) :=
  callM_ok hE (drive_motion_with_cal_ok N) (lp := drive_motion_extreme_lp N) (jn := noJn) (keys := []) kNil (by kernel_rfl) (js := []) jNil (by kernel_rfl) drive_motion_extreme_sp_ok drive_motion_extreme_rs_ok (fun args T kf => Eq.trans (drive_motion_extreme_def N (toB (lget args 1)) (Cod.dec drive_motionC (lget (entCs (entAt T 0)))) (fun q0 q1 => kf (lget [.int .i64 q0] 0, [(0, .blk (Cod.enc drive_motionC q1))]))) (by kernel_rfl : drive_motion_extreme_run N args T kf = fnM E (drive_motion_with_cal N) (drive_motion_extreme_lp N) (noJn) 65 (drive_motion_extreme_sp.vs args) (drive_motion_extreme_sp.tab T) 1 (resK drive_motion_extreme_rs kf)))
def drive_run_L3 : LoopSp := ⟨⟨[2, 6, 7, 8], ⟨(dr 2 ((rBool) :: (dr 3 ((rPtr 0 0) :: (rPtr 1 0) :: (rPtr 2 0) :: (dr 35 []))))), [(0, eBlk [rInt .i64, rRow 3, rBool]), (1, eBlkC drive_motionC), (2, eBlk [rInt .i64, rRow 4, rBool]), (3, eRow intC), (4, eRow intC)]⟩, 5⟩, [(some 0, ⟨[6, 8], ⟨(dr 6 ((rPtr 0 0) :: (dr 1 ((rPtr 1 0) :: (dr 35 []))))), [(0, eBlk [rInt .i64, rRow 2, rBool]), (1, eBlk [rInt .i64, rRow 3, rBool]), (2, eRow intC), (3, eRow intC)]⟩, 4⟩)]⟩
theorem drive_run_L3_ok : drive_run_L3.Ok := ⟨⟨(drCons 2 (allCons rBool_ok (drCons 3 (allCons (rPtr_ok 0 0) (allCons (rPtr_ok 1 0) (allCons (rPtr_ok 2 0) (drCons 35 allNil))))))), (eCons (eBlk_ok (allCons (rInt_ok .i64) (allCons (rRow_ok 3) (allCons rBool_ok allNil)))) (eCons (eBlkC_ok drive_motionC_ok drive_motionC_len) (eCons (eBlk_ok (allCons (rInt_ok .i64) (allCons (rRow_ok 4) (allCons rBool_ok allNil)))) (eCons (eRow_ok intC_ok) (eCons (eRow_ok intC_ok) eNil)))))⟩, (xCons ⟨(drCons 6 (allCons (rPtr_ok 0 0) (drCons 1 (allCons (rPtr_ok 1 0) (drCons 35 allNil))))), (eCons (eBlk_ok (allCons (rInt_ok .i64) (allCons (rRow_ok 2) (allCons rBool_ok allNil)))) (eCons (eBlk_ok (allCons (rInt_ok .i64) (allCons (rRow_ok 3) (allCons rBool_ok allNil)))) (eCons (eRow_ok intC_ok) (eCons (eRow_ok intC_ok) eNil))))⟩ xNil)⟩
def drive_run_h3 (v328 : Bool) (v329 : Int) (v330 : Bool) (v331 : drive_motion) (v332 : Int) (v333 : Bool) (v334 : Bool) (v335 : Arr Int) (v336 : Bool) (v337 : Arr Int) : St := ⟨(un 2 ((.bool v328) :: (un 3 ((.ptr 0 0) :: (.ptr 1 0) :: (.ptr 2 0) :: (un 35 []))))), [(0, .blk [.int .i64 v329, .row 3, .bool v330]), (1, .blk (Cod.enc drive_motionC v331)), (2, .blk [.int .i64 v332, .row 4, .bool v333]), (3, rowE intC v334 v335), (4, rowE intC v336 v337)], 5⟩
def drive_run_x3_0 (v329 : Int) (v330 : Bool) (v334 : Bool) (v335 : Arr Int) (q2 : Int) (q3 : Bool) (q6 : Bool) (q7 : Arr Int) : St := ⟨(un 6 ((.ptr 0 0) :: (un 1 ((.ptr 1 0) :: (un 35 []))))), [(0, .blk [.int .i64 v329, .row 2, .bool v330]), (1, .blk [.int .i64 q2, .row 3, .bool q3]), (2, rowE intC v334 v335), (3, rowE intC q6 q7)], 4⟩
def drive_run_b3 {R : Type} (N : Nat) (rc : Bool → Int → Bool → drive_motion → Int → Bool → Bool → Arr Int → Bool → Arr Int → Option R) (v328 : Bool) (v329 : Int) (v330 : Bool) (v331 : drive_motion) (v332 : Int) (v333 : Bool) (v334 : Bool) (v335 : Arr Int) (v336 : Bool) (v337 : Arr Int) (k0 : Int → Bool → Bool → Arr Int → Option R) : Option R :=
  bif !v333 then
   bif decide (drive_motion.f_time v331 < (100 : Int)) then
    drive_motion_extreme N v328 v331 (fun r355 r356 =>
    bif room (Arr.n v337 + (1 : Nat)) then
     rc v328 v329 v330 r356 (w64 (v332 + drive_motion.f_speed r356)) (drive_motion.f_speed r356 == (0 : Int)) v334 v335 false (lst intC (Arr.n v337 + (1 : Nat)) (catC (Arr.n v337) (Cod.cell intC (Arr.f v337)) (litC [SV.int IntKind.i64 (0 : Int)] [[SV.int IntKind.i64 r355]])))
    else
     Option.none)
   else
    k0 v332 v333 v336 v337
  else
   k0 v332 v333 v336 v337
def drive_run_l3 {R : Type} (N : Nat) : Nat → Bool → Int → Bool → drive_motion → Int → Bool → Bool → Arr Int → Bool → Arr Int → (Int → Bool → Bool → Arr Int → Option R) → Option R
  | 0, _, _, _, _, _, _, _, _, _, _, _ => Option.none
  | n + 1, v328, v329, v330, v331, v332, v333, v334, v335, v336, v337, k0 => drive_run_b3 N (fun v328 v329 v330 v331 v332 v333 v334 v335 v336 v337 => drive_run_l3 N n v328 v329 v330 v331 v332 v333 v334 v335 v336 v337 k0) v328 v329 v330 v331 v332 v333 v334 v335 v336 v337 k0
def drive_run_m {R : Type} (N : Nat) (a325 : api_Escalator) (a326 : api_Stop) (a327 : Bool) (k : Int → Bool → Bool → Arr Int → Option R) : Option R :=
  drive_run_l3 N N a327 (0 : Int) false (drive_motion.mk a325 a326 (api_Stop.Speed a326) (0 : Int)) (0 : Int) (api_Stop.Speed a326 == (0 : Int)) true (lst intC (0 : Nat) (zeroC [SV.int IntKind.i64 (0 : Int)])) true (lst intC (0 : Nat) (zeroC [SV.int IntKind.i64 (0 : Int)])) (fun r357 r358 r359 r360 =>
   k r357 r358 r359 r360)
noncomputable def drive_run {R : Type} : Nat → api_Escalator → api_Stop → Bool → (Int → Bool → Bool → Arr Int → Option R) → Option R := lock (@drive_run_m R)
theorem drive_run_def {R : Type} (N : Nat) (a325 : api_Escalator) (a326 : api_Stop) (a327 : Bool) (k : Int → Bool → Bool → Arr Int → Option R) : drive_run N a325 a326 a327 k = drive_run_m N a325 a326 a327 k := by unfold drive_run; rw [lock_eq]
def drive_run_sp : Sp := ⟨[rAgg api_EscalatorC, rAgg api_StopC, rBool], []⟩
theorem drive_run_sp_ok : drive_run_sp.Ok := ⟨(allCons (rAgg_ok api_EscalatorC_ok api_EscalatorC_len) (allCons (rAgg_ok api_StopC_ok api_StopC_len) (allCons rBool_ok allNil))), eNil⟩
def drive_run_rs : Sp := ⟨[rAggs [rInt .i64, rRow 0, rBool]], [(0, eRow intC)]⟩
theorem drive_run_rs_ok : drive_run_rs.Ok := ⟨(allCons (rAggs_ok (allCons (rInt_ok .i64) (allCons (rRow_ok 0) (allCons rBool_ok allNil)))) allNil), (eCons (eRow_ok intC_ok) eNil)⟩
def drive_run_run {R : Type} (N : Nat) (args : List SV) (T : Tab) (kf : SV × Tab → Option R) : Option R :=
  drive_run_m N (Cod.dec api_EscalatorC (lget (toCs (lget args 0)))) (Cod.dec api_StopC (lget (toCs (lget args 1)))) (toB (lget args 2)) (fun q0 q1 q2 q3 => kf (lget [.agg [.int .i64 q0, .row 0, .bool q1]] 0, [(0, rowE intC q2 q3)]))
def drive_run_d3 {R : Type} (N : Nat) (S0 : St) (k : Exit → St → Option R) : Option R :=
  drive_run_l3 N N (toB (lget S0.tmps 2)) (toI (lget (entCs (entAt S0.tab 0)) 0)) (toB (lget (entCs (entAt S0.tab 0)) 2)) (Cod.dec drive_motionC (lget (entCs (entAt S0.tab 1)))) (toI (lget (entCs (entAt S0.tab 2)) 0)) (toB (lget (entCs (entAt S0.tab 2)) 2)) (entNl (entAt S0.tab 3)) (lst intC (entN (entAt S0.tab 3)) (entC (entAt S0.tab 3))) (entNl (entAt S0.tab 4)) (lst intC (entN (entAt S0.tab 4)) (entC (entAt S0.tab 4))) (fun q2 q3 q6 q7 => k (.exit 0) (drive_run_x3_0 (toI (lget (entCs (entAt S0.tab 0)) 0)) (toB (lget (entCs (entAt S0.tab 0)) 2)) (entNl (entAt S0.tab 3)) (lst intC (entN (entAt S0.tab 3)) (entC (entAt S0.tab 3))) q2 q3 q6 q7))
def drive_run_lp {R : Type} (N : Nat) : Lp R := fun body S k => bif (Go.Sx.keyOf body).getD 0 == 3 then (drive_run_L3.head.raw 0 S (fun S0 => drive_run_d3 N S0 k)) else Option.none
theorem drive_run_l3_eq {R : Type} (N : Nat) (k : Exit → St → Option R) (n : Nat) : ∀ (v0 : Bool) (v1 : Int) (v2 : Bool) (v3 : drive_motion) (v4 : Int) (v5 : Bool) (v6 : Bool) (v7 : Arr Int) (v8 : Bool) (v9 : Arr Int), loopM E.Θ (drive_motion_extreme_cal N) (drive_run_lp N) (noJn) 0 drive_run_L3 (bodyAt E 37 3) n (drive_run_h3 v0 v1 v2 v3 v4 v5 v6 v7 v8 v9) k = drive_run_l3 N n v0 v1 v2 v3 v4 v5 v6 v7 v8 v9 (fun q2 q3 q6 q7 => k (.exit 0) (drive_run_x3_0 v1 v2 v6 v7 q2 q3 q6 q7)) := by
  induction n with
  | zero => intro v0 v1 v2 v3 v4 v5 v6 v7 v8 v9; rfl
  | succ n ih =>
    intro v0 v1 v2 v3 v4 v5 v6 v7 v8 v9
    refine Eq.trans (b := drive_run_b3 N (fun v0 v1 v2 v3 v4 v5 v6 v7 v8 v9 => loopM E.Θ (drive_motion_extreme_cal N) (drive_run_lp N) (noJn) 0 drive_run_L3 (bodyAt E 37 3) n (drive_run_h3 v0 v1 v2 v3 v4 v5 v6 v7 v8 v9) k) v0 v1 v2 v3 v4 v5 v6 v7 v8 v9 (fun q2 q3 q6 q7 => k (.exit 0) (drive_run_x3_0 v1 v2 v6 v7 q2 q3 q6 q7))) (by kernel_rfl) ?_
    have h : (fun (v0 : Bool) (v1 : Int) (v2 : Bool) (v3 : drive_motion) (v4 : Int) (v5 : Bool) (v6 : Bool) (v7 : Arr Int) (v8 : Bool) (v9 : Arr Int) => loopM E.Θ (drive_motion_extreme_cal N) (drive_run_lp N) (noJn) 0 drive_run_L3 (bodyAt E 37 3) n (drive_run_h3 v0 v1 v2 v3 v4 v5 v6 v7 v8 v9) k) = (fun (v0 : Bool) (v1 : Int) (v2 : Bool) (v3 : drive_motion) (v4 : Int) (v5 : Bool) (v6 : Bool) (v7 : Arr Int) (v8 : Bool) (v9 : Arr Int) => drive_run_l3 N n v0 v1 v2 v3 v4 v5 v6 v7 v8 v9 (fun q2 q3 q6 q7 => k (.exit 0) (drive_run_x3_0 v1 v2 v6 v7 q2 q3 q6 q7))) := funext fun v0 => funext fun v1 => funext fun v2 => funext fun v3 => funext fun v4 => funext fun v5 => funext fun v6 => funext fun v7 => funext fun v8 => funext fun v9 => ih v0 v1 v2 v3 v4 v5 v6 v7 v8 v9
    rw [h]
    rfl
theorem drive_run_k3 {R : Type} (N : Nat) : LpKey (R := R) E 37 0 (drive_run_lp N) 3 :=
  lpKey_of hE (drive_motion_extreme_cal_ok N) (lp := drive_run_lp N) (jn := noJn) drive_run_L3_ok [] kNil (by kernel_rfl) [] jNil (by kernel_rfl) N fun S k =>
    Eq.trans (b := drive_run_L3.head.raw 0 S (fun S0 => drive_run_d3 N S0 k)) (by kernel_rfl) (congrArg (drive_run_L3.head.raw 0 S) (funext fun S0 => Eq.trans (drive_run_l3_eq N k N (toB (lget S0.tmps 2)) (toI (lget (entCs (entAt S0.tab 0)) 0)) (toB (lget (entCs (entAt S0.tab 0)) 2)) (Cod.dec drive_motionC (lget (entCs (entAt S0.tab 1)))) (toI (lget (entCs (entAt S0.tab 2)) 0)) (toB (lget (entCs (entAt S0.tab 2)) 2)) (entNl (entAt S0.tab 3)) (lst intC (entN (entAt S0.tab 3)) (entC (entAt S0.tab 3))) (entNl (entAt S0.tab 4)) (lst intC (entN (entAt S0.tab 4)) (entC (entAt S0.tab 4)))).symm (by kernel_rfl)))
noncomputable def drive_run_go {R : Type} (N : Nat) (args : List SV) (T : Tab) (kf : SV × Tab → Option R) : Option R :=
  drive_run N (Cod.dec api_EscalatorC (lget (toCs (lget args 0)))) (Cod.dec api_StopC (lget (toCs (lget args 1)))) (toB (lget args 2)) (fun q0 q1 q2 q3 => kf (lget [.agg [.int .i64 q0, .row 0, .bool q1]] 0, [(0, rowE intC q2 q3)]))
noncomputable def drive_run_cal {R : Type} (N : Nat) : Cal R := callM (drive_motion_extreme_cal N) 37 0 drive_run_sp (drive_run_go N)
theorem drive_run_cal_ok {R : Type} (N : Nat) : CalOk E.P (drive_run_cal (R := R) N) :=
  callM_ok hE (drive_motion_extreme_cal_ok N) (lp := drive_run_lp N) (jn := noJn) (keys := [3]) (kCons (drive_run_k3 N) kNil) (by kernel_rfl) (js := []) jNil (by kernel_rfl) drive_run_sp_ok drive_run_rs_ok (fun args T kf => Eq.trans (drive_run_def N (Cod.dec api_EscalatorC (lget (toCs (lget args 0)))) (Cod.dec api_StopC (lget (toCs (lget args 1)))) (toB (lget args 2)) (fun q0 q1 q2 q3 => kf (lget [.agg [.int .i64 q0, .row 0, .bool q1]] 0, [(0, rowE intC q2 q3)]))) (by kernel_rfl : drive_run_run N args T kf = fnM E (drive_motion_extreme_cal N) (drive_run_lp N) (noJn) 37 (drive_run_sp.vs args) (drive_run_sp.tab T) 0 (resK drive_run_rs kf)))
def drive_Distance_m {R : Type} (N : Nat) (a361 : api_Escalator) (a362 : api_Stop) (k : api_Span → api_Span → Int → Option R) : Option R :=
  drive_checkStop N a361 a362 (fun r363 =>
  bif r363 != (0 : Int) then
   k (api_Span.mk (0 : Int) (0 : Int)) (api_Span.mk (0 : Int) (0 : Int)) r363
  else
   drive_run N a361 a362 true (fun r364 r365 r366 r367 =>
   drive_run N a361 a362 false (fun r368 r369 r370 r371 =>
   bif !r365 then
    k (api_Span.mk (0 : Int) (0 : Int)) (api_Span.mk (0 : Int) (0 : Int)) (12 : Int)
   else
    k (api_Span.mk r368 r364) (api_Span.mk (↑(Arr.n r371) : Int) (↑(Arr.n r367) : Int)) (0 : Int))))
noncomputable def drive_Distance {R : Type} : Nat → api_Escalator → api_Stop → (api_Span → api_Span → Int → Option R) → Option R := lock (@drive_Distance_m R)
theorem drive_Distance_def {R : Type} (N : Nat) (a361 : api_Escalator) (a362 : api_Stop) (k : api_Span → api_Span → Int → Option R) : drive_Distance N a361 a362 k = drive_Distance_m N a361 a362 k := by unfold drive_Distance; rw [lock_eq]
def drive_Distance_sp : Sp := ⟨[rAgg api_EscalatorC, rAgg api_StopC], []⟩
theorem drive_Distance_sp_ok : drive_Distance_sp.Ok := ⟨(allCons (rAgg_ok api_EscalatorC_ok api_EscalatorC_len) (allCons (rAgg_ok api_StopC_ok api_StopC_len) allNil)), eNil⟩
def drive_Distance_rs : Sp := ⟨[rTup [rAgg api_SpanC, rAgg api_SpanC, rInt .i64]], []⟩
theorem drive_Distance_rs_ok : drive_Distance_rs.Ok := ⟨(allCons (rTup_ok (allCons (rAgg_ok api_SpanC_ok api_SpanC_len) (allCons (rAgg_ok api_SpanC_ok api_SpanC_len) (allCons (rInt_ok .i64) allNil)))) allNil), eNil⟩
def drive_Distance_run {R : Type} (N : Nat) (args : List SV) (T : Tab) (kf : SV × Tab → Option R) : Option R :=
  drive_Distance_m N (Cod.dec api_EscalatorC (lget (toCs (lget args 0)))) (Cod.dec api_StopC (lget (toCs (lget args 1)))) (fun q0 q1 q2 => kf (lget [.tup [.agg (Cod.enc api_SpanC q0), .agg (Cod.enc api_SpanC q1), .int .i64 q2]] 0, []))
def drive_Distance_lp {R : Type} (N : Nat) : Lp R := fun body S k => Option.none
noncomputable def drive_Distance_go {R : Type} (N : Nat) (args : List SV) (T : Tab) (kf : SV × Tab → Option R) : Option R :=
  drive_Distance N (Cod.dec api_EscalatorC (lget (toCs (lget args 0)))) (Cod.dec api_StopC (lget (toCs (lget args 1)))) (fun q0 q1 q2 => kf (lget [.tup [.agg (Cod.enc api_SpanC q0), .agg (Cod.enc api_SpanC q1), .int .i64 q2]] 0, []))
noncomputable def drive_Distance_cal {R : Type} (N : Nat) : Cal R := callM (drive_run_cal N) 14 0 drive_Distance_sp (drive_Distance_go N)
theorem drive_Distance_cal_ok {R : Type} (N : Nat) : CalOk E.P (drive_Distance_cal (R := R) N) :=
  callM_ok hE (drive_run_cal_ok N) (lp := drive_Distance_lp N) (jn := noJn) (keys := []) kNil (by kernel_rfl) (js := []) jNil (by kernel_rfl) drive_Distance_sp_ok drive_Distance_rs_ok (fun args T kf => Eq.trans (drive_Distance_def N (Cod.dec api_EscalatorC (lget (toCs (lget args 0)))) (Cod.dec api_StopC (lget (toCs (lget args 1)))) (fun q0 q1 q2 => kf (lget [.tup [.agg (Cod.enc api_SpanC q0), .agg (Cod.enc api_SpanC q1), .int .i64 q2]] 0, []))) (by kernel_rfl : drive_Distance_run N args T kf = fnM E (drive_run_cal N) (drive_Distance_lp N) (noJn) 14 (drive_Distance_sp.vs args) (drive_Distance_sp.tab T) 0 (resK drive_Distance_rs kf)))
def drive_Play_1_m {R : Type} (N : Nat) (a384 : Int) (a385 : api_Stop) (k : Bool → Option R) : Option R :=
  drive_in N a384 (api_Stop.Loads a385) (fun r386 =>
  k (!r386))
noncomputable def drive_Play_1 {R : Type} : Nat → Int → api_Stop → (Bool → Option R) → Option R := lock (@drive_Play_1_m R)
theorem drive_Play_1_def {R : Type} (N : Nat) (a384 : Int) (a385 : api_Stop) (k : Bool → Option R) : drive_Play_1 N a384 a385 k = drive_Play_1_m N a384 a385 k := by unfold drive_Play_1; rw [lock_eq]
def drive_Play_1_sp : Sp := ⟨[rInt .i64, rPtr 0 0], [(0, eBlkC api_StopC)]⟩
theorem drive_Play_1_sp_ok : drive_Play_1_sp.Ok := ⟨(allCons (rInt_ok .i64) (allCons (rPtr_ok 0 0) allNil)), (eCons (eBlkC_ok api_StopC_ok api_StopC_len) eNil)⟩
def drive_Play_1_rs : Sp := ⟨[rBool], [(0, eBlkC api_StopC)]⟩
theorem drive_Play_1_rs_ok : drive_Play_1_rs.Ok := ⟨(allCons rBool_ok allNil), (eCons (eBlkC_ok api_StopC_ok api_StopC_len) eNil)⟩
def drive_Play_1_run {R : Type} (N : Nat) (args : List SV) (T : Tab) (kf : SV × Tab → Option R) : Option R :=
  drive_Play_1_m N (toI (lget args 0)) (Cod.dec api_StopC (lget (entCs (entAt T 0)))) (fun q0 => kf (lget [.bool q0] 0, [(0, .blk (Cod.enc api_StopC (Cod.dec api_StopC (lget (entCs (entAt T 0))))))]))
def drive_Play_1_lp {R : Type} (N : Nat) : Lp R := fun body S k => Option.none
noncomputable def drive_Play_1_go {R : Type} (N : Nat) (args : List SV) (T : Tab) (kf : SV × Tab → Option R) : Option R :=
  drive_Play_1 N (toI (lget args 0)) (Cod.dec api_StopC (lget (entCs (entAt T 0)))) (fun q0 => kf (lget [.bool q0] 0, [(0, .blk (Cod.enc api_StopC (Cod.dec api_StopC (lget (entCs (entAt T 0))))))]))
noncomputable def drive_Play_1_cal {R : Type} (N : Nat) : Cal R := callM (drive_Distance_cal N) 39 1 drive_Play_1_sp (drive_Play_1_go N)
theorem drive_Play_1_cal_ok {R : Type} (N : Nat) : CalOk E.P (drive_Play_1_cal (R := R) N) :=
  callM_ok hE (drive_Distance_cal_ok N) (lp := drive_Play_1_lp N) (jn := noJn) (keys := []) kNil (by kernel_rfl) (js := []) jNil (by kernel_rfl) drive_Play_1_sp_ok drive_Play_1_rs_ok (fun args T kf => Eq.trans (drive_Play_1_def N (toI (lget args 0)) (Cod.dec api_StopC (lget (entCs (entAt T 0)))) (fun q0 => kf (lget [.bool q0] 0, [(0, .blk (Cod.enc api_StopC (Cod.dec api_StopC (lget (entCs (entAt T 0))))))]))) (by kernel_rfl : drive_Play_1_run N args T kf = fnM E (drive_Distance_cal N) (drive_Play_1_lp N) (noJn) 39 (drive_Play_1_sp.vs args) (drive_Play_1_sp.tab T) 1 (resK drive_Play_1_rs kf)))
def slices_IndexFunc___int_int__v3_L2 : LoopSp := ⟨⟨[0, 1, 7, 8], ⟨((rSl intC) :: (rFunc 39 0 [rPtr 0 0]) :: (dr 5 ((rInt .i64) :: (rInt .i64) :: (dr 10 [])))), [(0, eBlkC api_StopC)]⟩, 1⟩, [(Option.none, ⟨[4], ⟨(dr 4 ((rInt .i64) :: (dr 14 []))), [(0, eBlkC api_StopC)]⟩, 1⟩), (some 0, ⟨[], ⟨(dr 19 []), [(0, eBlkC api_StopC)]⟩, 1⟩)]⟩
theorem slices_IndexFunc___int_int__v3_L2_ok : slices_IndexFunc___int_int__v3_L2.Ok := ⟨⟨(allCons (rSl_ok intC_ok) (allCons (rFunc_ok 39 0 (allCons (rPtr_ok 0 0) allNil)) (drCons 5 (allCons (rInt_ok .i64) (allCons (rInt_ok .i64) (drCons 10 allNil)))))), (eCons (eBlkC_ok api_StopC_ok api_StopC_len) eNil)⟩, (xCons ⟨(drCons 4 (allCons (rInt_ok .i64) (drCons 14 allNil))), (eCons (eBlkC_ok api_StopC_ok api_StopC_len) eNil)⟩ (xCons ⟨(drCons 19 allNil), (eCons (eBlkC_ok api_StopC_ok api_StopC_len) eNil)⟩ xNil))⟩
def slices_IndexFunc___int_int__v3_h2 (v380 : Arr Int) (v381 : Int) (v382 : Int) (v383 : api_Stop) : St := ⟨((slC intC v380) :: (.func 39 0 [.ptr 0 0]) :: (un 5 ((.int .i64 v381) :: (.int .i64 v382) :: (un 10 [])))), [(0, .blk (Cod.enc api_StopC v383))], 1⟩
def slices_IndexFunc___int_int__v3_x2_r (v383 : api_Stop) (q0 : Int) : St := ⟨(un 4 ((.int .i64 q0) :: (un 14 []))), [(0, .blk (Cod.enc api_StopC v383))], 1⟩
def slices_IndexFunc___int_int__v3_x2_0 (v383 : api_Stop) : St := ⟨(un 19 []), [(0, .blk (Cod.enc api_StopC v383))], 1⟩
def slices_IndexFunc___int_int__v3_b2 {R : Type} (N : Nat) (rc : Arr Int → Int → Int → api_Stop → Option R) (v380 : Arr Int) (v381 : Int) (v382 : Int) (v383 : api_Stop) (kr : Int → Option R) (k0 : Unit → Option R) : Option R :=
  bif decide (v382 < v381) then
   bif decide ((0 : Int) ≤ v382) && decide (v382 < (↑(Arr.n v380) : Int)) then
    drive_Play_1 N (Arr.f v380 (Int.toNat v382)) v383 (fun r387 =>
    bif r387 then
     kr v382
    else
     rc v380 v381 (w64 (v382 + (1 : Int))) v383)
   else
    Option.none
  else
   k0 ()
def slices_IndexFunc___int_int__v3_l2 {R : Type} (N : Nat) : Nat → Arr Int → Int → Int → api_Stop → (Int → Option R) → (Unit → Option R) → Option R
  | 0, _, _, _, _, _, _ => Option.none
  | n + 1, v380, v381, v382, v383, kr, k0 => slices_IndexFunc___int_int__v3_b2 N (fun v380 v381 v382 v383 => slices_IndexFunc___int_int__v3_l2 N n v380 v381 v382 v383 kr k0) v380 v381 v382 v383 kr k0
def slices_IndexFunc___int_int__v3_m {R : Type} (N : Nat) (a378 : Arr Int) (a379 : api_Stop) (k : Int → Option R) : Option R :=
  slices_IndexFunc___int_int__v3_l2 N N a378 ((↑(Arr.n a378) : Int)) (0 : Int) a379 (fun r388 =>
   k r388) (fun (_ : Unit) =>
   k (-1 : Int))
noncomputable def slices_IndexFunc___int_int__v3 {R : Type} : Nat → Arr Int → api_Stop → (Int → Option R) → Option R := lock (@slices_IndexFunc___int_int__v3_m R)
theorem slices_IndexFunc___int_int__v3_def {R : Type} (N : Nat) (a378 : Arr Int) (a379 : api_Stop) (k : Int → Option R) : slices_IndexFunc___int_int__v3 N a378 a379 k = slices_IndexFunc___int_int__v3_m N a378 a379 k := by unfold slices_IndexFunc___int_int__v3; rw [lock_eq]
def slices_IndexFunc___int_int__v3_sp : Sp := ⟨[rSl intC, rFunc 39 0 [rPtr 0 0]], [(0, eBlkC api_StopC)]⟩
theorem slices_IndexFunc___int_int__v3_sp_ok : slices_IndexFunc___int_int__v3_sp.Ok := ⟨(allCons (rSl_ok intC_ok) (allCons (rFunc_ok 39 0 (allCons (rPtr_ok 0 0) allNil)) allNil)), (eCons (eBlkC_ok api_StopC_ok api_StopC_len) eNil)⟩
def slices_IndexFunc___int_int__v3_rs : Sp := ⟨[rInt .i64], [(0, eBlkC api_StopC)]⟩
theorem slices_IndexFunc___int_int__v3_rs_ok : slices_IndexFunc___int_int__v3_rs.Ok := ⟨(allCons (rInt_ok .i64) allNil), (eCons (eBlkC_ok api_StopC_ok api_StopC_len) eNil)⟩
def slices_IndexFunc___int_int__v3_run {R : Type} (N : Nat) (args : List SV) (T : Tab) (kf : SV × Tab → Option R) : Option R :=
  slices_IndexFunc___int_int__v3_m N (lstC intC (lget args 0)) (Cod.dec api_StopC (lget (entCs (entAt T 0)))) (fun q0 => kf (lget [.int .i64 q0] 0, [(0, .blk (Cod.enc api_StopC (Cod.dec api_StopC (lget (entCs (entAt T 0))))))]))
def slices_IndexFunc___int_int__v3_d2 {R : Type} (N : Nat) (S0 : St) (k : Exit → St → Option R) : Option R :=
  slices_IndexFunc___int_int__v3_l2 N N (lstC intC (lget S0.tmps 0)) (toI (lget S0.tmps 7)) (toI (lget S0.tmps 8)) (Cod.dec api_StopC (lget (entCs (entAt S0.tab 0)))) (fun q0 => k .ret (slices_IndexFunc___int_int__v3_x2_r (Cod.dec api_StopC (lget (entCs (entAt S0.tab 0)))) q0)) (fun (_ : Unit) => k (.exit 0) (slices_IndexFunc___int_int__v3_x2_0 (Cod.dec api_StopC (lget (entCs (entAt S0.tab 0))))))
def slices_IndexFunc___int_int__v3_lp {R : Type} (N : Nat) : Lp R := fun body S k => bif (Go.Sx.keyOf body).getD 0 == 2 then (slices_IndexFunc___int_int__v3_L2.head.raw 1 S (fun S0 => slices_IndexFunc___int_int__v3_d2 N S0 k)) else Option.none
theorem slices_IndexFunc___int_int__v3_l2_eq {R : Type} (N : Nat) (k : Exit → St → Option R) (n : Nat) : ∀ (v0 : Arr Int) (v1 : Int) (v2 : Int) (v3 : api_Stop), loopM E.Θ (drive_Play_1_cal N) (slices_IndexFunc___int_int__v3_lp N) (noJn) 1 slices_IndexFunc___int_int__v3_L2 (bodyAt E 66 2) n (slices_IndexFunc___int_int__v3_h2 v0 v1 v2 v3) k = slices_IndexFunc___int_int__v3_l2 N n v0 v1 v2 v3 (fun q0 => k .ret (slices_IndexFunc___int_int__v3_x2_r v3 q0)) (fun (_ : Unit) => k (.exit 0) (slices_IndexFunc___int_int__v3_x2_0 v3)) := by
  induction n with
  | zero => intro v0 v1 v2 v3; rfl
  | succ n ih =>
    intro v0 v1 v2 v3
    refine Eq.trans (b := slices_IndexFunc___int_int__v3_b2 N (fun v0 v1 v2 v3 => loopM E.Θ (drive_Play_1_cal N) (slices_IndexFunc___int_int__v3_lp N) (noJn) 1 slices_IndexFunc___int_int__v3_L2 (bodyAt E 66 2) n (slices_IndexFunc___int_int__v3_h2 v0 v1 v2 v3) k) v0 v1 v2 v3 (fun q0 => k .ret (slices_IndexFunc___int_int__v3_x2_r v3 q0)) (fun (_ : Unit) => k (.exit 0) (slices_IndexFunc___int_int__v3_x2_0 v3))) (by kernel_rfl) ?_
    have h : (fun (v0 : Arr Int) (v1 : Int) (v2 : Int) (v3 : api_Stop) => loopM E.Θ (drive_Play_1_cal N) (slices_IndexFunc___int_int__v3_lp N) (noJn) 1 slices_IndexFunc___int_int__v3_L2 (bodyAt E 66 2) n (slices_IndexFunc___int_int__v3_h2 v0 v1 v2 v3) k) = (fun (v0 : Arr Int) (v1 : Int) (v2 : Int) (v3 : api_Stop) => slices_IndexFunc___int_int__v3_l2 N n v0 v1 v2 v3 (fun q0 => k .ret (slices_IndexFunc___int_int__v3_x2_r v3 q0)) (fun (_ : Unit) => k (.exit 0) (slices_IndexFunc___int_int__v3_x2_0 v3))) := funext fun v0 => funext fun v1 => funext fun v2 => funext fun v3 => ih v0 v1 v2 v3
    rw [h]
    rfl
theorem slices_IndexFunc___int_int__v3_k2 {R : Type} (N : Nat) : LpKey (R := R) E 66 1 (slices_IndexFunc___int_int__v3_lp N) 2 :=
  lpKey_of hE (drive_Play_1_cal_ok N) (lp := slices_IndexFunc___int_int__v3_lp N) (jn := noJn) slices_IndexFunc___int_int__v3_L2_ok [] kNil (by kernel_rfl) [] jNil (by kernel_rfl) N fun S k =>
    Eq.trans (b := slices_IndexFunc___int_int__v3_L2.head.raw 1 S (fun S0 => slices_IndexFunc___int_int__v3_d2 N S0 k)) (by kernel_rfl) (congrArg (slices_IndexFunc___int_int__v3_L2.head.raw 1 S) (funext fun S0 => Eq.trans (slices_IndexFunc___int_int__v3_l2_eq N k N (lstC intC (lget S0.tmps 0)) (toI (lget S0.tmps 7)) (toI (lget S0.tmps 8)) (Cod.dec api_StopC (lget (entCs (entAt S0.tab 0))))).symm (by kernel_rfl)))
noncomputable def slices_IndexFunc___int_int__v3_go {R : Type} (N : Nat) (args : List SV) (T : Tab) (kf : SV × Tab → Option R) : Option R :=
  slices_IndexFunc___int_int__v3 N (lstC intC (lget args 0)) (Cod.dec api_StopC (lget (entCs (entAt T 0)))) (fun q0 => kf (lget [.int .i64 q0] 0, [(0, .blk (Cod.enc api_StopC (Cod.dec api_StopC (lget (entCs (entAt T 0))))))]))
noncomputable def slices_IndexFunc___int_int__v3_cal {R : Type} (N : Nat) : Cal R := callM (drive_Play_1_cal N) 66 1 slices_IndexFunc___int_int__v3_sp (slices_IndexFunc___int_int__v3_go N)
theorem slices_IndexFunc___int_int__v3_cal_ok {R : Type} (N : Nat) : CalOk E.P (slices_IndexFunc___int_int__v3_cal (R := R) N) :=
  callM_ok hE (drive_Play_1_cal_ok N) (lp := slices_IndexFunc___int_int__v3_lp N) (jn := noJn) (keys := [2]) (kCons (slices_IndexFunc___int_int__v3_k2 N) kNil) (by kernel_rfl) (js := []) jNil (by kernel_rfl) slices_IndexFunc___int_int__v3_sp_ok slices_IndexFunc___int_int__v3_rs_ok (fun args T kf => Eq.trans (slices_IndexFunc___int_int__v3_def N (lstC intC (lget args 0)) (Cod.dec api_StopC (lget (entCs (entAt T 0)))) (fun q0 => kf (lget [.int .i64 q0] 0, [(0, .blk (Cod.enc api_StopC (Cod.dec api_StopC (lget (entCs (entAt T 0))))))]))) (by kernel_rfl : slices_IndexFunc___int_int__v3_run N args T kf = fnM E (drive_Play_1_cal N) (slices_IndexFunc___int_int__v3_lp N) (noJn) 66 (slices_IndexFunc___int_int__v3_sp.vs args) (slices_IndexFunc___int_int__v3_sp.tab T) 1 (resK slices_IndexFunc___int_int__v3_rs kf)))
def slices_ContainsFunc___int_int__v3_m {R : Type} (N : Nat) (a376 : Arr Int) (a377 : api_Stop) (k : Bool → Option R) : Option R :=
  slices_IndexFunc___int_int__v3 N a376 a377 (fun r389 =>
  k (decide (r389 ≥ (0 : Int))))
noncomputable def slices_ContainsFunc___int_int__v3 {R : Type} : Nat → Arr Int → api_Stop → (Bool → Option R) → Option R := lock (@slices_ContainsFunc___int_int__v3_m R)
theorem slices_ContainsFunc___int_int__v3_def {R : Type} (N : Nat) (a376 : Arr Int) (a377 : api_Stop) (k : Bool → Option R) : slices_ContainsFunc___int_int__v3 N a376 a377 k = slices_ContainsFunc___int_int__v3_m N a376 a377 k := by unfold slices_ContainsFunc___int_int__v3; rw [lock_eq]
def slices_ContainsFunc___int_int__v3_sp : Sp := ⟨[rSl intC, rFunc 39 0 [rPtr 0 0]], [(0, eBlkC api_StopC)]⟩
theorem slices_ContainsFunc___int_int__v3_sp_ok : slices_ContainsFunc___int_int__v3_sp.Ok := ⟨(allCons (rSl_ok intC_ok) (allCons (rFunc_ok 39 0 (allCons (rPtr_ok 0 0) allNil)) allNil)), (eCons (eBlkC_ok api_StopC_ok api_StopC_len) eNil)⟩
def slices_ContainsFunc___int_int__v3_rs : Sp := ⟨[rBool], [(0, eBlkC api_StopC)]⟩
theorem slices_ContainsFunc___int_int__v3_rs_ok : slices_ContainsFunc___int_int__v3_rs.Ok := ⟨(allCons rBool_ok allNil), (eCons (eBlkC_ok api_StopC_ok api_StopC_len) eNil)⟩
def slices_ContainsFunc___int_int__v3_run {R : Type} (N : Nat) (args : List SV) (T : Tab) (kf : SV × Tab → Option R) : Option R :=
  slices_ContainsFunc___int_int__v3_m N (lstC intC (lget args 0)) (Cod.dec api_StopC (lget (entCs (entAt T 0)))) (fun q0 => kf (lget [.bool q0] 0, [(0, .blk (Cod.enc api_StopC (Cod.dec api_StopC (lget (entCs (entAt T 0))))))]))
def slices_ContainsFunc___int_int__v3_lp {R : Type} (N : Nat) : Lp R := fun body S k => Option.none
noncomputable def slices_ContainsFunc___int_int__v3_go {R : Type} (N : Nat) (args : List SV) (T : Tab) (kf : SV × Tab → Option R) : Option R :=
  slices_ContainsFunc___int_int__v3 N (lstC intC (lget args 0)) (Cod.dec api_StopC (lget (entCs (entAt T 0)))) (fun q0 => kf (lget [.bool q0] 0, [(0, .blk (Cod.enc api_StopC (Cod.dec api_StopC (lget (entCs (entAt T 0))))))]))
noncomputable def slices_ContainsFunc___int_int__v3_cal {R : Type} (N : Nat) : Cal R := callM (slices_IndexFunc___int_int__v3_cal N) 38 1 slices_ContainsFunc___int_int__v3_sp (slices_ContainsFunc___int_int__v3_go N)
theorem slices_ContainsFunc___int_int__v3_cal_ok {R : Type} (N : Nat) : CalOk E.P (slices_ContainsFunc___int_int__v3_cal (R := R) N) :=
  callM_ok hE (slices_IndexFunc___int_int__v3_cal_ok N) (lp := slices_ContainsFunc___int_int__v3_lp N) (jn := noJn) (keys := []) kNil (by kernel_rfl) (js := []) jNil (by kernel_rfl) slices_ContainsFunc___int_int__v3_sp_ok slices_ContainsFunc___int_int__v3_rs_ok (fun args T kf => Eq.trans (slices_ContainsFunc___int_int__v3_def N (lstC intC (lget args 0)) (Cod.dec api_StopC (lget (entCs (entAt T 0)))) (fun q0 => kf (lget [.bool q0] 0, [(0, .blk (Cod.enc api_StopC (Cod.dec api_StopC (lget (entCs (entAt T 0))))))]))) (by kernel_rfl : slices_ContainsFunc___int_int__v3_run N args T kf = fnM E (slices_IndexFunc___int_int__v3_cal N) (slices_ContainsFunc___int_int__v3_lp N) (noJn) 38 (slices_ContainsFunc___int_int__v3_sp.vs args) (slices_ContainsFunc___int_int__v3_sp.tab T) 1 (resK slices_ContainsFunc___int_int__v3_rs kf)))
def drive_Play_L9 : LoopSp := ⟨⟨[9, 10, 32, 33, 34], ⟨(dr 9 ((rPtr 0 0) :: (rRow 1) :: (dr 21 ((rSl intC) :: (rInt .i64) :: (rInt .i64) :: (dr 10 []))))), [(0, eBlkC drive_motionC), (1, eRow intC)]⟩, 2⟩, [(some 0, ⟨[10], ⟨(dr 10 ((rRow 0) :: (dr 34 []))), [(0, eRow intC)]⟩, 1⟩)]⟩
theorem drive_Play_L9_ok : drive_Play_L9.Ok := ⟨⟨(drCons 9 (allCons (rPtr_ok 0 0) (allCons (rRow_ok 1) (drCons 21 (allCons (rSl_ok intC_ok) (allCons (rInt_ok .i64) (allCons (rInt_ok .i64) (drCons 10 allNil)))))))), (eCons (eBlkC_ok drive_motionC_ok drive_motionC_len) (eCons (eRow_ok intC_ok) eNil))⟩, (xCons ⟨(drCons 10 (allCons (rRow_ok 0) (drCons 34 allNil))), (eCons (eRow_ok intC_ok) eNil)⟩ xNil)⟩
def drive_Play_h9 (v391 : Arr Int) (v392 : Int) (v393 : Int) (v394 : drive_motion) (v395 : Bool) (v396 : Arr Int) : St := ⟨(un 9 ((.ptr 0 0) :: (.row 1) :: (un 21 ((slC intC v391) :: (.int .i64 v392) :: (.int .i64 v393) :: (un 10 []))))), [(0, .blk (Cod.enc drive_motionC v394)), (1, rowE intC v395 v396)], 2⟩
def drive_Play_x9_0 (q0 : Bool) (q1 : Arr Int) : St := ⟨(un 10 ((.row 0) :: (un 34 []))), [(0, rowE intC q0 q1)], 1⟩
def drive_Play_b9 {R : Type} (N : Nat) (rc : Arr Int → Int → Int → drive_motion → Bool → Arr Int → Option R) (v391 : Arr Int) (v392 : Int) (v393 : Int) (v394 : drive_motion) (v395 : Bool) (v396 : Arr Int) (k0 : Bool → Arr Int → Option R) : Option R :=
  bif decide (v393 < v392) then
   bif decide ((0 : Int) ≤ v393) && decide (v393 < (↑(Arr.n v391) : Int)) then
    drive_motion_with N (Arr.f v391 (Int.toNat v393)) v394 (fun r397 r398 =>
    bif room (Arr.n v396 + (1 : Nat)) then
     rc v391 v392 (w64 (v393 + (1 : Int))) r398 false (lst intC (Arr.n v396 + (1 : Nat)) (catC (Arr.n v396) (Cod.cell intC (Arr.f v396)) (litC [SV.int IntKind.i64 (0 : Int)] [[SV.int IntKind.i64 r397]])))
    else
     Option.none)
   else
    Option.none
  else
   k0 v395 v396
def drive_Play_l9 {R : Type} (N : Nat) : Nat → Arr Int → Int → Int → drive_motion → Bool → Arr Int → (Bool → Arr Int → Option R) → Option R
  | 0, _, _, _, _, _, _, _ => Option.none
  | n + 1, v391, v392, v393, v394, v395, v396, k0 => drive_Play_b9 N (fun v391 v392 v393 v394 v395 v396 => drive_Play_l9 N n v391 v392 v393 v394 v395 v396 k0) v391 v392 v393 v394 v395 v396 k0
def drive_Play_m {R : Type} (N : Nat) (a372 : api_Escalator) (a373 : api_Stop) (a374 : Arr Int) (k : Int → Bool → Arr Int → Option R) : Option R :=
  drive_checkStop N a372 a373 (fun r375 =>
  bif r375 != (0 : Int) then
   k r375 true (lst intC (0 : Nat) (zeroC [SV.int IntKind.i64 (0 : Int)]))
  else
   bif decide ((↑(Arr.n a374) : Int) > (100 : Int)) then
    k (1 : Int) true (lst intC (0 : Nat) (zeroC [SV.int IntKind.i64 (0 : Int)]))
   else
    slices_ContainsFunc___int_int__v3 N a374 a373 (fun r390 =>
    bif r390 then
     k (1 : Int) true (lst intC (0 : Nat) (zeroC [SV.int IntKind.i64 (0 : Int)]))
    else
     drive_Play_l9 N N a374 ((↑(Arr.n a374) : Int)) (0 : Int) (drive_motion.mk a372 a373 (api_Stop.Speed a373) (0 : Int)) true (lst intC (0 : Nat) (zeroC [SV.int IntKind.i64 (0 : Int)])) (fun r399 r400 =>
      k (0 : Int) r399 r400)))
noncomputable def drive_Play {R : Type} : Nat → api_Escalator → api_Stop → Arr Int → (Int → Bool → Arr Int → Option R) → Option R := lock (@drive_Play_m R)
theorem drive_Play_def {R : Type} (N : Nat) (a372 : api_Escalator) (a373 : api_Stop) (a374 : Arr Int) (k : Int → Bool → Arr Int → Option R) : drive_Play N a372 a373 a374 k = drive_Play_m N a372 a373 a374 k := by unfold drive_Play; rw [lock_eq]
def drive_Play_sp : Sp := ⟨[rAgg api_EscalatorC, rAgg api_StopC, rSl intC], []⟩
theorem drive_Play_sp_ok : drive_Play_sp.Ok := ⟨(allCons (rAgg_ok api_EscalatorC_ok api_EscalatorC_len) (allCons (rAgg_ok api_StopC_ok api_StopC_len) (allCons (rSl_ok intC_ok) allNil))), eNil⟩
def drive_Play_rs : Sp := ⟨[rTup [rRow 0, rInt .i64]], [(0, eRow intC)]⟩
theorem drive_Play_rs_ok : drive_Play_rs.Ok := ⟨(allCons (rTup_ok (allCons (rRow_ok 0) (allCons (rInt_ok .i64) allNil))) allNil), (eCons (eRow_ok intC_ok) eNil)⟩
def drive_Play_run {R : Type} (N : Nat) (args : List SV) (T : Tab) (kf : SV × Tab → Option R) : Option R :=
  drive_Play_m N (Cod.dec api_EscalatorC (lget (toCs (lget args 0)))) (Cod.dec api_StopC (lget (toCs (lget args 1)))) (lstC intC (lget args 2)) (fun q0 q1 q2 => kf (lget [.tup [.row 0, .int .i64 q0]] 0, [(0, rowE intC q1 q2)]))
def drive_Play_d9 {R : Type} (N : Nat) (S0 : St) (k : Exit → St → Option R) : Option R :=
  drive_Play_l9 N N (lstC intC (lget S0.tmps 32)) (toI (lget S0.tmps 33)) (toI (lget S0.tmps 34)) (Cod.dec drive_motionC (lget (entCs (entAt S0.tab 0)))) (entNl (entAt S0.tab 1)) (lst intC (entN (entAt S0.tab 1)) (entC (entAt S0.tab 1))) (fun q0 q1 => k (.exit 0) (drive_Play_x9_0 q0 q1))
def drive_Play_lp {R : Type} (N : Nat) : Lp R := fun body S k => bif (Go.Sx.keyOf body).getD 0 == 9 then (drive_Play_L9.head.raw 0 S (fun S0 => drive_Play_d9 N S0 k)) else Option.none
theorem drive_Play_l9_eq {R : Type} (N : Nat) (k : Exit → St → Option R) (n : Nat) : ∀ (v0 : Arr Int) (v1 : Int) (v2 : Int) (v3 : drive_motion) (v4 : Bool) (v5 : Arr Int), loopM E.Θ (slices_ContainsFunc___int_int__v3_cal N) (drive_Play_lp N) (noJn) 0 drive_Play_L9 (bodyAt E 15 9) n (drive_Play_h9 v0 v1 v2 v3 v4 v5) k = drive_Play_l9 N n v0 v1 v2 v3 v4 v5 (fun q0 q1 => k (.exit 0) (drive_Play_x9_0 q0 q1)) := by
  induction n with
  | zero => intro v0 v1 v2 v3 v4 v5; rfl
  | succ n ih =>
    intro v0 v1 v2 v3 v4 v5
    refine Eq.trans (b := drive_Play_b9 N (fun v0 v1 v2 v3 v4 v5 => loopM E.Θ (slices_ContainsFunc___int_int__v3_cal N) (drive_Play_lp N) (noJn) 0 drive_Play_L9 (bodyAt E 15 9) n (drive_Play_h9 v0 v1 v2 v3 v4 v5) k) v0 v1 v2 v3 v4 v5 (fun q0 q1 => k (.exit 0) (drive_Play_x9_0 q0 q1))) (by kernel_rfl) ?_
    have h : (fun (v0 : Arr Int) (v1 : Int) (v2 : Int) (v3 : drive_motion) (v4 : Bool) (v5 : Arr Int) => loopM E.Θ (slices_ContainsFunc___int_int__v3_cal N) (drive_Play_lp N) (noJn) 0 drive_Play_L9 (bodyAt E 15 9) n (drive_Play_h9 v0 v1 v2 v3 v4 v5) k) = (fun (v0 : Arr Int) (v1 : Int) (v2 : Int) (v3 : drive_motion) (v4 : Bool) (v5 : Arr Int) => drive_Play_l9 N n v0 v1 v2 v3 v4 v5 (fun q0 q1 => k (.exit 0) (drive_Play_x9_0 q0 q1))) := funext fun v0 => funext fun v1 => funext fun v2 => funext fun v3 => funext fun v4 => funext fun v5 => ih v0 v1 v2 v3 v4 v5
    rw [h]
    rfl
theorem drive_Play_k9 {R : Type} (N : Nat) : LpKey (R := R) E 15 0 (drive_Play_lp N) 9 :=
  lpKey_of hE (slices_ContainsFunc___int_int__v3_cal_ok N) (lp := drive_Play_lp N) (jn := noJn) drive_Play_L9_ok [] kNil (by kernel_rfl) [] jNil (by kernel_rfl) N fun S k =>
    Eq.trans (b := drive_Play_L9.head.raw 0 S (fun S0 => drive_Play_d9 N S0 k)) (by kernel_rfl) (congrArg (drive_Play_L9.head.raw 0 S) (funext fun S0 => Eq.trans (drive_Play_l9_eq N k N (lstC intC (lget S0.tmps 32)) (toI (lget S0.tmps 33)) (toI (lget S0.tmps 34)) (Cod.dec drive_motionC (lget (entCs (entAt S0.tab 0)))) (entNl (entAt S0.tab 1)) (lst intC (entN (entAt S0.tab 1)) (entC (entAt S0.tab 1)))).symm (by kernel_rfl)))
noncomputable def drive_Play_go {R : Type} (N : Nat) (args : List SV) (T : Tab) (kf : SV × Tab → Option R) : Option R :=
  drive_Play N (Cod.dec api_EscalatorC (lget (toCs (lget args 0)))) (Cod.dec api_StopC (lget (toCs (lget args 1)))) (lstC intC (lget args 2)) (fun q0 q1 q2 => kf (lget [.tup [.row 0, .int .i64 q0]] 0, [(0, rowE intC q1 q2)]))
noncomputable def drive_Play_cal {R : Type} (N : Nat) : Cal R := callM (slices_ContainsFunc___int_int__v3_cal N) 15 0 drive_Play_sp (drive_Play_go N)
theorem drive_Play_cal_ok {R : Type} (N : Nat) : CalOk E.P (drive_Play_cal (R := R) N) :=
  callM_ok hE (slices_ContainsFunc___int_int__v3_cal_ok N) (lp := drive_Play_lp N) (jn := noJn) (keys := [9]) (kCons (drive_Play_k9 N) kNil) (by kernel_rfl) (js := []) jNil (by kernel_rfl) drive_Play_sp_ok drive_Play_rs_ok (fun args T kf => Eq.trans (drive_Play_def N (Cod.dec api_EscalatorC (lget (toCs (lget args 0)))) (Cod.dec api_StopC (lget (toCs (lget args 1)))) (lstC intC (lget args 2)) (fun q0 q1 q2 => kf (lget [.tup [.row 0, .int .i64 q0]] 0, [(0, rowE intC q1 q2)]))) (by kernel_rfl : drive_Play_run N args T kf = fnM E (slices_ContainsFunc___int_int__v3_cal N) (drive_Play_lp N) (noJn) 15 (drive_Play_sp.vs args) (drive_Play_sp.tab T) 0 (resK drive_Play_rs kf)))
def newelref01_Rest_L4 : LoopSp := ⟨⟨[1, 4, 7], ⟨(dr 1 ((rSl intC) :: (dr 2 ((rInt .i64) :: (dr 2 ((rInt .i64) :: (dr 25 []))))))), []⟩, 0⟩, [(Option.none, ⟨[4, 5, 6], ⟨(dr 4 ((rInt .i64) :: (rInt .i64) :: (rBool) :: (dr 26 []))), []⟩, 0⟩), (some 0, ⟨[1, 4], ⟨(dr 1 ((rSl intC) :: (dr 2 ((rInt .i64) :: (dr 28 []))))), []⟩, 0⟩)]⟩
theorem newelref01_Rest_L4_ok : newelref01_Rest_L4.Ok := ⟨⟨(drCons 1 (allCons (rSl_ok intC_ok) (drCons 2 (allCons (rInt_ok .i64) (drCons 2 (allCons (rInt_ok .i64) (drCons 25 allNil))))))), eNil⟩, (xCons ⟨(drCons 4 (allCons (rInt_ok .i64) (allCons (rInt_ok .i64) (allCons rBool_ok (drCons 26 allNil))))), eNil⟩ (xCons ⟨(drCons 1 (allCons (rSl_ok intC_ok) (drCons 2 (allCons (rInt_ok .i64) (drCons 28 allNil))))), eNil⟩ xNil))⟩
def newelref01_Rest_h4 (v403 : Arr Int) (v404 : Int) (v405 : Int) : St := ⟨(un 1 ((slC intC v403) :: (un 2 ((.int .i64 v404) :: (un 2 ((.int .i64 v405) :: (un 25 []))))))), [], 0⟩
def newelref01_Rest_x4_r (q0 : Int) (q1 : Int) (q2 : Bool) : St := ⟨(un 4 ((.int .i64 q0) :: (.int .i64 q1) :: (.bool q2) :: (un 26 []))), [], 0⟩
def newelref01_Rest_x4_0 (v403 : Arr Int) (q1 : Int) : St := ⟨(un 1 ((slC intC v403) :: (un 2 ((.int .i64 q1) :: (un 28 []))))), [], 0⟩
def newelref01_Rest_b4 {R : Type} (N : Nat) (rc : Arr Int → Int → Int → Option R) (v403 : Arr Int) (v404 : Int) (v405 : Int) (kr : Int → Int → Bool → Option R) (k0 : Int → Option R) : Option R :=
  bif decide (v405 < (↑(Arr.n v403) : Int)) then
   bif decide ((0 : Int) ≤ v405) && decide (v405 < (↑(Arr.n v403) : Int)) then
    bif decide ((0 : Int) ≤ v405) && decide (v405 < (↑(Arr.n v403) : Int)) then
     bif Arr.f v403 (Int.toNat v405) == (0 : Int) then
      kr (w64 (v404 + Arr.f v403 (Int.toNat v405))) (w64 (v405 + (1 : Int))) true
     else
      rc v403 (w64 (v404 + Arr.f v403 (Int.toNat v405))) (w64 (v405 + (1 : Int)))
    else
     Option.none
   else
    Option.none
  else
   k0 v404
def newelref01_Rest_l4 {R : Type} (N : Nat) : Nat → Arr Int → Int → Int → (Int → Int → Bool → Option R) → (Int → Option R) → Option R
  | 0, _, _, _, _, _ => Option.none
  | n + 1, v403, v404, v405, kr, k0 => newelref01_Rest_b4 N (fun v403 v404 v405 => newelref01_Rest_l4 N n v403 v404 v405 kr k0) v403 v404 v405 kr k0
def newelref01_Rest_m {R : Type} (N : Nat) (a401 : Int) (a402 : Arr Int) (k : Int → Int → Bool → Option R) : Option R :=
  bif a401 == (0 : Int) then
   k (0 : Int) (0 : Int) true
  else
   newelref01_Rest_l4 N N a402 (0 : Int) (0 : Int) (fun r406 r407 r408 =>
    k r406 r407 r408) (fun r409 =>
    k r409 ((↑(Arr.n a402) : Int)) false)
noncomputable def newelref01_Rest {R : Type} : Nat → Int → Arr Int → (Int → Int → Bool → Option R) → Option R := lock (@newelref01_Rest_m R)
theorem newelref01_Rest_def {R : Type} (N : Nat) (a401 : Int) (a402 : Arr Int) (k : Int → Int → Bool → Option R) : newelref01_Rest N a401 a402 k = newelref01_Rest_m N a401 a402 k := by unfold newelref01_Rest; rw [lock_eq]
def newelref01_Rest_sp : Sp := ⟨[rInt .i64, rSl intC], []⟩
theorem newelref01_Rest_sp_ok : newelref01_Rest_sp.Ok := ⟨(allCons (rInt_ok .i64) (allCons (rSl_ok intC_ok) allNil)), eNil⟩
def newelref01_Rest_rs : Sp := ⟨[rTup [rInt .i64, rInt .i64, rBool]], []⟩
theorem newelref01_Rest_rs_ok : newelref01_Rest_rs.Ok := ⟨(allCons (rTup_ok (allCons (rInt_ok .i64) (allCons (rInt_ok .i64) (allCons rBool_ok allNil)))) allNil), eNil⟩
def newelref01_Rest_run {R : Type} (N : Nat) (args : List SV) (T : Tab) (kf : SV × Tab → Option R) : Option R :=
  newelref01_Rest_m N (toI (lget args 0)) (lstC intC (lget args 1)) (fun q0 q1 q2 => kf (lget [.tup [.int .i64 q0, .int .i64 q1, .bool q2]] 0, []))
def newelref01_Rest_d4 {R : Type} (N : Nat) (S0 : St) (k : Exit → St → Option R) : Option R :=
  newelref01_Rest_l4 N N (lstC intC (lget S0.tmps 1)) (toI (lget S0.tmps 4)) (toI (lget S0.tmps 7)) (fun q0 q1 q2 => k .ret (newelref01_Rest_x4_r q0 q1 q2)) (fun q1 => k (.exit 0) (newelref01_Rest_x4_0 (lstC intC (lget S0.tmps 1)) q1))
def newelref01_Rest_lp {R : Type} (N : Nat) : Lp R := fun body S k => bif (Go.Sx.keyOf body).getD 0 == 4 then (newelref01_Rest_L4.head.raw 0 S (fun S0 => newelref01_Rest_d4 N S0 k)) else Option.none
theorem newelref01_Rest_l4_eq {R : Type} (N : Nat) (k : Exit → St → Option R) (n : Nat) : ∀ (v0 : Arr Int) (v1 : Int) (v2 : Int), loopM E.Θ (drive_Play_cal N) (newelref01_Rest_lp N) (noJn) 0 newelref01_Rest_L4 (bodyAt E 16 4) n (newelref01_Rest_h4 v0 v1 v2) k = newelref01_Rest_l4 N n v0 v1 v2 (fun q0 q1 q2 => k .ret (newelref01_Rest_x4_r q0 q1 q2)) (fun q1 => k (.exit 0) (newelref01_Rest_x4_0 v0 q1)) := by
  induction n with
  | zero => intro v0 v1 v2; rfl
  | succ n ih =>
    intro v0 v1 v2
    refine Eq.trans (b := newelref01_Rest_b4 N (fun v0 v1 v2 => loopM E.Θ (drive_Play_cal N) (newelref01_Rest_lp N) (noJn) 0 newelref01_Rest_L4 (bodyAt E 16 4) n (newelref01_Rest_h4 v0 v1 v2) k) v0 v1 v2 (fun q0 q1 q2 => k .ret (newelref01_Rest_x4_r q0 q1 q2)) (fun q1 => k (.exit 0) (newelref01_Rest_x4_0 v0 q1))) (by kernel_rfl) ?_
    have h : (fun (v0 : Arr Int) (v1 : Int) (v2 : Int) => loopM E.Θ (drive_Play_cal N) (newelref01_Rest_lp N) (noJn) 0 newelref01_Rest_L4 (bodyAt E 16 4) n (newelref01_Rest_h4 v0 v1 v2) k) = (fun (v0 : Arr Int) (v1 : Int) (v2 : Int) => newelref01_Rest_l4 N n v0 v1 v2 (fun q0 q1 q2 => k .ret (newelref01_Rest_x4_r q0 q1 q2)) (fun q1 => k (.exit 0) (newelref01_Rest_x4_0 v0 q1))) := funext fun v0 => funext fun v1 => funext fun v2 => ih v0 v1 v2
    rw [h]
    rfl
theorem newelref01_Rest_k4 {R : Type} (N : Nat) : LpKey (R := R) E 16 0 (newelref01_Rest_lp N) 4 :=
  lpKey_of hE (drive_Play_cal_ok N) (lp := newelref01_Rest_lp N) (jn := noJn) newelref01_Rest_L4_ok [] kNil (by kernel_rfl) [] jNil (by kernel_rfl) N fun S k =>
    Eq.trans (b := newelref01_Rest_L4.head.raw 0 S (fun S0 => newelref01_Rest_d4 N S0 k)) (by kernel_rfl) (congrArg (newelref01_Rest_L4.head.raw 0 S) (funext fun S0 => Eq.trans (newelref01_Rest_l4_eq N k N (lstC intC (lget S0.tmps 1)) (toI (lget S0.tmps 4)) (toI (lget S0.tmps 7))).symm (by kernel_rfl)))
noncomputable def newelref01_Rest_go {R : Type} (N : Nat) (args : List SV) (T : Tab) (kf : SV × Tab → Option R) : Option R :=
  newelref01_Rest N (toI (lget args 0)) (lstC intC (lget args 1)) (fun q0 q1 q2 => kf (lget [.tup [.int .i64 q0, .int .i64 q1, .bool q2]] 0, []))
noncomputable def newelref01_Rest_cal {R : Type} (N : Nat) : Cal R := callM (drive_Play_cal N) 16 0 newelref01_Rest_sp (newelref01_Rest_go N)
theorem newelref01_Rest_cal_ok {R : Type} (N : Nat) : CalOk E.P (newelref01_Rest_cal (R := R) N) :=
  callM_ok hE (drive_Play_cal_ok N) (lp := newelref01_Rest_lp N) (jn := noJn) (keys := [4]) (kCons (newelref01_Rest_k4 N) kNil) (by kernel_rfl) (js := []) jNil (by kernel_rfl) newelref01_Rest_sp_ok newelref01_Rest_rs_ok (fun args T kf => Eq.trans (newelref01_Rest_def N (toI (lget args 0)) (lstC intC (lget args 1)) (fun q0 q1 q2 => kf (lget [.tup [.int .i64 q0, .int .i64 q1, .bool q2]] 0, []))) (by kernel_rfl : newelref01_Rest_run N args T kf = fnM E (drive_Play_cal N) (newelref01_Rest_lp N) (noJn) 16 (newelref01_Rest_sp.vs args) (newelref01_Rest_sp.tab T) 0 (resK newelref01_Rest_rs kf)))
def newelref11_within_m {R : Type} (N : Nat) (a410 : Int) (a411 : Int) (a412 : Int) (k : Bool → Option R) : Option R :=
  bif decide (a410 ≥ a411) then
   k (decide (a410 ≤ a412))
  else
   k false
noncomputable def newelref11_within {R : Type} : Nat → Int → Int → Int → (Bool → Option R) → Option R := lock (@newelref11_within_m R)
theorem newelref11_within_def {R : Type} (N : Nat) (a410 : Int) (a411 : Int) (a412 : Int) (k : Bool → Option R) : newelref11_within N a410 a411 a412 k = newelref11_within_m N a410 a411 a412 k := by unfold newelref11_within; rw [lock_eq]
def newelref11_within_sp : Sp := ⟨[rInt .i64, rInt .i64, rInt .i64], []⟩
theorem newelref11_within_sp_ok : newelref11_within_sp.Ok := ⟨(allCons (rInt_ok .i64) (allCons (rInt_ok .i64) (allCons (rInt_ok .i64) allNil))), eNil⟩
def newelref11_within_rs : Sp := ⟨[rBool], []⟩
theorem newelref11_within_rs_ok : newelref11_within_rs.Ok := ⟨(allCons rBool_ok allNil), eNil⟩
def newelref11_within_run {R : Type} (N : Nat) (args : List SV) (T : Tab) (kf : SV × Tab → Option R) : Option R :=
  newelref11_within_m N (toI (lget args 0)) (toI (lget args 1)) (toI (lget args 2)) (fun q0 => kf (lget [.bool q0] 0, []))
def newelref11_within_lp {R : Type} (N : Nat) : Lp R := fun body S k => Option.none
noncomputable def newelref11_within_go {R : Type} (N : Nat) (args : List SV) (T : Tab) (kf : SV × Tab → Option R) : Option R :=
  newelref11_within N (toI (lget args 0)) (toI (lget args 1)) (toI (lget args 2)) (fun q0 => kf (lget [.bool q0] 0, []))
noncomputable def newelref11_within_cal {R : Type} (N : Nat) : Cal R := callM (newelref01_Rest_cal N) 42 0 newelref11_within_sp (newelref11_within_go N)
theorem newelref11_within_cal_ok {R : Type} (N : Nat) : CalOk E.P (newelref11_within_cal (R := R) N) :=
  callM_ok hE (newelref01_Rest_cal_ok N) (lp := newelref11_within_lp N) (jn := noJn) (keys := []) kNil (by kernel_rfl) (js := []) jNil (by kernel_rfl) newelref11_within_sp_ok newelref11_within_rs_ok (fun args T kf => Eq.trans (newelref11_within_def N (toI (lget args 0)) (toI (lget args 1)) (toI (lget args 2)) (fun q0 => kf (lget [.bool q0] 0, []))) (by kernel_rfl : newelref11_within_run N args T kf = fnM E (newelref01_Rest_cal N) (newelref11_within_lp N) (noJn) 42 (newelref11_within_sp.vs args) (newelref11_within_sp.tab T) 0 (resK newelref11_within_rs kf)))
def newelref11_Check_L7 : LoopSp := ⟨⟨[1, 3, 4], ⟨(dr 1 ((rPtr 0 0) :: (dr 1 ((rInt .i64) :: (rInt .i64) :: (dr 68 []))))), [(0, eBlkC api_BandC)]⟩, 1⟩, [(Option.none, ⟨[2], ⟨(dr 2 ((rInt .i64) :: (dr 70 []))), []⟩, 0⟩), (some 0, ⟨[], ⟨(dr 73 []), []⟩, 0⟩)]⟩
theorem newelref11_Check_L7_ok : newelref11_Check_L7.Ok := ⟨⟨(drCons 1 (allCons (rPtr_ok 0 0) (drCons 1 (allCons (rInt_ok .i64) (allCons (rInt_ok .i64) (drCons 68 allNil)))))), (eCons (eBlkC_ok api_BandC_ok api_BandC_len) eNil)⟩, (xCons ⟨(drCons 2 (allCons (rInt_ok .i64) (drCons 70 allNil))), eNil⟩ (xCons ⟨(drCons 73 allNil), eNil⟩ xNil))⟩
def newelref11_Check_h7 (v422 : Int) (v423 : Int) (v424 : api_Band) : St := ⟨(un 1 ((.ptr 0 0) :: (un 1 ((.int .i64 v422) :: (.int .i64 v423) :: (un 68 []))))), [(0, .blk (Cod.enc api_BandC v424))], 1⟩
def newelref11_Check_x7_r (q0 : Int) : St := ⟨(un 2 ((.int .i64 q0) :: (un 70 []))), [], 0⟩
def newelref11_Check_x7_0  : St := ⟨(un 73 []), [], 0⟩
def newelref11_Check_b7 {R : Type} (N : Nat) (rc : Int → Int → api_Band → Option R) (v422 : Int) (v423 : Int) (v424 : api_Band) (kr : Int → Option R) (k0 : Unit → Option R) : Option R :=
  bif decide (v423 < (↑(Arr.n (api_Band.Paces v424)) : Int)) then
   bif decide ((0 : Int) ≤ v423) && decide (v423 < (↑(Arr.n (api_Band.Paces v424)) : Int)) then
    newelref11_within N (Arr.f (api_Band.Paces v424) (Int.toNat v423)) (w64 (v422 + (1 : Int))) (100 : Int) (fun r425 =>
    bif !r425 then
     kr (110 : Int)
    else
     bif decide ((0 : Int) ≤ v423) && decide (v423 < (↑(Arr.n (api_Band.Paces v424)) : Int)) then
      rc (Arr.f (api_Band.Paces v424) (Int.toNat v423)) (w64 (v423 + (1 : Int))) v424
     else
      Option.none)
   else
    Option.none
  else
   k0 ()
def newelref11_Check_l7 {R : Type} (N : Nat) : Nat → Int → Int → api_Band → (Int → Option R) → (Unit → Option R) → Option R
  | 0, _, _, _, _, _ => Option.none
  | n + 1, v422, v423, v424, kr, k0 => newelref11_Check_b7 N (fun v422 v423 v424 => newelref11_Check_l7 N n v422 v423 v424 kr k0) v422 v423 v424 kr k0
def newelref11_Check_m {R : Type} (N : Nat) (a413 : api_Band) (k : Int → Option R) : Option R :=
  newelref11_within N (api_Band.Pull a413) (0 : Int) (100 : Int) (fun r414 =>
  bif !r414 then
   k (110 : Int)
  else
   newelref11_within N (api_Band.Drag a413) (0 : Int) (1000000 : Int) (fun r415 =>
   bif !r415 then
    k (110 : Int)
   else
    newelref11_within N (api_Band.Body a413) (0 : Int) (100 : Int) (fun r416 =>
    bif !r416 then
     k (110 : Int)
    else
     newelref11_within N (api_Band.Ride a413) (1 : Int) (1000 : Int) (fun r417 =>
     bif !r417 then
      k (110 : Int)
     else
      newelref11_within N (api_Band.Most a413) (0 : Int) (100000000 : Int) (fun r418 =>
      bif !r418 then
       k (110 : Int)
      else
       newelref11_within N ((↑(Arr.n (api_Band.Paces a413)) : Int)) (1 : Int) (3 : Int) (fun r419 =>
       bif !r419 then
        k (110 : Int)
       else
        newelref11_within N (api_Band.Den a413) (1 : Int) (100 : Int) (fun r420 =>
        bif !r420 then
         k (110 : Int)
        else
         newelref11_within N (api_Band.Num a413) (0 : Int) (api_Band.Den a413) (fun r421 =>
         bif !r421 then
          k (110 : Int)
         else
          newelref11_Check_l7 N N (0 : Int) (0 : Int) a413 (fun r426 =>
           k r426) (fun (_ : Unit) =>
           k (0 : Int))))))))))
noncomputable def newelref11_Check {R : Type} : Nat → api_Band → (Int → Option R) → Option R := lock (@newelref11_Check_m R)
theorem newelref11_Check_def {R : Type} (N : Nat) (a413 : api_Band) (k : Int → Option R) : newelref11_Check N a413 k = newelref11_Check_m N a413 k := by unfold newelref11_Check; rw [lock_eq]
def newelref11_Check_sp : Sp := ⟨[rAgg api_BandC], []⟩
theorem newelref11_Check_sp_ok : newelref11_Check_sp.Ok := ⟨(allCons (rAgg_ok api_BandC_ok api_BandC_len) allNil), eNil⟩
def newelref11_Check_rs : Sp := ⟨[rInt .i64], []⟩
theorem newelref11_Check_rs_ok : newelref11_Check_rs.Ok := ⟨(allCons (rInt_ok .i64) allNil), eNil⟩
def newelref11_Check_run {R : Type} (N : Nat) (args : List SV) (T : Tab) (kf : SV × Tab → Option R) : Option R :=
  newelref11_Check_m N (Cod.dec api_BandC (lget (toCs (lget args 0)))) (fun q0 => kf (lget [.int .i64 q0] 0, []))
def newelref11_Check_d7 {R : Type} (N : Nat) (S0 : St) (k : Exit → St → Option R) : Option R :=
  newelref11_Check_l7 N N (toI (lget S0.tmps 3)) (toI (lget S0.tmps 4)) (Cod.dec api_BandC (lget (entCs (entAt S0.tab 0)))) (fun q0 => k .ret (newelref11_Check_x7_r q0)) (fun (_ : Unit) => k (.exit 0) (newelref11_Check_x7_0 ))
def newelref11_Check_lp {R : Type} (N : Nat) : Lp R := fun body S k => bif (Go.Sx.keyOf body).getD 0 == 7 then (newelref11_Check_L7.head.raw 0 S (fun S0 => newelref11_Check_d7 N S0 k)) else Option.none
theorem newelref11_Check_l7_eq {R : Type} (N : Nat) (k : Exit → St → Option R) (n : Nat) : ∀ (v0 : Int) (v1 : Int) (v2 : api_Band), loopM E.Θ (newelref11_within_cal N) (newelref11_Check_lp N) (noJn) 0 newelref11_Check_L7 (bodyAt E 18 7) n (newelref11_Check_h7 v0 v1 v2) k = newelref11_Check_l7 N n v0 v1 v2 (fun q0 => k .ret (newelref11_Check_x7_r q0)) (fun (_ : Unit) => k (.exit 0) (newelref11_Check_x7_0 )) := by
  induction n with
  | zero => intro v0 v1 v2; rfl
  | succ n ih =>
    intro v0 v1 v2
    refine Eq.trans (b := newelref11_Check_b7 N (fun v0 v1 v2 => loopM E.Θ (newelref11_within_cal N) (newelref11_Check_lp N) (noJn) 0 newelref11_Check_L7 (bodyAt E 18 7) n (newelref11_Check_h7 v0 v1 v2) k) v0 v1 v2 (fun q0 => k .ret (newelref11_Check_x7_r q0)) (fun (_ : Unit) => k (.exit 0) (newelref11_Check_x7_0 ))) (by kernel_rfl) ?_
    have h : (fun (v0 : Int) (v1 : Int) (v2 : api_Band) => loopM E.Θ (newelref11_within_cal N) (newelref11_Check_lp N) (noJn) 0 newelref11_Check_L7 (bodyAt E 18 7) n (newelref11_Check_h7 v0 v1 v2) k) = (fun (v0 : Int) (v1 : Int) (v2 : api_Band) => newelref11_Check_l7 N n v0 v1 v2 (fun q0 => k .ret (newelref11_Check_x7_r q0)) (fun (_ : Unit) => k (.exit 0) (newelref11_Check_x7_0 ))) := funext fun v0 => funext fun v1 => funext fun v2 => ih v0 v1 v2
    rw [h]
    rfl
theorem newelref11_Check_k7 {R : Type} (N : Nat) : LpKey (R := R) E 18 0 (newelref11_Check_lp N) 7 :=
  lpKey_of hE (newelref11_within_cal_ok N) (lp := newelref11_Check_lp N) (jn := noJn) newelref11_Check_L7_ok [] kNil (by kernel_rfl) [] jNil (by kernel_rfl) N fun S k =>
    Eq.trans (b := newelref11_Check_L7.head.raw 0 S (fun S0 => newelref11_Check_d7 N S0 k)) (by kernel_rfl) (congrArg (newelref11_Check_L7.head.raw 0 S) (funext fun S0 => Eq.trans (newelref11_Check_l7_eq N k N (toI (lget S0.tmps 3)) (toI (lget S0.tmps 4)) (Cod.dec api_BandC (lget (entCs (entAt S0.tab 0))))).symm (by kernel_rfl)))
noncomputable def newelref11_Check_go {R : Type} (N : Nat) (args : List SV) (T : Tab) (kf : SV × Tab → Option R) : Option R :=
  newelref11_Check N (Cod.dec api_BandC (lget (toCs (lget args 0)))) (fun q0 => kf (lget [.int .i64 q0] 0, []))
noncomputable def newelref11_Check_cal {R : Type} (N : Nat) : Cal R := callM (newelref11_within_cal N) 18 0 newelref11_Check_sp (newelref11_Check_go N)
theorem newelref11_Check_cal_ok {R : Type} (N : Nat) : CalOk E.P (newelref11_Check_cal (R := R) N) :=
  callM_ok hE (newelref11_within_cal_ok N) (lp := newelref11_Check_lp N) (jn := noJn) (keys := [7]) (kCons (newelref11_Check_k7 N) kNil) (by kernel_rfl) (js := []) jNil (by kernel_rfl) newelref11_Check_sp_ok newelref11_Check_rs_ok (fun args T kf => Eq.trans (newelref11_Check_def N (Cod.dec api_BandC (lget (toCs (lget args 0)))) (fun q0 => kf (lget [.int .i64 q0] 0, []))) (by kernel_rfl : newelref11_Check_run N args T kf = fnM E (newelref11_within_cal N) (newelref11_Check_lp N) (noJn) 18 (newelref11_Check_sp.vs args) (newelref11_Check_sp.tab T) 0 (resK newelref11_Check_rs kf)))
def newellaw11_Far_m {R : Type} (N : Nat) (a427 : api_Band) (k : Bool → Option R) : Option R :=
  k (decide ((↑(Arr.n (api_Band.Paces a427)) : Int) > (10 : Int)))
noncomputable def newellaw11_Far {R : Type} : Nat → api_Band → (Bool → Option R) → Option R := lock (@newellaw11_Far_m R)
theorem newellaw11_Far_def {R : Type} (N : Nat) (a427 : api_Band) (k : Bool → Option R) : newellaw11_Far N a427 k = newellaw11_Far_m N a427 k := by unfold newellaw11_Far; rw [lock_eq]
def newellaw11_Far_sp : Sp := ⟨[rAgg api_BandC], []⟩
theorem newellaw11_Far_sp_ok : newellaw11_Far_sp.Ok := ⟨(allCons (rAgg_ok api_BandC_ok api_BandC_len) allNil), eNil⟩
def newellaw11_Far_rs : Sp := ⟨[rBool], []⟩
theorem newellaw11_Far_rs_ok : newellaw11_Far_rs.Ok := ⟨(allCons rBool_ok allNil), eNil⟩
def newellaw11_Far_run {R : Type} (N : Nat) (args : List SV) (T : Tab) (kf : SV × Tab → Option R) : Option R :=
  newellaw11_Far_m N (Cod.dec api_BandC (lget (toCs (lget args 0)))) (fun q0 => kf (lget [.bool q0] 0, []))
def newellaw11_Far_lp {R : Type} (N : Nat) : Lp R := fun body S k => Option.none
noncomputable def newellaw11_Far_go {R : Type} (N : Nat) (args : List SV) (T : Tab) (kf : SV × Tab → Option R) : Option R :=
  newellaw11_Far N (Cod.dec api_BandC (lget (toCs (lget args 0)))) (fun q0 => kf (lget [.bool q0] 0, []))
noncomputable def newellaw11_Far_cal {R : Type} (N : Nat) : Cal R := callM (newelref11_Check_cal N) 17 0 newellaw11_Far_sp (newellaw11_Far_go N)
theorem newellaw11_Far_cal_ok {R : Type} (N : Nat) : CalOk E.P (newellaw11_Far_cal (R := R) N) :=
  callM_ok hE (newelref11_Check_cal_ok N) (lp := newellaw11_Far_lp N) (jn := noJn) (keys := []) kNil (by kernel_rfl) (js := []) jNil (by kernel_rfl) newellaw11_Far_sp_ok newellaw11_Far_rs_ok (fun args T kf => Eq.trans (newellaw11_Far_def N (Cod.dec api_BandC (lget (toCs (lget args 0)))) (fun q0 => kf (lget [.bool q0] 0, []))) (by kernel_rfl : newellaw11_Far_run N args T kf = fnM E (newelref11_Check_cal N) (newellaw11_Far_lp N) (noJn) 17 (newellaw11_Far_sp.vs args) (newellaw11_Far_sp.tab T) 0 (resK newellaw11_Far_rs kf)))
def newelref11_Pace_L2 : LoopSp := ⟨⟨[1, 2, 5], ⟨(dr 1 ((rInt .i64) :: (rPtr 0 0) :: (dr 2 ((rInt .i64) :: (dr 14 []))))), [(0, eBlkC api_BandC)]⟩, 1⟩, [(Option.none, ⟨[4], ⟨(dr 4 ((rBool) :: (dr 15 []))), []⟩, 0⟩), (some 0, ⟨[], ⟨(dr 20 []), []⟩, 0⟩)]⟩
theorem newelref11_Pace_L2_ok : newelref11_Pace_L2.Ok := ⟨⟨(drCons 1 (allCons (rInt_ok .i64) (allCons (rPtr_ok 0 0) (drCons 2 (allCons (rInt_ok .i64) (drCons 14 allNil)))))), (eCons (eBlkC_ok api_BandC_ok api_BandC_len) eNil)⟩, (xCons ⟨(drCons 4 (allCons rBool_ok (drCons 15 allNil))), eNil⟩ (xCons ⟨(drCons 20 allNil), eNil⟩ xNil))⟩
def newelref11_Pace_h2 (v430 : Int) (v431 : Int) (v432 : api_Band) : St := ⟨(un 1 ((.int .i64 v430) :: (.ptr 0 0) :: (un 2 ((.int .i64 v431) :: (un 14 []))))), [(0, .blk (Cod.enc api_BandC v432))], 1⟩
def newelref11_Pace_x2_r (q0 : Bool) : St := ⟨(un 4 ((.bool q0) :: (un 15 []))), [], 0⟩
def newelref11_Pace_x2_0  : St := ⟨(un 20 []), [], 0⟩
def newelref11_Pace_b2 {R : Type} (N : Nat) (rc : Int → Int → api_Band → Option R) (v430 : Int) (v431 : Int) (v432 : api_Band) (kr : Bool → Option R) (k0 : Unit → Option R) : Option R :=
  bif decide (v431 < (↑(Arr.n (api_Band.Paces v432)) : Int)) then
   bif decide ((0 : Int) ≤ v431) && decide (v431 < (↑(Arr.n (api_Band.Paces v432)) : Int)) then
    bif Arr.f (api_Band.Paces v432) (Int.toNat v431) == v430 then
     kr true
    else
     rc v430 (w64 (v431 + (1 : Int))) v432
   else
    Option.none
  else
   k0 ()
def newelref11_Pace_l2 {R : Type} (N : Nat) : Nat → Int → Int → api_Band → (Bool → Option R) → (Unit → Option R) → Option R
  | 0, _, _, _, _, _ => Option.none
  | n + 1, v430, v431, v432, kr, k0 => newelref11_Pace_b2 N (fun v430 v431 v432 => newelref11_Pace_l2 N n v430 v431 v432 kr k0) v430 v431 v432 kr k0
def newelref11_Pace_m {R : Type} (N : Nat) (a428 : api_Band) (a429 : Int) (k : Bool → Option R) : Option R :=
  newelref11_Pace_l2 N N a429 (0 : Int) a428 (fun r433 =>
   k r433) (fun (_ : Unit) =>
   k false)
noncomputable def newelref11_Pace {R : Type} : Nat → api_Band → Int → (Bool → Option R) → Option R := lock (@newelref11_Pace_m R)
theorem newelref11_Pace_def {R : Type} (N : Nat) (a428 : api_Band) (a429 : Int) (k : Bool → Option R) : newelref11_Pace N a428 a429 k = newelref11_Pace_m N a428 a429 k := by unfold newelref11_Pace; rw [lock_eq]
def newelref11_Pace_sp : Sp := ⟨[rAgg api_BandC, rInt .i64], []⟩
theorem newelref11_Pace_sp_ok : newelref11_Pace_sp.Ok := ⟨(allCons (rAgg_ok api_BandC_ok api_BandC_len) (allCons (rInt_ok .i64) allNil)), eNil⟩
def newelref11_Pace_rs : Sp := ⟨[rBool], []⟩
theorem newelref11_Pace_rs_ok : newelref11_Pace_rs.Ok := ⟨(allCons rBool_ok allNil), eNil⟩
def newelref11_Pace_run {R : Type} (N : Nat) (args : List SV) (T : Tab) (kf : SV × Tab → Option R) : Option R :=
  newelref11_Pace_m N (Cod.dec api_BandC (lget (toCs (lget args 0)))) (toI (lget args 1)) (fun q0 => kf (lget [.bool q0] 0, []))
def newelref11_Pace_d2 {R : Type} (N : Nat) (S0 : St) (k : Exit → St → Option R) : Option R :=
  newelref11_Pace_l2 N N (toI (lget S0.tmps 1)) (toI (lget S0.tmps 5)) (Cod.dec api_BandC (lget (entCs (entAt S0.tab 0)))) (fun q0 => k .ret (newelref11_Pace_x2_r q0)) (fun (_ : Unit) => k (.exit 0) (newelref11_Pace_x2_0 ))
def newelref11_Pace_lp {R : Type} (N : Nat) : Lp R := fun body S k => bif (Go.Sx.keyOf body).getD 0 == 2 then (newelref11_Pace_L2.head.raw 0 S (fun S0 => newelref11_Pace_d2 N S0 k)) else Option.none
theorem newelref11_Pace_l2_eq {R : Type} (N : Nat) (k : Exit → St → Option R) (n : Nat) : ∀ (v0 : Int) (v1 : Int) (v2 : api_Band), loopM E.Θ (newellaw11_Far_cal N) (newelref11_Pace_lp N) (noJn) 0 newelref11_Pace_L2 (bodyAt E 19 2) n (newelref11_Pace_h2 v0 v1 v2) k = newelref11_Pace_l2 N n v0 v1 v2 (fun q0 => k .ret (newelref11_Pace_x2_r q0)) (fun (_ : Unit) => k (.exit 0) (newelref11_Pace_x2_0 )) := by
  induction n with
  | zero => intro v0 v1 v2; rfl
  | succ n ih =>
    intro v0 v1 v2
    refine Eq.trans (b := newelref11_Pace_b2 N (fun v0 v1 v2 => loopM E.Θ (newellaw11_Far_cal N) (newelref11_Pace_lp N) (noJn) 0 newelref11_Pace_L2 (bodyAt E 19 2) n (newelref11_Pace_h2 v0 v1 v2) k) v0 v1 v2 (fun q0 => k .ret (newelref11_Pace_x2_r q0)) (fun (_ : Unit) => k (.exit 0) (newelref11_Pace_x2_0 ))) (by kernel_rfl) ?_
    have h : (fun (v0 : Int) (v1 : Int) (v2 : api_Band) => loopM E.Θ (newellaw11_Far_cal N) (newelref11_Pace_lp N) (noJn) 0 newelref11_Pace_L2 (bodyAt E 19 2) n (newelref11_Pace_h2 v0 v1 v2) k) = (fun (v0 : Int) (v1 : Int) (v2 : api_Band) => newelref11_Pace_l2 N n v0 v1 v2 (fun q0 => k .ret (newelref11_Pace_x2_r q0)) (fun (_ : Unit) => k (.exit 0) (newelref11_Pace_x2_0 ))) := funext fun v0 => funext fun v1 => funext fun v2 => ih v0 v1 v2
    rw [h]
    rfl
theorem newelref11_Pace_k2 {R : Type} (N : Nat) : LpKey (R := R) E 19 0 (newelref11_Pace_lp N) 2 :=
  lpKey_of hE (newellaw11_Far_cal_ok N) (lp := newelref11_Pace_lp N) (jn := noJn) newelref11_Pace_L2_ok [] kNil (by kernel_rfl) [] jNil (by kernel_rfl) N fun S k =>
    Eq.trans (b := newelref11_Pace_L2.head.raw 0 S (fun S0 => newelref11_Pace_d2 N S0 k)) (by kernel_rfl) (congrArg (newelref11_Pace_L2.head.raw 0 S) (funext fun S0 => Eq.trans (newelref11_Pace_l2_eq N k N (toI (lget S0.tmps 1)) (toI (lget S0.tmps 5)) (Cod.dec api_BandC (lget (entCs (entAt S0.tab 0))))).symm (by kernel_rfl)))
noncomputable def newelref11_Pace_go {R : Type} (N : Nat) (args : List SV) (T : Tab) (kf : SV × Tab → Option R) : Option R :=
  newelref11_Pace N (Cod.dec api_BandC (lget (toCs (lget args 0)))) (toI (lget args 1)) (fun q0 => kf (lget [.bool q0] 0, []))
noncomputable def newelref11_Pace_cal {R : Type} (N : Nat) : Cal R := callM (newellaw11_Far_cal N) 19 0 newelref11_Pace_sp (newelref11_Pace_go N)
theorem newelref11_Pace_cal_ok {R : Type} (N : Nat) : CalOk E.P (newelref11_Pace_cal (R := R) N) :=
  callM_ok hE (newellaw11_Far_cal_ok N) (lp := newelref11_Pace_lp N) (jn := noJn) (keys := [2]) (kCons (newelref11_Pace_k2 N) kNil) (by kernel_rfl) (js := []) jNil (by kernel_rfl) newelref11_Pace_sp_ok newelref11_Pace_rs_ok (fun args T kf => Eq.trans (newelref11_Pace_def N (Cod.dec api_BandC (lget (toCs (lget args 0)))) (toI (lget args 1)) (fun q0 => kf (lget [.bool q0] 0, []))) (by kernel_rfl : newelref11_Pace_run N args T kf = fnM E (newellaw11_Far_cal N) (newelref11_Pace_lp N) (noJn) 19 (newelref11_Pace_sp.vs args) (newelref11_Pace_sp.tab T) 0 (resK newelref11_Pace_rs kf)))
def energy_from0_m {R : Type} (N : Nat) (a434 : Int) (a435 : Int) (k : Bool → Option R) : Option R :=
  bif decide (a434 ≥ (0 : Int)) then
   k (decide (a434 ≤ a435))
  else
   k false
noncomputable def energy_from0 {R : Type} : Nat → Int → Int → (Bool → Option R) → Option R := lock (@energy_from0_m R)
theorem energy_from0_def {R : Type} (N : Nat) (a434 : Int) (a435 : Int) (k : Bool → Option R) : energy_from0 N a434 a435 k = energy_from0_m N a434 a435 k := by unfold energy_from0; rw [lock_eq]
def energy_from0_sp : Sp := ⟨[rInt .i64, rInt .i64], []⟩
theorem energy_from0_sp_ok : energy_from0_sp.Ok := ⟨(allCons (rInt_ok .i64) (allCons (rInt_ok .i64) allNil)), eNil⟩
def energy_from0_rs : Sp := ⟨[rBool], []⟩
theorem energy_from0_rs_ok : energy_from0_rs.Ok := ⟨(allCons rBool_ok allNil), eNil⟩
def energy_from0_run {R : Type} (N : Nat) (args : List SV) (T : Tab) (kf : SV × Tab → Option R) : Option R :=
  energy_from0_m N (toI (lget args 0)) (toI (lget args 1)) (fun q0 => kf (lget [.bool q0] 0, []))
def energy_from0_lp {R : Type} (N : Nat) : Lp R := fun body S k => Option.none
noncomputable def energy_from0_go {R : Type} (N : Nat) (args : List SV) (T : Tab) (kf : SV × Tab → Option R) : Option R :=
  energy_from0 N (toI (lget args 0)) (toI (lget args 1)) (fun q0 => kf (lget [.bool q0] 0, []))
noncomputable def energy_from0_cal {R : Type} (N : Nat) : Cal R := callM (newelref11_Pace_cal N) 70 0 energy_from0_sp (energy_from0_go N)
theorem energy_from0_cal_ok {R : Type} (N : Nat) : CalOk E.P (energy_from0_cal (R := R) N) :=
  callM_ok hE (newelref11_Pace_cal_ok N) (lp := energy_from0_lp N) (jn := noJn) (keys := []) kNil (by kernel_rfl) (js := []) jNil (by kernel_rfl) energy_from0_sp_ok energy_from0_rs_ok (fun args T kf => Eq.trans (energy_from0_def N (toI (lget args 0)) (toI (lget args 1)) (fun q0 => kf (lget [.bool q0] 0, []))) (by kernel_rfl : energy_from0_run N args T kf = fnM E (newelref11_Pace_cal N) (energy_from0_lp N) (noJn) 70 (energy_from0_sp.vs args) (energy_from0_sp.tab T) 0 (resK energy_from0_rs kf)))
def energy_Check_L7 : LoopSp := ⟨⟨[3, 67, 68, 69], ⟨(dr 3 ((rInt .i64) :: (dr 63 ((rSl intC) :: (rInt .i64) :: (rInt .i64) :: (dr 12 []))))), []⟩, 0⟩, [(Option.none, ⟨[2], ⟨(dr 2 ((rInt .i64) :: (dr 79 []))), []⟩, 0⟩), (some 0, ⟨[], ⟨(dr 82 []), []⟩, 0⟩)]⟩
theorem energy_Check_L7_ok : energy_Check_L7.Ok := ⟨⟨(drCons 3 (allCons (rInt_ok .i64) (drCons 63 (allCons (rSl_ok intC_ok) (allCons (rInt_ok .i64) (allCons (rInt_ok .i64) (drCons 12 allNil))))))), eNil⟩, (xCons ⟨(drCons 2 (allCons (rInt_ok .i64) (drCons 79 allNil))), eNil⟩ (xCons ⟨(drCons 82 allNil), eNil⟩ xNil))⟩
def energy_Check_h7 (v442 : Int) (v443 : Arr Int) (v444 : Int) (v445 : Int) : St := ⟨(un 3 ((.int .i64 v442) :: (un 63 ((slC intC v443) :: (.int .i64 v444) :: (.int .i64 v445) :: (un 12 []))))), [], 0⟩
def energy_Check_x7_r (q0 : Int) : St := ⟨(un 2 ((.int .i64 q0) :: (un 79 []))), [], 0⟩
def energy_Check_x7_0  : St := ⟨(un 82 []), [], 0⟩
def energy_Check_b7 {R : Type} (N : Nat) (rc : Int → Arr Int → Int → Int → Option R) (v442 : Int) (v443 : Arr Int) (v444 : Int) (v445 : Int) (kr : Int → Option R) (k0 : Unit → Option R) : Option R :=
  bif decide (v445 < v444) then
   bif decide ((0 : Int) ≤ v445) && decide (v445 < (↑(Arr.n v443) : Int)) then
    bif decide (Arr.f v443 (Int.toNat v445) ≤ v442) then
     kr (110 : Int)
    else
     bif decide (Arr.f v443 (Int.toNat v445) > (100 : Int)) then
      kr (110 : Int)
     else
      rc (Arr.f v443 (Int.toNat v445)) v443 v444 (w64 (v445 + (1 : Int)))
   else
    Option.none
  else
   k0 ()
def energy_Check_l7 {R : Type} (N : Nat) : Nat → Int → Arr Int → Int → Int → (Int → Option R) → (Unit → Option R) → Option R
  | 0, _, _, _, _, _, _ => Option.none
  | n + 1, v442, v443, v444, v445, kr, k0 => energy_Check_b7 N (fun v442 v443 v444 v445 => energy_Check_l7 N n v442 v443 v444 v445 kr k0) v442 v443 v444 v445 kr k0
def energy_Check_m {R : Type} (N : Nat) (a436 : api_Band) (k : Int → Option R) : Option R :=
  energy_from0 N (api_Band.Pull a436) (100 : Int) (fun r437 =>
  bif !r437 then
   k (110 : Int)
  else
   energy_from0 N (api_Band.Drag a436) (1000000 : Int) (fun r438 =>
   bif !r438 then
    k (110 : Int)
   else
    energy_from0 N (api_Band.Body a436) (100 : Int) (fun r439 =>
    bif !r439 then
     k (110 : Int)
    else
     bif decide (api_Band.Ride a436 < (1 : Int)) then
      k (110 : Int)
     else
      bif decide (api_Band.Ride a436 > (1000 : Int)) then
       k (110 : Int)
      else
       energy_from0 N (api_Band.Most a436) (100000000 : Int) (fun r440 =>
       bif !r440 then
        k (110 : Int)
       else
        bif decide (api_Band.Den a436 < (1 : Int)) then
         k (110 : Int)
        else
         bif decide (api_Band.Den a436 > (100 : Int)) then
          k (110 : Int)
         else
          energy_from0 N (api_Band.Num a436) (api_Band.Den a436) (fun r441 =>
          bif !r441 then
           k (110 : Int)
          else
           bif decide ((↑(Arr.n (api_Band.Paces a436)) : Int) < (1 : Int)) then
            k (110 : Int)
           else
            bif decide ((↑(Arr.n (api_Band.Paces a436)) : Int) > (3 : Int)) then
             k (110 : Int)
            else
             energy_Check_l7 N N (0 : Int) (api_Band.Paces a436) ((↑(Arr.n (api_Band.Paces a436)) : Int)) (0 : Int) (fun r446 =>
              k r446) (fun (_ : Unit) =>
              k (0 : Int)))))))
noncomputable def energy_Check {R : Type} : Nat → api_Band → (Int → Option R) → Option R := lock (@energy_Check_m R)
theorem energy_Check_def {R : Type} (N : Nat) (a436 : api_Band) (k : Int → Option R) : energy_Check N a436 k = energy_Check_m N a436 k := by unfold energy_Check; rw [lock_eq]
def energy_Check_sp : Sp := ⟨[rAgg api_BandC], []⟩
theorem energy_Check_sp_ok : energy_Check_sp.Ok := ⟨(allCons (rAgg_ok api_BandC_ok api_BandC_len) allNil), eNil⟩
def energy_Check_rs : Sp := ⟨[rInt .i64], []⟩
theorem energy_Check_rs_ok : energy_Check_rs.Ok := ⟨(allCons (rInt_ok .i64) allNil), eNil⟩
def energy_Check_run {R : Type} (N : Nat) (args : List SV) (T : Tab) (kf : SV × Tab → Option R) : Option R :=
  energy_Check_m N (Cod.dec api_BandC (lget (toCs (lget args 0)))) (fun q0 => kf (lget [.int .i64 q0] 0, []))
def energy_Check_d7 {R : Type} (N : Nat) (S0 : St) (k : Exit → St → Option R) : Option R :=
  energy_Check_l7 N N (toI (lget S0.tmps 3)) (lstC intC (lget S0.tmps 67)) (toI (lget S0.tmps 68)) (toI (lget S0.tmps 69)) (fun q0 => k .ret (energy_Check_x7_r q0)) (fun (_ : Unit) => k (.exit 0) (energy_Check_x7_0 ))
def energy_Check_lp {R : Type} (N : Nat) : Lp R := fun body S k => bif (Go.Sx.keyOf body).getD 0 == 7 then (energy_Check_L7.head.raw 0 S (fun S0 => energy_Check_d7 N S0 k)) else Option.none
theorem energy_Check_l7_eq {R : Type} (N : Nat) (k : Exit → St → Option R) (n : Nat) : ∀ (v0 : Int) (v1 : Arr Int) (v2 : Int) (v3 : Int), loopM E.Θ (energy_from0_cal N) (energy_Check_lp N) (noJn) 0 energy_Check_L7 (bodyAt E 69 7) n (energy_Check_h7 v0 v1 v2 v3) k = energy_Check_l7 N n v0 v1 v2 v3 (fun q0 => k .ret (energy_Check_x7_r q0)) (fun (_ : Unit) => k (.exit 0) (energy_Check_x7_0 )) := by
  induction n with
  | zero => intro v0 v1 v2 v3; rfl
  | succ n ih =>
    intro v0 v1 v2 v3
    refine Eq.trans (b := energy_Check_b7 N (fun v0 v1 v2 v3 => loopM E.Θ (energy_from0_cal N) (energy_Check_lp N) (noJn) 0 energy_Check_L7 (bodyAt E 69 7) n (energy_Check_h7 v0 v1 v2 v3) k) v0 v1 v2 v3 (fun q0 => k .ret (energy_Check_x7_r q0)) (fun (_ : Unit) => k (.exit 0) (energy_Check_x7_0 ))) (by kernel_rfl) ?_
    have h : (fun (v0 : Int) (v1 : Arr Int) (v2 : Int) (v3 : Int) => loopM E.Θ (energy_from0_cal N) (energy_Check_lp N) (noJn) 0 energy_Check_L7 (bodyAt E 69 7) n (energy_Check_h7 v0 v1 v2 v3) k) = (fun (v0 : Int) (v1 : Arr Int) (v2 : Int) (v3 : Int) => energy_Check_l7 N n v0 v1 v2 v3 (fun q0 => k .ret (energy_Check_x7_r q0)) (fun (_ : Unit) => k (.exit 0) (energy_Check_x7_0 ))) := funext fun v0 => funext fun v1 => funext fun v2 => funext fun v3 => ih v0 v1 v2 v3
    rw [h]
    rfl
theorem energy_Check_k7 {R : Type} (N : Nat) : LpKey (R := R) E 69 0 (energy_Check_lp N) 7 :=
  lpKey_of hE (energy_from0_cal_ok N) (lp := energy_Check_lp N) (jn := noJn) energy_Check_L7_ok [] kNil (by kernel_rfl) [] jNil (by kernel_rfl) N fun S k =>
    Eq.trans (b := energy_Check_L7.head.raw 0 S (fun S0 => energy_Check_d7 N S0 k)) (by kernel_rfl) (congrArg (energy_Check_L7.head.raw 0 S) (funext fun S0 => Eq.trans (energy_Check_l7_eq N k N (toI (lget S0.tmps 3)) (lstC intC (lget S0.tmps 67)) (toI (lget S0.tmps 68)) (toI (lget S0.tmps 69))).symm (by kernel_rfl)))
noncomputable def energy_Check_go {R : Type} (N : Nat) (args : List SV) (T : Tab) (kf : SV × Tab → Option R) : Option R :=
  energy_Check N (Cod.dec api_BandC (lget (toCs (lget args 0)))) (fun q0 => kf (lget [.int .i64 q0] 0, []))
noncomputable def energy_Check_cal {R : Type} (N : Nat) : Cal R := callM (energy_from0_cal N) 69 0 energy_Check_sp (energy_Check_go N)
theorem energy_Check_cal_ok {R : Type} (N : Nat) : CalOk E.P (energy_Check_cal (R := R) N) :=
  callM_ok hE (energy_from0_cal_ok N) (lp := energy_Check_lp N) (jn := noJn) (keys := [7]) (kCons (energy_Check_k7 N) kNil) (by kernel_rfl) (js := []) jNil (by kernel_rfl) energy_Check_sp_ok energy_Check_rs_ok (fun args T kf => Eq.trans (energy_Check_def N (Cod.dec api_BandC (lget (toCs (lget args 0)))) (fun q0 => kf (lget [.int .i64 q0] 0, []))) (by kernel_rfl : energy_Check_run N args T kf = fnM E (energy_from0_cal N) (energy_Check_lp N) (noJn) 69 (energy_Check_sp.vs args) (energy_Check_sp.tab T) 0 (resK energy_Check_rs kf)))
def slices_Index___int_int__L2 : LoopSp := ⟨⟨[0, 1, 7, 8], ⟨((rSl intC) :: (rInt .i64) :: (dr 5 ((rInt .i64) :: (rInt .i64) :: (dr 10 [])))), []⟩, 0⟩, [(Option.none, ⟨[4], ⟨(dr 4 ((rInt .i64) :: (dr 14 []))), []⟩, 0⟩), (some 0, ⟨[], ⟨(dr 19 []), []⟩, 0⟩)]⟩
theorem slices_Index___int_int__L2_ok : slices_Index___int_int__L2.Ok := ⟨⟨(allCons (rSl_ok intC_ok) (allCons (rInt_ok .i64) (drCons 5 (allCons (rInt_ok .i64) (allCons (rInt_ok .i64) (drCons 10 allNil)))))), eNil⟩, (xCons ⟨(drCons 4 (allCons (rInt_ok .i64) (drCons 14 allNil))), eNil⟩ (xCons ⟨(drCons 19 allNil), eNil⟩ xNil))⟩
def slices_Index___int_int__h2 (v455 : Arr Int) (v456 : Int) (v457 : Int) (v458 : Int) : St := ⟨((slC intC v455) :: (.int .i64 v456) :: (un 5 ((.int .i64 v457) :: (.int .i64 v458) :: (un 10 [])))), [], 0⟩
def slices_Index___int_int__x2_r (q0 : Int) : St := ⟨(un 4 ((.int .i64 q0) :: (un 14 []))), [], 0⟩
def slices_Index___int_int__x2_0  : St := ⟨(un 19 []), [], 0⟩
def slices_Index___int_int__b2 {R : Type} (N : Nat) (rc : Arr Int → Int → Int → Int → Option R) (v455 : Arr Int) (v456 : Int) (v457 : Int) (v458 : Int) (kr : Int → Option R) (k0 : Unit → Option R) : Option R :=
  bif decide (v458 < v457) then
   bif decide ((0 : Int) ≤ v458) && decide (v458 < (↑(Arr.n v455) : Int)) then
    bif v456 == Arr.f v455 (Int.toNat v458) then
     kr v458
    else
     rc v455 v456 v457 (w64 (v458 + (1 : Int)))
   else
    Option.none
  else
   k0 ()
def slices_Index___int_int__l2 {R : Type} (N : Nat) : Nat → Arr Int → Int → Int → Int → (Int → Option R) → (Unit → Option R) → Option R
  | 0, _, _, _, _, _, _ => Option.none
  | n + 1, v455, v456, v457, v458, kr, k0 => slices_Index___int_int__b2 N (fun v455 v456 v457 v458 => slices_Index___int_int__l2 N n v455 v456 v457 v458 kr k0) v455 v456 v457 v458 kr k0
def slices_Index___int_int__m {R : Type} (N : Nat) (a453 : Arr Int) (a454 : Int) (k : Int → Option R) : Option R :=
  slices_Index___int_int__l2 N N a453 a454 ((↑(Arr.n a453) : Int)) (0 : Int) (fun r459 =>
   k r459) (fun (_ : Unit) =>
   k (-1 : Int))
noncomputable def slices_Index___int_int_ {R : Type} : Nat → Arr Int → Int → (Int → Option R) → Option R := lock (@slices_Index___int_int__m R)
theorem slices_Index___int_int__def {R : Type} (N : Nat) (a453 : Arr Int) (a454 : Int) (k : Int → Option R) : slices_Index___int_int_ N a453 a454 k = slices_Index___int_int__m N a453 a454 k := by unfold slices_Index___int_int_; rw [lock_eq]
def slices_Index___int_int__sp : Sp := ⟨[rSl intC, rInt .i64], []⟩
theorem slices_Index___int_int__sp_ok : slices_Index___int_int__sp.Ok := ⟨(allCons (rSl_ok intC_ok) (allCons (rInt_ok .i64) allNil)), eNil⟩
def slices_Index___int_int__rs : Sp := ⟨[rInt .i64], []⟩
theorem slices_Index___int_int__rs_ok : slices_Index___int_int__rs.Ok := ⟨(allCons (rInt_ok .i64) allNil), eNil⟩
def slices_Index___int_int__run {R : Type} (N : Nat) (args : List SV) (T : Tab) (kf : SV × Tab → Option R) : Option R :=
  slices_Index___int_int__m N (lstC intC (lget args 0)) (toI (lget args 1)) (fun q0 => kf (lget [.int .i64 q0] 0, []))
def slices_Index___int_int__d2 {R : Type} (N : Nat) (S0 : St) (k : Exit → St → Option R) : Option R :=
  slices_Index___int_int__l2 N N (lstC intC (lget S0.tmps 0)) (toI (lget S0.tmps 1)) (toI (lget S0.tmps 7)) (toI (lget S0.tmps 8)) (fun q0 => k .ret (slices_Index___int_int__x2_r q0)) (fun (_ : Unit) => k (.exit 0) (slices_Index___int_int__x2_0 ))
def slices_Index___int_int__lp {R : Type} (N : Nat) : Lp R := fun body S k => bif (Go.Sx.keyOf body).getD 0 == 2 then (slices_Index___int_int__L2.head.raw 0 S (fun S0 => slices_Index___int_int__d2 N S0 k)) else Option.none
theorem slices_Index___int_int__l2_eq {R : Type} (N : Nat) (k : Exit → St → Option R) (n : Nat) : ∀ (v0 : Arr Int) (v1 : Int) (v2 : Int) (v3 : Int), loopM E.Θ (energy_Check_cal N) (slices_Index___int_int__lp N) (noJn) 0 slices_Index___int_int__L2 (bodyAt E 74 2) n (slices_Index___int_int__h2 v0 v1 v2 v3) k = slices_Index___int_int__l2 N n v0 v1 v2 v3 (fun q0 => k .ret (slices_Index___int_int__x2_r q0)) (fun (_ : Unit) => k (.exit 0) (slices_Index___int_int__x2_0 )) := by
  induction n with
  | zero => intro v0 v1 v2 v3; rfl
  | succ n ih =>
    intro v0 v1 v2 v3
    refine Eq.trans (b := slices_Index___int_int__b2 N (fun v0 v1 v2 v3 => loopM E.Θ (energy_Check_cal N) (slices_Index___int_int__lp N) (noJn) 0 slices_Index___int_int__L2 (bodyAt E 74 2) n (slices_Index___int_int__h2 v0 v1 v2 v3) k) v0 v1 v2 v3 (fun q0 => k .ret (slices_Index___int_int__x2_r q0)) (fun (_ : Unit) => k (.exit 0) (slices_Index___int_int__x2_0 ))) (by kernel_rfl) ?_
    have h : (fun (v0 : Arr Int) (v1 : Int) (v2 : Int) (v3 : Int) => loopM E.Θ (energy_Check_cal N) (slices_Index___int_int__lp N) (noJn) 0 slices_Index___int_int__L2 (bodyAt E 74 2) n (slices_Index___int_int__h2 v0 v1 v2 v3) k) = (fun (v0 : Arr Int) (v1 : Int) (v2 : Int) (v3 : Int) => slices_Index___int_int__l2 N n v0 v1 v2 v3 (fun q0 => k .ret (slices_Index___int_int__x2_r q0)) (fun (_ : Unit) => k (.exit 0) (slices_Index___int_int__x2_0 ))) := funext fun v0 => funext fun v1 => funext fun v2 => funext fun v3 => ih v0 v1 v2 v3
    rw [h]
    rfl
theorem slices_Index___int_int__k2 {R : Type} (N : Nat) : LpKey (R := R) E 74 0 (slices_Index___int_int__lp N) 2 :=
  lpKey_of hE (energy_Check_cal_ok N) (lp := slices_Index___int_int__lp N) (jn := noJn) slices_Index___int_int__L2_ok [] kNil (by kernel_rfl) [] jNil (by kernel_rfl) N fun S k =>
    Eq.trans (b := slices_Index___int_int__L2.head.raw 0 S (fun S0 => slices_Index___int_int__d2 N S0 k)) (by kernel_rfl) (congrArg (slices_Index___int_int__L2.head.raw 0 S) (funext fun S0 => Eq.trans (slices_Index___int_int__l2_eq N k N (lstC intC (lget S0.tmps 0)) (toI (lget S0.tmps 1)) (toI (lget S0.tmps 7)) (toI (lget S0.tmps 8))).symm (by kernel_rfl)))
noncomputable def slices_Index___int_int__go {R : Type} (N : Nat) (args : List SV) (T : Tab) (kf : SV × Tab → Option R) : Option R :=
  slices_Index___int_int_ N (lstC intC (lget args 0)) (toI (lget args 1)) (fun q0 => kf (lget [.int .i64 q0] 0, []))
noncomputable def slices_Index___int_int__cal {R : Type} (N : Nat) : Cal R := callM (energy_Check_cal N) 74 0 slices_Index___int_int__sp (slices_Index___int_int__go N)
theorem slices_Index___int_int__cal_ok {R : Type} (N : Nat) : CalOk E.P (slices_Index___int_int__cal (R := R) N) :=
  callM_ok hE (energy_Check_cal_ok N) (lp := slices_Index___int_int__lp N) (jn := noJn) (keys := [2]) (kCons (slices_Index___int_int__k2 N) kNil) (by kernel_rfl) (js := []) jNil (by kernel_rfl) slices_Index___int_int__sp_ok slices_Index___int_int__rs_ok (fun args T kf => Eq.trans (slices_Index___int_int__def N (lstC intC (lget args 0)) (toI (lget args 1)) (fun q0 => kf (lget [.int .i64 q0] 0, []))) (by kernel_rfl : slices_Index___int_int__run N args T kf = fnM E (energy_Check_cal N) (slices_Index___int_int__lp N) (noJn) 74 (slices_Index___int_int__sp.vs args) (slices_Index___int_int__sp.tab T) 0 (resK slices_Index___int_int__rs kf)))
def slices_Contains___int_int__m {R : Type} (N : Nat) (a451 : Arr Int) (a452 : Int) (k : Bool → Option R) : Option R :=
  slices_Index___int_int_ N a451 a452 (fun r460 =>
  k (decide (r460 ≥ (0 : Int))))
noncomputable def slices_Contains___int_int_ {R : Type} : Nat → Arr Int → Int → (Bool → Option R) → Option R := lock (@slices_Contains___int_int__m R)
theorem slices_Contains___int_int__def {R : Type} (N : Nat) (a451 : Arr Int) (a452 : Int) (k : Bool → Option R) : slices_Contains___int_int_ N a451 a452 k = slices_Contains___int_int__m N a451 a452 k := by unfold slices_Contains___int_int_; rw [lock_eq]
def slices_Contains___int_int__sp : Sp := ⟨[rSl intC, rInt .i64], []⟩
theorem slices_Contains___int_int__sp_ok : slices_Contains___int_int__sp.Ok := ⟨(allCons (rSl_ok intC_ok) (allCons (rInt_ok .i64) allNil)), eNil⟩
def slices_Contains___int_int__rs : Sp := ⟨[rBool], []⟩
theorem slices_Contains___int_int__rs_ok : slices_Contains___int_int__rs.Ok := ⟨(allCons rBool_ok allNil), eNil⟩
def slices_Contains___int_int__run {R : Type} (N : Nat) (args : List SV) (T : Tab) (kf : SV × Tab → Option R) : Option R :=
  slices_Contains___int_int__m N (lstC intC (lget args 0)) (toI (lget args 1)) (fun q0 => kf (lget [.bool q0] 0, []))
def slices_Contains___int_int__lp {R : Type} (N : Nat) : Lp R := fun body S k => Option.none
noncomputable def slices_Contains___int_int__go {R : Type} (N : Nat) (args : List SV) (T : Tab) (kf : SV × Tab → Option R) : Option R :=
  slices_Contains___int_int_ N (lstC intC (lget args 0)) (toI (lget args 1)) (fun q0 => kf (lget [.bool q0] 0, []))
noncomputable def slices_Contains___int_int__cal {R : Type} (N : Nat) : Cal R := callM (slices_Index___int_int__cal N) 54 0 slices_Contains___int_int__sp (slices_Contains___int_int__go N)
theorem slices_Contains___int_int__cal_ok {R : Type} (N : Nat) : CalOk E.P (slices_Contains___int_int__cal (R := R) N) :=
  callM_ok hE (slices_Index___int_int__cal_ok N) (lp := slices_Contains___int_int__lp N) (jn := noJn) (keys := []) kNil (by kernel_rfl) (js := []) jNil (by kernel_rfl) slices_Contains___int_int__sp_ok slices_Contains___int_int__rs_ok (fun args T kf => Eq.trans (slices_Contains___int_int__def N (lstC intC (lget args 0)) (toI (lget args 1)) (fun q0 => kf (lget [.bool q0] 0, []))) (by kernel_rfl : slices_Contains___int_int__run N args T kf = fnM E (slices_Index___int_int__cal N) (slices_Contains___int_int__lp N) (noJn) 54 (slices_Contains___int_int__sp.vs args) (slices_Contains___int_int__sp.tab T) 0 (resK slices_Contains___int_int__rs kf)))
def energy_check_m {R : Type} (N : Nat) (a447 : api_Band) (a448 : Int) (a449 : Int) (k : Int → Option R) : Option R :=
  energy_Check N a447 (fun r450 =>
  bif r450 != (0 : Int) then
   k r450
  else
   slices_Contains___int_int_ N (api_Band.Paces a447) a449 (fun r461 =>
   bif !r461 then
    k (112 : Int)
   else
    energy_from0 N a448 (100 : Int) (fun r462 =>
    bif !r462 then
     k (1 : Int)
    else
     k (0 : Int))))
noncomputable def energy_check {R : Type} : Nat → api_Band → Int → Int → (Int → Option R) → Option R := lock (@energy_check_m R)
theorem energy_check_def {R : Type} (N : Nat) (a447 : api_Band) (a448 : Int) (a449 : Int) (k : Int → Option R) : energy_check N a447 a448 a449 k = energy_check_m N a447 a448 a449 k := by unfold energy_check; rw [lock_eq]
def energy_check_sp : Sp := ⟨[rAgg api_BandC, rInt .i64, rInt .i64], []⟩
theorem energy_check_sp_ok : energy_check_sp.Ok := ⟨(allCons (rAgg_ok api_BandC_ok api_BandC_len) (allCons (rInt_ok .i64) (allCons (rInt_ok .i64) allNil))), eNil⟩
def energy_check_rs : Sp := ⟨[rInt .i64], []⟩
theorem energy_check_rs_ok : energy_check_rs.Ok := ⟨(allCons (rInt_ok .i64) allNil), eNil⟩
def energy_check_run {R : Type} (N : Nat) (args : List SV) (T : Tab) (kf : SV × Tab → Option R) : Option R :=
  energy_check_m N (Cod.dec api_BandC (lget (toCs (lget args 0)))) (toI (lget args 1)) (toI (lget args 2)) (fun q0 => kf (lget [.int .i64 q0] 0, []))
def energy_check_lp {R : Type} (N : Nat) : Lp R := fun body S k => Option.none
noncomputable def energy_check_go {R : Type} (N : Nat) (args : List SV) (T : Tab) (kf : SV × Tab → Option R) : Option R :=
  energy_check N (Cod.dec api_BandC (lget (toCs (lget args 0)))) (toI (lget args 1)) (toI (lget args 2)) (fun q0 => kf (lget [.int .i64 q0] 0, []))
noncomputable def energy_check_cal {R : Type} (N : Nat) : Cal R := callM (slices_Contains___int_int__cal N) 43 0 energy_check_sp (energy_check_go N)
theorem energy_check_cal_ok {R : Type} (N : Nat) : CalOk E.P (energy_check_cal (R := R) N) :=
  callM_ok hE (slices_Contains___int_int__cal_ok N) (lp := energy_check_lp N) (jn := noJn) (keys := []) kNil (by kernel_rfl) (js := []) jNil (by kernel_rfl) energy_check_sp_ok energy_check_rs_ok (fun args T kf => Eq.trans (energy_check_def N (Cod.dec api_BandC (lget (toCs (lget args 0)))) (toI (lget args 1)) (toI (lget args 2)) (fun q0 => kf (lget [.int .i64 q0] 0, []))) (by kernel_rfl : energy_check_run N args T kf = fnM E (slices_Contains___int_int__cal N) (energy_check_lp N) (noJn) 43 (energy_check_sp.vs args) (energy_check_sp.tab T) 0 (resK energy_check_rs kf)))
def energy_load_m {R : Type} (N : Nat) (a463 : api_Band) (a464 : Int) (a465 : Int) (k : Int → Option R) : Option R :=
  bif a465 == (0 : Int) then
   Option.none
  else
   k (w64 (w64 (Int.tdiv (w64 (w64 (w64 (a464 * api_Band.Ride a463) + a465) - (1 : Int))) a465) * api_Band.Body a463))
noncomputable def energy_load {R : Type} : Nat → api_Band → Int → Int → (Int → Option R) → Option R := lock (@energy_load_m R)
theorem energy_load_def {R : Type} (N : Nat) (a463 : api_Band) (a464 : Int) (a465 : Int) (k : Int → Option R) : energy_load N a463 a464 a465 k = energy_load_m N a463 a464 a465 k := by unfold energy_load; rw [lock_eq]
def energy_load_sp : Sp := ⟨[rAgg api_BandC, rInt .i64, rInt .i64], []⟩
theorem energy_load_sp_ok : energy_load_sp.Ok := ⟨(allCons (rAgg_ok api_BandC_ok api_BandC_len) (allCons (rInt_ok .i64) (allCons (rInt_ok .i64) allNil))), eNil⟩
def energy_load_rs : Sp := ⟨[rInt .i64], []⟩
theorem energy_load_rs_ok : energy_load_rs.Ok := ⟨(allCons (rInt_ok .i64) allNil), eNil⟩
def energy_load_run {R : Type} (N : Nat) (args : List SV) (T : Tab) (kf : SV × Tab → Option R) : Option R :=
  energy_load_m N (Cod.dec api_BandC (lget (toCs (lget args 0)))) (toI (lget args 1)) (toI (lget args 2)) (fun q0 => kf (lget [.int .i64 q0] 0, []))
def energy_load_lp {R : Type} (N : Nat) : Lp R := fun body S k => Option.none
noncomputable def energy_load_go {R : Type} (N : Nat) (args : List SV) (T : Tab) (kf : SV × Tab → Option R) : Option R :=
  energy_load N (Cod.dec api_BandC (lget (toCs (lget args 0)))) (toI (lget args 1)) (toI (lget args 2)) (fun q0 => kf (lget [.int .i64 q0] 0, []))
noncomputable def energy_load_cal {R : Type} (N : Nat) : Cal R := callM (energy_check_cal N) 44 0 energy_load_sp (energy_load_go N)
theorem energy_load_cal_ok {R : Type} (N : Nat) : CalOk E.P (energy_load_cal (R := R) N) :=
  callM_ok hE (energy_check_cal_ok N) (lp := energy_load_lp N) (jn := noJn) (keys := []) kNil (by kernel_rfl) (js := []) jNil (by kernel_rfl) energy_load_sp_ok energy_load_rs_ok (fun args T kf => Eq.trans (energy_load_def N (Cod.dec api_BandC (lget (toCs (lget args 0)))) (toI (lget args 1)) (toI (lget args 2)) (fun q0 => kf (lget [.int .i64 q0] 0, []))) (by kernel_rfl : energy_load_run N args T kf = fnM E (energy_check_cal N) (energy_load_lp N) (noJn) 44 (energy_load_sp.vs args) (energy_load_sp.tab T) 0 (resK energy_load_rs kf)))
def energy_Load_m {R : Type} (N : Nat) (a466 : api_Band) (a467 : Int) (a468 : Int) (k : Int → Int → Option R) : Option R :=
  energy_check N a466 a467 a468 (fun r469 =>
  bif r469 != (0 : Int) then
   k (0 : Int) r469
  else
   energy_load N a466 a467 a468 (fun r470 =>
   k r470 (0 : Int)))
noncomputable def energy_Load {R : Type} : Nat → api_Band → Int → Int → (Int → Int → Option R) → Option R := lock (@energy_Load_m R)
theorem energy_Load_def {R : Type} (N : Nat) (a466 : api_Band) (a467 : Int) (a468 : Int) (k : Int → Int → Option R) : energy_Load N a466 a467 a468 k = energy_Load_m N a466 a467 a468 k := by unfold energy_Load; rw [lock_eq]
def energy_Load_sp : Sp := ⟨[rAgg api_BandC, rInt .i64, rInt .i64], []⟩
theorem energy_Load_sp_ok : energy_Load_sp.Ok := ⟨(allCons (rAgg_ok api_BandC_ok api_BandC_len) (allCons (rInt_ok .i64) (allCons (rInt_ok .i64) allNil))), eNil⟩
def energy_Load_rs : Sp := ⟨[rTup [rInt .i64, rInt .i64]], []⟩
theorem energy_Load_rs_ok : energy_Load_rs.Ok := ⟨(allCons (rTup_ok (allCons (rInt_ok .i64) (allCons (rInt_ok .i64) allNil))) allNil), eNil⟩
def energy_Load_run {R : Type} (N : Nat) (args : List SV) (T : Tab) (kf : SV × Tab → Option R) : Option R :=
  energy_Load_m N (Cod.dec api_BandC (lget (toCs (lget args 0)))) (toI (lget args 1)) (toI (lget args 2)) (fun q0 q1 => kf (lget [.tup [.int .i64 q0, .int .i64 q1]] 0, []))
def energy_Load_lp {R : Type} (N : Nat) : Lp R := fun body S k => Option.none
noncomputable def energy_Load_go {R : Type} (N : Nat) (args : List SV) (T : Tab) (kf : SV × Tab → Option R) : Option R :=
  energy_Load N (Cod.dec api_BandC (lget (toCs (lget args 0)))) (toI (lget args 1)) (toI (lget args 2)) (fun q0 q1 => kf (lget [.tup [.int .i64 q0, .int .i64 q1]] 0, []))
noncomputable def energy_Load_cal {R : Type} (N : Nat) : Cal R := callM (energy_load_cal N) 20 0 energy_Load_sp (energy_Load_go N)
theorem energy_Load_cal_ok {R : Type} (N : Nat) : CalOk E.P (energy_Load_cal (R := R) N) :=
  callM_ok hE (energy_load_cal_ok N) (lp := energy_Load_lp N) (jn := noJn) (keys := []) kNil (by kernel_rfl) (js := []) jNil (by kernel_rfl) energy_Load_sp_ok energy_Load_rs_ok (fun args T kf => Eq.trans (energy_Load_def N (Cod.dec api_BandC (lget (toCs (lget args 0)))) (toI (lget args 1)) (toI (lget args 2)) (fun q0 q1 => kf (lget [.tup [.int .i64 q0, .int .i64 q1]] 0, []))) (by kernel_rfl : energy_Load_run N args T kf = fnM E (energy_load_cal N) (energy_Load_lp N) (noJn) 20 (energy_Load_sp.vs args) (energy_Load_sp.tab T) 0 (resK energy_Load_rs kf)))
theorem neweltop_measures_closed {R : Type} (kf : SV × Tab → Option R) : (runG E 400 60).run 10 [] [] 0 kf = kf (.bool true, []) := by kernel_rfl
def neweltop_measures_m {R : Type} (N : Nat) (k : Bool → Option R) : Option R :=
  k true
noncomputable def neweltop_measures {R : Type} : Nat → (Bool → Option R) → Option R := lock (@neweltop_measures_m R)
theorem neweltop_measures_def {R : Type} (N : Nat) (k : Bool → Option R) : neweltop_measures N k = neweltop_measures_m N k := by unfold neweltop_measures; rw [lock_eq]
theorem neweltop_measures_eq {R : Type} (N : Nat) (k : Bool → Option R) : neweltop_measures N k = k true := by rw [neweltop_measures_def]; rfl
def neweltop_measures_sp : Sp := ⟨[], []⟩
noncomputable def neweltop_measures_go {R : Type} (N : Nat) (args : List SV) (T : Tab) (kf : SV × Tab → Option R) : Option R :=
  neweltop_measures N (fun q0 => kf (lget [.bool q0] 0, []))
noncomputable def neweltop_measures_cal {R : Type} (N : Nat) : Cal R := callM (energy_Load_cal N) 10 0 neweltop_measures_sp (neweltop_measures_go N)
theorem neweltop_measures_cal_ok {R : Type} (N : Nat) : CalOk E.P (neweltop_measures_cal (R := R) N) :=
  callM_eq (m' := fun args T kf => kf (.bool true, [])) (fun args T kf => neweltop_measures_def N (fun q0 => kf (lget [.bool q0] 0, []))) (closed_ok hE (energy_Load_cal_ok N) neweltop_measures_closed)
end
end Go.Proofs.Ytlikcijophbkbaa
