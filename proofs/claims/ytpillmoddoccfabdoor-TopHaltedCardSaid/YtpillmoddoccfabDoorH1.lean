import Derived.Test.YtpillmoddoccfabDoorCod
set_option maxRecDepth 100000
set_option maxHeartbeats 0
set_option linter.unusedVariables false
namespace Go.Proofs.YtpillmoddoccfabDoor
open Go.Sx
noncomputable section
def newellaw03_Far_L4 : LoopSp := ⟨⟨[1, 3], ⟨(dr 1 ((rPtr 0 0) :: (dr 1 ((rInt .i64) :: (dr 25 []))))), [(0, eBlkC api_CircuitC)]⟩, 1⟩, [(Option.none, ⟨[2], ⟨(dr 2 ((rBool) :: (dr 26 []))), []⟩, 0⟩), (some 0, ⟨[], ⟨(dr 29 []), []⟩, 0⟩)]⟩
theorem newellaw03_Far_L4_ok : newellaw03_Far_L4.Ok := ⟨⟨(drCons 1 (allCons (rPtr_ok 0 0) (drCons 1 (allCons (rInt_ok .i64) (drCons 25 allNil))))), (eCons (eBlkC_ok api_CircuitC_ok api_CircuitC_len) eNil)⟩, (xCons ⟨(drCons 2 (allCons rBool_ok (drCons 26 allNil))), eNil⟩ (xCons ⟨(drCons 29 allNil), eNil⟩ xNil))⟩
def newellaw03_Far_h4 (v1 : Int) (v2 : api_Circuit) : St := ⟨(un 1 ((.ptr 0 0) :: (un 1 ((.int .i64 v1) :: (un 25 []))))), [(0, .blk (Cod.enc api_CircuitC v2))], 1⟩
def newellaw03_Far_x4_r (q0 : Bool) : St := ⟨(un 2 ((.bool q0) :: (un 26 []))), [], 0⟩
def newellaw03_Far_x4_0  : St := ⟨(un 29 []), [], 0⟩
def newellaw03_Far_b4 {R : Type} (N : Nat) (rc : Int → api_Circuit → Option R) (v1 : Int) (v2 : api_Circuit) (kr : Bool → Option R) (k0 : Unit → Option R) : Option R :=
 bif decide (v1 < (↑(Arr.n (api_Circuit.Wires v2)) : Int)) then
 bif decide ((0 : Int) ≤ v1) && decide (v1 < (↑(Arr.n (api_Circuit.Wires v2)) : Int)) then
 bif decide ((↑(Arr.n (api_Wire.Of (Arr.f (api_Circuit.Wires v2) (Int.toNat v1)))) : Int) > (40 : Int)) then
 kr true
 else
 rc (w64 (v1 + (1 : Int))) v2
 else
 Option.none
 else
 k0 ()
def newellaw03_Far_l4 {R : Type} (N : Nat) : Nat → Int → api_Circuit → (Bool → Option R) → (Unit → Option R) → Option R
  | 0, _, _, _, _ => Option.none
  | n + 1, v1, v2, kr, k0 => newellaw03_Far_b4 N (fun v1 v2 => newellaw03_Far_l4 N n v1 v2 kr k0) v1 v2 kr k0
def newellaw03_Far_m {R : Type} (N : Nat) (a0 : api_Circuit) (k : Bool → Option R) : Option R :=
 bif decide ((↑(Arr.n (api_Circuit.Switches a0)) : Int) > (20 : Int)) then
 k true
 else
 bif decide ((↑(Arr.n (api_Circuit.Wires a0)) : Int) > (40 : Int)) then
 k true
 else
 newellaw03_Far_l4 N N (0 : Int) a0 (fun r3 =>
 k r3) (fun (_ : Unit) =>
 k false)
noncomputable def newellaw03_Far {R : Type} : Nat → api_Circuit → (Bool → Option R) → Option R := lock (@newellaw03_Far_m R)
theorem newellaw03_Far_def {R : Type} (N : Nat) (a0 : api_Circuit) (k : Bool → Option R) : newellaw03_Far N a0 k = newellaw03_Far_m N a0 k := by unfold newellaw03_Far; rw [lock_eq]
def newellaw03_Far_sp : Sp := ⟨[rAgg api_CircuitC], []⟩
theorem newellaw03_Far_sp_ok : newellaw03_Far_sp.Ok := ⟨(allCons (rAgg_ok api_CircuitC_ok api_CircuitC_len) allNil), eNil⟩
def newellaw03_Far_rs : Sp := ⟨[rBool], []⟩
theorem newellaw03_Far_rs_ok : newellaw03_Far_rs.Ok := ⟨(allCons rBool_ok allNil), eNil⟩
def newellaw03_Far_run {R : Type} (N : Nat) (args : List SV) (T : Tab) (kf : SV × Tab → Option R) : Option R :=
  newellaw03_Far_m N (Cod.dec api_CircuitC (lget (toCs (lget args 0)))) (fun q0 => kf (lget [.bool q0] 0, []))
def newellaw03_Far_d4 {R : Type} (N : Nat) (S0 : St) (k : Exit → St → Option R) : Option R :=
  newellaw03_Far_l4 N N (toI (lget S0.tmps 3)) (Cod.dec api_CircuitC (lget (entCs (entAt S0.tab 0)))) (fun q0 => k .ret (newellaw03_Far_x4_r q0)) (fun (_ : Unit) => k (.exit 0) (newellaw03_Far_x4_0 ))
def newellaw03_Far_lp {R : Type} (N : Nat) : Lp R := fun body S k => bif (Go.Sx.keyOf body).getD 0 == 4 then (newellaw03_Far_L4.head.raw 0 S (fun S0 => newellaw03_Far_d4 N S0 k)) else Option.none
theorem newellaw03_Far_l4_eq {R : Type} (N : Nat) (k : Exit → St → Option R) (n : Nat) : ∀ (v0 : Int) (v1 : api_Circuit), loopM E.Θ (noCal E) (newellaw03_Far_lp N) (noJn) 0 newellaw03_Far_L4 (bodyAt E 15 4) n (newellaw03_Far_h4 v0 v1) k = newellaw03_Far_l4 N n v0 v1 (fun q0 => k .ret (newellaw03_Far_x4_r q0)) (fun (_ : Unit) => k (.exit 0) (newellaw03_Far_x4_0 )) := by
  induction n with
  | zero => intro v0 v1; rfl
  | succ n ih =>
    intro v0 v1
    refine Eq.trans (b := newellaw03_Far_b4 N (fun v0 v1 => loopM E.Θ (noCal E) (newellaw03_Far_lp N) (noJn) 0 newellaw03_Far_L4 (bodyAt E 15 4) n (newellaw03_Far_h4 v0 v1) k) v0 v1 (fun q0 => k .ret (newellaw03_Far_x4_r q0)) (fun (_ : Unit) => k (.exit 0) (newellaw03_Far_x4_0 ))) (by kernel_rfl) ?_
    have h : (fun (v0 : Int) (v1 : api_Circuit) => loopM E.Θ (noCal E) (newellaw03_Far_lp N) (noJn) 0 newellaw03_Far_L4 (bodyAt E 15 4) n (newellaw03_Far_h4 v0 v1) k) = (fun (v0 : Int) (v1 : api_Circuit) => newellaw03_Far_l4 N n v0 v1 (fun q0 => k .ret (newellaw03_Far_x4_r q0)) (fun (_ : Unit) => k (.exit 0) (newellaw03_Far_x4_0 ))) := funext fun v0 => funext fun v1 => ih v0 v1
    rw [h]
    rfl
theorem newellaw03_Far_k4 {R : Type} (N : Nat) : LpKey (R := R) E 15 0 (newellaw03_Far_lp N) 4 :=
  lpKey_of hE (noCal_ok E) (lp := newellaw03_Far_lp N) (jn := noJn) newellaw03_Far_L4_ok [] kNil (by kernel_rfl) [] jNil (by kernel_rfl) N fun S k =>
    Eq.trans (b := newellaw03_Far_L4.head.raw 0 S (fun S0 => newellaw03_Far_d4 N S0 k)) (by kernel_rfl) (congrArg (newellaw03_Far_L4.head.raw 0 S) (funext fun S0 => Eq.trans (newellaw03_Far_l4_eq N k N (toI (lget S0.tmps 3)) (Cod.dec api_CircuitC (lget (entCs (entAt S0.tab 0))))).symm (by kernel_rfl)))
noncomputable def newellaw03_Far_go {R : Type} (N : Nat) (args : List SV) (T : Tab) (kf : SV × Tab → Option R) : Option R :=
  newellaw03_Far N (Cod.dec api_CircuitC (lget (toCs (lget args 0)))) (fun q0 => kf (lget [.bool q0] 0, []))
noncomputable def newellaw03_Far_cal {R : Type} (N : Nat) : Cal R := callM (noCal E) 15 0 newellaw03_Far_sp (newellaw03_Far_go N)
theorem newellaw03_Far_cal_ok {R : Type} (N : Nat) : CalOk E.P (newellaw03_Far_cal (R := R) N) :=
  callM_ok hE (noCal_ok E) (lp := newellaw03_Far_lp N) (jn := noJn) (keys := [4]) (kCons (newellaw03_Far_k4 N) kNil) (by kernel_rfl) (js := []) jNil (by kernel_rfl) newellaw03_Far_sp_ok newellaw03_Far_rs_ok (fun args T kf => Eq.trans (newellaw03_Far_def N (Cod.dec api_CircuitC (lget (toCs (lget args 0)))) (fun q0 => kf (lget [.bool q0] 0, []))) (by kernel_rfl : newellaw03_Far_run N args T kf = fnM E (noCal E) (newellaw03_Far_lp N) (noJn) 15 (newellaw03_Far_sp.vs args) (newellaw03_Far_sp.tab T) 0 (resK newellaw03_Far_rs kf)))
def r4_from_m {R : Type} (N : Nat) (a6 : Int) (a7 : Int) (a8 : Int) (k : Bool → Option R) : Option R :=
 bif decide (a6 ≥ a7) then
 k (decide (a6 ≤ a8))
 else
 k false
noncomputable def r4_from {R : Type} : Nat → Int → Int → Int → (Bool → Option R) → Option R := lock (@r4_from_m R)
theorem r4_from_def {R : Type} (N : Nat) (a6 : Int) (a7 : Int) (a8 : Int) (k : Bool → Option R) : r4_from N a6 a7 a8 k = r4_from_m N a6 a7 a8 k := by unfold r4_from; rw [lock_eq]
def r4_from_sp : Sp := ⟨[rInt .i64, rInt .i64, rInt .i64], []⟩
theorem r4_from_sp_ok : r4_from_sp.Ok := ⟨(allCons (rInt_ok .i64) (allCons (rInt_ok .i64) (allCons (rInt_ok .i64) allNil))), eNil⟩
def r4_from_rs : Sp := ⟨[rBool], []⟩
theorem r4_from_rs_ok : r4_from_rs.Ok := ⟨(allCons rBool_ok allNil), eNil⟩
def r4_from_run {R : Type} (N : Nat) (args : List SV) (T : Tab) (kf : SV × Tab → Option R) : Option R :=
  r4_from_m N (toI (lget args 0)) (toI (lget args 1)) (toI (lget args 2)) (fun q0 => kf (lget [.bool q0] 0, []))
def r4_from_lp {R : Type} (N : Nat) : Lp R := fun body S k => Option.none
noncomputable def r4_from_go {R : Type} (N : Nat) (args : List SV) (T : Tab) (kf : SV × Tab → Option R) : Option R :=
  r4_from N (toI (lget args 0)) (toI (lget args 1)) (toI (lget args 2)) (fun q0 => kf (lget [.bool q0] 0, []))
noncomputable def r4_from_cal {R : Type} (N : Nat) : Cal R := callM (newellaw03_Far_cal N) 43 0 r4_from_sp (r4_from_go N)
theorem r4_from_cal_ok {R : Type} (N : Nat) : CalOk E.P (r4_from_cal (R := R) N) :=
  callM_ok hE (newellaw03_Far_cal_ok N) (lp := r4_from_lp N) (jn := noJn) (keys := []) kNil (by kernel_rfl) (js := []) jNil (by kernel_rfl) r4_from_sp_ok r4_from_rs_ok (fun args T kf => Eq.trans (r4_from_def N (toI (lget args 0)) (toI (lget args 1)) (toI (lget args 2)) (fun q0 => kf (lget [.bool q0] 0, []))) (by kernel_rfl : r4_from_run N args T kf = fnM E (newellaw03_Far_cal N) (r4_from_lp N) (noJn) 43 (r4_from_sp.vs args) (r4_from_sp.tab T) 0 (resK r4_from_rs kf)))
def r4_names_L3 : LoopSp := ⟨⟨[1, 3, 4], ⟨(dr 1 ((rPtr 0 0) :: (dr 1 ((rRow 1) :: (rInt .i64) :: (dr 41 []))))), [(0, eBlkC api_MachineC), (1, eRow strC)]⟩, 2⟩, [(some 0, ⟨[1, 3], ⟨(dr 1 ((rPtr 0 0) :: (dr 1 ((rRow 1) :: (dr 42 []))))), [(0, eBlkC api_MachineC), (1, eRow strC)]⟩, 2⟩)]⟩
theorem r4_names_L3_ok : r4_names_L3.Ok := ⟨⟨(drCons 1 (allCons (rPtr_ok 0 0) (drCons 1 (allCons (rRow_ok 1) (allCons (rInt_ok .i64) (drCons 41 allNil)))))), (eCons (eBlkC_ok api_MachineC_ok api_MachineC_len) (eCons (eRow_ok strC_ok) eNil))⟩, (xCons ⟨(drCons 1 (allCons (rPtr_ok 0 0) (drCons 1 (allCons (rRow_ok 1) (drCons 42 allNil))))), (eCons (eBlkC_ok api_MachineC_ok api_MachineC_len) (eCons (eRow_ok strC_ok) eNil))⟩ xNil)⟩
def r4_names_h3 (v11 : Int) (v12 : api_Machine) (v13 : Bool) (v14 : Arr ByteArray) : St := ⟨(un 1 ((.ptr 0 0) :: (un 1 ((.row 1) :: (.int .i64 v11) :: (un 41 []))))), [(0, .blk (Cod.enc api_MachineC v12)), (1, rowE strC v13 v14)], 2⟩
def r4_names_x3_0 (v12 : api_Machine) (q1 : Bool) (q2 : Arr ByteArray) : St := ⟨(un 1 ((.ptr 0 0) :: (un 1 ((.row 1) :: (un 42 []))))), [(0, .blk (Cod.enc api_MachineC v12)), (1, rowE strC q1 q2)], 2⟩
def r4_names_b3 {R : Type} (N : Nat) (rc : Int → api_Machine → Bool → Arr ByteArray → Option R) (v11 : Int) (v12 : api_Machine) (v13 : Bool) (v14 : Arr ByteArray) (k0 : Bool → Arr ByteArray → Option R) : Option R :=
 bif decide (v11 < (↑(Arr.n (api_Machine.Counters v12)) : Int)) then
 bif decide ((0 : Int) ≤ v11) && decide (v11 < (↑(Arr.n (api_Machine.Counters v12)) : Int)) then
 bif room (Arr.n v14 + (1 : Nat)) then
 rc (w64 (v11 + (1 : Int))) v12 false (lst strC (Arr.n v14 + (1 : Nat)) (catC (Arr.n v14) (Cod.cell strC (Arr.f v14)) (litC [SV.str (ByteArray.mk (Array.mk []))] [[SV.str (api_Counter.Name (Arr.f (api_Machine.Counters v12) (Int.toNat v11)))]])))
 else
 Option.none
 else
 Option.none
 else
 k0 v13 v14
def r4_names_l3 {R : Type} (N : Nat) : Nat → Int → api_Machine → Bool → Arr ByteArray → (Bool → Arr ByteArray → Option R) → Option R
  | 0, _, _, _, _, _ => Option.none
  | n + 1, v11, v12, v13, v14, k0 => r4_names_b3 N (fun v11 v12 v13 v14 => r4_names_l3 N n v11 v12 v13 v14 k0) v11 v12 v13 v14 k0
def r4_names_L7 : LoopSp := ⟨⟨[1, 3, 5], ⟨(dr 1 ((rPtr 0 0) :: (dr 1 ((rRow 1) :: (dr 1 ((rInt .i64) :: (dr 40 []))))))), [(0, eBlkC api_MachineC), (1, eRow strC)]⟩, 2⟩, [(some 2, ⟨[3], ⟨(dr 3 ((rRow 0) :: (dr 42 []))), [(0, eRow strC)]⟩, 1⟩)]⟩
theorem r4_names_L7_ok : r4_names_L7.Ok := ⟨⟨(drCons 1 (allCons (rPtr_ok 0 0) (drCons 1 (allCons (rRow_ok 1) (drCons 1 (allCons (rInt_ok .i64) (drCons 40 allNil))))))), (eCons (eBlkC_ok api_MachineC_ok api_MachineC_len) (eCons (eRow_ok strC_ok) eNil))⟩, (xCons ⟨(drCons 3 (allCons (rRow_ok 0) (drCons 42 allNil))), (eCons (eRow_ok strC_ok) eNil)⟩ xNil)⟩
def r4_names_h7 (v17 : Int) (v18 : api_Machine) (v19 : Bool) (v20 : Arr ByteArray) : St := ⟨(un 1 ((.ptr 0 0) :: (un 1 ((.row 1) :: (un 1 ((.int .i64 v17) :: (un 40 []))))))), [(0, .blk (Cod.enc api_MachineC v18)), (1, rowE strC v19 v20)], 2⟩
def r4_names_x7_2 (q0 : Bool) (q1 : Arr ByteArray) : St := ⟨(un 3 ((.row 0) :: (un 42 []))), [(0, rowE strC q0 q1)], 1⟩
def r4_names_b7 {R : Type} (N : Nat) (rc : Int → api_Machine → Bool → Arr ByteArray → Option R) (v17 : Int) (v18 : api_Machine) (v19 : Bool) (v20 : Arr ByteArray) (k2 : Bool → Arr ByteArray → Option R) : Option R :=
 bif decide (v17 < (↑(Arr.n (api_Machine.States v18)) : Int)) then
 bif decide ((0 : Int) ≤ v17) && decide (v17 < (↑(Arr.n (api_Machine.States v18)) : Int)) then
 bif room (Arr.n v20 + (1 : Nat)) then
 rc (w64 (v17 + (1 : Int))) v18 false (lst strC (Arr.n v20 + (1 : Nat)) (catC (Arr.n v20) (Cod.cell strC (Arr.f v20)) (litC [SV.str (ByteArray.mk (Array.mk []))] [[SV.str (api_State.Name (Arr.f (api_Machine.States v18) (Int.toNat v17)))]])))
 else
 Option.none
 else
 Option.none
 else
 k2 v19 v20
def r4_names_l7 {R : Type} (N : Nat) : Nat → Int → api_Machine → Bool → Arr ByteArray → (Bool → Arr ByteArray → Option R) → Option R
  | 0, _, _, _, _, _ => Option.none
  | n + 1, v17, v18, v19, v20, k2 => r4_names_b7 N (fun v17 v18 v19 v20 => r4_names_l7 N n v17 v18 v19 v20 k2) v17 v18 v19 v20 k2
def r4_names_m {R : Type} (N : Nat) (a10 : api_Machine) (k : Bool → Arr ByteArray → Option R) : Option R :=
 bif room ((0 : Nat) + Arr.n (api_Machine.Inputs a10)) then
 bif room ((0 : Nat) + Arr.n (api_Machine.Inputs a10) + Arr.n (api_Machine.Outputs a10)) then
 r4_names_l3 N N (0 : Int) a10 (bif Arr.n (api_Machine.Outputs a10) == (0 : Nat) then bif Arr.n (api_Machine.Inputs a10) == (0 : Nat) then false else false else false) (lst strC ((0 : Nat) + Arr.n (api_Machine.Inputs a10) + Arr.n (api_Machine.Outputs a10)) (catC ((0 : Nat) + Arr.n (api_Machine.Inputs a10)) (catC (0 : Nat) (litC [SV.str (ByteArray.mk (Array.mk []))] []) (Cod.cell strC (Arr.f (api_Machine.Inputs a10)))) (Cod.cell strC (Arr.f (api_Machine.Outputs a10))))) (fun r15 r16 =>
 r4_names_l7 N N (0 : Int) a10 r15 r16 (fun r21 r22 =>
 k r21 r22))
 else
 Option.none
 else
 Option.none
noncomputable def r4_names {R : Type} : Nat → api_Machine → (Bool → Arr ByteArray → Option R) → Option R := lock (@r4_names_m R)
theorem r4_names_def {R : Type} (N : Nat) (a10 : api_Machine) (k : Bool → Arr ByteArray → Option R) : r4_names N a10 k = r4_names_m N a10 k := by unfold r4_names; rw [lock_eq]
def r4_names_sp : Sp := ⟨[rAgg api_MachineC], []⟩
theorem r4_names_sp_ok : r4_names_sp.Ok := ⟨(allCons (rAgg_ok api_MachineC_ok api_MachineC_len) allNil), eNil⟩
def r4_names_rs : Sp := ⟨[rRow 0], [(0, eRow strC)]⟩
theorem r4_names_rs_ok : r4_names_rs.Ok := ⟨(allCons (rRow_ok 0) allNil), (eCons (eRow_ok strC_ok) eNil)⟩
def r4_names_run {R : Type} (N : Nat) (args : List SV) (T : Tab) (kf : SV × Tab → Option R) : Option R :=
  r4_names_m N (Cod.dec api_MachineC (lget (toCs (lget args 0)))) (fun q0 q1 => kf (lget [.row 0] 0, [(0, rowE strC q0 q1)]))
def r4_names_d7 {R : Type} (N : Nat) (S0 : St) (k : Exit → St → Option R) : Option R :=
  r4_names_l7 N N (toI (lget S0.tmps 5)) (Cod.dec api_MachineC (lget (entCs (entAt S0.tab 0)))) (entNl (entAt S0.tab 1)) (lst strC (entN (entAt S0.tab 1)) (entC (entAt S0.tab 1))) (fun q0 q1 => k (.exit 2) (r4_names_x7_2 q0 q1))
def r4_names_d3 {R : Type} (N : Nat) (S0 : St) (k : Exit → St → Option R) : Option R :=
  r4_names_l3 N N (toI (lget S0.tmps 4)) (Cod.dec api_MachineC (lget (entCs (entAt S0.tab 0)))) (entNl (entAt S0.tab 1)) (lst strC (entN (entAt S0.tab 1)) (entC (entAt S0.tab 1))) (fun q1 q2 => k (.exit 0) (r4_names_x3_0 (Cod.dec api_MachineC (lget (entCs (entAt S0.tab 0)))) q1 q2))
def r4_names_lp {R : Type} (N : Nat) : Lp R := fun body S k => bif (Go.Sx.keyOf body).getD 0 == 3 then (r4_names_L3.head.raw 0 S (fun S0 => r4_names_d3 N S0 k)) else bif (Go.Sx.keyOf body).getD 0 == 7 then (r4_names_L7.head.raw 0 S (fun S0 => r4_names_d7 N S0 k)) else Option.none
theorem r4_names_l3_eq {R : Type} (N : Nat) (k : Exit → St → Option R) (n : Nat) : ∀ (v0 : Int) (v1 : api_Machine) (v2 : Bool) (v3 : Arr ByteArray), loopM E.Θ (r4_from_cal N) (r4_names_lp N) (noJn) 0 r4_names_L3 (bodyAt E 44 3) n (r4_names_h3 v0 v1 v2 v3) k = r4_names_l3 N n v0 v1 v2 v3 (fun q1 q2 => k (.exit 0) (r4_names_x3_0 v1 q1 q2)) := by
  induction n with
  | zero => intro v0 v1 v2 v3; rfl
  | succ n ih =>
    intro v0 v1 v2 v3
    refine Eq.trans (b := r4_names_b3 N (fun v0 v1 v2 v3 => loopM E.Θ (r4_from_cal N) (r4_names_lp N) (noJn) 0 r4_names_L3 (bodyAt E 44 3) n (r4_names_h3 v0 v1 v2 v3) k) v0 v1 v2 v3 (fun q1 q2 => k (.exit 0) (r4_names_x3_0 v1 q1 q2))) (by kernel_rfl) ?_
    have h : (fun (v0 : Int) (v1 : api_Machine) (v2 : Bool) (v3 : Arr ByteArray) => loopM E.Θ (r4_from_cal N) (r4_names_lp N) (noJn) 0 r4_names_L3 (bodyAt E 44 3) n (r4_names_h3 v0 v1 v2 v3) k) = (fun (v0 : Int) (v1 : api_Machine) (v2 : Bool) (v3 : Arr ByteArray) => r4_names_l3 N n v0 v1 v2 v3 (fun q1 q2 => k (.exit 0) (r4_names_x3_0 v1 q1 q2))) := funext fun v0 => funext fun v1 => funext fun v2 => funext fun v3 => ih v0 v1 v2 v3
    rw [h]
    rfl
theorem r4_names_l7_eq {R : Type} (N : Nat) (k : Exit → St → Option R) (n : Nat) : ∀ (v0 : Int) (v1 : api_Machine) (v2 : Bool) (v3 : Arr ByteArray), loopM E.Θ (r4_from_cal N) (r4_names_lp N) (noJn) 0 r4_names_L7 (bodyAt E 44 7) n (r4_names_h7 v0 v1 v2 v3) k = r4_names_l7 N n v0 v1 v2 v3 (fun q0 q1 => k (.exit 2) (r4_names_x7_2 q0 q1)) := by
  induction n with
  | zero => intro v0 v1 v2 v3; rfl
  | succ n ih =>
    intro v0 v1 v2 v3
    refine Eq.trans (b := r4_names_b7 N (fun v0 v1 v2 v3 => loopM E.Θ (r4_from_cal N) (r4_names_lp N) (noJn) 0 r4_names_L7 (bodyAt E 44 7) n (r4_names_h7 v0 v1 v2 v3) k) v0 v1 v2 v3 (fun q0 q1 => k (.exit 2) (r4_names_x7_2 q0 q1))) (by kernel_rfl) ?_
    have h : (fun (v0 : Int) (v1 : api_Machine) (v2 : Bool) (v3 : Arr ByteArray) => loopM E.Θ (r4_from_cal N) (r4_names_lp N) (noJn) 0 r4_names_L7 (bodyAt E 44 7) n (r4_names_h7 v0 v1 v2 v3) k) = (fun (v0 : Int) (v1 : api_Machine) (v2 : Bool) (v3 : Arr ByteArray) => r4_names_l7 N n v0 v1 v2 v3 (fun q0 q1 => k (.exit 2) (r4_names_x7_2 q0 q1))) := funext fun v0 => funext fun v1 => funext fun v2 => funext fun v3 => ih v0 v1 v2 v3
    rw [h]
    rfl
theorem r4_names_k7 {R : Type} (N : Nat) : LpKey (R := R) E 44 0 (r4_names_lp N) 7 :=
  lpKey_of hE (r4_from_cal_ok N) (lp := r4_names_lp N) (jn := noJn) r4_names_L7_ok [] kNil (by kernel_rfl) [] jNil (by kernel_rfl) N fun S k =>
    Eq.trans (b := r4_names_L7.head.raw 0 S (fun S0 => r4_names_d7 N S0 k)) (by kernel_rfl) (congrArg (r4_names_L7.head.raw 0 S) (funext fun S0 => Eq.trans (r4_names_l7_eq N k N (toI (lget S0.tmps 5)) (Cod.dec api_MachineC (lget (entCs (entAt S0.tab 0)))) (entNl (entAt S0.tab 1)) (lst strC (entN (entAt S0.tab 1)) (entC (entAt S0.tab 1)))).symm (by kernel_rfl)))
theorem r4_names_k3 {R : Type} (N : Nat) : LpKey (R := R) E 44 0 (r4_names_lp N) 3 :=
  lpKey_of hE (r4_from_cal_ok N) (lp := r4_names_lp N) (jn := noJn) r4_names_L3_ok [] kNil (by kernel_rfl) [] jNil (by kernel_rfl) N fun S k =>
    Eq.trans (b := r4_names_L3.head.raw 0 S (fun S0 => r4_names_d3 N S0 k)) (by kernel_rfl) (congrArg (r4_names_L3.head.raw 0 S) (funext fun S0 => Eq.trans (r4_names_l3_eq N k N (toI (lget S0.tmps 4)) (Cod.dec api_MachineC (lget (entCs (entAt S0.tab 0)))) (entNl (entAt S0.tab 1)) (lst strC (entN (entAt S0.tab 1)) (entC (entAt S0.tab 1)))).symm (by kernel_rfl)))
noncomputable def r4_names_go {R : Type} (N : Nat) (args : List SV) (T : Tab) (kf : SV × Tab → Option R) : Option R :=
  r4_names N (Cod.dec api_MachineC (lget (toCs (lget args 0)))) (fun q0 q1 => kf (lget [.row 0] 0, [(0, rowE strC q0 q1)]))
noncomputable def r4_names_cal {R : Type} (N : Nat) : Cal R := callM (r4_from_cal N) 44 0 r4_names_sp (r4_names_go N)
theorem r4_names_cal_ok {R : Type} (N : Nat) : CalOk E.P (r4_names_cal (R := R) N) :=
  callM_ok hE (r4_from_cal_ok N) (lp := r4_names_lp N) (jn := noJn) (keys := [3, 7]) (kCons (r4_names_k3 N) (kCons (r4_names_k7 N) kNil)) (by kernel_rfl) (js := []) jNil (by kernel_rfl) r4_names_sp_ok r4_names_rs_ok (fun args T kf => Eq.trans (r4_names_def N (Cod.dec api_MachineC (lget (toCs (lget args 0)))) (fun q0 q1 => kf (lget [.row 0] 0, [(0, rowE strC q0 q1)]))) (by kernel_rfl : r4_names_run N args T kf = fnM E (r4_from_cal N) (r4_names_lp N) (noJn) 44 (r4_names_sp.vs args) (r4_names_sp.tab T) 0 (resK r4_names_rs kf)))
def r4_Word_L2 : LoopSp := ⟨⟨[0, 3], ⟨((rStr) :: (dr 2 ((rInt .i64) :: (dr 32 [])))), []⟩, 0⟩, [(Option.none, ⟨[2], ⟨(dr 2 ((rBool) :: (dr 33 []))), []⟩, 0⟩), (some 0, ⟨[0], ⟨((rStr) :: (dr 35 [])), []⟩, 0⟩)]⟩
theorem r4_Word_L2_ok : r4_Word_L2.Ok := ⟨⟨(allCons rStr_ok (drCons 2 (allCons (rInt_ok .i64) (drCons 32 allNil)))), eNil⟩, (xCons ⟨(drCons 2 (allCons rBool_ok (drCons 33 allNil))), eNil⟩ (xCons ⟨(allCons rStr_ok (drCons 35 allNil)), eNil⟩ xNil))⟩
def r4_Word_h2 (v30 : ByteArray) (v31 : Int) : St := ⟨((.str v30) :: (un 2 ((.int .i64 v31) :: (un 32 [])))), [], 0⟩
def r4_Word_x2_r (q0 : Bool) : St := ⟨(un 2 ((.bool q0) :: (un 33 []))), [], 0⟩
def r4_Word_x2_0 (v30 : ByteArray) : St := ⟨((.str v30) :: (un 35 [])), [], 0⟩
def r4_Word_b2 {R : Type} (N : Nat) (rc : ByteArray → Int → Option R) (v30 : ByteArray) (v31 : Int) (kr : Bool → Option R) (k0 : Unit → Option R) : Option R :=
 bif decide (v31 < (↑(8 : Nat) : Int)) then
 bif decide ((0 : Int) ≤ v31) && decide (v31 < (↑(8 : Nat) : Int)) then
 bif ByteArray.toList v30 == ByteArray.toList (toS (litC [SV.str ByteArray.empty] [[SV.str (ByteArray.mk #[(97 : UInt8), (110 : UInt8), (121 : UInt8)])], [SV.str (ByteArray.mk #[(116 : UInt8), (111 : UInt8)])], [SV.str (ByteArray.mk #[(122 : UInt8), (101 : UInt8), (114 : UInt8), (111 : UInt8)])], [SV.str (ByteArray.mk #[(109 : UInt8), (111 : UInt8), (114 : UInt8), (101 : UInt8)])], [SV.str (ByteArray.mk #[(108 : UInt8), (101 : UInt8), (115 : UInt8), (115 : UInt8)])], [SV.str (ByteArray.mk #[(105 : UInt8), (102 : UInt8)])], [SV.str (ByteArray.mk #[(121 : UInt8), (101 : UInt8), (115 : UInt8)])], [SV.str (ByteArray.mk #[(110 : UInt8), (111 : UInt8)])]] (Int.toNat v31) (0 : Nat))) then
 kr false
 else
 rc v30 (w64 (v31 + (1 : Int)))
 else
 Option.none
 else
 k0 ()
def r4_Word_l2 {R : Type} (N : Nat) : Nat → ByteArray → Int → (Bool → Option R) → (Unit → Option R) → Option R
  | 0, _, _, _, _ => Option.none
  | n + 1, v30, v31, kr, k0 => r4_Word_b2 N (fun v30 v31 => r4_Word_l2 N n v30 v31 kr k0) v30 v31 kr k0
def r4_Word_L7 : LoopSp := ⟨⟨[0, 4], ⟨((rStr) :: (dr 3 ((rInt .i64) :: (dr 31 [])))), []⟩, 0⟩, [(Option.none, ⟨[2], ⟨(dr 2 ((rBool) :: (dr 33 []))), []⟩, 0⟩), (some 2, ⟨[0], ⟨((rStr) :: (dr 35 [])), []⟩, 0⟩)]⟩
theorem r4_Word_L7_ok : r4_Word_L7.Ok := ⟨⟨(allCons rStr_ok (drCons 3 (allCons (rInt_ok .i64) (drCons 31 allNil)))), eNil⟩, (xCons ⟨(drCons 2 (allCons rBool_ok (drCons 33 allNil))), eNil⟩ (xCons ⟨(allCons rStr_ok (drCons 35 allNil)), eNil⟩ xNil))⟩
def r4_Word_h7 (v33 : ByteArray) (v34 : Int) : St := ⟨((.str v33) :: (un 3 ((.int .i64 v34) :: (un 31 [])))), [], 0⟩
def r4_Word_x7_r (q0 : Bool) : St := ⟨(un 2 ((.bool q0) :: (un 33 []))), [], 0⟩
def r4_Word_x7_2 (v33 : ByteArray) : St := ⟨((.str v33) :: (un 35 [])), [], 0⟩
def r4_Word_b7 {R : Type} (N : Nat) (rc : ByteArray → Int → Option R) (v33 : ByteArray) (v34 : Int) (kr : Bool → Option R) (k2 : Unit → Option R) : Option R :=
 bif decide (v34 < (↑(ByteArray.size v33) : Int)) then
 bif decide ((0 : Int) ≤ v34) && decide (v34 < (↑(ByteArray.size v33) : Int)) then
 bif decide (byteI v33 (Int.toNat v34) < (97 : Int)) then
 kr false
 else
 bif decide ((0 : Int) ≤ v34) && decide (v34 < (↑(ByteArray.size v33) : Int)) then
 bif decide (byteI v33 (Int.toNat v34) > (122 : Int)) then
 kr false
 else
 rc v33 (w64 (v34 + (1 : Int)))
 else
 Option.none
 else
 Option.none
 else
 k2 ()
def r4_Word_l7 {R : Type} (N : Nat) : Nat → ByteArray → Int → (Bool → Option R) → (Unit → Option R) → Option R
  | 0, _, _, _, _ => Option.none
  | n + 1, v33, v34, kr, k2 => r4_Word_b7 N (fun v33 v34 => r4_Word_l7 N n v33 v34 kr k2) v33 v34 kr k2
def r4_Word_m {R : Type} (N : Nat) (a29 : ByteArray) (k : Bool → Option R) : Option R :=
 r4_Word_l2 N N a29 (0 : Int) (fun r32 =>
 k r32) (fun (_ : Unit) =>
 r4_Word_l7 N N a29 (0 : Int) (fun r35 =>
 k r35) (fun (_ : Unit) =>
 k (decide ((↑(ByteArray.size a29) : Int) > (0 : Int)))))
noncomputable def r4_Word {R : Type} : Nat → ByteArray → (Bool → Option R) → Option R := lock (@r4_Word_m R)
theorem r4_Word_def {R : Type} (N : Nat) (a29 : ByteArray) (k : Bool → Option R) : r4_Word N a29 k = r4_Word_m N a29 k := by unfold r4_Word; rw [lock_eq]
def r4_Word_sp : Sp := ⟨[rStr], []⟩
theorem r4_Word_sp_ok : r4_Word_sp.Ok := ⟨(allCons rStr_ok allNil), eNil⟩
def r4_Word_rs : Sp := ⟨[rBool], []⟩
theorem r4_Word_rs_ok : r4_Word_rs.Ok := ⟨(allCons rBool_ok allNil), eNil⟩
def r4_Word_run {R : Type} (N : Nat) (args : List SV) (T : Tab) (kf : SV × Tab → Option R) : Option R :=
  r4_Word_m N (toS (lget args 0)) (fun q0 => kf (lget [.bool q0] 0, []))
def r4_Word_d7 {R : Type} (N : Nat) (S0 : St) (k : Exit → St → Option R) : Option R :=
  r4_Word_l7 N N (toS (lget S0.tmps 0)) (toI (lget S0.tmps 4)) (fun q0 => k .ret (r4_Word_x7_r q0)) (fun (_ : Unit) => k (.exit 2) (r4_Word_x7_2 (toS (lget S0.tmps 0))))
def r4_Word_d2 {R : Type} (N : Nat) (S0 : St) (k : Exit → St → Option R) : Option R :=
  r4_Word_l2 N N (toS (lget S0.tmps 0)) (toI (lget S0.tmps 3)) (fun q0 => k .ret (r4_Word_x2_r q0)) (fun (_ : Unit) => k (.exit 0) (r4_Word_x2_0 (toS (lget S0.tmps 0))))
def r4_Word_lp {R : Type} (N : Nat) : Lp R := fun body S k => bif (Go.Sx.keyOf body).getD 0 == 2 then (r4_Word_L2.head.raw 0 S (fun S0 => r4_Word_d2 N S0 k)) else bif (Go.Sx.keyOf body).getD 0 == 7 then (r4_Word_L7.head.raw 0 S (fun S0 => r4_Word_d7 N S0 k)) else Option.none
theorem r4_Word_l2_eq {R : Type} (N : Nat) (k : Exit → St → Option R) (n : Nat) : ∀ (v0 : ByteArray) (v1 : Int), loopM E.Θ (r4_names_cal N) (r4_Word_lp N) (noJn) 0 r4_Word_L2 (bodyAt E 45 2) n (r4_Word_h2 v0 v1) k = r4_Word_l2 N n v0 v1 (fun q0 => k .ret (r4_Word_x2_r q0)) (fun (_ : Unit) => k (.exit 0) (r4_Word_x2_0 v0)) := by
  induction n with
  | zero => intro v0 v1; rfl
  | succ n ih =>
    intro v0 v1
    refine Eq.trans (b := r4_Word_b2 N (fun v0 v1 => loopM E.Θ (r4_names_cal N) (r4_Word_lp N) (noJn) 0 r4_Word_L2 (bodyAt E 45 2) n (r4_Word_h2 v0 v1) k) v0 v1 (fun q0 => k .ret (r4_Word_x2_r q0)) (fun (_ : Unit) => k (.exit 0) (r4_Word_x2_0 v0))) (by kernel_rfl) ?_
    have h : (fun (v0 : ByteArray) (v1 : Int) => loopM E.Θ (r4_names_cal N) (r4_Word_lp N) (noJn) 0 r4_Word_L2 (bodyAt E 45 2) n (r4_Word_h2 v0 v1) k) = (fun (v0 : ByteArray) (v1 : Int) => r4_Word_l2 N n v0 v1 (fun q0 => k .ret (r4_Word_x2_r q0)) (fun (_ : Unit) => k (.exit 0) (r4_Word_x2_0 v0))) := funext fun v0 => funext fun v1 => ih v0 v1
    rw [h]
    rfl
theorem r4_Word_l7_eq {R : Type} (N : Nat) (k : Exit → St → Option R) (n : Nat) : ∀ (v0 : ByteArray) (v1 : Int), loopM E.Θ (r4_names_cal N) (r4_Word_lp N) (noJn) 0 r4_Word_L7 (bodyAt E 45 7) n (r4_Word_h7 v0 v1) k = r4_Word_l7 N n v0 v1 (fun q0 => k .ret (r4_Word_x7_r q0)) (fun (_ : Unit) => k (.exit 2) (r4_Word_x7_2 v0)) := by
  induction n with
  | zero => intro v0 v1; rfl
  | succ n ih =>
    intro v0 v1
    refine Eq.trans (b := r4_Word_b7 N (fun v0 v1 => loopM E.Θ (r4_names_cal N) (r4_Word_lp N) (noJn) 0 r4_Word_L7 (bodyAt E 45 7) n (r4_Word_h7 v0 v1) k) v0 v1 (fun q0 => k .ret (r4_Word_x7_r q0)) (fun (_ : Unit) => k (.exit 2) (r4_Word_x7_2 v0))) (by kernel_rfl) ?_
    have h : (fun (v0 : ByteArray) (v1 : Int) => loopM E.Θ (r4_names_cal N) (r4_Word_lp N) (noJn) 0 r4_Word_L7 (bodyAt E 45 7) n (r4_Word_h7 v0 v1) k) = (fun (v0 : ByteArray) (v1 : Int) => r4_Word_l7 N n v0 v1 (fun q0 => k .ret (r4_Word_x7_r q0)) (fun (_ : Unit) => k (.exit 2) (r4_Word_x7_2 v0))) := funext fun v0 => funext fun v1 => ih v0 v1
    rw [h]
    rfl
theorem r4_Word_k7 {R : Type} (N : Nat) : LpKey (R := R) E 45 0 (r4_Word_lp N) 7 :=
  lpKey_of hE (r4_names_cal_ok N) (lp := r4_Word_lp N) (jn := noJn) r4_Word_L7_ok [] kNil (by kernel_rfl) [] jNil (by kernel_rfl) N fun S k =>
    Eq.trans (b := r4_Word_L7.head.raw 0 S (fun S0 => r4_Word_d7 N S0 k)) (by kernel_rfl) (congrArg (r4_Word_L7.head.raw 0 S) (funext fun S0 => Eq.trans (r4_Word_l7_eq N k N (toS (lget S0.tmps 0)) (toI (lget S0.tmps 4))).symm (by kernel_rfl)))
theorem r4_Word_k2 {R : Type} (N : Nat) : LpKey (R := R) E 45 0 (r4_Word_lp N) 2 :=
  lpKey_of hE (r4_names_cal_ok N) (lp := r4_Word_lp N) (jn := noJn) r4_Word_L2_ok [] kNil (by kernel_rfl) [] jNil (by kernel_rfl) N fun S k =>
    Eq.trans (b := r4_Word_L2.head.raw 0 S (fun S0 => r4_Word_d2 N S0 k)) (by kernel_rfl) (congrArg (r4_Word_L2.head.raw 0 S) (funext fun S0 => Eq.trans (r4_Word_l2_eq N k N (toS (lget S0.tmps 0)) (toI (lget S0.tmps 3))).symm (by kernel_rfl)))
noncomputable def r4_Word_go {R : Type} (N : Nat) (args : List SV) (T : Tab) (kf : SV × Tab → Option R) : Option R :=
  r4_Word N (toS (lget args 0)) (fun q0 => kf (lget [.bool q0] 0, []))
noncomputable def r4_Word_cal {R : Type} (N : Nat) : Cal R := callM (r4_names_cal N) 45 0 r4_Word_sp (r4_Word_go N)
theorem r4_Word_cal_ok {R : Type} (N : Nat) : CalOk E.P (r4_Word_cal (R := R) N) :=
  callM_ok hE (r4_names_cal_ok N) (lp := r4_Word_lp N) (jn := noJn) (keys := [2, 7]) (kCons (r4_Word_k2 N) (kCons (r4_Word_k7 N) kNil)) (by kernel_rfl) (js := []) jNil (by kernel_rfl) r4_Word_sp_ok r4_Word_rs_ok (fun args T kf => Eq.trans (r4_Word_def N (toS (lget args 0)) (fun q0 => kf (lget [.bool q0] 0, []))) (by kernel_rfl : r4_Word_run N args T kf = fnM E (r4_names_cal N) (r4_Word_lp N) (noJn) 45 (r4_Word_sp.vs args) (r4_Word_sp.tab T) 0 (resK r4_Word_rs kf)))
def r4_condition_L9 : LoopSp := ⟨⟨[1, 2, 3, 7, 8], ⟨(dr 1 ((rSl (lsC api_LiteralC)) :: (rBool) :: (rPtr 0 0) :: (dr 3 ((rInt .i64) :: (rInt .i64) :: (dr 103 []))))), [(0, eBlkC api_MachineC)]⟩, 1⟩, [(Option.none, ⟨[6], ⟨(dr 6 ((rBool) :: (dr 105 []))), []⟩, 0⟩), (some 2, ⟨[1, 2, 3, 7], ⟨(dr 1 ((rSl (lsC api_LiteralC)) :: (rBool) :: (rPtr 0 0) :: (dr 3 ((rInt .i64) :: (dr 104 []))))), [(0, eBlkC api_MachineC)]⟩, 1⟩)]⟩
theorem r4_condition_L9_ok : r4_condition_L9.Ok := ⟨⟨(drCons 1 (allCons (rSl_ok (lsC_ok api_LiteralC_ok)) (allCons rBool_ok (allCons (rPtr_ok 0 0) (drCons 3 (allCons (rInt_ok .i64) (allCons (rInt_ok .i64) (drCons 103 allNil)))))))), (eCons (eBlkC_ok api_MachineC_ok api_MachineC_len) eNil)⟩, (xCons ⟨(drCons 6 (allCons rBool_ok (drCons 105 allNil))), eNil⟩ (xCons ⟨(drCons 1 (allCons (rSl_ok (lsC_ok api_LiteralC_ok)) (allCons rBool_ok (allCons (rPtr_ok 0 0) (drCons 3 (allCons (rInt_ok .i64) (drCons 104 allNil))))))), (eCons (eBlkC_ok api_MachineC_ok api_MachineC_len) eNil)⟩ xNil))⟩
def r4_condition_h9 (v63 : Arr (Arr api_Literal)) (v64 : Bool) (v65 : Int) (v66 : Int) (v67 : api_Machine) : St := ⟨(un 1 ((slC (lsC api_LiteralC) v63) :: (.bool v64) :: (.ptr 0 0) :: (un 3 ((.int .i64 v65) :: (.int .i64 v66) :: (un 103 []))))), [(0, .blk (Cod.enc api_MachineC v67))], 1⟩
def r4_condition_x9_r (q0 : Bool) : St := ⟨(un 6 ((.bool q0) :: (un 105 []))), [], 0⟩
def r4_condition_x9_2 (v63 : Arr (Arr api_Literal)) (v64 : Bool) (v65 : Int) (v67 : api_Machine) : St := ⟨(un 1 ((slC (lsC api_LiteralC) v63) :: (.bool v64) :: (.ptr 0 0) :: (un 3 ((.int .i64 v65) :: (un 104 []))))), [(0, .blk (Cod.enc api_MachineC v67))], 1⟩
def r4_condition_b9 {R : Type} (N : Nat) (rc : Arr (Arr api_Literal) → Bool → Int → Int → api_Machine → Option R) (v63 : Arr (Arr api_Literal)) (v64 : Bool) (v65 : Int) (v66 : Int) (v67 : api_Machine) (kr : Bool → Option R) (k2 : Unit → Option R) : Option R :=
 bif decide ((0 : Int) ≤ v65) && decide (v65 < (↑(Arr.n v63) : Int)) then
 bif decide (v66 < (↑(Arr.n (Arr.f v63 (Int.toNat v65))) : Int)) then
 bif decide ((0 : Int) ≤ v65) && decide (v65 < (↑(Arr.n v63) : Int)) then
 bif decide ((0 : Int) ≤ v66) && decide (v66 < (↑(Arr.n (Arr.f v63 (Int.toNat v65))) : Int)) then
 bif api_Literal.Kind (Arr.f (Arr.f v63 (Int.toNat v65)) (Int.toNat v66)) == (1 : Int) then
 r4_from N (api_Literal.Number (Arr.f (Arr.f v63 (Int.toNat v65)) (Int.toNat v66))) (0 : Int) (w64 ((↑(Arr.n (api_Machine.Inputs v67)) : Int) - (1 : Int))) (fun r68 =>
 bif r68 then
 bif !api_Literal.Value (Arr.f (Arr.f v63 (Int.toNat v65)) (Int.toNat v66)) == (0 : Int) then
 kr false
 else
 rc v63 v64 v65 (w64 (v66 + (1 : Int))) v67
 else
 kr false)
 else
 bif api_Literal.Kind (Arr.f (Arr.f v63 (Int.toNat v65)) (Int.toNat v66)) == (2 : Int) then
 r4_from N (api_Literal.Number (Arr.f (Arr.f v63 (Int.toNat v65)) (Int.toNat v66))) (0 : Int) (w64 ((↑(Arr.n (api_Machine.Counters v67)) : Int) - (1 : Int))) (fun r69 =>
 bif r69 then
 bif decide ((0 : Int) ≤ api_Literal.Number (Arr.f (Arr.f v63 (Int.toNat v65)) (Int.toNat v66))) && decide (api_Literal.Number (Arr.f (Arr.f v63 (Int.toNat v65)) (Int.toNat v66)) < (↑(Arr.n (api_Machine.Counters v67)) : Int)) then
 r4_from N (api_Literal.Value (Arr.f (Arr.f v63 (Int.toNat v65)) (Int.toNat v66))) (0 : Int) (api_Counter.Max (Arr.f (api_Machine.Counters v67) (Int.toNat (api_Literal.Number (Arr.f (Arr.f v63 (Int.toNat v65)) (Int.toNat v66)))))) (fun r70 =>
 bif !r70 then
 kr false
 else
 rc v63 v64 v65 (w64 (v66 + (1 : Int))) v67)
 else
 Option.none
 else
 kr false)
 else
 bif api_Literal.Kind (Arr.f (Arr.f v63 (Int.toNat v65)) (Int.toNat v66)) == (3 : Int) then
 bif v64 then
 r4_from N (api_Literal.Number (Arr.f (Arr.f v63 (Int.toNat v65)) (Int.toNat v66))) (0 : Int) (w64 ((↑(Arr.n (api_Machine.States v67)) : Int) - (1 : Int))) (fun r71 =>
 bif r71 then
 bif !api_Literal.Value (Arr.f (Arr.f v63 (Int.toNat v65)) (Int.toNat v66)) == (0 : Int) then
 kr false
 else
 rc v63 v64 v65 (w64 (v66 + (1 : Int))) v67
 else
 kr false)
 else
 kr false
 else
 bif api_Literal.Kind (Arr.f (Arr.f v63 (Int.toNat v65)) (Int.toNat v66)) == (4 : Int) then
 r4_from N (api_Literal.Number (Arr.f (Arr.f v63 (Int.toNat v65)) (Int.toNat v66))) (0 : Int) (w64 ((↑(Arr.n (api_Machine.Outputs v67)) : Int) - (1 : Int))) (fun r72 =>
 bif r72 then
 bif !api_Literal.Value (Arr.f (Arr.f v63 (Int.toNat v65)) (Int.toNat v66)) == (0 : Int) then
 kr false
 else
 rc v63 v64 v65 (w64 (v66 + (1 : Int))) v67
 else
 kr false)
 else
 kr false
 else
 Option.none
 else
 Option.none
 else
 k2 ()
 else
 Option.none
def r4_condition_l9 {R : Type} (N : Nat) : Nat → Arr (Arr api_Literal) → Bool → Int → Int → api_Machine → (Bool → Option R) → (Unit → Option R) → Option R
  | 0, _, _, _, _, _, _, _ => Option.none
  | n + 1, v63, v64, v65, v66, v67, kr, k2 => r4_condition_b9 N (fun v63 v64 v65 v66 v67 => r4_condition_l9 N n v63 v64 v65 v66 v67 kr k2) v63 v64 v65 v66 v67 kr k2
def r4_condition_L4 : LoopSp := ⟨⟨[1, 2, 3, 7], ⟨(dr 1 ((rSl (lsC api_LiteralC)) :: (rBool) :: (rPtr 0 0) :: (dr 3 ((rInt .i64) :: (dr 104 []))))), [(0, eBlkC api_MachineC)]⟩, 1⟩, [(Option.none, ⟨[6], ⟨(dr 6 ((rBool) :: (dr 105 []))), []⟩, 0⟩), (some 0, ⟨[], ⟨(dr 112 []), []⟩, 0⟩)]⟩
theorem r4_condition_L4_ok : r4_condition_L4.Ok := ⟨⟨(drCons 1 (allCons (rSl_ok (lsC_ok api_LiteralC_ok)) (allCons rBool_ok (allCons (rPtr_ok 0 0) (drCons 3 (allCons (rInt_ok .i64) (drCons 104 allNil))))))), (eCons (eBlkC_ok api_MachineC_ok api_MachineC_len) eNil)⟩, (xCons ⟨(drCons 6 (allCons rBool_ok (drCons 105 allNil))), eNil⟩ (xCons ⟨(drCons 112 allNil), eNil⟩ xNil))⟩
def r4_condition_h4 (v59 : Arr (Arr api_Literal)) (v60 : Bool) (v61 : Int) (v62 : api_Machine) : St := ⟨(un 1 ((slC (lsC api_LiteralC) v59) :: (.bool v60) :: (.ptr 0 0) :: (un 3 ((.int .i64 v61) :: (un 104 []))))), [(0, .blk (Cod.enc api_MachineC v62))], 1⟩
def r4_condition_x4_r (q0 : Bool) : St := ⟨(un 6 ((.bool q0) :: (un 105 []))), [], 0⟩
def r4_condition_x4_0  : St := ⟨(un 112 []), [], 0⟩
def r4_condition_b4 {R : Type} (N : Nat) (rc : Arr (Arr api_Literal) → Bool → Int → api_Machine → Option R) (v59 : Arr (Arr api_Literal)) (v60 : Bool) (v61 : Int) (v62 : api_Machine) (kr : Bool → Option R) (k0 : Unit → Option R) : Option R :=
 bif decide (v61 < (↑(Arr.n v59) : Int)) then
 bif decide ((0 : Int) ≤ v61) && decide (v61 < (↑(Arr.n v59) : Int)) then
 bif decide ((↑(Arr.n (Arr.f v59 (Int.toNat v61))) : Int) > (6 : Int)) then
 kr false
 else
 r4_condition_l9 N N v59 v60 v61 (0 : Int) v62 (fun r73 =>
 kr r73) (fun (_ : Unit) =>
 rc v59 v60 (w64 (v61 + (1 : Int))) v62)
 else
 Option.none
 else
 k0 ()
def r4_condition_l4 {R : Type} (N : Nat) : Nat → Arr (Arr api_Literal) → Bool → Int → api_Machine → (Bool → Option R) → (Unit → Option R) → Option R
  | 0, _, _, _, _, _, _ => Option.none
  | n + 1, v59, v60, v61, v62, kr, k0 => r4_condition_b4 N (fun v59 v60 v61 v62 => r4_condition_l4 N n v59 v60 v61 v62 kr k0) v59 v60 v61 v62 kr k0
def r4_condition_m {R : Type} (N : Nat) (a56 : api_Machine) (a57 : Arr (Arr api_Literal)) (a58 : Bool) (k : Bool → Option R) : Option R :=
 bif decide ((↑(Arr.n a57) : Int) > (6 : Int)) then
 k false
 else
 r4_condition_l4 N N a57 a58 (0 : Int) a56 (fun r74 =>
 k r74) (fun (_ : Unit) =>
 k true)
noncomputable def r4_condition {R : Type} : Nat → api_Machine → Arr (Arr api_Literal) → Bool → (Bool → Option R) → Option R := lock (@r4_condition_m R)
theorem r4_condition_def {R : Type} (N : Nat) (a56 : api_Machine) (a57 : Arr (Arr api_Literal)) (a58 : Bool) (k : Bool → Option R) : r4_condition N a56 a57 a58 k = r4_condition_m N a56 a57 a58 k := by unfold r4_condition; rw [lock_eq]
def r4_condition_sp : Sp := ⟨[rAgg api_MachineC, rSl (lsC api_LiteralC), rBool], []⟩
theorem r4_condition_sp_ok : r4_condition_sp.Ok := ⟨(allCons (rAgg_ok api_MachineC_ok api_MachineC_len) (allCons (rSl_ok (lsC_ok api_LiteralC_ok)) (allCons rBool_ok allNil))), eNil⟩
def r4_condition_rs : Sp := ⟨[rBool], []⟩
theorem r4_condition_rs_ok : r4_condition_rs.Ok := ⟨(allCons rBool_ok allNil), eNil⟩
def r4_condition_run {R : Type} (N : Nat) (args : List SV) (T : Tab) (kf : SV × Tab → Option R) : Option R :=
  r4_condition_m N (Cod.dec api_MachineC (lget (toCs (lget args 0)))) (lstC (lsC api_LiteralC) (lget args 1)) (toB (lget args 2)) (fun q0 => kf (lget [.bool q0] 0, []))
def r4_condition_d9 {R : Type} (N : Nat) (S0 : St) (k : Exit → St → Option R) : Option R :=
  r4_condition_l9 N N (lstC (lsC api_LiteralC) (lget S0.tmps 1)) (toB (lget S0.tmps 2)) (toI (lget S0.tmps 7)) (toI (lget S0.tmps 8)) (Cod.dec api_MachineC (lget (entCs (entAt S0.tab 0)))) (fun q0 => k .ret (r4_condition_x9_r q0)) (fun (_ : Unit) => k (.exit 2) (r4_condition_x9_2 (lstC (lsC api_LiteralC) (lget S0.tmps 1)) (toB (lget S0.tmps 2)) (toI (lget S0.tmps 7)) (Cod.dec api_MachineC (lget (entCs (entAt S0.tab 0))))))
def r4_condition_d4 {R : Type} (N : Nat) (S0 : St) (k : Exit → St → Option R) : Option R :=
  r4_condition_l4 N N (lstC (lsC api_LiteralC) (lget S0.tmps 1)) (toB (lget S0.tmps 2)) (toI (lget S0.tmps 7)) (Cod.dec api_MachineC (lget (entCs (entAt S0.tab 0)))) (fun q0 => k .ret (r4_condition_x4_r q0)) (fun (_ : Unit) => k (.exit 0) (r4_condition_x4_0 ))
def r4_condition_lp {R : Type} (N : Nat) : Lp R := fun body S k => bif (Go.Sx.keyOf body).getD 0 == 4 then (r4_condition_L4.head.raw 0 S (fun S0 => r4_condition_d4 N S0 k)) else bif (Go.Sx.keyOf body).getD 0 == 9 then (r4_condition_L9.head.raw 0 S (fun S0 => r4_condition_d9 N S0 k)) else Option.none
theorem r4_condition_l4_eq {R : Type} (N : Nat) (k : Exit → St → Option R) (n : Nat) : ∀ (v0 : Arr (Arr api_Literal)) (v1 : Bool) (v2 : Int) (v3 : api_Machine), loopM E.Θ (r4_Word_cal N) (r4_condition_lp N) (noJn) 0 r4_condition_L4 (bodyAt E 46 4) n (r4_condition_h4 v0 v1 v2 v3) k = r4_condition_l4 N n v0 v1 v2 v3 (fun q0 => k .ret (r4_condition_x4_r q0)) (fun (_ : Unit) => k (.exit 0) (r4_condition_x4_0 )) := by
  induction n with
  | zero => intro v0 v1 v2 v3; rfl
  | succ n ih =>
    intro v0 v1 v2 v3
    refine Eq.trans (b := r4_condition_b4 N (fun v0 v1 v2 v3 => loopM E.Θ (r4_Word_cal N) (r4_condition_lp N) (noJn) 0 r4_condition_L4 (bodyAt E 46 4) n (r4_condition_h4 v0 v1 v2 v3) k) v0 v1 v2 v3 (fun q0 => k .ret (r4_condition_x4_r q0)) (fun (_ : Unit) => k (.exit 0) (r4_condition_x4_0 ))) (by kernel_rfl) ?_
    have h : (fun (v0 : Arr (Arr api_Literal)) (v1 : Bool) (v2 : Int) (v3 : api_Machine) => loopM E.Θ (r4_Word_cal N) (r4_condition_lp N) (noJn) 0 r4_condition_L4 (bodyAt E 46 4) n (r4_condition_h4 v0 v1 v2 v3) k) = (fun (v0 : Arr (Arr api_Literal)) (v1 : Bool) (v2 : Int) (v3 : api_Machine) => r4_condition_l4 N n v0 v1 v2 v3 (fun q0 => k .ret (r4_condition_x4_r q0)) (fun (_ : Unit) => k (.exit 0) (r4_condition_x4_0 ))) := funext fun v0 => funext fun v1 => funext fun v2 => funext fun v3 => ih v0 v1 v2 v3
    rw [h]
    rfl
theorem r4_condition_l9_eq {R : Type} (N : Nat) (k : Exit → St → Option R) (n : Nat) : ∀ (v0 : Arr (Arr api_Literal)) (v1 : Bool) (v2 : Int) (v3 : Int) (v4 : api_Machine), loopM E.Θ (r4_Word_cal N) (r4_condition_lp N) (noJn) 0 r4_condition_L9 (bodyAt E 46 9) n (r4_condition_h9 v0 v1 v2 v3 v4) k = r4_condition_l9 N n v0 v1 v2 v3 v4 (fun q0 => k .ret (r4_condition_x9_r q0)) (fun (_ : Unit) => k (.exit 2) (r4_condition_x9_2 v0 v1 v2 v4)) := by
  induction n with
  | zero => intro v0 v1 v2 v3 v4; rfl
  | succ n ih =>
    intro v0 v1 v2 v3 v4
    refine Eq.trans (b := r4_condition_b9 N (fun v0 v1 v2 v3 v4 => loopM E.Θ (r4_Word_cal N) (r4_condition_lp N) (noJn) 0 r4_condition_L9 (bodyAt E 46 9) n (r4_condition_h9 v0 v1 v2 v3 v4) k) v0 v1 v2 v3 v4 (fun q0 => k .ret (r4_condition_x9_r q0)) (fun (_ : Unit) => k (.exit 2) (r4_condition_x9_2 v0 v1 v2 v4))) (by kernel_rfl) ?_
    have h : (fun (v0 : Arr (Arr api_Literal)) (v1 : Bool) (v2 : Int) (v3 : Int) (v4 : api_Machine) => loopM E.Θ (r4_Word_cal N) (r4_condition_lp N) (noJn) 0 r4_condition_L9 (bodyAt E 46 9) n (r4_condition_h9 v0 v1 v2 v3 v4) k) = (fun (v0 : Arr (Arr api_Literal)) (v1 : Bool) (v2 : Int) (v3 : Int) (v4 : api_Machine) => r4_condition_l9 N n v0 v1 v2 v3 v4 (fun q0 => k .ret (r4_condition_x9_r q0)) (fun (_ : Unit) => k (.exit 2) (r4_condition_x9_2 v0 v1 v2 v4))) := funext fun v0 => funext fun v1 => funext fun v2 => funext fun v3 => funext fun v4 => ih v0 v1 v2 v3 v4
    rw [h]
    rfl
theorem r4_condition_k9 {R : Type} (N : Nat) : LpKey (R := R) E 46 0 (r4_condition_lp N) 9 :=
  lpKey_of hE (r4_Word_cal_ok N) (lp := r4_condition_lp N) (jn := noJn) r4_condition_L9_ok [] kNil (by kernel_rfl) [] jNil (by kernel_rfl) N fun S k =>
    Eq.trans (b := r4_condition_L9.head.raw 0 S (fun S0 => r4_condition_d9 N S0 k)) (by kernel_rfl) (congrArg (r4_condition_L9.head.raw 0 S) (funext fun S0 => Eq.trans (r4_condition_l9_eq N k N (lstC (lsC api_LiteralC) (lget S0.tmps 1)) (toB (lget S0.tmps 2)) (toI (lget S0.tmps 7)) (toI (lget S0.tmps 8)) (Cod.dec api_MachineC (lget (entCs (entAt S0.tab 0))))).symm (by kernel_rfl)))
theorem r4_condition_k4 {R : Type} (N : Nat) : LpKey (R := R) E 46 0 (r4_condition_lp N) 4 :=
  lpKey_of hE (r4_Word_cal_ok N) (lp := r4_condition_lp N) (jn := noJn) r4_condition_L4_ok [9] (kCons (r4_condition_k9 N) kNil) (by kernel_rfl) [] jNil (by kernel_rfl) N fun S k =>
    Eq.trans (b := r4_condition_L4.head.raw 0 S (fun S0 => r4_condition_d4 N S0 k)) (by kernel_rfl) (congrArg (r4_condition_L4.head.raw 0 S) (funext fun S0 => Eq.trans (r4_condition_l4_eq N k N (lstC (lsC api_LiteralC) (lget S0.tmps 1)) (toB (lget S0.tmps 2)) (toI (lget S0.tmps 7)) (Cod.dec api_MachineC (lget (entCs (entAt S0.tab 0))))).symm (by kernel_rfl)))
noncomputable def r4_condition_go {R : Type} (N : Nat) (args : List SV) (T : Tab) (kf : SV × Tab → Option R) : Option R :=
  r4_condition N (Cod.dec api_MachineC (lget (toCs (lget args 0)))) (lstC (lsC api_LiteralC) (lget args 1)) (toB (lget args 2)) (fun q0 => kf (lget [.bool q0] 0, []))
noncomputable def r4_condition_cal {R : Type} (N : Nat) : Cal R := callM (r4_Word_cal N) 46 0 r4_condition_sp (r4_condition_go N)
theorem r4_condition_cal_ok {R : Type} (N : Nat) : CalOk E.P (r4_condition_cal (R := R) N) :=
  callM_ok hE (r4_Word_cal_ok N) (lp := r4_condition_lp N) (jn := noJn) (keys := [4, 9]) (kCons (r4_condition_k4 N) (kCons (r4_condition_k9 N) kNil)) (by kernel_rfl) (js := []) jNil (by kernel_rfl) r4_condition_sp_ok r4_condition_rs_ok (fun args T kf => Eq.trans (r4_condition_def N (Cod.dec api_MachineC (lget (toCs (lget args 0)))) (lstC (lsC api_LiteralC) (lget args 1)) (toB (lget args 2)) (fun q0 => kf (lget [.bool q0] 0, []))) (by kernel_rfl : r4_condition_run N args T kf = fnM E (r4_Word_cal N) (r4_condition_lp N) (noJn) 46 (r4_condition_sp.vs args) (r4_condition_sp.tab T) 0 (resK r4_condition_rs kf)))
def r4_Check_L10 : LoopSp := ⟨⟨[1, 3, 4, 5], ⟨(dr 1 ((rPtr 0 0) :: (dr 1 ((rRow 1) :: (rInt .i64) :: (rInt .i64) :: (dr 178 []))))), [(0, eBlkC api_MachineC), (1, eRow strC)]⟩, 2⟩, [(Option.none, ⟨[2], ⟨(dr 2 ((rInt .i64) :: (dr 181 []))), []⟩, 0⟩), (some 2, ⟨[1, 3, 4], ⟨(dr 1 ((rPtr 0 0) :: (dr 1 ((rRow 1) :: (rInt .i64) :: (dr 179 []))))), [(0, eBlkC api_MachineC), (1, eRow strC)]⟩, 2⟩)]⟩
theorem r4_Check_L10_ok : r4_Check_L10.Ok := ⟨⟨(drCons 1 (allCons (rPtr_ok 0 0) (drCons 1 (allCons (rRow_ok 1) (allCons (rInt_ok .i64) (allCons (rInt_ok .i64) (drCons 178 allNil))))))), (eCons (eBlkC_ok api_MachineC_ok api_MachineC_len) (eCons (eRow_ok strC_ok) eNil))⟩, (xCons ⟨(drCons 2 (allCons (rInt_ok .i64) (drCons 181 allNil))), eNil⟩ (xCons ⟨(drCons 1 (allCons (rPtr_ok 0 0) (drCons 1 (allCons (rRow_ok 1) (allCons (rInt_ok .i64) (drCons 179 allNil)))))), (eCons (eBlkC_ok api_MachineC_ok api_MachineC_len) (eCons (eRow_ok strC_ok) eNil))⟩ xNil))⟩
def r4_Check_h10 (v37 : Int) (v38 : Int) (v39 : api_Machine) (v40 : Bool) (v41 : Arr ByteArray) : St := ⟨(un 1 ((.ptr 0 0) :: (un 1 ((.row 1) :: (.int .i64 v37) :: (.int .i64 v38) :: (un 178 []))))), [(0, .blk (Cod.enc api_MachineC v39)), (1, rowE strC v40 v41)], 2⟩
def r4_Check_x10_r (q0 : Int) : St := ⟨(un 2 ((.int .i64 q0) :: (un 181 []))), [], 0⟩
def r4_Check_x10_2 (v37 : Int) (v39 : api_Machine) (v40 : Bool) (v41 : Arr ByteArray) : St := ⟨(un 1 ((.ptr 0 0) :: (un 1 ((.row 1) :: (.int .i64 v37) :: (un 179 []))))), [(0, .blk (Cod.enc api_MachineC v39)), (1, rowE strC v40 v41)], 2⟩
def r4_Check_b10 {R : Type} (N : Nat) (rc : Int → Int → api_Machine → Bool → Arr ByteArray → Option R) (v37 : Int) (v38 : Int) (v39 : api_Machine) (v40 : Bool) (v41 : Arr ByteArray) (kr : Int → Option R) (k2 : Unit → Option R) : Option R :=
 bif decide (v38 < v37) then
 bif decide ((0 : Int) ≤ v38) && decide (v38 < (↑(Arr.n v41) : Int)) then
 bif decide ((0 : Int) ≤ v37) && decide (v37 < (↑(Arr.n v41) : Int)) then
 bif ByteArray.toList (Arr.f v41 (Int.toNat v38)) == ByteArray.toList (Arr.f v41 (Int.toNat v37)) then
 kr (41 : Int)
 else
 rc v37 (w64 (v38 + (1 : Int))) v39 v40 v41
 else
 Option.none
 else
 Option.none
 else
 k2 ()
def r4_Check_l10 {R : Type} (N : Nat) : Nat → Int → Int → api_Machine → Bool → Arr ByteArray → (Int → Option R) → (Unit → Option R) → Option R
  | 0, _, _, _, _, _, _, _ => Option.none
  | n + 1, v37, v38, v39, v40, v41, kr, k2 => r4_Check_b10 N (fun v37 v38 v39 v40 v41 => r4_Check_l10 N n v37 v38 v39 v40 v41 kr k2) v37 v38 v39 v40 v41 kr k2
def r4_Check_L5 : LoopSp := ⟨⟨[1, 3, 4], ⟨(dr 1 ((rPtr 0 0) :: (dr 1 ((rRow 1) :: (rInt .i64) :: (dr 179 []))))), [(0, eBlkC api_MachineC), (1, eRow strC)]⟩, 2⟩, [(Option.none, ⟨[2], ⟨(dr 2 ((rInt .i64) :: (dr 181 []))), []⟩, 0⟩), (some 0, ⟨[1], ⟨(dr 1 ((rPtr 0 0) :: (dr 182 []))), [(0, eBlkC api_MachineC)]⟩, 1⟩)]⟩
theorem r4_Check_L5_ok : r4_Check_L5.Ok := ⟨⟨(drCons 1 (allCons (rPtr_ok 0 0) (drCons 1 (allCons (rRow_ok 1) (allCons (rInt_ok .i64) (drCons 179 allNil)))))), (eCons (eBlkC_ok api_MachineC_ok api_MachineC_len) (eCons (eRow_ok strC_ok) eNil))⟩, (xCons ⟨(drCons 2 (allCons (rInt_ok .i64) (drCons 181 allNil))), eNil⟩ (xCons ⟨(drCons 1 (allCons (rPtr_ok 0 0) (drCons 182 allNil))), (eCons (eBlkC_ok api_MachineC_ok api_MachineC_len) eNil)⟩ xNil))⟩
def r4_Check_h5 (v25 : Int) (v26 : api_Machine) (v27 : Bool) (v28 : Arr ByteArray) : St := ⟨(un 1 ((.ptr 0 0) :: (un 1 ((.row 1) :: (.int .i64 v25) :: (un 179 []))))), [(0, .blk (Cod.enc api_MachineC v26)), (1, rowE strC v27 v28)], 2⟩
def r4_Check_x5_r (q0 : Int) : St := ⟨(un 2 ((.int .i64 q0) :: (un 181 []))), [], 0⟩
def r4_Check_x5_0 (v26 : api_Machine) : St := ⟨(un 1 ((.ptr 0 0) :: (un 182 []))), [(0, .blk (Cod.enc api_MachineC v26))], 1⟩
def r4_Check_b5 {R : Type} (N : Nat) (rc : Int → api_Machine → Bool → Arr ByteArray → Option R) (v25 : Int) (v26 : api_Machine) (v27 : Bool) (v28 : Arr ByteArray) (kr : Int → Option R) (k0 : Unit → Option R) : Option R :=
 bif decide (v25 < (↑(Arr.n v28) : Int)) then
 bif decide ((0 : Int) ≤ v25) && decide (v25 < (↑(Arr.n v28) : Int)) then
 bif decide ((↑(ByteArray.size (Arr.f v28 (Int.toNat v25))) : Int) > (8 : Int)) then
 kr (41 : Int)
 else
 bif decide ((0 : Int) ≤ v25) && decide (v25 < (↑(Arr.n v28) : Int)) then
 r4_Word N (Arr.f v28 (Int.toNat v25)) (fun r36 =>
 bif !r36 then
 kr (41 : Int)
 else
 r4_Check_l10 N N v25 (0 : Int) v26 v27 v28 (fun r42 =>
 kr r42) (fun (_ : Unit) =>
 rc (w64 (v25 + (1 : Int))) v26 v27 v28))
 else
 Option.none
 else
 Option.none
 else
 k0 ()
def r4_Check_l5 {R : Type} (N : Nat) : Nat → Int → api_Machine → Bool → Arr ByteArray → (Int → Option R) → (Unit → Option R) → Option R
  | 0, _, _, _, _, _, _ => Option.none
  | n + 1, v25, v26, v27, v28, kr, k0 => r4_Check_b5 N (fun v25 v26 v27 v28 => r4_Check_l5 N n v25 v26 v27 v28 kr k0) v25 v26 v27 v28 kr k0
def r4_Check_L15 : LoopSp := ⟨⟨[1, 6], ⟨(dr 1 ((rPtr 0 0) :: (dr 4 ((rInt .i64) :: (dr 177 []))))), [(0, eBlkC api_MachineC)]⟩, 1⟩, [(Option.none, ⟨[2], ⟨(dr 2 ((rInt .i64) :: (dr 181 []))), []⟩, 0⟩), (some 4, ⟨[1], ⟨(dr 1 ((rPtr 0 0) :: (dr 182 []))), [(0, eBlkC api_MachineC)]⟩, 1⟩)]⟩
theorem r4_Check_L15_ok : r4_Check_L15.Ok := ⟨⟨(drCons 1 (allCons (rPtr_ok 0 0) (drCons 4 (allCons (rInt_ok .i64) (drCons 177 allNil))))), (eCons (eBlkC_ok api_MachineC_ok api_MachineC_len) eNil)⟩, (xCons ⟨(drCons 2 (allCons (rInt_ok .i64) (drCons 181 allNil))), eNil⟩ (xCons ⟨(drCons 1 (allCons (rPtr_ok 0 0) (drCons 182 allNil))), (eCons (eBlkC_ok api_MachineC_ok api_MachineC_len) eNil)⟩ xNil))⟩
def r4_Check_h15 (v44 : Int) (v45 : api_Machine) : St := ⟨(un 1 ((.ptr 0 0) :: (un 4 ((.int .i64 v44) :: (un 177 []))))), [(0, .blk (Cod.enc api_MachineC v45))], 1⟩
def r4_Check_x15_r (q0 : Int) : St := ⟨(un 2 ((.int .i64 q0) :: (un 181 []))), [], 0⟩
def r4_Check_x15_4 (v45 : api_Machine) : St := ⟨(un 1 ((.ptr 0 0) :: (un 182 []))), [(0, .blk (Cod.enc api_MachineC v45))], 1⟩
def r4_Check_b15 {R : Type} (N : Nat) (rc : Int → api_Machine → Option R) (v44 : Int) (v45 : api_Machine) (kr : Int → Option R) (k4 : Unit → Option R) : Option R :=
 bif decide (v44 < (↑(Arr.n (api_Machine.Counters v45)) : Int)) then
 bif decide ((0 : Int) ≤ v44) && decide (v44 < (↑(Arr.n (api_Machine.Counters v45)) : Int)) then
 r4_from N (api_Counter.Max (Arr.f (api_Machine.Counters v45) (Int.toNat v44))) (1 : Int) (7 : Int) (fun r46 =>
 bif !r46 then
 kr (41 : Int)
 else
 rc (w64 (v44 + (1 : Int))) v45)
 else
 Option.none
 else
 k4 ()
def r4_Check_l15 {R : Type} (N : Nat) : Nat → Int → api_Machine → (Int → Option R) → (Unit → Option R) → Option R
  | 0, _, _, _, _ => Option.none
  | n + 1, v44, v45, kr, k4 => r4_Check_b15 N (fun v44 v45 => r4_Check_l15 N n v44 v45 kr k4) v44 v45 kr k4
def r4_Check_L20 : LoopSp := ⟨⟨[1, 7], ⟨(dr 1 ((rPtr 0 0) :: (dr 5 ((rInt .i64) :: (dr 176 []))))), [(0, eBlkC api_MachineC)]⟩, 1⟩, [(Option.none, ⟨[2], ⟨(dr 2 ((rInt .i64) :: (dr 181 []))), []⟩, 0⟩), (some 6, ⟨[1], ⟨(dr 1 ((rPtr 0 0) :: (dr 182 []))), [(0, eBlkC api_MachineC)]⟩, 1⟩)]⟩
theorem r4_Check_L20_ok : r4_Check_L20.Ok := ⟨⟨(drCons 1 (allCons (rPtr_ok 0 0) (drCons 5 (allCons (rInt_ok .i64) (drCons 176 allNil))))), (eCons (eBlkC_ok api_MachineC_ok api_MachineC_len) eNil)⟩, (xCons ⟨(drCons 2 (allCons (rInt_ok .i64) (drCons 181 allNil))), eNil⟩ (xCons ⟨(drCons 1 (allCons (rPtr_ok 0 0) (drCons 182 allNil))), (eCons (eBlkC_ok api_MachineC_ok api_MachineC_len) eNil)⟩ xNil))⟩
def r4_Check_h20 (v48 : Int) (v49 : api_Machine) : St := ⟨(un 1 ((.ptr 0 0) :: (un 5 ((.int .i64 v48) :: (un 176 []))))), [(0, .blk (Cod.enc api_MachineC v49))], 1⟩
def r4_Check_x20_r (q0 : Int) : St := ⟨(un 2 ((.int .i64 q0) :: (un 181 []))), [], 0⟩
def r4_Check_x20_6 (v49 : api_Machine) : St := ⟨(un 1 ((.ptr 0 0) :: (un 182 []))), [(0, .blk (Cod.enc api_MachineC v49))], 1⟩
def r4_Check_b20 {R : Type} (N : Nat) (rc : Int → api_Machine → Option R) (v48 : Int) (v49 : api_Machine) (kr : Int → Option R) (k6 : Unit → Option R) : Option R :=
 bif decide (v48 < (↑(Arr.n (api_Machine.States v49)) : Int)) then
 bif decide ((0 : Int) ≤ v48) && decide (v48 < (↑(Arr.n (api_Machine.States v49)) : Int)) then
 r4_from N (api_State.Shows (Arr.f (api_Machine.States v49) (Int.toNat v48))) (0 : Int) (w64 (w64 ((1 : Int) * (2 : Int) ^ min (Int.toNat (IntKind.wrap IntKind.u64 (↑(Arr.n (api_Machine.Outputs v49)) : Int))) (IntKind.bits IntKind.i64)) - (1 : Int))) (fun r50 =>
 bif !r50 then
 kr (41 : Int)
 else
 rc (w64 (v48 + (1 : Int))) v49)
 else
 Option.none
 else
 k6 ()
def r4_Check_l20 {R : Type} (N : Nat) : Nat → Int → api_Machine → (Int → Option R) → (Unit → Option R) → Option R
  | 0, _, _, _, _ => Option.none
  | n + 1, v48, v49, kr, k6 => r4_Check_b20 N (fun v48 v49 => r4_Check_l20 N n v48 v49 kr k6) v48 v49 kr k6
def r4_Check_L31 : LoopSp := ⟨⟨[1, 8, 9, 10], ⟨(dr 1 ((rPtr 0 0) :: (dr 6 ((rInt .i64) :: (rPtr 1 0) :: (rInt .i64) :: (dr 173 []))))), [(0, eBlkC api_MachineC), (1, eBlkC api_RuleC)]⟩, 2⟩, [(Option.none, ⟨[2], ⟨(dr 2 ((rInt .i64) :: (dr 181 []))), []⟩, 0⟩), (some 10, ⟨[1, 8], ⟨(dr 1 ((rPtr 0 0) :: (dr 6 ((rInt .i64) :: (dr 175 []))))), [(0, eBlkC api_MachineC)]⟩, 1⟩)]⟩
theorem r4_Check_L31_ok : r4_Check_L31.Ok := ⟨⟨(drCons 1 (allCons (rPtr_ok 0 0) (drCons 6 (allCons (rInt_ok .i64) (allCons (rPtr_ok 1 0) (allCons (rInt_ok .i64) (drCons 173 allNil))))))), (eCons (eBlkC_ok api_MachineC_ok api_MachineC_len) (eCons (eBlkC_ok api_RuleC_ok api_RuleC_len) eNil))⟩, (xCons ⟨(drCons 2 (allCons (rInt_ok .i64) (drCons 181 allNil))), eNil⟩ (xCons ⟨(drCons 1 (allCons (rPtr_ok 0 0) (drCons 6 (allCons (rInt_ok .i64) (drCons 175 allNil))))), (eCons (eBlkC_ok api_MachineC_ok api_MachineC_len) eNil)⟩ xNil))⟩
def r4_Check_h31 (v76 : Int) (v77 : Int) (v78 : api_Machine) (v79 : api_Rule) : St := ⟨(un 1 ((.ptr 0 0) :: (un 6 ((.int .i64 v76) :: (.ptr 1 0) :: (.int .i64 v77) :: (un 173 []))))), [(0, .blk (Cod.enc api_MachineC v78)), (1, .blk (Cod.enc api_RuleC v79))], 2⟩
def r4_Check_x31_r (q0 : Int) : St := ⟨(un 2 ((.int .i64 q0) :: (un 181 []))), [], 0⟩
def r4_Check_x31_10 (v76 : Int) (v78 : api_Machine) : St := ⟨(un 1 ((.ptr 0 0) :: (un 6 ((.int .i64 v76) :: (un 175 []))))), [(0, .blk (Cod.enc api_MachineC v78))], 1⟩
def r4_Check_b31 {R : Type} (N : Nat) (rc : Int → Int → api_Machine → api_Rule → Option R) (v76 : Int) (v77 : Int) (v78 : api_Machine) (v79 : api_Rule) (kr : Int → Option R) (k10 : Unit → Option R) : Option R :=
 bif decide (v77 < (↑(Arr.n (api_Rule.Sets v79)) : Int)) then
 bif decide ((0 : Int) ≤ v77) && decide (v77 < (↑(Arr.n (api_Rule.Sets v79)) : Int)) then
 r4_from N (api_Set.Kind (Arr.f (api_Rule.Sets v79) (Int.toNat v77))) (1 : Int) (3 : Int) (fun r80 =>
 bif !r80 then
 kr (41 : Int)
 else
 bif decide ((0 : Int) ≤ v77) && decide (v77 < (↑(Arr.n (api_Rule.Sets v79)) : Int)) then
 r4_from N (api_Set.Counter (Arr.f (api_Rule.Sets v79) (Int.toNat v77))) (0 : Int) (w64 ((↑(Arr.n (api_Machine.Counters v78)) : Int) - (1 : Int))) (fun r81 =>
 bif !r81 then
 kr (41 : Int)
 else
 rc v76 (w64 (v77 + (1 : Int))) v78 v79)
 else
 Option.none)
 else
 Option.none
 else
 k10 ()
def r4_Check_l31 {R : Type} (N : Nat) : Nat → Int → Int → api_Machine → api_Rule → (Int → Option R) → (Unit → Option R) → Option R
  | 0, _, _, _, _, _, _ => Option.none
  | n + 1, v76, v77, v78, v79, kr, k10 => r4_Check_b31 N (fun v76 v77 v78 v79 => r4_Check_l31 N n v76 v77 v78 v79 kr k10) v76 v77 v78 v79 kr k10
def r4_Check_L25 : LoopSp := ⟨⟨[1, 8], ⟨(dr 1 ((rPtr 0 0) :: (dr 6 ((rInt .i64) :: (dr 175 []))))), [(0, eBlkC api_MachineC)]⟩, 1⟩, [(Option.none, ⟨[2], ⟨(dr 2 ((rInt .i64) :: (dr 181 []))), []⟩, 0⟩), (some 8, ⟨[], ⟨(dr 184 []), []⟩, 0⟩)]⟩
theorem r4_Check_L25_ok : r4_Check_L25.Ok := ⟨⟨(drCons 1 (allCons (rPtr_ok 0 0) (drCons 6 (allCons (rInt_ok .i64) (drCons 175 allNil))))), (eCons (eBlkC_ok api_MachineC_ok api_MachineC_len) eNil)⟩, (xCons ⟨(drCons 2 (allCons (rInt_ok .i64) (drCons 181 allNil))), eNil⟩ (xCons ⟨(drCons 184 allNil), eNil⟩ xNil))⟩
def r4_Check_h25 (v52 : Int) (v53 : api_Machine) : St := ⟨(un 1 ((.ptr 0 0) :: (un 6 ((.int .i64 v52) :: (un 175 []))))), [(0, .blk (Cod.enc api_MachineC v53))], 1⟩
def r4_Check_x25_r (q0 : Int) : St := ⟨(un 2 ((.int .i64 q0) :: (un 181 []))), [], 0⟩
def r4_Check_x25_8  : St := ⟨(un 184 []), [], 0⟩
def r4_Check_b25 {R : Type} (N : Nat) (rc : Int → api_Machine → Option R) (v52 : Int) (v53 : api_Machine) (kr : Int → Option R) (k8 : Unit → Option R) : Option R :=
 bif decide (v52 < (↑(Arr.n (api_Machine.Rules v53)) : Int)) then
 bif decide ((0 : Int) ≤ v52) && decide (v52 < (↑(Arr.n (api_Machine.Rules v53)) : Int)) then
 r4_from N (api_Rule.From (Arr.f (api_Machine.Rules v53) (Int.toNat v52))) (-1 : Int) (w64 ((↑(Arr.n (api_Machine.States v53)) : Int) - (1 : Int))) (fun r54 =>
 bif !r54 then
 kr (41 : Int)
 else
 r4_from N (api_Rule.To (Arr.f (api_Machine.Rules v53) (Int.toNat v52))) (0 : Int) (w64 ((↑(Arr.n (api_Machine.States v53)) : Int) - (1 : Int))) (fun r55 =>
 bif !r55 then
 kr (41 : Int)
 else
 r4_condition N v53 (api_Rule.When (Arr.f (api_Machine.Rules v53) (Int.toNat v52))) false (fun r75 =>
 bif !r75 then
 kr (41 : Int)
 else
 bif decide ((↑(Arr.n (api_Rule.Sets (Arr.f (api_Machine.Rules v53) (Int.toNat v52)))) : Int) > (4 : Int)) then
 kr (41 : Int)
 else
 r4_Check_l31 N N v52 (0 : Int) v53 (Arr.f (api_Machine.Rules v53) (Int.toNat v52)) (fun r82 =>
 kr r82) (fun (_ : Unit) =>
 rc (w64 (v52 + (1 : Int))) v53))))
 else
 Option.none
 else
 k8 ()
def r4_Check_l25 {R : Type} (N : Nat) : Nat → Int → api_Machine → (Int → Option R) → (Unit → Option R) → Option R
  | 0, _, _, _, _ => Option.none
  | n + 1, v52, v53, kr, k8 => r4_Check_b25 N (fun v52 v53 => r4_Check_l25 N n v52 v53 kr k8) v52 v53 kr k8
def r4_Check_m {R : Type} (N : Nat) (a5 : api_Machine) (k : Int → Option R) : Option R :=
 bif decide ((↑(Arr.n (api_Machine.Inputs a5)) : Int) > (4 : Int)) then
 k (41 : Int)
 else
 bif decide ((↑(Arr.n (api_Machine.Outputs a5)) : Int) > (6 : Int)) then
 k (41 : Int)
 else
 bif decide ((↑(Arr.n (api_Machine.Counters a5)) : Int) > (2 : Int)) then
 k (41 : Int)
 else
 r4_from N ((↑(Arr.n (api_Machine.States a5)) : Int)) (1 : Int) (12 : Int) (fun r9 =>
 bif !r9 then
 k (41 : Int)
 else
 bif decide ((↑(Arr.n (api_Machine.Rules a5)) : Int) > (40 : Int)) then
 k (41 : Int)
 else
 r4_names N a5 (fun r23 r24 =>
 r4_Check_l5 N N (0 : Int) a5 r23 r24 (fun r43 =>
 k r43) (fun (_ : Unit) =>
 r4_Check_l15 N N (0 : Int) a5 (fun r47 =>
 k r47) (fun (_ : Unit) =>
 r4_Check_l20 N N (0 : Int) a5 (fun r51 =>
 k r51) (fun (_ : Unit) =>
 r4_Check_l25 N N (0 : Int) a5 (fun r83 =>
 k r83) (fun (_ : Unit) =>
 k (0 : Int)))))))
noncomputable def r4_Check {R : Type} : Nat → api_Machine → (Int → Option R) → Option R := lock (@r4_Check_m R)
theorem r4_Check_def {R : Type} (N : Nat) (a5 : api_Machine) (k : Int → Option R) : r4_Check N a5 k = r4_Check_m N a5 k := by unfold r4_Check; rw [lock_eq]
def r4_Check_sp : Sp := ⟨[rAgg api_MachineC], []⟩
theorem r4_Check_sp_ok : r4_Check_sp.Ok := ⟨(allCons (rAgg_ok api_MachineC_ok api_MachineC_len) allNil), eNil⟩
def r4_Check_rs : Sp := ⟨[rInt .i64], []⟩
theorem r4_Check_rs_ok : r4_Check_rs.Ok := ⟨(allCons (rInt_ok .i64) allNil), eNil⟩
def r4_Check_run {R : Type} (N : Nat) (args : List SV) (T : Tab) (kf : SV × Tab → Option R) : Option R :=
  r4_Check_m N (Cod.dec api_MachineC (lget (toCs (lget args 0)))) (fun q0 => kf (lget [.int .i64 q0] 0, []))
def r4_Check_d31 {R : Type} (N : Nat) (S0 : St) (k : Exit → St → Option R) : Option R :=
  r4_Check_l31 N N (toI (lget S0.tmps 8)) (toI (lget S0.tmps 10)) (Cod.dec api_MachineC (lget (entCs (entAt S0.tab 0)))) (Cod.dec api_RuleC (lget (entCs (entAt S0.tab 1)))) (fun q0 => k .ret (r4_Check_x31_r q0)) (fun (_ : Unit) => k (.exit 10) (r4_Check_x31_10 (toI (lget S0.tmps 8)) (Cod.dec api_MachineC (lget (entCs (entAt S0.tab 0))))))
def r4_Check_d25 {R : Type} (N : Nat) (S0 : St) (k : Exit → St → Option R) : Option R :=
  r4_Check_l25 N N (toI (lget S0.tmps 8)) (Cod.dec api_MachineC (lget (entCs (entAt S0.tab 0)))) (fun q0 => k .ret (r4_Check_x25_r q0)) (fun (_ : Unit) => k (.exit 8) (r4_Check_x25_8 ))
def r4_Check_d20 {R : Type} (N : Nat) (S0 : St) (k : Exit → St → Option R) : Option R :=
  r4_Check_l20 N N (toI (lget S0.tmps 7)) (Cod.dec api_MachineC (lget (entCs (entAt S0.tab 0)))) (fun q0 => k .ret (r4_Check_x20_r q0)) (fun (_ : Unit) => k (.exit 6) (r4_Check_x20_6 (Cod.dec api_MachineC (lget (entCs (entAt S0.tab 0))))))
def r4_Check_d15 {R : Type} (N : Nat) (S0 : St) (k : Exit → St → Option R) : Option R :=
  r4_Check_l15 N N (toI (lget S0.tmps 6)) (Cod.dec api_MachineC (lget (entCs (entAt S0.tab 0)))) (fun q0 => k .ret (r4_Check_x15_r q0)) (fun (_ : Unit) => k (.exit 4) (r4_Check_x15_4 (Cod.dec api_MachineC (lget (entCs (entAt S0.tab 0))))))
def r4_Check_d10 {R : Type} (N : Nat) (S0 : St) (k : Exit → St → Option R) : Option R :=
  r4_Check_l10 N N (toI (lget S0.tmps 4)) (toI (lget S0.tmps 5)) (Cod.dec api_MachineC (lget (entCs (entAt S0.tab 0)))) (entNl (entAt S0.tab 1)) (lst strC (entN (entAt S0.tab 1)) (entC (entAt S0.tab 1))) (fun q0 => k .ret (r4_Check_x10_r q0)) (fun (_ : Unit) => k (.exit 2) (r4_Check_x10_2 (toI (lget S0.tmps 4)) (Cod.dec api_MachineC (lget (entCs (entAt S0.tab 0)))) (entNl (entAt S0.tab 1)) (lst strC (entN (entAt S0.tab 1)) (entC (entAt S0.tab 1)))))
def r4_Check_d5 {R : Type} (N : Nat) (S0 : St) (k : Exit → St → Option R) : Option R :=
  r4_Check_l5 N N (toI (lget S0.tmps 4)) (Cod.dec api_MachineC (lget (entCs (entAt S0.tab 0)))) (entNl (entAt S0.tab 1)) (lst strC (entN (entAt S0.tab 1)) (entC (entAt S0.tab 1))) (fun q0 => k .ret (r4_Check_x5_r q0)) (fun (_ : Unit) => k (.exit 0) (r4_Check_x5_0 (Cod.dec api_MachineC (lget (entCs (entAt S0.tab 0))))))
def r4_Check_lp {R : Type} (N : Nat) : Lp R := fun body S k => bif (Go.Sx.keyOf body).getD 0 == 5 then (r4_Check_L5.head.raw 0 S (fun S0 => r4_Check_d5 N S0 k)) else bif (Go.Sx.keyOf body).getD 0 == 10 then (r4_Check_L10.head.raw 0 S (fun S0 => r4_Check_d10 N S0 k)) else bif (Go.Sx.keyOf body).getD 0 == 15 then (r4_Check_L15.head.raw 0 S (fun S0 => r4_Check_d15 N S0 k)) else bif (Go.Sx.keyOf body).getD 0 == 20 then (r4_Check_L20.head.raw 0 S (fun S0 => r4_Check_d20 N S0 k)) else bif (Go.Sx.keyOf body).getD 0 == 25 then (r4_Check_L25.head.raw 0 S (fun S0 => r4_Check_d25 N S0 k)) else bif (Go.Sx.keyOf body).getD 0 == 31 then (r4_Check_L31.head.raw 0 S (fun S0 => r4_Check_d31 N S0 k)) else Option.none
theorem r4_Check_l5_eq {R : Type} (N : Nat) (k : Exit → St → Option R) (n : Nat) : ∀ (v0 : Int) (v1 : api_Machine) (v2 : Bool) (v3 : Arr ByteArray), loopM E.Θ (r4_condition_cal N) (r4_Check_lp N) (noJn) 0 r4_Check_L5 (bodyAt E 18 5) n (r4_Check_h5 v0 v1 v2 v3) k = r4_Check_l5 N n v0 v1 v2 v3 (fun q0 => k .ret (r4_Check_x5_r q0)) (fun (_ : Unit) => k (.exit 0) (r4_Check_x5_0 v1)) := by
  induction n with
  | zero => intro v0 v1 v2 v3; rfl
  | succ n ih =>
    intro v0 v1 v2 v3
    refine Eq.trans (b := r4_Check_b5 N (fun v0 v1 v2 v3 => loopM E.Θ (r4_condition_cal N) (r4_Check_lp N) (noJn) 0 r4_Check_L5 (bodyAt E 18 5) n (r4_Check_h5 v0 v1 v2 v3) k) v0 v1 v2 v3 (fun q0 => k .ret (r4_Check_x5_r q0)) (fun (_ : Unit) => k (.exit 0) (r4_Check_x5_0 v1))) (by kernel_rfl) ?_
    have h : (fun (v0 : Int) (v1 : api_Machine) (v2 : Bool) (v3 : Arr ByteArray) => loopM E.Θ (r4_condition_cal N) (r4_Check_lp N) (noJn) 0 r4_Check_L5 (bodyAt E 18 5) n (r4_Check_h5 v0 v1 v2 v3) k) = (fun (v0 : Int) (v1 : api_Machine) (v2 : Bool) (v3 : Arr ByteArray) => r4_Check_l5 N n v0 v1 v2 v3 (fun q0 => k .ret (r4_Check_x5_r q0)) (fun (_ : Unit) => k (.exit 0) (r4_Check_x5_0 v1))) := funext fun v0 => funext fun v1 => funext fun v2 => funext fun v3 => ih v0 v1 v2 v3
    rw [h]
    rfl
theorem r4_Check_l10_eq {R : Type} (N : Nat) (k : Exit → St → Option R) (n : Nat) : ∀ (v0 : Int) (v1 : Int) (v2 : api_Machine) (v3 : Bool) (v4 : Arr ByteArray), loopM E.Θ (r4_condition_cal N) (r4_Check_lp N) (noJn) 0 r4_Check_L10 (bodyAt E 18 10) n (r4_Check_h10 v0 v1 v2 v3 v4) k = r4_Check_l10 N n v0 v1 v2 v3 v4 (fun q0 => k .ret (r4_Check_x10_r q0)) (fun (_ : Unit) => k (.exit 2) (r4_Check_x10_2 v0 v2 v3 v4)) := by
  induction n with
  | zero => intro v0 v1 v2 v3 v4; rfl
  | succ n ih =>
    intro v0 v1 v2 v3 v4
    refine Eq.trans (b := r4_Check_b10 N (fun v0 v1 v2 v3 v4 => loopM E.Θ (r4_condition_cal N) (r4_Check_lp N) (noJn) 0 r4_Check_L10 (bodyAt E 18 10) n (r4_Check_h10 v0 v1 v2 v3 v4) k) v0 v1 v2 v3 v4 (fun q0 => k .ret (r4_Check_x10_r q0)) (fun (_ : Unit) => k (.exit 2) (r4_Check_x10_2 v0 v2 v3 v4))) (by kernel_rfl) ?_
    have h : (fun (v0 : Int) (v1 : Int) (v2 : api_Machine) (v3 : Bool) (v4 : Arr ByteArray) => loopM E.Θ (r4_condition_cal N) (r4_Check_lp N) (noJn) 0 r4_Check_L10 (bodyAt E 18 10) n (r4_Check_h10 v0 v1 v2 v3 v4) k) = (fun (v0 : Int) (v1 : Int) (v2 : api_Machine) (v3 : Bool) (v4 : Arr ByteArray) => r4_Check_l10 N n v0 v1 v2 v3 v4 (fun q0 => k .ret (r4_Check_x10_r q0)) (fun (_ : Unit) => k (.exit 2) (r4_Check_x10_2 v0 v2 v3 v4))) := funext fun v0 => funext fun v1 => funext fun v2 => funext fun v3 => funext fun v4 => ih v0 v1 v2 v3 v4
    rw [h]
    rfl
theorem r4_Check_l15_eq {R : Type} (N : Nat) (k : Exit → St → Option R) (n : Nat) : ∀ (v0 : Int) (v1 : api_Machine), loopM E.Θ (r4_condition_cal N) (r4_Check_lp N) (noJn) 0 r4_Check_L15 (bodyAt E 18 15) n (r4_Check_h15 v0 v1) k = r4_Check_l15 N n v0 v1 (fun q0 => k .ret (r4_Check_x15_r q0)) (fun (_ : Unit) => k (.exit 4) (r4_Check_x15_4 v1)) := by
  induction n with
  | zero => intro v0 v1; rfl
  | succ n ih =>
    intro v0 v1
    refine Eq.trans (b := r4_Check_b15 N (fun v0 v1 => loopM E.Θ (r4_condition_cal N) (r4_Check_lp N) (noJn) 0 r4_Check_L15 (bodyAt E 18 15) n (r4_Check_h15 v0 v1) k) v0 v1 (fun q0 => k .ret (r4_Check_x15_r q0)) (fun (_ : Unit) => k (.exit 4) (r4_Check_x15_4 v1))) (by kernel_rfl) ?_
    have h : (fun (v0 : Int) (v1 : api_Machine) => loopM E.Θ (r4_condition_cal N) (r4_Check_lp N) (noJn) 0 r4_Check_L15 (bodyAt E 18 15) n (r4_Check_h15 v0 v1) k) = (fun (v0 : Int) (v1 : api_Machine) => r4_Check_l15 N n v0 v1 (fun q0 => k .ret (r4_Check_x15_r q0)) (fun (_ : Unit) => k (.exit 4) (r4_Check_x15_4 v1))) := funext fun v0 => funext fun v1 => ih v0 v1
    rw [h]
    rfl
theorem r4_Check_l20_eq {R : Type} (N : Nat) (k : Exit → St → Option R) (n : Nat) : ∀ (v0 : Int) (v1 : api_Machine), loopM E.Θ (r4_condition_cal N) (r4_Check_lp N) (noJn) 0 r4_Check_L20 (bodyAt E 18 20) n (r4_Check_h20 v0 v1) k = r4_Check_l20 N n v0 v1 (fun q0 => k .ret (r4_Check_x20_r q0)) (fun (_ : Unit) => k (.exit 6) (r4_Check_x20_6 v1)) := by
  induction n with
  | zero => intro v0 v1; rfl
  | succ n ih =>
    intro v0 v1
    refine Eq.trans (b := r4_Check_b20 N (fun v0 v1 => loopM E.Θ (r4_condition_cal N) (r4_Check_lp N) (noJn) 0 r4_Check_L20 (bodyAt E 18 20) n (r4_Check_h20 v0 v1) k) v0 v1 (fun q0 => k .ret (r4_Check_x20_r q0)) (fun (_ : Unit) => k (.exit 6) (r4_Check_x20_6 v1))) (by kernel_rfl) ?_
    have h : (fun (v0 : Int) (v1 : api_Machine) => loopM E.Θ (r4_condition_cal N) (r4_Check_lp N) (noJn) 0 r4_Check_L20 (bodyAt E 18 20) n (r4_Check_h20 v0 v1) k) = (fun (v0 : Int) (v1 : api_Machine) => r4_Check_l20 N n v0 v1 (fun q0 => k .ret (r4_Check_x20_r q0)) (fun (_ : Unit) => k (.exit 6) (r4_Check_x20_6 v1))) := funext fun v0 => funext fun v1 => ih v0 v1
    rw [h]
    rfl
theorem r4_Check_l25_eq {R : Type} (N : Nat) (k : Exit → St → Option R) (n : Nat) : ∀ (v0 : Int) (v1 : api_Machine), loopM E.Θ (r4_condition_cal N) (r4_Check_lp N) (noJn) 0 r4_Check_L25 (bodyAt E 18 25) n (r4_Check_h25 v0 v1) k = r4_Check_l25 N n v0 v1 (fun q0 => k .ret (r4_Check_x25_r q0)) (fun (_ : Unit) => k (.exit 8) (r4_Check_x25_8 )) := by
  induction n with
  | zero => intro v0 v1; rfl
  | succ n ih =>
    intro v0 v1
    refine Eq.trans (b := r4_Check_b25 N (fun v0 v1 => loopM E.Θ (r4_condition_cal N) (r4_Check_lp N) (noJn) 0 r4_Check_L25 (bodyAt E 18 25) n (r4_Check_h25 v0 v1) k) v0 v1 (fun q0 => k .ret (r4_Check_x25_r q0)) (fun (_ : Unit) => k (.exit 8) (r4_Check_x25_8 ))) (by kernel_rfl) ?_
    have h : (fun (v0 : Int) (v1 : api_Machine) => loopM E.Θ (r4_condition_cal N) (r4_Check_lp N) (noJn) 0 r4_Check_L25 (bodyAt E 18 25) n (r4_Check_h25 v0 v1) k) = (fun (v0 : Int) (v1 : api_Machine) => r4_Check_l25 N n v0 v1 (fun q0 => k .ret (r4_Check_x25_r q0)) (fun (_ : Unit) => k (.exit 8) (r4_Check_x25_8 ))) := funext fun v0 => funext fun v1 => ih v0 v1
    rw [h]
    rfl
theorem r4_Check_l31_eq {R : Type} (N : Nat) (k : Exit → St → Option R) (n : Nat) : ∀ (v0 : Int) (v1 : Int) (v2 : api_Machine) (v3 : api_Rule), loopM E.Θ (r4_condition_cal N) (r4_Check_lp N) (noJn) 0 r4_Check_L31 (bodyAt E 18 31) n (r4_Check_h31 v0 v1 v2 v3) k = r4_Check_l31 N n v0 v1 v2 v3 (fun q0 => k .ret (r4_Check_x31_r q0)) (fun (_ : Unit) => k (.exit 10) (r4_Check_x31_10 v0 v2)) := by
  induction n with
  | zero => intro v0 v1 v2 v3; rfl
  | succ n ih =>
    intro v0 v1 v2 v3
    refine Eq.trans (b := r4_Check_b31 N (fun v0 v1 v2 v3 => loopM E.Θ (r4_condition_cal N) (r4_Check_lp N) (noJn) 0 r4_Check_L31 (bodyAt E 18 31) n (r4_Check_h31 v0 v1 v2 v3) k) v0 v1 v2 v3 (fun q0 => k .ret (r4_Check_x31_r q0)) (fun (_ : Unit) => k (.exit 10) (r4_Check_x31_10 v0 v2))) (by kernel_rfl) ?_
    have h : (fun (v0 : Int) (v1 : Int) (v2 : api_Machine) (v3 : api_Rule) => loopM E.Θ (r4_condition_cal N) (r4_Check_lp N) (noJn) 0 r4_Check_L31 (bodyAt E 18 31) n (r4_Check_h31 v0 v1 v2 v3) k) = (fun (v0 : Int) (v1 : Int) (v2 : api_Machine) (v3 : api_Rule) => r4_Check_l31 N n v0 v1 v2 v3 (fun q0 => k .ret (r4_Check_x31_r q0)) (fun (_ : Unit) => k (.exit 10) (r4_Check_x31_10 v0 v2))) := funext fun v0 => funext fun v1 => funext fun v2 => funext fun v3 => ih v0 v1 v2 v3
    rw [h]
    rfl
theorem r4_Check_k31 {R : Type} (N : Nat) : LpKey (R := R) E 18 0 (r4_Check_lp N) 31 :=
  lpKey_of hE (r4_condition_cal_ok N) (lp := r4_Check_lp N) (jn := noJn) r4_Check_L31_ok [] kNil (by kernel_rfl) [] jNil (by kernel_rfl) N fun S k =>
    Eq.trans (b := r4_Check_L31.head.raw 0 S (fun S0 => r4_Check_d31 N S0 k)) (by kernel_rfl) (congrArg (r4_Check_L31.head.raw 0 S) (funext fun S0 => Eq.trans (r4_Check_l31_eq N k N (toI (lget S0.tmps 8)) (toI (lget S0.tmps 10)) (Cod.dec api_MachineC (lget (entCs (entAt S0.tab 0)))) (Cod.dec api_RuleC (lget (entCs (entAt S0.tab 1))))).symm (by kernel_rfl)))
theorem r4_Check_k15 {R : Type} (N : Nat) : LpKey (R := R) E 18 0 (r4_Check_lp N) 15 :=
  lpKey_of hE (r4_condition_cal_ok N) (lp := r4_Check_lp N) (jn := noJn) r4_Check_L15_ok [] kNil (by kernel_rfl) [] jNil (by kernel_rfl) N fun S k =>
    Eq.trans (b := r4_Check_L15.head.raw 0 S (fun S0 => r4_Check_d15 N S0 k)) (by kernel_rfl) (congrArg (r4_Check_L15.head.raw 0 S) (funext fun S0 => Eq.trans (r4_Check_l15_eq N k N (toI (lget S0.tmps 6)) (Cod.dec api_MachineC (lget (entCs (entAt S0.tab 0))))).symm (by kernel_rfl)))
theorem r4_Check_k10 {R : Type} (N : Nat) : LpKey (R := R) E 18 0 (r4_Check_lp N) 10 :=
  lpKey_of hE (r4_condition_cal_ok N) (lp := r4_Check_lp N) (jn := noJn) r4_Check_L10_ok [] kNil (by kernel_rfl) [] jNil (by kernel_rfl) N fun S k =>
    Eq.trans (b := r4_Check_L10.head.raw 0 S (fun S0 => r4_Check_d10 N S0 k)) (by kernel_rfl) (congrArg (r4_Check_L10.head.raw 0 S) (funext fun S0 => Eq.trans (r4_Check_l10_eq N k N (toI (lget S0.tmps 4)) (toI (lget S0.tmps 5)) (Cod.dec api_MachineC (lget (entCs (entAt S0.tab 0)))) (entNl (entAt S0.tab 1)) (lst strC (entN (entAt S0.tab 1)) (entC (entAt S0.tab 1)))).symm (by kernel_rfl)))
theorem r4_Check_k20 {R : Type} (N : Nat) : LpKey (R := R) E 18 0 (r4_Check_lp N) 20 :=
  lpKey_of hE (r4_condition_cal_ok N) (lp := r4_Check_lp N) (jn := noJn) r4_Check_L20_ok [] kNil (by kernel_rfl) [] jNil (by kernel_rfl) N fun S k =>
    Eq.trans (b := r4_Check_L20.head.raw 0 S (fun S0 => r4_Check_d20 N S0 k)) (by kernel_rfl) (congrArg (r4_Check_L20.head.raw 0 S) (funext fun S0 => Eq.trans (r4_Check_l20_eq N k N (toI (lget S0.tmps 7)) (Cod.dec api_MachineC (lget (entCs (entAt S0.tab 0))))).symm (by kernel_rfl)))
theorem r4_Check_k5 {R : Type} (N : Nat) : LpKey (R := R) E 18 0 (r4_Check_lp N) 5 :=
  lpKey_of hE (r4_condition_cal_ok N) (lp := r4_Check_lp N) (jn := noJn) r4_Check_L5_ok [10] (kCons (r4_Check_k10 N) kNil) (by kernel_rfl) [] jNil (by kernel_rfl) N fun S k =>
    Eq.trans (b := r4_Check_L5.head.raw 0 S (fun S0 => r4_Check_d5 N S0 k)) (by kernel_rfl) (congrArg (r4_Check_L5.head.raw 0 S) (funext fun S0 => Eq.trans (r4_Check_l5_eq N k N (toI (lget S0.tmps 4)) (Cod.dec api_MachineC (lget (entCs (entAt S0.tab 0)))) (entNl (entAt S0.tab 1)) (lst strC (entN (entAt S0.tab 1)) (entC (entAt S0.tab 1)))).symm (by kernel_rfl)))
theorem r4_Check_k25 {R : Type} (N : Nat) : LpKey (R := R) E 18 0 (r4_Check_lp N) 25 :=
  lpKey_of hE (r4_condition_cal_ok N) (lp := r4_Check_lp N) (jn := noJn) r4_Check_L25_ok [31] (kCons (r4_Check_k31 N) kNil) (by kernel_rfl) [] jNil (by kernel_rfl) N fun S k =>
    Eq.trans (b := r4_Check_L25.head.raw 0 S (fun S0 => r4_Check_d25 N S0 k)) (by kernel_rfl) (congrArg (r4_Check_L25.head.raw 0 S) (funext fun S0 => Eq.trans (r4_Check_l25_eq N k N (toI (lget S0.tmps 8)) (Cod.dec api_MachineC (lget (entCs (entAt S0.tab 0))))).symm (by kernel_rfl)))
noncomputable def r4_Check_go {R : Type} (N : Nat) (args : List SV) (T : Tab) (kf : SV × Tab → Option R) : Option R :=
  r4_Check N (Cod.dec api_MachineC (lget (toCs (lget args 0)))) (fun q0 => kf (lget [.int .i64 q0] 0, []))
noncomputable def r4_Check_cal {R : Type} (N : Nat) : Cal R := callM (r4_condition_cal N) 18 0 r4_Check_sp (r4_Check_go N)
theorem r4_Check_cal_ok {R : Type} (N : Nat) : CalOk E.P (r4_Check_cal (R := R) N) :=
  callM_ok hE (r4_condition_cal_ok N) (lp := r4_Check_lp N) (jn := noJn) (keys := [5, 10, 15, 20, 25, 31]) (kCons (r4_Check_k5 N) (kCons (r4_Check_k10 N) (kCons (r4_Check_k15 N) (kCons (r4_Check_k20 N) (kCons (r4_Check_k25 N) (kCons (r4_Check_k31 N) kNil)))))) (by kernel_rfl) (js := []) jNil (by kernel_rfl) r4_Check_sp_ok r4_Check_rs_ok (fun args T kf => Eq.trans (r4_Check_def N (Cod.dec api_MachineC (lget (toCs (lget args 0)))) (fun q0 => kf (lget [.int .i64 q0] 0, []))) (by kernel_rfl : r4_Check_run N args T kf = fnM E (r4_condition_cal N) (r4_Check_lp N) (noJn) 18 (r4_Check_sp.vs args) (r4_Check_sp.tab T) 0 (resK r4_Check_rs kf)))
def newellaw04_Wide_L5 : LoopSp := ⟨⟨[1, 3, 4], ⟨(dr 1 ((rPtr 0 0) :: (dr 1 ((rInt .i64) :: (rInt .i64) :: (dr 30 []))))), [(0, eBlkC api_MachineC)]⟩, 1⟩, [(some 0, ⟨[1, 3], ⟨(dr 1 ((rPtr 0 0) :: (dr 1 ((rInt .i64) :: (dr 31 []))))), [(0, eBlkC api_MachineC)]⟩, 1⟩)]⟩
theorem newellaw04_Wide_L5_ok : newellaw04_Wide_L5.Ok := ⟨⟨(drCons 1 (allCons (rPtr_ok 0 0) (drCons 1 (allCons (rInt_ok .i64) (allCons (rInt_ok .i64) (drCons 30 allNil)))))), (eCons (eBlkC_ok api_MachineC_ok api_MachineC_len) eNil)⟩, (xCons ⟨(drCons 1 (allCons (rPtr_ok 0 0) (drCons 1 (allCons (rInt_ok .i64) (drCons 31 allNil))))), (eCons (eBlkC_ok api_MachineC_ok api_MachineC_len) eNil)⟩ xNil)⟩
def newellaw04_Wide_h5 (v85 : Int) (v86 : Int) (v87 : api_Machine) : St := ⟨(un 1 ((.ptr 0 0) :: (un 1 ((.int .i64 v85) :: (.int .i64 v86) :: (un 30 []))))), [(0, .blk (Cod.enc api_MachineC v87))], 1⟩
def newellaw04_Wide_x5_0 (v87 : api_Machine) (q0 : Int) : St := ⟨(un 1 ((.ptr 0 0) :: (un 1 ((.int .i64 q0) :: (un 31 []))))), [(0, .blk (Cod.enc api_MachineC v87))], 1⟩
def newellaw04_Wide_b5 {R : Type} (N : Nat) (rc : Int → Int → api_Machine → Option R) (v85 : Int) (v86 : Int) (v87 : api_Machine) (k0 : Int → Option R) : Option R :=
 bif decide (v86 < (↑(Arr.n (api_Machine.Counters v87)) : Int)) then
 bif decide ((0 : Int) ≤ v86) && decide (v86 < (↑(Arr.n (api_Machine.Counters v87)) : Int)) then
 rc (w64 (v85 * w64 (api_Counter.Max (Arr.f (api_Machine.Counters v87) (Int.toNat v86)) + (1 : Int)))) (w64 (v86 + (1 : Int))) v87
 else
 Option.none
 else
 k0 v85
def newellaw04_Wide_l5 {R : Type} (N : Nat) : Nat → Int → Int → api_Machine → (Int → Option R) → Option R
  | 0, _, _, _, _ => Option.none
  | n + 1, v85, v86, v87, k0 => newellaw04_Wide_b5 N (fun v85 v86 v87 => newellaw04_Wide_l5 N n v85 v86 v87 k0) v85 v86 v87 k0
def newellaw04_Wide_m {R : Type} (N : Nat) (a4 : api_Machine) (k : Bool → Option R) : Option R :=
 r4_Check N a4 (fun r84 =>
 bif r84 != (0 : Int) then
 k false
 else
 newellaw04_Wide_l5 N N ((↑(Arr.n (api_Machine.States a4)) : Int)) (0 : Int) a4 (fun r88 =>
 bif decide ((↑(Arr.n (api_Machine.Inputs a4)) : Int) > (3 : Int)) then
 k true
 else
 k (decide (r88 > (80 : Int)))))
noncomputable def newellaw04_Wide {R : Type} : Nat → api_Machine → (Bool → Option R) → Option R := lock (@newellaw04_Wide_m R)
theorem newellaw04_Wide_def {R : Type} (N : Nat) (a4 : api_Machine) (k : Bool → Option R) : newellaw04_Wide N a4 k = newellaw04_Wide_m N a4 k := by unfold newellaw04_Wide; rw [lock_eq]
def newellaw04_Wide_sp : Sp := ⟨[rAgg api_MachineC], []⟩
theorem newellaw04_Wide_sp_ok : newellaw04_Wide_sp.Ok := ⟨(allCons (rAgg_ok api_MachineC_ok api_MachineC_len) allNil), eNil⟩
def newellaw04_Wide_rs : Sp := ⟨[rBool], []⟩
theorem newellaw04_Wide_rs_ok : newellaw04_Wide_rs.Ok := ⟨(allCons rBool_ok allNil), eNil⟩
def newellaw04_Wide_run {R : Type} (N : Nat) (args : List SV) (T : Tab) (kf : SV × Tab → Option R) : Option R :=
  newellaw04_Wide_m N (Cod.dec api_MachineC (lget (toCs (lget args 0)))) (fun q0 => kf (lget [.bool q0] 0, []))
def newellaw04_Wide_d5 {R : Type} (N : Nat) (S0 : St) (k : Exit → St → Option R) : Option R :=
  newellaw04_Wide_l5 N N (toI (lget S0.tmps 3)) (toI (lget S0.tmps 4)) (Cod.dec api_MachineC (lget (entCs (entAt S0.tab 0)))) (fun q0 => k (.exit 0) (newellaw04_Wide_x5_0 (Cod.dec api_MachineC (lget (entCs (entAt S0.tab 0)))) q0))
def newellaw04_Wide_lp {R : Type} (N : Nat) : Lp R := fun body S k => bif (Go.Sx.keyOf body).getD 0 == 5 then (newellaw04_Wide_L5.head.raw 0 S (fun S0 => newellaw04_Wide_d5 N S0 k)) else Option.none
theorem newellaw04_Wide_l5_eq {R : Type} (N : Nat) (k : Exit → St → Option R) (n : Nat) : ∀ (v0 : Int) (v1 : Int) (v2 : api_Machine), loopM E.Θ (r4_Check_cal N) (newellaw04_Wide_lp N) (noJn) 0 newellaw04_Wide_L5 (bodyAt E 16 5) n (newellaw04_Wide_h5 v0 v1 v2) k = newellaw04_Wide_l5 N n v0 v1 v2 (fun q0 => k (.exit 0) (newellaw04_Wide_x5_0 v2 q0)) := by
  induction n with
  | zero => intro v0 v1 v2; rfl
  | succ n ih =>
    intro v0 v1 v2
    refine Eq.trans (b := newellaw04_Wide_b5 N (fun v0 v1 v2 => loopM E.Θ (r4_Check_cal N) (newellaw04_Wide_lp N) (noJn) 0 newellaw04_Wide_L5 (bodyAt E 16 5) n (newellaw04_Wide_h5 v0 v1 v2) k) v0 v1 v2 (fun q0 => k (.exit 0) (newellaw04_Wide_x5_0 v2 q0))) (by kernel_rfl) ?_
    have h : (fun (v0 : Int) (v1 : Int) (v2 : api_Machine) => loopM E.Θ (r4_Check_cal N) (newellaw04_Wide_lp N) (noJn) 0 newellaw04_Wide_L5 (bodyAt E 16 5) n (newellaw04_Wide_h5 v0 v1 v2) k) = (fun (v0 : Int) (v1 : Int) (v2 : api_Machine) => newellaw04_Wide_l5 N n v0 v1 v2 (fun q0 => k (.exit 0) (newellaw04_Wide_x5_0 v2 q0))) := funext fun v0 => funext fun v1 => funext fun v2 => ih v0 v1 v2
    rw [h]
    rfl
theorem newellaw04_Wide_k5 {R : Type} (N : Nat) : LpKey (R := R) E 16 0 (newellaw04_Wide_lp N) 5 :=
  lpKey_of hE (r4_Check_cal_ok N) (lp := newellaw04_Wide_lp N) (jn := noJn) newellaw04_Wide_L5_ok [] kNil (by kernel_rfl) [] jNil (by kernel_rfl) N fun S k =>
    Eq.trans (b := newellaw04_Wide_L5.head.raw 0 S (fun S0 => newellaw04_Wide_d5 N S0 k)) (by kernel_rfl) (congrArg (newellaw04_Wide_L5.head.raw 0 S) (funext fun S0 => Eq.trans (newellaw04_Wide_l5_eq N k N (toI (lget S0.tmps 3)) (toI (lget S0.tmps 4)) (Cod.dec api_MachineC (lget (entCs (entAt S0.tab 0))))).symm (by kernel_rfl)))
noncomputable def newellaw04_Wide_go {R : Type} (N : Nat) (args : List SV) (T : Tab) (kf : SV × Tab → Option R) : Option R :=
  newellaw04_Wide N (Cod.dec api_MachineC (lget (toCs (lget args 0)))) (fun q0 => kf (lget [.bool q0] 0, []))
noncomputable def newellaw04_Wide_cal {R : Type} (N : Nat) : Cal R := callM (r4_Check_cal N) 16 0 newellaw04_Wide_sp (newellaw04_Wide_go N)
theorem newellaw04_Wide_cal_ok {R : Type} (N : Nat) : CalOk E.P (newellaw04_Wide_cal (R := R) N) :=
  callM_ok hE (r4_Check_cal_ok N) (lp := newellaw04_Wide_lp N) (jn := noJn) (keys := [5]) (kCons (newellaw04_Wide_k5 N) kNil) (by kernel_rfl) (js := []) jNil (by kernel_rfl) newellaw04_Wide_sp_ok newellaw04_Wide_rs_ok (fun args T kf => Eq.trans (newellaw04_Wide_def N (Cod.dec api_MachineC (lget (toCs (lget args 0)))) (fun q0 => kf (lget [.bool q0] 0, []))) (by kernel_rfl : newellaw04_Wide_run N args T kf = fnM E (r4_Check_cal N) (newellaw04_Wide_lp N) (noJn) 16 (newellaw04_Wide_sp.vs args) (newellaw04_Wide_sp.tab T) 0 (resK newellaw04_Wide_rs kf)))
def r3_within_m {R : Type} (N : Nat) (a90 : Int) (a91 : Int) (a92 : Int) (k : Bool → Option R) : Option R :=
 bif decide (a90 ≥ a91) then
 k (decide (a90 ≤ a92))
 else
 k false
noncomputable def r3_within {R : Type} : Nat → Int → Int → Int → (Bool → Option R) → Option R := lock (@r3_within_m R)
theorem r3_within_def {R : Type} (N : Nat) (a90 : Int) (a91 : Int) (a92 : Int) (k : Bool → Option R) : r3_within N a90 a91 a92 k = r3_within_m N a90 a91 a92 k := by unfold r3_within; rw [lock_eq]
def r3_within_sp : Sp := ⟨[rInt .i64, rInt .i64, rInt .i64], []⟩
theorem r3_within_sp_ok : r3_within_sp.Ok := ⟨(allCons (rInt_ok .i64) (allCons (rInt_ok .i64) (allCons (rInt_ok .i64) allNil))), eNil⟩
def r3_within_rs : Sp := ⟨[rBool], []⟩
theorem r3_within_rs_ok : r3_within_rs.Ok := ⟨(allCons rBool_ok allNil), eNil⟩
def r3_within_run {R : Type} (N : Nat) (args : List SV) (T : Tab) (kf : SV × Tab → Option R) : Option R :=
  r3_within_m N (toI (lget args 0)) (toI (lget args 1)) (toI (lget args 2)) (fun q0 => kf (lget [.bool q0] 0, []))
def r3_within_lp {R : Type} (N : Nat) : Lp R := fun body S k => Option.none
noncomputable def r3_within_go {R : Type} (N : Nat) (args : List SV) (T : Tab) (kf : SV × Tab → Option R) : Option R :=
  r3_within N (toI (lget args 0)) (toI (lget args 1)) (toI (lget args 2)) (fun q0 => kf (lget [.bool q0] 0, []))
noncomputable def r3_within_cal {R : Type} (N : Nat) : Cal R := callM (newellaw04_Wide_cal N) 42 0 r3_within_sp (r3_within_go N)
theorem r3_within_cal_ok {R : Type} (N : Nat) : CalOk E.P (r3_within_cal (R := R) N) :=
  callM_ok hE (newellaw04_Wide_cal_ok N) (lp := r3_within_lp N) (jn := noJn) (keys := []) kNil (by kernel_rfl) (js := []) jNil (by kernel_rfl) r3_within_sp_ok r3_within_rs_ok (fun args T kf => Eq.trans (r3_within_def N (toI (lget args 0)) (toI (lget args 1)) (toI (lget args 2)) (fun q0 => kf (lget [.bool q0] 0, []))) (by kernel_rfl : r3_within_run N args T kf = fnM E (newellaw04_Wide_cal N) (r3_within_lp N) (noJn) 42 (r3_within_sp.vs args) (r3_within_sp.tab T) 0 (resK r3_within_rs kf)))
def r3_Check_L4 : LoopSp := ⟨⟨[1, 3], ⟨(dr 1 ((rPtr 0 0) :: (dr 1 ((rInt .i64) :: (dr 130 []))))), [(0, eBlkC api_CircuitC)]⟩, 1⟩, [(Option.none, ⟨[2], ⟨(dr 2 ((rInt .i64) :: (dr 131 []))), []⟩, 0⟩), (some 0, ⟨[1], ⟨(dr 1 ((rPtr 0 0) :: (dr 132 []))), [(0, eBlkC api_CircuitC)]⟩, 1⟩)]⟩
theorem r3_Check_L4_ok : r3_Check_L4.Ok := ⟨⟨(drCons 1 (allCons (rPtr_ok 0 0) (drCons 1 (allCons (rInt_ok .i64) (drCons 130 allNil))))), (eCons (eBlkC_ok api_CircuitC_ok api_CircuitC_len) eNil)⟩, (xCons ⟨(drCons 2 (allCons (rInt_ok .i64) (drCons 131 allNil))), eNil⟩ (xCons ⟨(drCons 1 (allCons (rPtr_ok 0 0) (drCons 132 allNil))), (eCons (eBlkC_ok api_CircuitC_ok api_CircuitC_len) eNil)⟩ xNil))⟩
def r3_Check_h4 (v96 : Int) (v97 : api_Circuit) : St := ⟨(un 1 ((.ptr 0 0) :: (un 1 ((.int .i64 v96) :: (un 130 []))))), [(0, .blk (Cod.enc api_CircuitC v97))], 1⟩
def r3_Check_x4_r (q0 : Int) : St := ⟨(un 2 ((.int .i64 q0) :: (un 131 []))), [], 0⟩
def r3_Check_x4_0 (v97 : api_Circuit) : St := ⟨(un 1 ((.ptr 0 0) :: (un 132 []))), [(0, .blk (Cod.enc api_CircuitC v97))], 1⟩
def r3_Check_b4 {R : Type} (N : Nat) (rc : Int → api_Circuit → Option R) (v96 : Int) (v97 : api_Circuit) (kr : Int → Option R) (k0 : Unit → Option R) : Option R :=
 bif decide (v96 < (↑(Arr.n (api_Circuit.Switches v97)) : Int)) then
 bif decide ((0 : Int) ≤ v96) && decide (v96 < (↑(Arr.n (api_Circuit.Switches v97)) : Int)) then
 bif decide (IntKind.wrap IntKind.u64 (api_Circuit.Hazards v97) < (0 : Int)) then
 Option.none
 else
 r3_within N (Arr.f (api_Circuit.Switches v97) (Int.toNat v96)) (0 : Int) (w64 (w64 ((1 : Int) * (2 : Int) ^ min (Int.toNat (IntKind.wrap IntKind.u64 (api_Circuit.Hazards v97))) (IntKind.bits IntKind.i64)) - (1 : Int))) (fun r98 =>
 bif !r98 then
 kr (30 : Int)
 else
 rc (w64 (v96 + (1 : Int))) v97)
 else
 Option.none
 else
 k0 ()
def r3_Check_l4 {R : Type} (N : Nat) : Nat → Int → api_Circuit → (Int → Option R) → (Unit → Option R) → Option R
  | 0, _, _, _, _ => Option.none
  | n + 1, v96, v97, kr, k0 => r3_Check_b4 N (fun v96 v97 => r3_Check_l4 N n v96 v97 kr k0) v96 v97 kr k0
def r3_Check_L24 : LoopSp := ⟨⟨[1, 4, 5, 6, 7, 8], ⟨(dr 1 ((rPtr 0 0) :: (dr 2 ((rRow 1) :: (rInt .i64) :: (rPtr 2 0) :: (rInt .i64) :: (rInt .i64) :: (dr 125 []))))), [(0, eBlkC api_CircuitC), (1, eRow intC), (2, eBlkC api_WireC)]⟩, 3⟩, [(Option.none, ⟨[2], ⟨(dr 2 ((rInt .i64) :: (dr 131 []))), []⟩, 0⟩), (some 5, ⟨[1, 4, 5], ⟨(dr 1 ((rPtr 0 0) :: (dr 2 ((rRow 1) :: (rInt .i64) :: (dr 128 []))))), [(0, eBlkC api_CircuitC), (1, eRow intC)]⟩, 2⟩)]⟩
theorem r3_Check_L24_ok : r3_Check_L24.Ok := ⟨⟨(drCons 1 (allCons (rPtr_ok 0 0) (drCons 2 (allCons (rRow_ok 1) (allCons (rInt_ok .i64) (allCons (rPtr_ok 2 0) (allCons (rInt_ok .i64) (allCons (rInt_ok .i64) (drCons 125 allNil))))))))), (eCons (eBlkC_ok api_CircuitC_ok api_CircuitC_len) (eCons (eRow_ok intC_ok) (eCons (eBlkC_ok api_WireC_ok api_WireC_len) eNil)))⟩, (xCons ⟨(drCons 2 (allCons (rInt_ok .i64) (drCons 131 allNil))), eNil⟩ (xCons ⟨(drCons 1 (allCons (rPtr_ok 0 0) (drCons 2 (allCons (rRow_ok 1) (allCons (rInt_ok .i64) (drCons 128 allNil)))))), (eCons (eBlkC_ok api_CircuitC_ok api_CircuitC_len) (eCons (eRow_ok intC_ok) eNil))⟩ xNil))⟩
def r3_Check_h24 (v106 : Int) (v107 : Int) (v108 : Int) (v109 : api_Circuit) (v110 : Bool) (v111 : Arr Int) (v112 : api_Wire) : St := ⟨(un 1 ((.ptr 0 0) :: (un 2 ((.row 1) :: (.int .i64 v106) :: (.ptr 2 0) :: (.int .i64 v107) :: (.int .i64 v108) :: (un 125 []))))), [(0, .blk (Cod.enc api_CircuitC v109)), (1, rowE intC v110 v111), (2, .blk (Cod.enc api_WireC v112))], 3⟩
def r3_Check_x24_r (q0 : Int) : St := ⟨(un 2 ((.int .i64 q0) :: (un 131 []))), [], 0⟩
def r3_Check_x24_5 (v106 : Int) (v109 : api_Circuit) (v110 : Bool) (q3 : Arr Int) : St := ⟨(un 1 ((.ptr 0 0) :: (un 2 ((.row 1) :: (.int .i64 v106) :: (un 128 []))))), [(0, .blk (Cod.enc api_CircuitC v109)), (1, rowE intC v110 q3)], 2⟩
def r3_Check_b24 {R : Type} (N : Nat) (rc : Int → Int → Int → api_Circuit → Bool → Arr Int → api_Wire → Option R) (v106 : Int) (v107 : Int) (v108 : Int) (v109 : api_Circuit) (v110 : Bool) (v111 : Arr Int) (v112 : api_Wire) (kr : Int → Option R) (k5 : Arr Int → Option R) : Option R :=
 bif decide (v108 < (↑(Arr.n (api_Wire.Of v112)) : Int)) then
 bif decide ((0 : Int) ≤ v108) && decide (v108 < (↑(Arr.n (api_Wire.Of v112)) : Int)) then
 r3_within N (Arr.f (api_Wire.Of v112) (Int.toNat v108)) (w64 (v107 + (1 : Int))) (w64 ((↑(Arr.n (api_Circuit.Wires v109)) : Int) - (1 : Int))) (fun r113 =>
 bif !r113 then
 kr (30 : Int)
 else
 bif decide ((0 : Int) ≤ v108) && decide (v108 < (↑(Arr.n (api_Wire.Of v112)) : Int)) then
 bif decide ((0 : Int) ≤ Arr.f (api_Wire.Of v112) (Int.toNat v108)) && decide (Arr.f (api_Wire.Of v112) (Int.toNat v108) < (↑(Arr.n v111) : Int)) then
 bif decide ((0 : Int) ≤ Arr.f (api_Wire.Of v112) (Int.toNat v108)) && decide (Arr.f (api_Wire.Of v112) (Int.toNat v108) < (↑(Arr.n v111) : Int)) then
 rc v106 (Arr.f (api_Wire.Of v112) (Int.toNat v108)) (w64 (v108 + (1 : Int))) v109 v110 (lst intC (Arr.n v111) (setCs (Int.toNat (Arr.f (api_Wire.Of v112) (Int.toNat v108))) (0 : Nat) (Cod.cell intC (Arr.f v111)) [SV.int IntKind.i64 (w64 (Arr.f v111 (Int.toNat (Arr.f (api_Wire.Of v112) (Int.toNat v108))) + (1 : Int)))])) v112
 else
 Option.none
 else
 Option.none
 else
 Option.none)
 else
 Option.none
 else
 k5 v111
def r3_Check_l24 {R : Type} (N : Nat) : Nat → Int → Int → Int → api_Circuit → Bool → Arr Int → api_Wire → (Int → Option R) → (Arr Int → Option R) → Option R
  | 0, _, _, _, _, _, _, _, _, _ => Option.none
  | n + 1, v106, v107, v108, v109, v110, v111, v112, kr, k5 => r3_Check_b24 N (fun v106 v107 v108 v109 v110 v111 v112 => r3_Check_l24 N n v106 v107 v108 v109 v110 v111 v112 kr k5) v106 v107 v108 v109 v110 v111 v112 kr k5
def r3_Check_L10 : LoopSp := ⟨⟨[1, 4, 5], ⟨(dr 1 ((rPtr 0 0) :: (dr 2 ((rRow 1) :: (rInt .i64) :: (dr 128 []))))), [(0, eBlkC api_CircuitC), (1, eRow intC)]⟩, 2⟩, [(Option.none, ⟨[2], ⟨(dr 2 ((rInt .i64) :: (dr 131 []))), []⟩, 0⟩), (some 2, ⟨[4], ⟨(dr 4 ((rRow 0) :: (dr 129 []))), [(0, eRow intC)]⟩, 1⟩)]⟩
theorem r3_Check_L10_ok : r3_Check_L10.Ok := ⟨⟨(drCons 1 (allCons (rPtr_ok 0 0) (drCons 2 (allCons (rRow_ok 1) (allCons (rInt_ok .i64) (drCons 128 allNil)))))), (eCons (eBlkC_ok api_CircuitC_ok api_CircuitC_len) (eCons (eRow_ok intC_ok) eNil))⟩, (xCons ⟨(drCons 2 (allCons (rInt_ok .i64) (drCons 131 allNil))), eNil⟩ (xCons ⟨(drCons 4 (allCons (rRow_ok 0) (drCons 129 allNil))), (eCons (eRow_ok intC_ok) eNil)⟩ xNil))⟩
def r3_Check_h10 (v100 : Int) (v101 : api_Circuit) (v102 : Bool) (v103 : Arr Int) : St := ⟨(un 1 ((.ptr 0 0) :: (un 2 ((.row 1) :: (.int .i64 v100) :: (un 128 []))))), [(0, .blk (Cod.enc api_CircuitC v101)), (1, rowE intC v102 v103)], 2⟩
def r3_Check_x10_r (q0 : Int) : St := ⟨(un 2 ((.int .i64 q0) :: (un 131 []))), [], 0⟩
def r3_Check_x10_2 (v102 : Bool) (q1 : Arr Int) : St := ⟨(un 4 ((.row 0) :: (un 129 []))), [(0, rowE intC v102 q1)], 1⟩
def r3_Check_b10 {R : Type} (N : Nat) (rc : Int → api_Circuit → Bool → Arr Int → Option R) (v100 : Int) (v101 : api_Circuit) (v102 : Bool) (v103 : Arr Int) (kr : Int → Option R) (k2 : Arr Int → Option R) : Option R :=
 bif decide (v100 < (↑(Arr.n (api_Circuit.Wires v101)) : Int)) then
 bif decide ((0 : Int) ≤ v100) && decide (v100 < (↑(Arr.n (api_Circuit.Wires v101)) : Int)) then
 bif api_Wire.Kind (Arr.f (api_Circuit.Wires v101) (Int.toNat v100)) == (1 : Int) then
 bif (↑(Arr.n (api_Wire.Of (Arr.f (api_Circuit.Wires v101) (Int.toNat v100)))) : Int) != (1 : Int) then
 kr (30 : Int)
 else
 bif decide ((0 : Int) < (↑(Arr.n (api_Wire.Of (Arr.f (api_Circuit.Wires v101) (Int.toNat v100)))) : Int)) then
 r3_within N (Arr.f (api_Wire.Of (Arr.f (api_Circuit.Wires v101) (Int.toNat v100))) (Int.toNat (0 : Int))) (0 : Int) (w64 ((↑(Arr.n (api_Circuit.Switches v101)) : Int) - (1 : Int))) (fun r104 =>
 bif !r104 then
 kr (30 : Int)
 else
 rc (w64 (v100 + (1 : Int))) v101 v102 v103)
 else
 Option.none
 else
 bif api_Wire.Kind (Arr.f (api_Circuit.Wires v101) (Int.toNat v100)) == (2 : Int) then
 r3_within N ((↑(Arr.n (api_Wire.Of (Arr.f (api_Circuit.Wires v101) (Int.toNat v100)))) : Int)) (1 : Int) (8 : Int) (fun r105 =>
 bif !r105 then
 kr (30 : Int)
 else
 r3_Check_l24 N N v100 v100 (0 : Int) v101 v102 v103 (Arr.f (api_Circuit.Wires v101) (Int.toNat v100)) (fun r114 =>
 kr r114) (fun r115 =>
 rc (w64 (v100 + (1 : Int))) v101 v102 r115))
 else
 bif api_Wire.Kind (Arr.f (api_Circuit.Wires v101) (Int.toNat v100)) == (3 : Int) then
 r3_within N ((↑(Arr.n (api_Wire.Of (Arr.f (api_Circuit.Wires v101) (Int.toNat v100)))) : Int)) (1 : Int) (8 : Int) (fun r116 =>
 bif !r116 then
 kr (30 : Int)
 else
 r3_Check_l24 N N v100 v100 (0 : Int) v101 v102 v103 (Arr.f (api_Circuit.Wires v101) (Int.toNat v100)) (fun r117 =>
 kr r117) (fun r118 =>
 rc (w64 (v100 + (1 : Int))) v101 v102 r118))
 else
 kr (30 : Int)
 else
 Option.none
 else
 k2 v103
def r3_Check_l10 {R : Type} (N : Nat) : Nat → Int → api_Circuit → Bool → Arr Int → (Int → Option R) → (Arr Int → Option R) → Option R
  | 0, _, _, _, _, _, _ => Option.none
  | n + 1, v100, v101, v102, v103, kr, k2 => r3_Check_b10 N (fun v100 v101 v102 v103 => r3_Check_l10 N n v100 v101 v102 v103 kr k2) v100 v101 v102 v103 kr k2
def r3_Check_L31 : LoopSp := ⟨⟨[4, 9], ⟨(dr 4 ((rRow 0) :: (dr 4 ((rInt .i64) :: (dr 124 []))))), [(0, eRow intC)]⟩, 1⟩, [(Option.none, ⟨[2], ⟨(dr 2 ((rInt .i64) :: (dr 131 []))), []⟩, 0⟩), (some 7, ⟨[], ⟨(dr 134 []), []⟩, 0⟩)]⟩
theorem r3_Check_L31_ok : r3_Check_L31.Ok := ⟨⟨(drCons 4 (allCons (rRow_ok 0) (drCons 4 (allCons (rInt_ok .i64) (drCons 124 allNil))))), (eCons (eRow_ok intC_ok) eNil)⟩, (xCons ⟨(drCons 2 (allCons (rInt_ok .i64) (drCons 131 allNil))), eNil⟩ (xCons ⟨(drCons 134 allNil), eNil⟩ xNil))⟩
def r3_Check_h31 (v121 : Int) (v122 : Bool) (v123 : Arr Int) : St := ⟨(un 4 ((.row 0) :: (un 4 ((.int .i64 v121) :: (un 124 []))))), [(0, rowE intC v122 v123)], 1⟩
def r3_Check_x31_r (q0 : Int) : St := ⟨(un 2 ((.int .i64 q0) :: (un 131 []))), [], 0⟩
def r3_Check_x31_7  : St := ⟨(un 134 []), [], 0⟩
def r3_Check_b31 {R : Type} (N : Nat) (rc : Int → Bool → Arr Int → Option R) (v121 : Int) (v122 : Bool) (v123 : Arr Int) (kr : Int → Option R) (k7 : Unit → Option R) : Option R :=
 bif decide (v121 < (↑(Arr.n v123) : Int)) then
 bif decide ((0 : Int) ≤ v121) && decide (v121 < (↑(Arr.n v123) : Int)) then
 bif Arr.f v123 (Int.toNat v121) != (1 : Int) then
 kr (30 : Int)
 else
 rc (w64 (v121 + (1 : Int))) v122 v123
 else
 Option.none
 else
 k7 ()
def r3_Check_l31 {R : Type} (N : Nat) : Nat → Int → Bool → Arr Int → (Int → Option R) → (Unit → Option R) → Option R
  | 0, _, _, _, _, _ => Option.none
  | n + 1, v121, v122, v123, kr, k7 => r3_Check_b31 N (fun v121 v122 v123 => r3_Check_l31 N n v121 v122 v123 kr k7) v121 v122 v123 kr k7
def r3_Check_m {R : Type} (N : Nat) (a89 : api_Circuit) (k : Int → Option R) : Option R :=
 r3_within N (api_Circuit.Hazards a89) (1 : Int) (8 : Int) (fun r93 =>
 bif !r93 then
 k (30 : Int)
 else
 r3_within N ((↑(Arr.n (api_Circuit.Switches a89)) : Int)) (1 : Int) (12 : Int) (fun r94 =>
 bif !r94 then
 k (30 : Int)
 else
 r3_within N ((↑(Arr.n (api_Circuit.Wires a89)) : Int)) (1 : Int) (24 : Int) (fun r95 =>
 bif !r95 then
 k (30 : Int)
 else
 r3_Check_l4 N N (0 : Int) a89 (fun r99 =>
 k r99) (fun (_ : Unit) =>
 bif decide ((↑(Arr.n (api_Circuit.Wires a89)) : Int) ≤ (↑(Arr.n (api_Circuit.Wires a89)) : Int)) && decide ((↑(Arr.n (api_Circuit.Wires a89)) : Int) ≤ (1073741824 : Int)) then
 r3_Check_l10 N N (0 : Int) a89 false (lst intC (Int.toNat (↑(Arr.n (api_Circuit.Wires a89)) : Int)) (zeroC [SV.int .i64 0])) (fun r119 =>
 k r119) (fun r120 =>
 r3_Check_l31 N N (1 : Int) false r120 (fun r124 =>
 k r124) (fun (_ : Unit) =>
 k (0 : Int)))
 else
 Option.none))))
noncomputable def r3_Check {R : Type} : Nat → api_Circuit → (Int → Option R) → Option R := lock (@r3_Check_m R)
theorem r3_Check_def {R : Type} (N : Nat) (a89 : api_Circuit) (k : Int → Option R) : r3_Check N a89 k = r3_Check_m N a89 k := by unfold r3_Check; rw [lock_eq]
def r3_Check_sp : Sp := ⟨[rAgg api_CircuitC], []⟩
theorem r3_Check_sp_ok : r3_Check_sp.Ok := ⟨(allCons (rAgg_ok api_CircuitC_ok api_CircuitC_len) allNil), eNil⟩
def r3_Check_rs : Sp := ⟨[rInt .i64], []⟩
theorem r3_Check_rs_ok : r3_Check_rs.Ok := ⟨(allCons (rInt_ok .i64) allNil), eNil⟩
def r3_Check_run {R : Type} (N : Nat) (args : List SV) (T : Tab) (kf : SV × Tab → Option R) : Option R :=
  r3_Check_m N (Cod.dec api_CircuitC (lget (toCs (lget args 0)))) (fun q0 => kf (lget [.int .i64 q0] 0, []))
def r3_Check_d31 {R : Type} (N : Nat) (S0 : St) (k : Exit → St → Option R) : Option R :=
  r3_Check_l31 N N (toI (lget S0.tmps 9)) (entNl (entAt S0.tab 0)) (lst intC (entN (entAt S0.tab 0)) (entC (entAt S0.tab 0))) (fun q0 => k .ret (r3_Check_x31_r q0)) (fun (_ : Unit) => k (.exit 7) (r3_Check_x31_7 ))
def r3_Check_d24 {R : Type} (N : Nat) (S0 : St) (k : Exit → St → Option R) : Option R :=
  r3_Check_l24 N N (toI (lget S0.tmps 5)) (toI (lget S0.tmps 7)) (toI (lget S0.tmps 8)) (Cod.dec api_CircuitC (lget (entCs (entAt S0.tab 0)))) (entNl (entAt S0.tab 1)) (lst intC (entN (entAt S0.tab 1)) (entC (entAt S0.tab 1))) (Cod.dec api_WireC (lget (entCs (entAt S0.tab 2)))) (fun q0 => k .ret (r3_Check_x24_r q0)) (fun q3 => k (.exit 5) (r3_Check_x24_5 (toI (lget S0.tmps 5)) (Cod.dec api_CircuitC (lget (entCs (entAt S0.tab 0)))) (entNl (entAt S0.tab 1)) q3))
def r3_Check_d10 {R : Type} (N : Nat) (S0 : St) (k : Exit → St → Option R) : Option R :=
  r3_Check_l10 N N (toI (lget S0.tmps 5)) (Cod.dec api_CircuitC (lget (entCs (entAt S0.tab 0)))) (entNl (entAt S0.tab 1)) (lst intC (entN (entAt S0.tab 1)) (entC (entAt S0.tab 1))) (fun q0 => k .ret (r3_Check_x10_r q0)) (fun q1 => k (.exit 2) (r3_Check_x10_2 (entNl (entAt S0.tab 1)) q1))
def r3_Check_d4 {R : Type} (N : Nat) (S0 : St) (k : Exit → St → Option R) : Option R :=
  r3_Check_l4 N N (toI (lget S0.tmps 3)) (Cod.dec api_CircuitC (lget (entCs (entAt S0.tab 0)))) (fun q0 => k .ret (r3_Check_x4_r q0)) (fun (_ : Unit) => k (.exit 0) (r3_Check_x4_0 (Cod.dec api_CircuitC (lget (entCs (entAt S0.tab 0))))))
def r3_Check_lp {R : Type} (N : Nat) : Lp R := fun body S k => bif (Go.Sx.keyOf body).getD 0 == 4 then (r3_Check_L4.head.raw 0 S (fun S0 => r3_Check_d4 N S0 k)) else bif (Go.Sx.keyOf body).getD 0 == 10 then (r3_Check_L10.head.raw 0 S (fun S0 => r3_Check_d10 N S0 k)) else bif (Go.Sx.keyOf body).getD 0 == 24 then (r3_Check_L24.head.raw 0 S (fun S0 => r3_Check_d24 N S0 k)) else bif (Go.Sx.keyOf body).getD 0 == 31 then (r3_Check_L31.head.raw 0 S (fun S0 => r3_Check_d31 N S0 k)) else Option.none
theorem r3_Check_l4_eq {R : Type} (N : Nat) (k : Exit → St → Option R) (n : Nat) : ∀ (v0 : Int) (v1 : api_Circuit), loopM E.Θ (r3_within_cal N) (r3_Check_lp N) (noJn) 0 r3_Check_L4 (bodyAt E 17 4) n (r3_Check_h4 v0 v1) k = r3_Check_l4 N n v0 v1 (fun q0 => k .ret (r3_Check_x4_r q0)) (fun (_ : Unit) => k (.exit 0) (r3_Check_x4_0 v1)) := by
  induction n with
  | zero => intro v0 v1; rfl
  | succ n ih =>
    intro v0 v1
    refine Eq.trans (b := r3_Check_b4 N (fun v0 v1 => loopM E.Θ (r3_within_cal N) (r3_Check_lp N) (noJn) 0 r3_Check_L4 (bodyAt E 17 4) n (r3_Check_h4 v0 v1) k) v0 v1 (fun q0 => k .ret (r3_Check_x4_r q0)) (fun (_ : Unit) => k (.exit 0) (r3_Check_x4_0 v1))) (by kernel_rfl) ?_
    have h : (fun (v0 : Int) (v1 : api_Circuit) => loopM E.Θ (r3_within_cal N) (r3_Check_lp N) (noJn) 0 r3_Check_L4 (bodyAt E 17 4) n (r3_Check_h4 v0 v1) k) = (fun (v0 : Int) (v1 : api_Circuit) => r3_Check_l4 N n v0 v1 (fun q0 => k .ret (r3_Check_x4_r q0)) (fun (_ : Unit) => k (.exit 0) (r3_Check_x4_0 v1))) := funext fun v0 => funext fun v1 => ih v0 v1
    rw [h]
    rfl
theorem r3_Check_l10_eq {R : Type} (N : Nat) (k : Exit → St → Option R) (n : Nat) : ∀ (v0 : Int) (v1 : api_Circuit) (v2 : Bool) (v3 : Arr Int), loopM E.Θ (r3_within_cal N) (r3_Check_lp N) (noJn) 0 r3_Check_L10 (bodyAt E 17 10) n (r3_Check_h10 v0 v1 v2 v3) k = r3_Check_l10 N n v0 v1 v2 v3 (fun q0 => k .ret (r3_Check_x10_r q0)) (fun q1 => k (.exit 2) (r3_Check_x10_2 v2 q1)) := by
  induction n with
  | zero => intro v0 v1 v2 v3; rfl
  | succ n ih =>
    intro v0 v1 v2 v3
    refine Eq.trans (b := r3_Check_b10 N (fun v0 v1 v2 v3 => loopM E.Θ (r3_within_cal N) (r3_Check_lp N) (noJn) 0 r3_Check_L10 (bodyAt E 17 10) n (r3_Check_h10 v0 v1 v2 v3) k) v0 v1 v2 v3 (fun q0 => k .ret (r3_Check_x10_r q0)) (fun q1 => k (.exit 2) (r3_Check_x10_2 v2 q1))) (by kernel_rfl) ?_
    have h : (fun (v0 : Int) (v1 : api_Circuit) (v2 : Bool) (v3 : Arr Int) => loopM E.Θ (r3_within_cal N) (r3_Check_lp N) (noJn) 0 r3_Check_L10 (bodyAt E 17 10) n (r3_Check_h10 v0 v1 v2 v3) k) = (fun (v0 : Int) (v1 : api_Circuit) (v2 : Bool) (v3 : Arr Int) => r3_Check_l10 N n v0 v1 v2 v3 (fun q0 => k .ret (r3_Check_x10_r q0)) (fun q1 => k (.exit 2) (r3_Check_x10_2 v2 q1))) := funext fun v0 => funext fun v1 => funext fun v2 => funext fun v3 => ih v0 v1 v2 v3
    rw [h]
    rfl
theorem r3_Check_l24_eq {R : Type} (N : Nat) (k : Exit → St → Option R) (n : Nat) : ∀ (v0 : Int) (v1 : Int) (v2 : Int) (v3 : api_Circuit) (v4 : Bool) (v5 : Arr Int) (v6 : api_Wire), loopM E.Θ (r3_within_cal N) (r3_Check_lp N) (noJn) 0 r3_Check_L24 (bodyAt E 17 24) n (r3_Check_h24 v0 v1 v2 v3 v4 v5 v6) k = r3_Check_l24 N n v0 v1 v2 v3 v4 v5 v6 (fun q0 => k .ret (r3_Check_x24_r q0)) (fun q3 => k (.exit 5) (r3_Check_x24_5 v0 v3 v4 q3)) := by
  induction n with
  | zero => intro v0 v1 v2 v3 v4 v5 v6; rfl
  | succ n ih =>
    intro v0 v1 v2 v3 v4 v5 v6
    refine Eq.trans (b := r3_Check_b24 N (fun v0 v1 v2 v3 v4 v5 v6 => loopM E.Θ (r3_within_cal N) (r3_Check_lp N) (noJn) 0 r3_Check_L24 (bodyAt E 17 24) n (r3_Check_h24 v0 v1 v2 v3 v4 v5 v6) k) v0 v1 v2 v3 v4 v5 v6 (fun q0 => k .ret (r3_Check_x24_r q0)) (fun q3 => k (.exit 5) (r3_Check_x24_5 v0 v3 v4 q3))) (by kernel_rfl) ?_
    have h : (fun (v0 : Int) (v1 : Int) (v2 : Int) (v3 : api_Circuit) (v4 : Bool) (v5 : Arr Int) (v6 : api_Wire) => loopM E.Θ (r3_within_cal N) (r3_Check_lp N) (noJn) 0 r3_Check_L24 (bodyAt E 17 24) n (r3_Check_h24 v0 v1 v2 v3 v4 v5 v6) k) = (fun (v0 : Int) (v1 : Int) (v2 : Int) (v3 : api_Circuit) (v4 : Bool) (v5 : Arr Int) (v6 : api_Wire) => r3_Check_l24 N n v0 v1 v2 v3 v4 v5 v6 (fun q0 => k .ret (r3_Check_x24_r q0)) (fun q3 => k (.exit 5) (r3_Check_x24_5 v0 v3 v4 q3))) := funext fun v0 => funext fun v1 => funext fun v2 => funext fun v3 => funext fun v4 => funext fun v5 => funext fun v6 => ih v0 v1 v2 v3 v4 v5 v6
    rw [h]
    rfl
theorem r3_Check_l31_eq {R : Type} (N : Nat) (k : Exit → St → Option R) (n : Nat) : ∀ (v0 : Int) (v1 : Bool) (v2 : Arr Int), loopM E.Θ (r3_within_cal N) (r3_Check_lp N) (noJn) 0 r3_Check_L31 (bodyAt E 17 31) n (r3_Check_h31 v0 v1 v2) k = r3_Check_l31 N n v0 v1 v2 (fun q0 => k .ret (r3_Check_x31_r q0)) (fun (_ : Unit) => k (.exit 7) (r3_Check_x31_7 )) := by
  induction n with
  | zero => intro v0 v1 v2; rfl
  | succ n ih =>
    intro v0 v1 v2
    refine Eq.trans (b := r3_Check_b31 N (fun v0 v1 v2 => loopM E.Θ (r3_within_cal N) (r3_Check_lp N) (noJn) 0 r3_Check_L31 (bodyAt E 17 31) n (r3_Check_h31 v0 v1 v2) k) v0 v1 v2 (fun q0 => k .ret (r3_Check_x31_r q0)) (fun (_ : Unit) => k (.exit 7) (r3_Check_x31_7 ))) (by kernel_rfl) ?_
    have h : (fun (v0 : Int) (v1 : Bool) (v2 : Arr Int) => loopM E.Θ (r3_within_cal N) (r3_Check_lp N) (noJn) 0 r3_Check_L31 (bodyAt E 17 31) n (r3_Check_h31 v0 v1 v2) k) = (fun (v0 : Int) (v1 : Bool) (v2 : Arr Int) => r3_Check_l31 N n v0 v1 v2 (fun q0 => k .ret (r3_Check_x31_r q0)) (fun (_ : Unit) => k (.exit 7) (r3_Check_x31_7 ))) := funext fun v0 => funext fun v1 => funext fun v2 => ih v0 v1 v2
    rw [h]
    rfl
theorem r3_Check_k31 {R : Type} (N : Nat) : LpKey (R := R) E 17 0 (r3_Check_lp N) 31 :=
  lpKey_of hE (r3_within_cal_ok N) (lp := r3_Check_lp N) (jn := noJn) r3_Check_L31_ok [] kNil (by kernel_rfl) [] jNil (by kernel_rfl) N fun S k =>
    Eq.trans (b := r3_Check_L31.head.raw 0 S (fun S0 => r3_Check_d31 N S0 k)) (by kernel_rfl) (congrArg (r3_Check_L31.head.raw 0 S) (funext fun S0 => Eq.trans (r3_Check_l31_eq N k N (toI (lget S0.tmps 9)) (entNl (entAt S0.tab 0)) (lst intC (entN (entAt S0.tab 0)) (entC (entAt S0.tab 0)))).symm (by kernel_rfl)))
theorem r3_Check_k4 {R : Type} (N : Nat) : LpKey (R := R) E 17 0 (r3_Check_lp N) 4 :=
  lpKey_of hE (r3_within_cal_ok N) (lp := r3_Check_lp N) (jn := noJn) r3_Check_L4_ok [] kNil (by kernel_rfl) [] jNil (by kernel_rfl) N fun S k =>
    Eq.trans (b := r3_Check_L4.head.raw 0 S (fun S0 => r3_Check_d4 N S0 k)) (by kernel_rfl) (congrArg (r3_Check_L4.head.raw 0 S) (funext fun S0 => Eq.trans (r3_Check_l4_eq N k N (toI (lget S0.tmps 3)) (Cod.dec api_CircuitC (lget (entCs (entAt S0.tab 0))))).symm (by kernel_rfl)))
theorem r3_Check_k24 {R : Type} (N : Nat) : LpKey (R := R) E 17 0 (r3_Check_lp N) 24 :=
  lpKey_of hE (r3_within_cal_ok N) (lp := r3_Check_lp N) (jn := noJn) r3_Check_L24_ok [] kNil (by kernel_rfl) [] jNil (by kernel_rfl) N fun S k =>
    Eq.trans (b := r3_Check_L24.head.raw 0 S (fun S0 => r3_Check_d24 N S0 k)) (by kernel_rfl) (congrArg (r3_Check_L24.head.raw 0 S) (funext fun S0 => Eq.trans (r3_Check_l24_eq N k N (toI (lget S0.tmps 5)) (toI (lget S0.tmps 7)) (toI (lget S0.tmps 8)) (Cod.dec api_CircuitC (lget (entCs (entAt S0.tab 0)))) (entNl (entAt S0.tab 1)) (lst intC (entN (entAt S0.tab 1)) (entC (entAt S0.tab 1))) (Cod.dec api_WireC (lget (entCs (entAt S0.tab 2))))).symm (by kernel_rfl)))
theorem r3_Check_k10 {R : Type} (N : Nat) : LpKey (R := R) E 17 0 (r3_Check_lp N) 10 :=
  lpKey_of hE (r3_within_cal_ok N) (lp := r3_Check_lp N) (jn := noJn) r3_Check_L10_ok [24] (kCons (r3_Check_k24 N) kNil) (by kernel_rfl) [] jNil (by kernel_rfl) N fun S k =>
    Eq.trans (b := r3_Check_L10.head.raw 0 S (fun S0 => r3_Check_d10 N S0 k)) (by kernel_rfl) (congrArg (r3_Check_L10.head.raw 0 S) (funext fun S0 => Eq.trans (r3_Check_l10_eq N k N (toI (lget S0.tmps 5)) (Cod.dec api_CircuitC (lget (entCs (entAt S0.tab 0)))) (entNl (entAt S0.tab 1)) (lst intC (entN (entAt S0.tab 1)) (entC (entAt S0.tab 1)))).symm (by kernel_rfl)))
noncomputable def r3_Check_go {R : Type} (N : Nat) (args : List SV) (T : Tab) (kf : SV × Tab → Option R) : Option R :=
  r3_Check N (Cod.dec api_CircuitC (lget (toCs (lget args 0)))) (fun q0 => kf (lget [.int .i64 q0] 0, []))
noncomputable def r3_Check_cal {R : Type} (N : Nat) : Cal R := callM (r3_within_cal N) 17 0 r3_Check_sp (r3_Check_go N)
theorem r3_Check_cal_ok {R : Type} (N : Nat) : CalOk E.P (r3_Check_cal (R := R) N) :=
  callM_ok hE (r3_within_cal_ok N) (lp := r3_Check_lp N) (jn := noJn) (keys := [4, 10, 24, 31]) (kCons (r3_Check_k4 N) (kCons (r3_Check_k10 N) (kCons (r3_Check_k24 N) (kCons (r3_Check_k31 N) kNil)))) (by kernel_rfl) (js := []) jNil (by kernel_rfl) r3_Check_sp_ok r3_Check_rs_ok (fun args T kf => Eq.trans (r3_Check_def N (Cod.dec api_CircuitC (lget (toCs (lget args 0)))) (fun q0 => kf (lget [.int .i64 q0] 0, []))) (by kernel_rfl : r3_Check_run N args T kf = fnM E (r3_within_cal N) (r3_Check_lp N) (noJn) 17 (r3_Check_sp.vs args) (r3_Check_sp.tab T) 0 (resK r3_Check_rs kf)))
def slices_Index___bool_bool__L2 : LoopSp := ⟨⟨[0, 1, 7, 8], ⟨((rSl boolC) :: (rBool) :: (dr 5 ((rInt .i64) :: (rInt .i64) :: (dr 10 [])))), []⟩, 0⟩, [(Option.none, ⟨[4], ⟨(dr 4 ((rInt .i64) :: (dr 14 []))), []⟩, 0⟩), (some 0, ⟨[], ⟨(dr 19 []), []⟩, 0⟩)]⟩
theorem slices_Index___bool_bool__L2_ok : slices_Index___bool_bool__L2.Ok := ⟨⟨(allCons (rSl_ok boolC_ok) (allCons rBool_ok (drCons 5 (allCons (rInt_ok .i64) (allCons (rInt_ok .i64) (drCons 10 allNil)))))), eNil⟩, (xCons ⟨(drCons 4 (allCons (rInt_ok .i64) (drCons 14 allNil))), eNil⟩ (xCons ⟨(drCons 19 allNil), eNil⟩ xNil))⟩
def slices_Index___bool_bool__h2 (v131 : Arr Bool) (v132 : Bool) (v133 : Int) (v134 : Int) : St := ⟨((slC boolC v131) :: (.bool v132) :: (un 5 ((.int .i64 v133) :: (.int .i64 v134) :: (un 10 [])))), [], 0⟩
def slices_Index___bool_bool__x2_r (q0 : Int) : St := ⟨(un 4 ((.int .i64 q0) :: (un 14 []))), [], 0⟩
def slices_Index___bool_bool__x2_0  : St := ⟨(un 19 []), [], 0⟩
def slices_Index___bool_bool__b2 {R : Type} (N : Nat) (rc : Arr Bool → Bool → Int → Int → Option R) (v131 : Arr Bool) (v132 : Bool) (v133 : Int) (v134 : Int) (kr : Int → Option R) (k0 : Unit → Option R) : Option R :=
 bif decide (v134 < v133) then
 bif decide ((0 : Int) ≤ v134) && decide (v134 < (↑(Arr.n v131) : Int)) then
 bif v132 == Arr.f v131 (Int.toNat v134) then
 kr v134
 else
 rc v131 v132 v133 (w64 (v134 + (1 : Int)))
 else
 Option.none
 else
 k0 ()
def slices_Index___bool_bool__l2 {R : Type} (N : Nat) : Nat → Arr Bool → Bool → Int → Int → (Int → Option R) → (Unit → Option R) → Option R
  | 0, _, _, _, _, _, _ => Option.none
  | n + 1, v131, v132, v133, v134, kr, k0 => slices_Index___bool_bool__b2 N (fun v131 v132 v133 v134 => slices_Index___bool_bool__l2 N n v131 v132 v133 v134 kr k0) v131 v132 v133 v134 kr k0
def slices_Index___bool_bool__m {R : Type} (N : Nat) (a129 : Arr Bool) (a130 : Bool) (k : Int → Option R) : Option R :=
 slices_Index___bool_bool__l2 N N a129 a130 ((↑(Arr.n a129) : Int)) (0 : Int) (fun r135 =>
 k r135) (fun (_ : Unit) =>
 k (-1 : Int))
noncomputable def slices_Index___bool_bool_ {R : Type} : Nat → Arr Bool → Bool → (Int → Option R) → Option R := lock (@slices_Index___bool_bool__m R)
theorem slices_Index___bool_bool__def {R : Type} (N : Nat) (a129 : Arr Bool) (a130 : Bool) (k : Int → Option R) : slices_Index___bool_bool_ N a129 a130 k = slices_Index___bool_bool__m N a129 a130 k := by unfold slices_Index___bool_bool_; rw [lock_eq]
def slices_Index___bool_bool__sp : Sp := ⟨[rSl boolC, rBool], []⟩
theorem slices_Index___bool_bool__sp_ok : slices_Index___bool_bool__sp.Ok := ⟨(allCons (rSl_ok boolC_ok) (allCons rBool_ok allNil)), eNil⟩
def slices_Index___bool_bool__rs : Sp := ⟨[rInt .i64], []⟩
theorem slices_Index___bool_bool__rs_ok : slices_Index___bool_bool__rs.Ok := ⟨(allCons (rInt_ok .i64) allNil), eNil⟩
def slices_Index___bool_bool__run {R : Type} (N : Nat) (args : List SV) (T : Tab) (kf : SV × Tab → Option R) : Option R :=
  slices_Index___bool_bool__m N (lstC boolC (lget args 0)) (toB (lget args 1)) (fun q0 => kf (lget [.int .i64 q0] 0, []))
def slices_Index___bool_bool__d2 {R : Type} (N : Nat) (S0 : St) (k : Exit → St → Option R) : Option R :=
  slices_Index___bool_bool__l2 N N (lstC boolC (lget S0.tmps 0)) (toB (lget S0.tmps 1)) (toI (lget S0.tmps 7)) (toI (lget S0.tmps 8)) (fun q0 => k .ret (slices_Index___bool_bool__x2_r q0)) (fun (_ : Unit) => k (.exit 0) (slices_Index___bool_bool__x2_0 ))
def slices_Index___bool_bool__lp {R : Type} (N : Nat) : Lp R := fun body S k => bif (Go.Sx.keyOf body).getD 0 == 2 then (slices_Index___bool_bool__L2.head.raw 0 S (fun S0 => slices_Index___bool_bool__d2 N S0 k)) else Option.none
theorem slices_Index___bool_bool__l2_eq {R : Type} (N : Nat) (k : Exit → St → Option R) (n : Nat) : ∀ (v0 : Arr Bool) (v1 : Bool) (v2 : Int) (v3 : Int), loopM E.Θ (r3_Check_cal N) (slices_Index___bool_bool__lp N) (noJn) 0 slices_Index___bool_bool__L2 (bodyAt E 92 2) n (slices_Index___bool_bool__h2 v0 v1 v2 v3) k = slices_Index___bool_bool__l2 N n v0 v1 v2 v3 (fun q0 => k .ret (slices_Index___bool_bool__x2_r q0)) (fun (_ : Unit) => k (.exit 0) (slices_Index___bool_bool__x2_0 )) := by
  induction n with
  | zero => intro v0 v1 v2 v3; rfl
  | succ n ih =>
    intro v0 v1 v2 v3
    refine Eq.trans (b := slices_Index___bool_bool__b2 N (fun v0 v1 v2 v3 => loopM E.Θ (r3_Check_cal N) (slices_Index___bool_bool__lp N) (noJn) 0 slices_Index___bool_bool__L2 (bodyAt E 92 2) n (slices_Index___bool_bool__h2 v0 v1 v2 v3) k) v0 v1 v2 v3 (fun q0 => k .ret (slices_Index___bool_bool__x2_r q0)) (fun (_ : Unit) => k (.exit 0) (slices_Index___bool_bool__x2_0 ))) (by kernel_rfl) ?_
    have h : (fun (v0 : Arr Bool) (v1 : Bool) (v2 : Int) (v3 : Int) => loopM E.Θ (r3_Check_cal N) (slices_Index___bool_bool__lp N) (noJn) 0 slices_Index___bool_bool__L2 (bodyAt E 92 2) n (slices_Index___bool_bool__h2 v0 v1 v2 v3) k) = (fun (v0 : Arr Bool) (v1 : Bool) (v2 : Int) (v3 : Int) => slices_Index___bool_bool__l2 N n v0 v1 v2 v3 (fun q0 => k .ret (slices_Index___bool_bool__x2_r q0)) (fun (_ : Unit) => k (.exit 0) (slices_Index___bool_bool__x2_0 ))) := funext fun v0 => funext fun v1 => funext fun v2 => funext fun v3 => ih v0 v1 v2 v3
    rw [h]
    rfl
theorem slices_Index___bool_bool__k2 {R : Type} (N : Nat) : LpKey (R := R) E 92 0 (slices_Index___bool_bool__lp N) 2 :=
  lpKey_of hE (r3_Check_cal_ok N) (lp := slices_Index___bool_bool__lp N) (jn := noJn) slices_Index___bool_bool__L2_ok [] kNil (by kernel_rfl) [] jNil (by kernel_rfl) N fun S k =>
    Eq.trans (b := slices_Index___bool_bool__L2.head.raw 0 S (fun S0 => slices_Index___bool_bool__d2 N S0 k)) (by kernel_rfl) (congrArg (slices_Index___bool_bool__L2.head.raw 0 S) (funext fun S0 => Eq.trans (slices_Index___bool_bool__l2_eq N k N (lstC boolC (lget S0.tmps 0)) (toB (lget S0.tmps 1)) (toI (lget S0.tmps 7)) (toI (lget S0.tmps 8))).symm (by kernel_rfl)))
noncomputable def slices_Index___bool_bool__go {R : Type} (N : Nat) (args : List SV) (T : Tab) (kf : SV × Tab → Option R) : Option R :=
  slices_Index___bool_bool_ N (lstC boolC (lget args 0)) (toB (lget args 1)) (fun q0 => kf (lget [.int .i64 q0] 0, []))
noncomputable def slices_Index___bool_bool__cal {R : Type} (N : Nat) : Cal R := callM (r3_Check_cal N) 92 0 slices_Index___bool_bool__sp (slices_Index___bool_bool__go N)
theorem slices_Index___bool_bool__cal_ok {R : Type} (N : Nat) : CalOk E.P (slices_Index___bool_bool__cal (R := R) N) :=
  callM_ok hE (r3_Check_cal_ok N) (lp := slices_Index___bool_bool__lp N) (jn := noJn) (keys := [2]) (kCons (slices_Index___bool_bool__k2 N) kNil) (by kernel_rfl) (js := []) jNil (by kernel_rfl) slices_Index___bool_bool__sp_ok slices_Index___bool_bool__rs_ok (fun args T kf => Eq.trans (slices_Index___bool_bool__def N (lstC boolC (lget args 0)) (toB (lget args 1)) (fun q0 => kf (lget [.int .i64 q0] 0, []))) (by kernel_rfl : slices_Index___bool_bool__run N args T kf = fnM E (r3_Check_cal N) (slices_Index___bool_bool__lp N) (noJn) 92 (slices_Index___bool_bool__sp.vs args) (slices_Index___bool_bool__sp.tab T) 0 (resK slices_Index___bool_bool__rs kf)))
def slices_Contains___bool_bool__m {R : Type} (N : Nat) (a127 : Arr Bool) (a128 : Bool) (k : Bool → Option R) : Option R :=
 slices_Index___bool_bool_ N a127 a128 (fun r136 =>
 k (decide (r136 ≥ (0 : Int))))
noncomputable def slices_Contains___bool_bool_ {R : Type} : Nat → Arr Bool → Bool → (Bool → Option R) → Option R := lock (@slices_Contains___bool_bool__m R)
theorem slices_Contains___bool_bool__def {R : Type} (N : Nat) (a127 : Arr Bool) (a128 : Bool) (k : Bool → Option R) : slices_Contains___bool_bool_ N a127 a128 k = slices_Contains___bool_bool__m N a127 a128 k := by unfold slices_Contains___bool_bool_; rw [lock_eq]
def slices_Contains___bool_bool__sp : Sp := ⟨[rSl boolC, rBool], []⟩
theorem slices_Contains___bool_bool__sp_ok : slices_Contains___bool_bool__sp.Ok := ⟨(allCons (rSl_ok boolC_ok) (allCons rBool_ok allNil)), eNil⟩
def slices_Contains___bool_bool__rs : Sp := ⟨[rBool], []⟩
theorem slices_Contains___bool_bool__rs_ok : slices_Contains___bool_bool__rs.Ok := ⟨(allCons rBool_ok allNil), eNil⟩
def slices_Contains___bool_bool__run {R : Type} (N : Nat) (args : List SV) (T : Tab) (kf : SV × Tab → Option R) : Option R :=
  slices_Contains___bool_bool__m N (lstC boolC (lget args 0)) (toB (lget args 1)) (fun q0 => kf (lget [.bool q0] 0, []))
def slices_Contains___bool_bool__lp {R : Type} (N : Nat) : Lp R := fun body S k => Option.none
noncomputable def slices_Contains___bool_bool__go {R : Type} (N : Nat) (args : List SV) (T : Tab) (kf : SV × Tab → Option R) : Option R :=
  slices_Contains___bool_bool_ N (lstC boolC (lget args 0)) (toB (lget args 1)) (fun q0 => kf (lget [.bool q0] 0, []))
noncomputable def slices_Contains___bool_bool__cal {R : Type} (N : Nat) : Cal R := callM (slices_Index___bool_bool__cal N) 71 0 slices_Contains___bool_bool__sp (slices_Contains___bool_bool__go N)
theorem slices_Contains___bool_bool__cal_ok {R : Type} (N : Nat) : CalOk E.P (slices_Contains___bool_bool__cal (R := R) N) :=
  callM_ok hE (slices_Index___bool_bool__cal_ok N) (lp := slices_Contains___bool_bool__lp N) (jn := noJn) (keys := []) kNil (by kernel_rfl) (js := []) jNil (by kernel_rfl) slices_Contains___bool_bool__sp_ok slices_Contains___bool_bool__rs_ok (fun args T kf => Eq.trans (slices_Contains___bool_bool__def N (lstC boolC (lget args 0)) (toB (lget args 1)) (fun q0 => kf (lget [.bool q0] 0, []))) (by kernel_rfl : slices_Contains___bool_bool__run N args T kf = fnM E (slices_Index___bool_bool__cal N) (slices_Contains___bool_bool__lp N) (noJn) 71 (slices_Contains___bool_bool__sp.vs args) (slices_Contains___bool_bool__sp.tab T) 0 (resK slices_Contains___bool_bool__rs kf)))
def circuit_isSet_m {R : Type} (N : Nat) (a148 : Int) (a149 : Int) (k : Bool → Option R) : Option R :=
 bif decide (a148 ≥ (0 : Int)) then
 bif decide (a149 < (0 : Int)) then
 Option.none
 else
 k (decide (a148 < w64 ((1 : Int) * (2 : Int) ^ min (Int.toNat a149) (IntKind.bits IntKind.i64))))
 else
 k false
noncomputable def circuit_isSet {R : Type} : Nat → Int → Int → (Bool → Option R) → Option R := lock (@circuit_isSet_m R)
theorem circuit_isSet_def {R : Type} (N : Nat) (a148 : Int) (a149 : Int) (k : Bool → Option R) : circuit_isSet N a148 a149 k = circuit_isSet_m N a148 a149 k := by unfold circuit_isSet; rw [lock_eq]
def circuit_isSet_sp : Sp := ⟨[rInt .i64, rInt .i64], []⟩
theorem circuit_isSet_sp_ok : circuit_isSet_sp.Ok := ⟨(allCons (rInt_ok .i64) (allCons (rInt_ok .i64) allNil)), eNil⟩
def circuit_isSet_rs : Sp := ⟨[rBool], []⟩
theorem circuit_isSet_rs_ok : circuit_isSet_rs.Ok := ⟨(allCons rBool_ok allNil), eNil⟩
def circuit_isSet_run {R : Type} (N : Nat) (args : List SV) (T : Tab) (kf : SV × Tab → Option R) : Option R :=
  circuit_isSet_m N (toI (lget args 0)) (toI (lget args 1)) (fun q0 => kf (lget [.bool q0] 0, []))
def circuit_isSet_lp {R : Type} (N : Nat) : Lp R := fun body S k => Option.none
noncomputable def circuit_isSet_go {R : Type} (N : Nat) (args : List SV) (T : Tab) (kf : SV × Tab → Option R) : Option R :=
  circuit_isSet N (toI (lget args 0)) (toI (lget args 1)) (fun q0 => kf (lget [.bool q0] 0, []))
noncomputable def circuit_isSet_cal {R : Type} (N : Nat) : Cal R := callM (slices_Contains___bool_bool__cal N) 57 0 circuit_isSet_sp (circuit_isSet_go N)
theorem circuit_isSet_cal_ok {R : Type} (N : Nat) : CalOk E.P (circuit_isSet_cal (R := R) N) :=
  callM_ok hE (slices_Contains___bool_bool__cal_ok N) (lp := circuit_isSet_lp N) (jn := noJn) (keys := []) kNil (by kernel_rfl) (js := []) jNil (by kernel_rfl) circuit_isSet_sp_ok circuit_isSet_rs_ok (fun args T kf => Eq.trans (circuit_isSet_def N (toI (lget args 0)) (toI (lget args 1)) (fun q0 => kf (lget [.bool q0] 0, []))) (by kernel_rfl : circuit_isSet_run N args T kf = fnM E (slices_Contains___bool_bool__cal N) (circuit_isSet_lp N) (noJn) 57 (circuit_isSet_sp.vs args) (circuit_isSet_sp.tab T) 0 (resK circuit_isSet_rs kf)))
def circuit_Check_1_m {R : Type} (N : Nat) (a146 : Int) (a147 : api_Circuit) (k : Bool → Option R) : Option R :=
 circuit_isSet N a146 (api_Circuit.Hazards a147) (fun r150 =>
 k (!r150))
noncomputable def circuit_Check_1 {R : Type} : Nat → Int → api_Circuit → (Bool → Option R) → Option R := lock (@circuit_Check_1_m R)
theorem circuit_Check_1_def {R : Type} (N : Nat) (a146 : Int) (a147 : api_Circuit) (k : Bool → Option R) : circuit_Check_1 N a146 a147 k = circuit_Check_1_m N a146 a147 k := by unfold circuit_Check_1; rw [lock_eq]
def circuit_Check_1_sp : Sp := ⟨[rInt .i64, rPtr 0 0], [(0, eBlkC api_CircuitC)]⟩
theorem circuit_Check_1_sp_ok : circuit_Check_1_sp.Ok := ⟨(allCons (rInt_ok .i64) (allCons (rPtr_ok 0 0) allNil)), (eCons (eBlkC_ok api_CircuitC_ok api_CircuitC_len) eNil)⟩
def circuit_Check_1_rs : Sp := ⟨[rBool], [(0, eBlkC api_CircuitC)]⟩
theorem circuit_Check_1_rs_ok : circuit_Check_1_rs.Ok := ⟨(allCons rBool_ok allNil), (eCons (eBlkC_ok api_CircuitC_ok api_CircuitC_len) eNil)⟩
def circuit_Check_1_run {R : Type} (N : Nat) (args : List SV) (T : Tab) (kf : SV × Tab → Option R) : Option R :=
  circuit_Check_1_m N (toI (lget args 0)) (Cod.dec api_CircuitC (lget (entCs (entAt T 0)))) (fun q0 => kf (lget [.bool q0] 0, [(0, .blk (Cod.enc api_CircuitC (Cod.dec api_CircuitC (lget (entCs (entAt T 0))))))]))
def circuit_Check_1_lp {R : Type} (N : Nat) : Lp R := fun body S k => Option.none
noncomputable def circuit_Check_1_go {R : Type} (N : Nat) (args : List SV) (T : Tab) (kf : SV × Tab → Option R) : Option R :=
  circuit_Check_1 N (toI (lget args 0)) (Cod.dec api_CircuitC (lget (entCs (entAt T 0)))) (fun q0 => kf (lget [.bool q0] 0, [(0, .blk (Cod.enc api_CircuitC (Cod.dec api_CircuitC (lget (entCs (entAt T 0))))))]))
noncomputable def circuit_Check_1_cal {R : Type} (N : Nat) : Cal R := callM (circuit_isSet_cal N) 72 1 circuit_Check_1_sp (circuit_Check_1_go N)
theorem circuit_Check_1_cal_ok {R : Type} (N : Nat) : CalOk E.P (circuit_Check_1_cal (R := R) N) :=
  callM_ok hE (circuit_isSet_cal_ok N) (lp := circuit_Check_1_lp N) (jn := noJn) (keys := []) kNil (by kernel_rfl) (js := []) jNil (by kernel_rfl) circuit_Check_1_sp_ok circuit_Check_1_rs_ok (fun args T kf => Eq.trans (circuit_Check_1_def N (toI (lget args 0)) (Cod.dec api_CircuitC (lget (entCs (entAt T 0)))) (fun q0 => kf (lget [.bool q0] 0, [(0, .blk (Cod.enc api_CircuitC (Cod.dec api_CircuitC (lget (entCs (entAt T 0))))))]))) (by kernel_rfl : circuit_Check_1_run N args T kf = fnM E (circuit_isSet_cal N) (circuit_Check_1_lp N) (noJn) 72 (circuit_Check_1_sp.vs args) (circuit_Check_1_sp.tab T) 1 (resK circuit_Check_1_rs kf)))
def ixI_L2 : LoopSp := ⟨⟨[0, 1, 7, 8], ⟨((rSl intC) :: (rFunc 72 0 [rPtr 0 0]) :: (dr 5 ((rInt .i64) :: (rInt .i64) :: (dr 10 [])))), [(0, eBlkC api_CircuitC)]⟩, 1⟩, [(Option.none, ⟨[4], ⟨(dr 4 ((rInt .i64) :: (dr 14 []))), [(0, eBlkC api_CircuitC)]⟩, 1⟩), (some 0, ⟨[], ⟨(dr 19 []), [(0, eBlkC api_CircuitC)]⟩, 1⟩)]⟩
theorem ixI_L2_ok : ixI_L2.Ok := ⟨⟨(allCons (rSl_ok intC_ok) (allCons (rFunc_ok 72 0 (allCons (rPtr_ok 0 0) allNil)) (drCons 5 (allCons (rInt_ok .i64) (allCons (rInt_ok .i64) (drCons 10 allNil)))))), (eCons (eBlkC_ok api_CircuitC_ok api_CircuitC_len) eNil)⟩, (xCons ⟨(drCons 4 (allCons (rInt_ok .i64) (drCons 14 allNil))), (eCons (eBlkC_ok api_CircuitC_ok api_CircuitC_len) eNil)⟩ (xCons ⟨(drCons 19 allNil), (eCons (eBlkC_ok api_CircuitC_ok api_CircuitC_len) eNil)⟩ xNil))⟩
def ixI_h2 (v142 : Arr Int) (v143 : Int) (v144 : Int) (v145 : api_Circuit) : St := ⟨((slC intC v142) :: (.func 72 0 [.ptr 0 0]) :: (un 5 ((.int .i64 v143) :: (.int .i64 v144) :: (un 10 [])))), [(0, .blk (Cod.enc api_CircuitC v145))], 1⟩
def ixI_x2_r (v145 : api_Circuit) (q0 : Int) : St := ⟨(un 4 ((.int .i64 q0) :: (un 14 []))), [(0, .blk (Cod.enc api_CircuitC v145))], 1⟩
def ixI_x2_0 (v145 : api_Circuit) : St := ⟨(un 19 []), [(0, .blk (Cod.enc api_CircuitC v145))], 1⟩
def ixI_b2 {R : Type} (N : Nat) (rc : Arr Int → Int → Int → api_Circuit → Option R) (v142 : Arr Int) (v143 : Int) (v144 : Int) (v145 : api_Circuit) (kr : Int → Option R) (k0 : Unit → Option R) : Option R :=
 bif decide (v144 < v143) then
 bif decide ((0 : Int) ≤ v144) && decide (v144 < (↑(Arr.n v142) : Int)) then
 circuit_Check_1 N (Arr.f v142 (Int.toNat v144)) v145 (fun r151 =>
 bif r151 then
 kr v144
 else
 rc v142 v143 (w64 (v144 + (1 : Int))) v145)
 else
 Option.none
 else
 k0 ()
def ixI_l2 {R : Type} (N : Nat) : Nat → Arr Int → Int → Int → api_Circuit → (Int → Option R) → (Unit → Option R) → Option R
  | 0, _, _, _, _, _, _ => Option.none
  | n + 1, v142, v143, v144, v145, kr, k0 => ixI_b2 N (fun v142 v143 v144 v145 => ixI_l2 N n v142 v143 v144 v145 kr k0) v142 v143 v144 v145 kr k0
def ixI_m {R : Type} (N : Nat) (a140 : Arr Int) (a141 : api_Circuit) (k : Int → Option R) : Option R :=
 ixI_l2 N N a140 ((↑(Arr.n a140) : Int)) (0 : Int) a141 (fun r152 =>
 k r152) (fun (_ : Unit) =>
 k (-1 : Int))
noncomputable def ixI {R : Type} : Nat → Arr Int → api_Circuit → (Int → Option R) → Option R := lock (@ixI_m R)
theorem ixI_def {R : Type} (N : Nat) (a140 : Arr Int) (a141 : api_Circuit) (k : Int → Option R) : ixI N a140 a141 k = ixI_m N a140 a141 k := by unfold ixI; rw [lock_eq]
def ixI_sp : Sp := ⟨[rSl intC, rFunc 72 0 [rPtr 0 0]], [(0, eBlkC api_CircuitC)]⟩
theorem ixI_sp_ok : ixI_sp.Ok := ⟨(allCons (rSl_ok intC_ok) (allCons (rFunc_ok 72 0 (allCons (rPtr_ok 0 0) allNil)) allNil)), (eCons (eBlkC_ok api_CircuitC_ok api_CircuitC_len) eNil)⟩
def ixI_rs : Sp := ⟨[rInt .i64], [(0, eBlkC api_CircuitC)]⟩
theorem ixI_rs_ok : ixI_rs.Ok := ⟨(allCons (rInt_ok .i64) allNil), (eCons (eBlkC_ok api_CircuitC_ok api_CircuitC_len) eNil)⟩
def ixI_run {R : Type} (N : Nat) (args : List SV) (T : Tab) (kf : SV × Tab → Option R) : Option R :=
  ixI_m N (lstC intC (lget args 0)) (Cod.dec api_CircuitC (lget (entCs (entAt T 0)))) (fun q0 => kf (lget [.int .i64 q0] 0, [(0, .blk (Cod.enc api_CircuitC (Cod.dec api_CircuitC (lget (entCs (entAt T 0))))))]))
def ixI_d2 {R : Type} (N : Nat) (S0 : St) (k : Exit → St → Option R) : Option R :=
  ixI_l2 N N (lstC intC (lget S0.tmps 0)) (toI (lget S0.tmps 7)) (toI (lget S0.tmps 8)) (Cod.dec api_CircuitC (lget (entCs (entAt S0.tab 0)))) (fun q0 => k .ret (ixI_x2_r (Cod.dec api_CircuitC (lget (entCs (entAt S0.tab 0)))) q0)) (fun (_ : Unit) => k (.exit 0) (ixI_x2_0 (Cod.dec api_CircuitC (lget (entCs (entAt S0.tab 0))))))
def ixI_lp {R : Type} (N : Nat) : Lp R := fun body S k => bif (Go.Sx.keyOf body).getD 0 == 2 then (ixI_L2.head.raw 1 S (fun S0 => ixI_d2 N S0 k)) else Option.none
theorem ixI_l2_eq {R : Type} (N : Nat) (k : Exit → St → Option R) (n : Nat) : ∀ (v0 : Arr Int) (v1 : Int) (v2 : Int) (v3 : api_Circuit), loopM E.Θ (circuit_Check_1_cal N) (ixI_lp N) (noJn) 1 ixI_L2 (bodyAt E 63 2) n (ixI_h2 v0 v1 v2 v3) k = ixI_l2 N n v0 v1 v2 v3 (fun q0 => k .ret (ixI_x2_r v3 q0)) (fun (_ : Unit) => k (.exit 0) (ixI_x2_0 v3)) := by
  induction n with
  | zero => intro v0 v1 v2 v3; rfl
  | succ n ih =>
    intro v0 v1 v2 v3
    refine Eq.trans (b := ixI_b2 N (fun v0 v1 v2 v3 => loopM E.Θ (circuit_Check_1_cal N) (ixI_lp N) (noJn) 1 ixI_L2 (bodyAt E 63 2) n (ixI_h2 v0 v1 v2 v3) k) v0 v1 v2 v3 (fun q0 => k .ret (ixI_x2_r v3 q0)) (fun (_ : Unit) => k (.exit 0) (ixI_x2_0 v3))) (by kernel_rfl) ?_
    have h : (fun (v0 : Arr Int) (v1 : Int) (v2 : Int) (v3 : api_Circuit) => loopM E.Θ (circuit_Check_1_cal N) (ixI_lp N) (noJn) 1 ixI_L2 (bodyAt E 63 2) n (ixI_h2 v0 v1 v2 v3) k) = (fun (v0 : Arr Int) (v1 : Int) (v2 : Int) (v3 : api_Circuit) => ixI_l2 N n v0 v1 v2 v3 (fun q0 => k .ret (ixI_x2_r v3 q0)) (fun (_ : Unit) => k (.exit 0) (ixI_x2_0 v3))) := funext fun v0 => funext fun v1 => funext fun v2 => funext fun v3 => ih v0 v1 v2 v3
    rw [h]
    rfl
theorem ixI_k2 {R : Type} (N : Nat) : LpKey (R := R) E 63 1 (ixI_lp N) 2 :=
  lpKey_of hE (circuit_Check_1_cal_ok N) (lp := ixI_lp N) (jn := noJn) ixI_L2_ok [] kNil (by kernel_rfl) [] jNil (by kernel_rfl) N fun S k =>
    Eq.trans (b := ixI_L2.head.raw 1 S (fun S0 => ixI_d2 N S0 k)) (by kernel_rfl) (congrArg (ixI_L2.head.raw 1 S) (funext fun S0 => Eq.trans (ixI_l2_eq N k N (lstC intC (lget S0.tmps 0)) (toI (lget S0.tmps 7)) (toI (lget S0.tmps 8)) (Cod.dec api_CircuitC (lget (entCs (entAt S0.tab 0))))).symm (by kernel_rfl)))
noncomputable def ixI_go {R : Type} (N : Nat) (args : List SV) (T : Tab) (kf : SV × Tab → Option R) : Option R :=
  ixI N (lstC intC (lget args 0)) (Cod.dec api_CircuitC (lget (entCs (entAt T 0)))) (fun q0 => kf (lget [.int .i64 q0] 0, [(0, .blk (Cod.enc api_CircuitC (Cod.dec api_CircuitC (lget (entCs (entAt T 0))))))]))
noncomputable def ixI_cal {R : Type} (N : Nat) : Cal R := callM (circuit_Check_1_cal N) 63 1 ixI_sp (ixI_go N)
theorem ixI_cal_ok {R : Type} (N : Nat) : CalOk E.P (ixI_cal (R := R) N) :=
  callM_ok hE (circuit_Check_1_cal_ok N) (lp := ixI_lp N) (jn := noJn) (keys := [2]) (kCons (ixI_k2 N) kNil) (by kernel_rfl) (js := []) jNil (by kernel_rfl) ixI_sp_ok ixI_rs_ok (fun args T kf => Eq.trans (ixI_def N (lstC intC (lget args 0)) (Cod.dec api_CircuitC (lget (entCs (entAt T 0)))) (fun q0 => kf (lget [.int .i64 q0] 0, [(0, .blk (Cod.enc api_CircuitC (Cod.dec api_CircuitC (lget (entCs (entAt T 0))))))]))) (by kernel_rfl : ixI_run N args T kf = fnM E (circuit_Check_1_cal N) (ixI_lp N) (noJn) 63 (ixI_sp.vs args) (ixI_sp.tab T) 1 (resK ixI_rs kf)))
def coI_m {R : Type} (N : Nat) (a138 : Arr Int) (a139 : api_Circuit) (k : Bool → Option R) : Option R :=
 ixI N a138 a139 (fun r153 =>
 k (decide (r153 ≥ (0 : Int))))
noncomputable def coI {R : Type} : Nat → Arr Int → api_Circuit → (Bool → Option R) → Option R := lock (@coI_m R)
theorem coI_def {R : Type} (N : Nat) (a138 : Arr Int) (a139 : api_Circuit) (k : Bool → Option R) : coI N a138 a139 k = coI_m N a138 a139 k := by unfold coI; rw [lock_eq]
def coI_sp : Sp := ⟨[rSl intC, rFunc 72 0 [rPtr 0 0]], [(0, eBlkC api_CircuitC)]⟩
theorem coI_sp_ok : coI_sp.Ok := ⟨(allCons (rSl_ok intC_ok) (allCons (rFunc_ok 72 0 (allCons (rPtr_ok 0 0) allNil)) allNil)), (eCons (eBlkC_ok api_CircuitC_ok api_CircuitC_len) eNil)⟩
def coI_rs : Sp := ⟨[rBool], [(0, eBlkC api_CircuitC)]⟩
theorem coI_rs_ok : coI_rs.Ok := ⟨(allCons rBool_ok allNil), (eCons (eBlkC_ok api_CircuitC_ok api_CircuitC_len) eNil)⟩
def coI_run {R : Type} (N : Nat) (args : List SV) (T : Tab) (kf : SV × Tab → Option R) : Option R :=
  coI_m N (lstC intC (lget args 0)) (Cod.dec api_CircuitC (lget (entCs (entAt T 0)))) (fun q0 => kf (lget [.bool q0] 0, [(0, .blk (Cod.enc api_CircuitC (Cod.dec api_CircuitC (lget (entCs (entAt T 0))))))]))
def coI_lp {R : Type} (N : Nat) : Lp R := fun body S k => Option.none
noncomputable def coI_go {R : Type} (N : Nat) (args : List SV) (T : Tab) (kf : SV × Tab → Option R) : Option R :=
  coI N (lstC intC (lget args 0)) (Cod.dec api_CircuitC (lget (entCs (entAt T 0)))) (fun q0 => kf (lget [.bool q0] 0, [(0, .blk (Cod.enc api_CircuitC (Cod.dec api_CircuitC (lget (entCs (entAt T 0))))))]))
noncomputable def coI_cal {R : Type} (N : Nat) : Cal R := callM (ixI_cal N) 32 1 coI_sp (coI_go N)
theorem coI_cal_ok {R : Type} (N : Nat) : CalOk E.P (coI_cal (R := R) N) :=
  callM_ok hE (ixI_cal_ok N) (lp := coI_lp N) (jn := noJn) (keys := []) kNil (by kernel_rfl) (js := []) jNil (by kernel_rfl) coI_sp_ok coI_rs_ok (fun args T kf => Eq.trans (coI_def N (lstC intC (lget args 0)) (Cod.dec api_CircuitC (lget (entCs (entAt T 0)))) (fun q0 => kf (lget [.bool q0] 0, [(0, .blk (Cod.enc api_CircuitC (Cod.dec api_CircuitC (lget (entCs (entAt T 0))))))]))) (by kernel_rfl : coI_run N args T kf = fnM E (ixI_cal N) (coI_lp N) (noJn) 32 (coI_sp.vs args) (coI_sp.tab T) 1 (resK coI_rs kf)))
def circuit_ascending_L2 : LoopSp := ⟨⟨[1, 2, 9, 10, 11], ⟨(dr 1 ((rInt .i64) :: (rInt .i64) :: (dr 6 ((rSl intC) :: (rInt .i64) :: (rInt .i64) :: (dr 14 []))))), []⟩, 0⟩, [(Option.none, ⟨[6], ⟨(dr 6 ((rBool) :: (dr 19 []))), []⟩, 0⟩), (some 0, ⟨[], ⟨(dr 26 []), []⟩, 0⟩)]⟩
theorem circuit_ascending_L2_ok : circuit_ascending_L2.Ok := ⟨⟨(drCons 1 (allCons (rInt_ok .i64) (allCons (rInt_ok .i64) (drCons 6 (allCons (rSl_ok intC_ok) (allCons (rInt_ok .i64) (allCons (rInt_ok .i64) (drCons 14 allNil)))))))), eNil⟩, (xCons ⟨(drCons 6 (allCons rBool_ok (drCons 19 allNil))), eNil⟩ (xCons ⟨(drCons 26 allNil), eNil⟩ xNil))⟩
def circuit_ascending_h2 (v164 : Int) (v165 : Int) (v166 : Arr Int) (v167 : Int) (v168 : Int) : St := ⟨(un 1 ((.int .i64 v164) :: (.int .i64 v165) :: (un 6 ((slC intC v166) :: (.int .i64 v167) :: (.int .i64 v168) :: (un 14 []))))), [], 0⟩
def circuit_ascending_x2_r (q0 : Bool) : St := ⟨(un 6 ((.bool q0) :: (un 19 []))), [], 0⟩
def circuit_ascending_x2_0  : St := ⟨(un 26 []), [], 0⟩
def circuit_ascending_b2 {R : Type} (N : Nat) (rc : Int → Int → Arr Int → Int → Int → Option R) (v164 : Int) (v165 : Int) (v166 : Arr Int) (v167 : Int) (v168 : Int) (kr : Bool → Option R) (k0 : Unit → Option R) : Option R :=
 bif decide (v168 < v167) then
 bif decide ((0 : Int) ≤ v168) && decide (v168 < (↑(Arr.n v166) : Int)) then
 bif decide (Arr.f v166 (Int.toNat v168) < v164) then
 kr false
 else
 bif decide (Arr.f v166 (Int.toNat v168) ≥ v165) then
 kr false
 else
 rc (w64 (Arr.f v166 (Int.toNat v168) + (1 : Int))) v165 v166 v167 (w64 (v168 + (1 : Int)))
 else
 Option.none
 else
 k0 ()
def circuit_ascending_l2 {R : Type} (N : Nat) : Nat → Int → Int → Arr Int → Int → Int → (Bool → Option R) → (Unit → Option R) → Option R
  | 0, _, _, _, _, _, _, _ => Option.none
  | n + 1, v164, v165, v166, v167, v168, kr, k0 => circuit_ascending_b2 N (fun v164 v165 v166 v167 v168 => circuit_ascending_l2 N n v164 v165 v166 v167 v168 kr k0) v164 v165 v166 v167 v168 kr k0
def circuit_ascending_m {R : Type} (N : Nat) (a161 : Arr Int) (a162 : Int) (a163 : Int) (k : Bool → Option R) : Option R :=
 circuit_ascending_l2 N N a162 a163 a161 ((↑(Arr.n a161) : Int)) (0 : Int) (fun r169 =>
 k r169) (fun (_ : Unit) =>
 k true)
noncomputable def circuit_ascending {R : Type} : Nat → Arr Int → Int → Int → (Bool → Option R) → Option R := lock (@circuit_ascending_m R)
theorem circuit_ascending_def {R : Type} (N : Nat) (a161 : Arr Int) (a162 : Int) (a163 : Int) (k : Bool → Option R) : circuit_ascending N a161 a162 a163 k = circuit_ascending_m N a161 a162 a163 k := by unfold circuit_ascending; rw [lock_eq]
def circuit_ascending_sp : Sp := ⟨[rSl intC, rInt .i64, rInt .i64], []⟩
theorem circuit_ascending_sp_ok : circuit_ascending_sp.Ok := ⟨(allCons (rSl_ok intC_ok) (allCons (rInt_ok .i64) (allCons (rInt_ok .i64) allNil))), eNil⟩
def circuit_ascending_rs : Sp := ⟨[rBool], []⟩
theorem circuit_ascending_rs_ok : circuit_ascending_rs.Ok := ⟨(allCons rBool_ok allNil), eNil⟩
def circuit_ascending_run {R : Type} (N : Nat) (args : List SV) (T : Tab) (kf : SV × Tab → Option R) : Option R :=
  circuit_ascending_m N (lstC intC (lget args 0)) (toI (lget args 1)) (toI (lget args 2)) (fun q0 => kf (lget [.bool q0] 0, []))
def circuit_ascending_d2 {R : Type} (N : Nat) (S0 : St) (k : Exit → St → Option R) : Option R :=
  circuit_ascending_l2 N N (toI (lget S0.tmps 1)) (toI (lget S0.tmps 2)) (lstC intC (lget S0.tmps 9)) (toI (lget S0.tmps 10)) (toI (lget S0.tmps 11)) (fun q0 => k .ret (circuit_ascending_x2_r q0)) (fun (_ : Unit) => k (.exit 0) (circuit_ascending_x2_0 ))
def circuit_ascending_lp {R : Type} (N : Nat) : Lp R := fun body S k => bif (Go.Sx.keyOf body).getD 0 == 2 then (circuit_ascending_L2.head.raw 0 S (fun S0 => circuit_ascending_d2 N S0 k)) else Option.none
theorem circuit_ascending_l2_eq {R : Type} (N : Nat) (k : Exit → St → Option R) (n : Nat) : ∀ (v0 : Int) (v1 : Int) (v2 : Arr Int) (v3 : Int) (v4 : Int), loopM E.Θ (coI_cal N) (circuit_ascending_lp N) (noJn) 0 circuit_ascending_L2 (bodyAt E 73 2) n (circuit_ascending_h2 v0 v1 v2 v3 v4) k = circuit_ascending_l2 N n v0 v1 v2 v3 v4 (fun q0 => k .ret (circuit_ascending_x2_r q0)) (fun (_ : Unit) => k (.exit 0) (circuit_ascending_x2_0 )) := by
  induction n with
  | zero => intro v0 v1 v2 v3 v4; rfl
  | succ n ih =>
    intro v0 v1 v2 v3 v4
    refine Eq.trans (b := circuit_ascending_b2 N (fun v0 v1 v2 v3 v4 => loopM E.Θ (coI_cal N) (circuit_ascending_lp N) (noJn) 0 circuit_ascending_L2 (bodyAt E 73 2) n (circuit_ascending_h2 v0 v1 v2 v3 v4) k) v0 v1 v2 v3 v4 (fun q0 => k .ret (circuit_ascending_x2_r q0)) (fun (_ : Unit) => k (.exit 0) (circuit_ascending_x2_0 ))) (by kernel_rfl) ?_
    have h : (fun (v0 : Int) (v1 : Int) (v2 : Arr Int) (v3 : Int) (v4 : Int) => loopM E.Θ (coI_cal N) (circuit_ascending_lp N) (noJn) 0 circuit_ascending_L2 (bodyAt E 73 2) n (circuit_ascending_h2 v0 v1 v2 v3 v4) k) = (fun (v0 : Int) (v1 : Int) (v2 : Arr Int) (v3 : Int) (v4 : Int) => circuit_ascending_l2 N n v0 v1 v2 v3 v4 (fun q0 => k .ret (circuit_ascending_x2_r q0)) (fun (_ : Unit) => k (.exit 0) (circuit_ascending_x2_0 ))) := funext fun v0 => funext fun v1 => funext fun v2 => funext fun v3 => funext fun v4 => ih v0 v1 v2 v3 v4
    rw [h]
    rfl
theorem circuit_ascending_k2 {R : Type} (N : Nat) : LpKey (R := R) E 73 0 (circuit_ascending_lp N) 2 :=
  lpKey_of hE (coI_cal_ok N) (lp := circuit_ascending_lp N) (jn := noJn) circuit_ascending_L2_ok [] kNil (by kernel_rfl) [] jNil (by kernel_rfl) N fun S k =>
    Eq.trans (b := circuit_ascending_L2.head.raw 0 S (fun S0 => circuit_ascending_d2 N S0 k)) (by kernel_rfl) (congrArg (circuit_ascending_L2.head.raw 0 S) (funext fun S0 => Eq.trans (circuit_ascending_l2_eq N k N (toI (lget S0.tmps 1)) (toI (lget S0.tmps 2)) (lstC intC (lget S0.tmps 9)) (toI (lget S0.tmps 10)) (toI (lget S0.tmps 11))).symm (by kernel_rfl)))
noncomputable def circuit_ascending_go {R : Type} (N : Nat) (args : List SV) (T : Tab) (kf : SV × Tab → Option R) : Option R :=
  circuit_ascending N (lstC intC (lget args 0)) (toI (lget args 1)) (toI (lget args 2)) (fun q0 => kf (lget [.bool q0] 0, []))
noncomputable def circuit_ascending_cal {R : Type} (N : Nat) : Cal R := callM (coI_cal N) 73 0 circuit_ascending_sp (circuit_ascending_go N)
theorem circuit_ascending_cal_ok {R : Type} (N : Nat) : CalOk E.P (circuit_ascending_cal (R := R) N) :=
  callM_ok hE (coI_cal_ok N) (lp := circuit_ascending_lp N) (jn := noJn) (keys := [2]) (kCons (circuit_ascending_k2 N) kNil) (by kernel_rfl) (js := []) jNil (by kernel_rfl) circuit_ascending_sp_ok circuit_ascending_rs_ok (fun args T kf => Eq.trans (circuit_ascending_def N (lstC intC (lget args 0)) (toI (lget args 1)) (toI (lget args 2)) (fun q0 => kf (lget [.bool q0] 0, []))) (by kernel_rfl : circuit_ascending_run N args T kf = fnM E (coI_cal N) (circuit_ascending_lp N) (noJn) 73 (circuit_ascending_sp.vs args) (circuit_ascending_sp.tab T) 0 (resK circuit_ascending_rs kf)))
def circuit_Check_2_m {R : Type} (N : Nat) (a191 : Int) (k : Bool → Option R) : Option R :=
 k (a191 != (1 : Int))
noncomputable def circuit_Check_2 {R : Type} : Nat → Int → (Bool → Option R) → Option R := lock (@circuit_Check_2_m R)
theorem circuit_Check_2_def {R : Type} (N : Nat) (a191 : Int) (k : Bool → Option R) : circuit_Check_2 N a191 k = circuit_Check_2_m N a191 k := by unfold circuit_Check_2; rw [lock_eq]
def circuit_Check_2_sp : Sp := ⟨[rInt .i64], []⟩
theorem circuit_Check_2_sp_ok : circuit_Check_2_sp.Ok := ⟨(allCons (rInt_ok .i64) allNil), eNil⟩
def circuit_Check_2_rs : Sp := ⟨[rBool], []⟩
theorem circuit_Check_2_rs_ok : circuit_Check_2_rs.Ok := ⟨(allCons rBool_ok allNil), eNil⟩
def circuit_Check_2_run {R : Type} (N : Nat) (args : List SV) (T : Tab) (kf : SV × Tab → Option R) : Option R :=
  circuit_Check_2_m N (toI (lget args 0)) (fun q0 => kf (lget [.bool q0] 0, []))
def circuit_Check_2_lp {R : Type} (N : Nat) : Lp R := fun body S k => Option.none
noncomputable def circuit_Check_2_go {R : Type} (N : Nat) (args : List SV) (T : Tab) (kf : SV × Tab → Option R) : Option R :=
  circuit_Check_2 N (toI (lget args 0)) (fun q0 => kf (lget [.bool q0] 0, []))
noncomputable def circuit_Check_2_cal {R : Type} (N : Nat) : Cal R := callM (circuit_ascending_cal N) 74 0 circuit_Check_2_sp (circuit_Check_2_go N)
theorem circuit_Check_2_cal_ok {R : Type} (N : Nat) : CalOk E.P (circuit_Check_2_cal (R := R) N) :=
  callM_ok hE (circuit_ascending_cal_ok N) (lp := circuit_Check_2_lp N) (jn := noJn) (keys := []) kNil (by kernel_rfl) (js := []) jNil (by kernel_rfl) circuit_Check_2_sp_ok circuit_Check_2_rs_ok (fun args T kf => Eq.trans (circuit_Check_2_def N (toI (lget args 0)) (fun q0 => kf (lget [.bool q0] 0, []))) (by kernel_rfl : circuit_Check_2_run N args T kf = fnM E (circuit_ascending_cal N) (circuit_Check_2_lp N) (noJn) 74 (circuit_Check_2_sp.vs args) (circuit_Check_2_sp.tab T) 0 (resK circuit_Check_2_rs kf)))
def ixI_v2_L2 : LoopSp := ⟨⟨[0, 1, 7, 8], ⟨((rSl intC) :: (rFunc 74 0 []) :: (dr 5 ((rInt .i64) :: (rInt .i64) :: (dr 10 [])))), []⟩, 0⟩, [(Option.none, ⟨[4], ⟨(dr 4 ((rInt .i64) :: (dr 14 []))), []⟩, 0⟩), (some 0, ⟨[], ⟨(dr 19 []), []⟩, 0⟩)]⟩
theorem ixI_v2_L2_ok : ixI_v2_L2.Ok := ⟨⟨(allCons (rSl_ok intC_ok) (allCons (rFunc_ok 74 0 allNil) (drCons 5 (allCons (rInt_ok .i64) (allCons (rInt_ok .i64) (drCons 10 allNil)))))), eNil⟩, (xCons ⟨(drCons 4 (allCons (rInt_ok .i64) (drCons 14 allNil))), eNil⟩ (xCons ⟨(drCons 19 allNil), eNil⟩ xNil))⟩
def ixI_v2_h2 (v188 : Arr Int) (v189 : Int) (v190 : Int) : St := ⟨((slC intC v188) :: (.func 74 0 []) :: (un 5 ((.int .i64 v189) :: (.int .i64 v190) :: (un 10 [])))), [], 0⟩
def ixI_v2_x2_r (q0 : Int) : St := ⟨(un 4 ((.int .i64 q0) :: (un 14 []))), [], 0⟩
def ixI_v2_x2_0  : St := ⟨(un 19 []), [], 0⟩
def ixI_v2_b2 {R : Type} (N : Nat) (rc : Arr Int → Int → Int → Option R) (v188 : Arr Int) (v189 : Int) (v190 : Int) (kr : Int → Option R) (k0 : Unit → Option R) : Option R :=
 bif decide (v190 < v189) then
 bif decide ((0 : Int) ≤ v190) && decide (v190 < (↑(Arr.n v188) : Int)) then
 circuit_Check_2 N (Arr.f v188 (Int.toNat v190)) (fun r192 =>
 bif r192 then
 kr v190
 else
 rc v188 v189 (w64 (v190 + (1 : Int))))
 else
 Option.none
 else
 k0 ()
def ixI_v2_l2 {R : Type} (N : Nat) : Nat → Arr Int → Int → Int → (Int → Option R) → (Unit → Option R) → Option R
  | 0, _, _, _, _, _ => Option.none
  | n + 1, v188, v189, v190, kr, k0 => ixI_v2_b2 N (fun v188 v189 v190 => ixI_v2_l2 N n v188 v189 v190 kr k0) v188 v189 v190 kr k0
def ixI_v2_m {R : Type} (N : Nat) (a187 : Arr Int) (k : Int → Option R) : Option R :=
 ixI_v2_l2 N N a187 ((↑(Arr.n a187) : Int)) (0 : Int) (fun r193 =>
 k r193) (fun (_ : Unit) =>
 k (-1 : Int))
noncomputable def ixI_v2 {R : Type} : Nat → Arr Int → (Int → Option R) → Option R := lock (@ixI_v2_m R)
theorem ixI_v2_def {R : Type} (N : Nat) (a187 : Arr Int) (k : Int → Option R) : ixI_v2 N a187 k = ixI_v2_m N a187 k := by unfold ixI_v2; rw [lock_eq]
def ixI_v2_sp : Sp := ⟨[rSl intC, rFunc 74 0 []], []⟩
theorem ixI_v2_sp_ok : ixI_v2_sp.Ok := ⟨(allCons (rSl_ok intC_ok) (allCons (rFunc_ok 74 0 allNil) allNil)), eNil⟩
def ixI_v2_rs : Sp := ⟨[rInt .i64], []⟩
theorem ixI_v2_rs_ok : ixI_v2_rs.Ok := ⟨(allCons (rInt_ok .i64) allNil), eNil⟩
def ixI_v2_run {R : Type} (N : Nat) (args : List SV) (T : Tab) (kf : SV × Tab → Option R) : Option R :=
  ixI_v2_m N (lstC intC (lget args 0)) (fun q0 => kf (lget [.int .i64 q0] 0, []))
def ixI_v2_d2 {R : Type} (N : Nat) (S0 : St) (k : Exit → St → Option R) : Option R :=
  ixI_v2_l2 N N (lstC intC (lget S0.tmps 0)) (toI (lget S0.tmps 7)) (toI (lget S0.tmps 8)) (fun q0 => k .ret (ixI_v2_x2_r q0)) (fun (_ : Unit) => k (.exit 0) (ixI_v2_x2_0 ))
def ixI_v2_lp {R : Type} (N : Nat) : Lp R := fun body S k => bif (Go.Sx.keyOf body).getD 0 == 2 then (ixI_v2_L2.head.raw 0 S (fun S0 => ixI_v2_d2 N S0 k)) else Option.none
theorem ixI_v2_l2_eq {R : Type} (N : Nat) (k : Exit → St → Option R) (n : Nat) : ∀ (v0 : Arr Int) (v1 : Int) (v2 : Int), loopM E.Θ (circuit_Check_2_cal N) (ixI_v2_lp N) (noJn) 0 ixI_v2_L2 (bodyAt E 63 2) n (ixI_v2_h2 v0 v1 v2) k = ixI_v2_l2 N n v0 v1 v2 (fun q0 => k .ret (ixI_v2_x2_r q0)) (fun (_ : Unit) => k (.exit 0) (ixI_v2_x2_0 )) := by
  induction n with
  | zero => intro v0 v1 v2; rfl
  | succ n ih =>
    intro v0 v1 v2
    refine Eq.trans (b := ixI_v2_b2 N (fun v0 v1 v2 => loopM E.Θ (circuit_Check_2_cal N) (ixI_v2_lp N) (noJn) 0 ixI_v2_L2 (bodyAt E 63 2) n (ixI_v2_h2 v0 v1 v2) k) v0 v1 v2 (fun q0 => k .ret (ixI_v2_x2_r q0)) (fun (_ : Unit) => k (.exit 0) (ixI_v2_x2_0 ))) (by kernel_rfl) ?_
    have h : (fun (v0 : Arr Int) (v1 : Int) (v2 : Int) => loopM E.Θ (circuit_Check_2_cal N) (ixI_v2_lp N) (noJn) 0 ixI_v2_L2 (bodyAt E 63 2) n (ixI_v2_h2 v0 v1 v2) k) = (fun (v0 : Arr Int) (v1 : Int) (v2 : Int) => ixI_v2_l2 N n v0 v1 v2 (fun q0 => k .ret (ixI_v2_x2_r q0)) (fun (_ : Unit) => k (.exit 0) (ixI_v2_x2_0 ))) := funext fun v0 => funext fun v1 => funext fun v2 => ih v0 v1 v2
    rw [h]
    rfl
theorem ixI_v2_k2 {R : Type} (N : Nat) : LpKey (R := R) E 63 0 (ixI_v2_lp N) 2 :=
  lpKey_of hE (circuit_Check_2_cal_ok N) (lp := ixI_v2_lp N) (jn := noJn) ixI_v2_L2_ok [] kNil (by kernel_rfl) [] jNil (by kernel_rfl) N fun S k =>
    Eq.trans (b := ixI_v2_L2.head.raw 0 S (fun S0 => ixI_v2_d2 N S0 k)) (by kernel_rfl) (congrArg (ixI_v2_L2.head.raw 0 S) (funext fun S0 => Eq.trans (ixI_v2_l2_eq N k N (lstC intC (lget S0.tmps 0)) (toI (lget S0.tmps 7)) (toI (lget S0.tmps 8))).symm (by kernel_rfl)))
noncomputable def ixI_v2_go {R : Type} (N : Nat) (args : List SV) (T : Tab) (kf : SV × Tab → Option R) : Option R :=
  ixI_v2 N (lstC intC (lget args 0)) (fun q0 => kf (lget [.int .i64 q0] 0, []))
noncomputable def ixI_v2_cal {R : Type} (N : Nat) : Cal R := callM (circuit_Check_2_cal N) 63 0 ixI_v2_sp (ixI_v2_go N)
theorem ixI_v2_cal_ok {R : Type} (N : Nat) : CalOk E.P (ixI_v2_cal (R := R) N) :=
  callM_ok hE (circuit_Check_2_cal_ok N) (lp := ixI_v2_lp N) (jn := noJn) (keys := [2]) (kCons (ixI_v2_k2 N) kNil) (by kernel_rfl) (js := []) jNil (by kernel_rfl) ixI_v2_sp_ok ixI_v2_rs_ok (fun args T kf => Eq.trans (ixI_v2_def N (lstC intC (lget args 0)) (fun q0 => kf (lget [.int .i64 q0] 0, []))) (by kernel_rfl : ixI_v2_run N args T kf = fnM E (circuit_Check_2_cal N) (ixI_v2_lp N) (noJn) 63 (ixI_v2_sp.vs args) (ixI_v2_sp.tab T) 0 (resK ixI_v2_rs kf)))
def coI_v2_m {R : Type} (N : Nat) (a186 : Arr Int) (k : Bool → Option R) : Option R :=
 ixI_v2 N a186 (fun r194 =>
 k (decide (r194 ≥ (0 : Int))))
noncomputable def coI_v2 {R : Type} : Nat → Arr Int → (Bool → Option R) → Option R := lock (@coI_v2_m R)
theorem coI_v2_def {R : Type} (N : Nat) (a186 : Arr Int) (k : Bool → Option R) : coI_v2 N a186 k = coI_v2_m N a186 k := by unfold coI_v2; rw [lock_eq]
def coI_v2_sp : Sp := ⟨[rSl intC, rFunc 74 0 []], []⟩
theorem coI_v2_sp_ok : coI_v2_sp.Ok := ⟨(allCons (rSl_ok intC_ok) (allCons (rFunc_ok 74 0 allNil) allNil)), eNil⟩
def coI_v2_rs : Sp := ⟨[rBool], []⟩
theorem coI_v2_rs_ok : coI_v2_rs.Ok := ⟨(allCons rBool_ok allNil), eNil⟩
def coI_v2_run {R : Type} (N : Nat) (args : List SV) (T : Tab) (kf : SV × Tab → Option R) : Option R :=
  coI_v2_m N (lstC intC (lget args 0)) (fun q0 => kf (lget [.bool q0] 0, []))
def coI_v2_lp {R : Type} (N : Nat) : Lp R := fun body S k => Option.none
noncomputable def coI_v2_go {R : Type} (N : Nat) (args : List SV) (T : Tab) (kf : SV × Tab → Option R) : Option R :=
  coI_v2 N (lstC intC (lget args 0)) (fun q0 => kf (lget [.bool q0] 0, []))
noncomputable def coI_v2_cal {R : Type} (N : Nat) : Cal R := callM (ixI_v2_cal N) 32 0 coI_v2_sp (coI_v2_go N)
theorem coI_v2_cal_ok {R : Type} (N : Nat) : CalOk E.P (coI_v2_cal (R := R) N) :=
  callM_ok hE (ixI_v2_cal_ok N) (lp := coI_v2_lp N) (jn := noJn) (keys := []) kNil (by kernel_rfl) (js := []) jNil (by kernel_rfl) coI_v2_sp_ok coI_v2_rs_ok (fun args T kf => Eq.trans (coI_v2_def N (lstC intC (lget args 0)) (fun q0 => kf (lget [.bool q0] 0, []))) (by kernel_rfl : coI_v2_run N args T kf = fnM E (ixI_v2_cal N) (coI_v2_lp N) (noJn) 32 (coI_v2_sp.vs args) (coI_v2_sp.tab T) 0 (resK coI_v2_rs kf)))
def circuit_Check_L18 : LoopSp := ⟨⟨[1, 4, 51, 52, 53, 100, 101, 102], ⟨(dr 1 ((rPtr 0 0) :: (dr 2 ((rRow 1) :: (dr 46 ((rSl api_WireC) :: (rInt .i64) :: (rInt .i64) :: (dr 46 ((rSl intC) :: (rInt .i64) :: (rInt .i64) :: (dr 20 []))))))))), [(0, eBlkC api_CircuitC), (1, eRow intC)]⟩, 2⟩, [(some 3, ⟨[1, 4, 51, 52, 53], ⟨(dr 1 ((rPtr 0 0) :: (dr 2 ((rRow 1) :: (dr 46 ((rSl api_WireC) :: (rInt .i64) :: (rInt .i64) :: (dr 69 []))))))), [(0, eBlkC api_CircuitC), (1, eRow intC)]⟩, 2⟩)]⟩
theorem circuit_Check_L18_ok : circuit_Check_L18.Ok := ⟨⟨(drCons 1 (allCons (rPtr_ok 0 0) (drCons 2 (allCons (rRow_ok 1) (drCons 46 (allCons (rSl_ok api_WireC_ok) (allCons (rInt_ok .i64) (allCons (rInt_ok .i64) (drCons 46 (allCons (rSl_ok intC_ok) (allCons (rInt_ok .i64) (allCons (rInt_ok .i64) (drCons 20 allNil))))))))))))), (eCons (eBlkC_ok api_CircuitC_ok api_CircuitC_len) (eCons (eRow_ok intC_ok) eNil))⟩, (xCons ⟨(drCons 1 (allCons (rPtr_ok 0 0) (drCons 2 (allCons (rRow_ok 1) (drCons 46 (allCons (rSl_ok api_WireC_ok) (allCons (rInt_ok .i64) (allCons (rInt_ok .i64) (drCons 69 allNil))))))))), (eCons (eBlkC_ok api_CircuitC_ok api_CircuitC_len) (eCons (eRow_ok intC_ok) eNil))⟩ xNil)⟩
def circuit_Check_h18 (v172 : Arr api_Wire) (v173 : Int) (v174 : Int) (v175 : Arr Int) (v176 : Int) (v177 : Int) (v178 : api_Circuit) (v179 : Bool) (v180 : Arr Int) : St := ⟨(un 1 ((.ptr 0 0) :: (un 2 ((.row 1) :: (un 46 ((slC api_WireC v172) :: (.int .i64 v173) :: (.int .i64 v174) :: (un 46 ((slC intC v175) :: (.int .i64 v176) :: (.int .i64 v177) :: (un 20 []))))))))), [(0, .blk (Cod.enc api_CircuitC v178)), (1, rowE intC v179 v180)], 2⟩
def circuit_Check_x18_3 (v172 : Arr api_Wire) (v173 : Int) (v174 : Int) (v178 : api_Circuit) (v179 : Bool) (q5 : Arr Int) : St := ⟨(un 1 ((.ptr 0 0) :: (un 2 ((.row 1) :: (un 46 ((slC api_WireC v172) :: (.int .i64 v173) :: (.int .i64 v174) :: (un 69 []))))))), [(0, .blk (Cod.enc api_CircuitC v178)), (1, rowE intC v179 q5)], 2⟩
def circuit_Check_b18 {R : Type} (N : Nat) (rc : Arr api_Wire → Int → Int → Arr Int → Int → Int → api_Circuit → Bool → Arr Int → Option R) (v172 : Arr api_Wire) (v173 : Int) (v174 : Int) (v175 : Arr Int) (v176 : Int) (v177 : Int) (v178 : api_Circuit) (v179 : Bool) (v180 : Arr Int) (k3 : Arr Int → Option R) : Option R :=
 bif decide (v177 < v176) then
 bif decide ((0 : Int) ≤ v177) && decide (v177 < (↑(Arr.n v175) : Int)) then
 bif decide ((0 : Int) ≤ Arr.f v175 (Int.toNat v177)) && decide (Arr.f v175 (Int.toNat v177) < (↑(Arr.n v180) : Int)) then
 bif decide ((0 : Int) ≤ Arr.f v175 (Int.toNat v177)) && decide (Arr.f v175 (Int.toNat v177) < (↑(Arr.n v180) : Int)) then
 rc v172 v173 v174 v175 v176 (w64 (v177 + (1 : Int))) v178 v179 (lst intC (Arr.n v180) (setCs (Int.toNat (Arr.f v175 (Int.toNat v177))) (0 : Nat) (Cod.cell intC (Arr.f v180)) [SV.int IntKind.i64 (w64 (Arr.f v180 (Int.toNat (Arr.f v175 (Int.toNat v177))) + (1 : Int)))]))
 else
 Option.none
 else
 Option.none
 else
 Option.none
 else
 k3 v180
def circuit_Check_l18 {R : Type} (N : Nat) : Nat → Arr api_Wire → Int → Int → Arr Int → Int → Int → api_Circuit → Bool → Arr Int → (Arr Int → Option R) → Option R
  | 0, _, _, _, _, _, _, _, _, _, _ => Option.none
  | n + 1, v172, v173, v174, v175, v176, v177, v178, v179, v180, k3 => circuit_Check_b18 N (fun v172 v173 v174 v175 v176 v177 v178 v179 v180 => circuit_Check_l18 N n v172 v173 v174 v175 v176 v177 v178 v179 v180 k3) v172 v173 v174 v175 v176 v177 v178 v179 v180 k3
def circuit_Check_L6 : LoopSp := ⟨⟨[1, 4, 51, 52, 53], ⟨(dr 1 ((rPtr 0 0) :: (dr 2 ((rRow 1) :: (dr 46 ((rSl api_WireC) :: (rInt .i64) :: (rInt .i64) :: (dr 69 []))))))), [(0, eBlkC api_CircuitC), (1, eRow intC)]⟩, 2⟩, [(Option.none, ⟨[2], ⟨(dr 2 ((rInt .i64) :: (dr 120 []))), []⟩, 0⟩), (some 0, ⟨[4], ⟨(dr 4 ((rRow 0) :: (dr 118 []))), [(0, eRow intC)]⟩, 1⟩)]⟩
theorem circuit_Check_L6_ok : circuit_Check_L6.Ok := ⟨⟨(drCons 1 (allCons (rPtr_ok 0 0) (drCons 2 (allCons (rRow_ok 1) (drCons 46 (allCons (rSl_ok api_WireC_ok) (allCons (rInt_ok .i64) (allCons (rInt_ok .i64) (drCons 69 allNil))))))))), (eCons (eBlkC_ok api_CircuitC_ok api_CircuitC_len) (eCons (eRow_ok intC_ok) eNil))⟩, (xCons ⟨(drCons 2 (allCons (rInt_ok .i64) (drCons 120 allNil))), eNil⟩ (xCons ⟨(drCons 4 (allCons (rRow_ok 0) (drCons 118 allNil))), (eCons (eRow_ok intC_ok) eNil)⟩ xNil))⟩
def circuit_Check_h6 (v155 : Arr api_Wire) (v156 : Int) (v157 : Int) (v158 : api_Circuit) (v159 : Bool) (v160 : Arr Int) : St := ⟨(un 1 ((.ptr 0 0) :: (un 2 ((.row 1) :: (un 46 ((slC api_WireC v155) :: (.int .i64 v156) :: (.int .i64 v157) :: (un 69 []))))))), [(0, .blk (Cod.enc api_CircuitC v158)), (1, rowE intC v159 v160)], 2⟩
def circuit_Check_x6_r (q0 : Int) : St := ⟨(un 2 ((.int .i64 q0) :: (un 120 []))), [], 0⟩
def circuit_Check_x6_0 (v159 : Bool) (q1 : Arr Int) : St := ⟨(un 4 ((.row 0) :: (un 118 []))), [(0, rowE intC v159 q1)], 1⟩
def circuit_Check_b6 {R : Type} (N : Nat) (rc : Arr api_Wire → Int → Int → api_Circuit → Bool → Arr Int → Option R) (v155 : Arr api_Wire) (v156 : Int) (v157 : Int) (v158 : api_Circuit) (v159 : Bool) (v160 : Arr Int) (kr : Int → Option R) (k0 : Arr Int → Option R) : Option R :=
 bif decide (v157 < v156) then
 bif decide ((0 : Int) ≤ v157) && decide (v157 < (↑(Arr.n v155) : Int)) then
 bif api_Wire.Kind (Arr.f v155 (Int.toNat v157)) == (1 : Int) then
 bif (↑(Arr.n (api_Wire.Of (Arr.f v155 (Int.toNat v157)))) : Int) != (1 : Int) then
 kr (30 : Int)
 else
 circuit_ascending N (api_Wire.Of (Arr.f v155 (Int.toNat v157))) (0 : Int) ((↑(Arr.n (api_Circuit.Switches v158)) : Int)) (fun r170 =>
 bif !r170 then
 kr (30 : Int)
 else
 rc v155 v156 (w64 (v157 + (1 : Int))) v158 v159 v160)
 else
 bif api_Wire.Kind (Arr.f v155 (Int.toNat v157)) == (2 : Int) then
 bif decide ((↑(Arr.n (api_Wire.Of (Arr.f v155 (Int.toNat v157)))) : Int) < (1 : Int)) then
 kr (30 : Int)
 else
 bif decide ((↑(Arr.n (api_Wire.Of (Arr.f v155 (Int.toNat v157)))) : Int) > (8 : Int)) then
 kr (30 : Int)
 else
 circuit_ascending N (api_Wire.Of (Arr.f v155 (Int.toNat v157))) (w64 (v157 + (1 : Int))) ((↑(Arr.n (api_Circuit.Wires v158)) : Int)) (fun r171 =>
 bif !r171 then
 kr (30 : Int)
 else
 circuit_Check_l18 N N v155 v156 v157 (api_Wire.Of (Arr.f v155 (Int.toNat v157))) ((↑(Arr.n (api_Wire.Of (Arr.f v155 (Int.toNat v157)))) : Int)) (0 : Int) v158 v159 v160 (fun r181 =>
 rc v155 v156 (w64 (v157 + (1 : Int))) v158 v159 r181))
 else
 bif api_Wire.Kind (Arr.f v155 (Int.toNat v157)) == (3 : Int) then
 bif decide ((↑(Arr.n (api_Wire.Of (Arr.f v155 (Int.toNat v157)))) : Int) < (1 : Int)) then
 kr (30 : Int)
 else
 bif decide ((↑(Arr.n (api_Wire.Of (Arr.f v155 (Int.toNat v157)))) : Int) > (8 : Int)) then
 kr (30 : Int)
 else
 circuit_ascending N (api_Wire.Of (Arr.f v155 (Int.toNat v157))) (w64 (v157 + (1 : Int))) ((↑(Arr.n (api_Circuit.Wires v158)) : Int)) (fun r182 =>
 bif !r182 then
 kr (30 : Int)
 else
 circuit_Check_l18 N N v155 v156 v157 (api_Wire.Of (Arr.f v155 (Int.toNat v157))) ((↑(Arr.n (api_Wire.Of (Arr.f v155 (Int.toNat v157)))) : Int)) (0 : Int) v158 v159 v160 (fun r183 =>
 rc v155 v156 (w64 (v157 + (1 : Int))) v158 v159 r183))
 else
 kr (30 : Int)
 else
 Option.none
 else
 k0 v160
def circuit_Check_l6 {R : Type} (N : Nat) : Nat → Arr api_Wire → Int → Int → api_Circuit → Bool → Arr Int → (Int → Option R) → (Arr Int → Option R) → Option R
  | 0, _, _, _, _, _, _, _, _ => Option.none
  | n + 1, v155, v156, v157, v158, v159, v160, kr, k0 => circuit_Check_b6 N (fun v155 v156 v157 v158 v159 v160 => circuit_Check_l6 N n v155 v156 v157 v158 v159 v160 kr k0) v155 v156 v157 v158 v159 v160 kr k0
def circuit_Check_m {R : Type} (N : Nat) (a126 : api_Circuit) (k : Int → Option R) : Option R :=
 bif decide (api_Circuit.Hazards a126 ≥ (1 : Int)) then
 bif decide ((↑(Arr.n (api_Circuit.Switches a126)) : Int) ≥ (1 : Int)) then
 bif decide ((↑(Arr.n (api_Circuit.Wires a126)) : Int) ≥ (1 : Int)) then
 slices_Contains___bool_bool_ N (lst boolC (3 : Nat) (litC [SV.bool false] [[SV.bool (decide (api_Circuit.Hazards a126 ≤ (8 : Int)))], [SV.bool (decide ((↑(Arr.n (api_Circuit.Switches a126)) : Int) ≤ (12 : Int)))], [SV.bool (decide ((↑(Arr.n (api_Circuit.Wires a126)) : Int) ≤ (24 : Int)))]])) false (fun r137 =>
 bif r137 then
 k (30 : Int)
 else
 coI N (api_Circuit.Switches a126) a126 (fun r154 =>
 bif r154 then
 k (30 : Int)
 else
 bif decide ((↑(Arr.n (api_Circuit.Wires a126)) : Int) ≤ (↑(Arr.n (api_Circuit.Wires a126)) : Int)) && decide ((↑(Arr.n (api_Circuit.Wires a126)) : Int) ≤ (1073741824 : Int)) then
 circuit_Check_l6 N N (api_Circuit.Wires a126) ((↑(Arr.n (api_Circuit.Wires a126)) : Int)) (0 : Int) a126 false (lst intC (Int.toNat (↑(Arr.n (api_Circuit.Wires a126)) : Int)) (zeroC [SV.int .i64 0])) (fun r184 =>
 k r184) (fun r185 =>
 bif decide ((0 : Int) < (↑(Arr.n r185) : Int)) then
 bif Arr.f r185 (Int.toNat (0 : Int)) != (0 : Int) then
 k (30 : Int)
 else
 bif decide ((1 : Int) ≤ (↑(Arr.n r185) : Int)) && decide ((↑(Arr.n r185) : Int) ≤ (↑(Arr.n r185) : Int)) then
 coI_v2 N (lst intC (Int.toNat (↑(Arr.n r185) : Int) - Int.toNat (1 : Int)) fun (i j : Nat) ↦ Cod.cell intC (Arr.f r185) (Int.toNat (1 : Int) + i) j) (fun r195 =>
 bif r195 then
 k (30 : Int)
 else
 k (0 : Int))
 else
 Option.none
 else
 Option.none)
 else
 Option.none))
 else
 slices_Contains___bool_bool_ N (lst boolC (3 : Nat) (litC [SV.bool false] [[SV.bool (decide (api_Circuit.Hazards a126 ≤ (8 : Int)))], [SV.bool (decide ((↑(Arr.n (api_Circuit.Switches a126)) : Int) ≤ (12 : Int)))], [SV.bool false]])) false (fun r196 =>
 bif r196 then
 k (30 : Int)
 else
 coI N (api_Circuit.Switches a126) a126 (fun r197 =>
 bif r197 then
 k (30 : Int)
 else
 bif decide ((↑(Arr.n (api_Circuit.Wires a126)) : Int) ≤ (↑(Arr.n (api_Circuit.Wires a126)) : Int)) && decide ((↑(Arr.n (api_Circuit.Wires a126)) : Int) ≤ (1073741824 : Int)) then
 circuit_Check_l6 N N (api_Circuit.Wires a126) ((↑(Arr.n (api_Circuit.Wires a126)) : Int)) (0 : Int) a126 false (lst intC (Int.toNat (↑(Arr.n (api_Circuit.Wires a126)) : Int)) (zeroC [SV.int .i64 0])) (fun r198 =>
 k r198) (fun r199 =>
 bif decide ((0 : Int) < (↑(Arr.n r199) : Int)) then
 bif Arr.f r199 (Int.toNat (0 : Int)) != (0 : Int) then
 k (30 : Int)
 else
 bif decide ((1 : Int) ≤ (↑(Arr.n r199) : Int)) && decide ((↑(Arr.n r199) : Int) ≤ (↑(Arr.n r199) : Int)) then
 coI_v2 N (lst intC (Int.toNat (↑(Arr.n r199) : Int) - Int.toNat (1 : Int)) fun (i j : Nat) ↦ Cod.cell intC (Arr.f r199) (Int.toNat (1 : Int) + i) j) (fun r200 =>
 bif r200 then
 k (30 : Int)
 else
 k (0 : Int))
 else
 Option.none
 else
 Option.none)
 else
 Option.none))
 else
 bif decide ((↑(Arr.n (api_Circuit.Wires a126)) : Int) ≥ (1 : Int)) then
 slices_Contains___bool_bool_ N (lst boolC (3 : Nat) (litC [SV.bool false] [[SV.bool (decide (api_Circuit.Hazards a126 ≤ (8 : Int)))], [SV.bool false], [SV.bool (decide ((↑(Arr.n (api_Circuit.Wires a126)) : Int) ≤ (24 : Int)))]])) false (fun r201 =>
 bif r201 then
 k (30 : Int)
 else
 coI N (api_Circuit.Switches a126) a126 (fun r202 =>
 bif r202 then
 k (30 : Int)
 else
 bif decide ((↑(Arr.n (api_Circuit.Wires a126)) : Int) ≤ (↑(Arr.n (api_Circuit.Wires a126)) : Int)) && decide ((↑(Arr.n (api_Circuit.Wires a126)) : Int) ≤ (1073741824 : Int)) then
 circuit_Check_l6 N N (api_Circuit.Wires a126) ((↑(Arr.n (api_Circuit.Wires a126)) : Int)) (0 : Int) a126 false (lst intC (Int.toNat (↑(Arr.n (api_Circuit.Wires a126)) : Int)) (zeroC [SV.int .i64 0])) (fun r203 =>
 k r203) (fun r204 =>
 bif decide ((0 : Int) < (↑(Arr.n r204) : Int)) then
 bif Arr.f r204 (Int.toNat (0 : Int)) != (0 : Int) then
 k (30 : Int)
 else
 bif decide ((1 : Int) ≤ (↑(Arr.n r204) : Int)) && decide ((↑(Arr.n r204) : Int) ≤ (↑(Arr.n r204) : Int)) then
 coI_v2 N (lst intC (Int.toNat (↑(Arr.n r204) : Int) - Int.toNat (1 : Int)) fun (i j : Nat) ↦ Cod.cell intC (Arr.f r204) (Int.toNat (1 : Int) + i) j) (fun r205 =>
 bif r205 then
 k (30 : Int)
 else
 k (0 : Int))
 else
 Option.none
 else
 Option.none)
 else
 Option.none))
 else
 slices_Contains___bool_bool_ N (lst boolC (3 : Nat) (litC [SV.bool false] [[SV.bool (decide (api_Circuit.Hazards a126 ≤ (8 : Int)))], [SV.bool false], [SV.bool false]])) false (fun r206 =>
 bif r206 then
 k (30 : Int)
 else
 coI N (api_Circuit.Switches a126) a126 (fun r207 =>
 bif r207 then
 k (30 : Int)
 else
 bif decide ((↑(Arr.n (api_Circuit.Wires a126)) : Int) ≤ (↑(Arr.n (api_Circuit.Wires a126)) : Int)) && decide ((↑(Arr.n (api_Circuit.Wires a126)) : Int) ≤ (1073741824 : Int)) then
 circuit_Check_l6 N N (api_Circuit.Wires a126) ((↑(Arr.n (api_Circuit.Wires a126)) : Int)) (0 : Int) a126 false (lst intC (Int.toNat (↑(Arr.n (api_Circuit.Wires a126)) : Int)) (zeroC [SV.int .i64 0])) (fun r208 =>
 k r208) (fun r209 =>
 bif decide ((0 : Int) < (↑(Arr.n r209) : Int)) then
 bif Arr.f r209 (Int.toNat (0 : Int)) != (0 : Int) then
 k (30 : Int)
 else
 bif decide ((1 : Int) ≤ (↑(Arr.n r209) : Int)) && decide ((↑(Arr.n r209) : Int) ≤ (↑(Arr.n r209) : Int)) then
 coI_v2 N (lst intC (Int.toNat (↑(Arr.n r209) : Int) - Int.toNat (1 : Int)) fun (i j : Nat) ↦ Cod.cell intC (Arr.f r209) (Int.toNat (1 : Int) + i) j) (fun r210 =>
 bif r210 then
 k (30 : Int)
 else
 k (0 : Int))
 else
 Option.none
 else
 Option.none)
 else
 Option.none))
 else
 bif decide ((↑(Arr.n (api_Circuit.Switches a126)) : Int) ≥ (1 : Int)) then
 bif decide ((↑(Arr.n (api_Circuit.Wires a126)) : Int) ≥ (1 : Int)) then
 slices_Contains___bool_bool_ N (lst boolC (3 : Nat) (litC [SV.bool false] [[SV.bool false], [SV.bool (decide ((↑(Arr.n (api_Circuit.Switches a126)) : Int) ≤ (12 : Int)))], [SV.bool (decide ((↑(Arr.n (api_Circuit.Wires a126)) : Int) ≤ (24 : Int)))]])) false (fun r211 =>
 bif r211 then
 k (30 : Int)
 else
 coI N (api_Circuit.Switches a126) a126 (fun r212 =>
 bif r212 then
 k (30 : Int)
 else
 bif decide ((↑(Arr.n (api_Circuit.Wires a126)) : Int) ≤ (↑(Arr.n (api_Circuit.Wires a126)) : Int)) && decide ((↑(Arr.n (api_Circuit.Wires a126)) : Int) ≤ (1073741824 : Int)) then
 circuit_Check_l6 N N (api_Circuit.Wires a126) ((↑(Arr.n (api_Circuit.Wires a126)) : Int)) (0 : Int) a126 false (lst intC (Int.toNat (↑(Arr.n (api_Circuit.Wires a126)) : Int)) (zeroC [SV.int .i64 0])) (fun r213 =>
 k r213) (fun r214 =>
 bif decide ((0 : Int) < (↑(Arr.n r214) : Int)) then
 bif Arr.f r214 (Int.toNat (0 : Int)) != (0 : Int) then
 k (30 : Int)
 else
 bif decide ((1 : Int) ≤ (↑(Arr.n r214) : Int)) && decide ((↑(Arr.n r214) : Int) ≤ (↑(Arr.n r214) : Int)) then
 coI_v2 N (lst intC (Int.toNat (↑(Arr.n r214) : Int) - Int.toNat (1 : Int)) fun (i j : Nat) ↦ Cod.cell intC (Arr.f r214) (Int.toNat (1 : Int) + i) j) (fun r215 =>
 bif r215 then
 k (30 : Int)
 else
 k (0 : Int))
 else
 Option.none
 else
 Option.none)
 else
 Option.none))
 else
 slices_Contains___bool_bool_ N (lst boolC (3 : Nat) (litC [SV.bool false] [[SV.bool false], [SV.bool (decide ((↑(Arr.n (api_Circuit.Switches a126)) : Int) ≤ (12 : Int)))], [SV.bool false]])) false (fun r216 =>
 bif r216 then
 k (30 : Int)
 else
 coI N (api_Circuit.Switches a126) a126 (fun r217 =>
 bif r217 then
 k (30 : Int)
 else
 bif decide ((↑(Arr.n (api_Circuit.Wires a126)) : Int) ≤ (↑(Arr.n (api_Circuit.Wires a126)) : Int)) && decide ((↑(Arr.n (api_Circuit.Wires a126)) : Int) ≤ (1073741824 : Int)) then
 circuit_Check_l6 N N (api_Circuit.Wires a126) ((↑(Arr.n (api_Circuit.Wires a126)) : Int)) (0 : Int) a126 false (lst intC (Int.toNat (↑(Arr.n (api_Circuit.Wires a126)) : Int)) (zeroC [SV.int .i64 0])) (fun r218 =>
 k r218) (fun r219 =>
 bif decide ((0 : Int) < (↑(Arr.n r219) : Int)) then
 bif Arr.f r219 (Int.toNat (0 : Int)) != (0 : Int) then
 k (30 : Int)
 else
 bif decide ((1 : Int) ≤ (↑(Arr.n r219) : Int)) && decide ((↑(Arr.n r219) : Int) ≤ (↑(Arr.n r219) : Int)) then
 coI_v2 N (lst intC (Int.toNat (↑(Arr.n r219) : Int) - Int.toNat (1 : Int)) fun (i j : Nat) ↦ Cod.cell intC (Arr.f r219) (Int.toNat (1 : Int) + i) j) (fun r220 =>
 bif r220 then
 k (30 : Int)
 else
 k (0 : Int))
 else
 Option.none
 else
 Option.none)
 else
 Option.none))
 else
 bif decide ((↑(Arr.n (api_Circuit.Wires a126)) : Int) ≥ (1 : Int)) then
 slices_Contains___bool_bool_ N (lst boolC (3 : Nat) (litC [SV.bool false] [[SV.bool false], [SV.bool false], [SV.bool (decide ((↑(Arr.n (api_Circuit.Wires a126)) : Int) ≤ (24 : Int)))]])) false (fun r221 =>
 bif r221 then
 k (30 : Int)
 else
 coI N (api_Circuit.Switches a126) a126 (fun r222 =>
 bif r222 then
 k (30 : Int)
 else
 bif decide ((↑(Arr.n (api_Circuit.Wires a126)) : Int) ≤ (↑(Arr.n (api_Circuit.Wires a126)) : Int)) && decide ((↑(Arr.n (api_Circuit.Wires a126)) : Int) ≤ (1073741824 : Int)) then
 circuit_Check_l6 N N (api_Circuit.Wires a126) ((↑(Arr.n (api_Circuit.Wires a126)) : Int)) (0 : Int) a126 false (lst intC (Int.toNat (↑(Arr.n (api_Circuit.Wires a126)) : Int)) (zeroC [SV.int .i64 0])) (fun r223 =>
 k r223) (fun r224 =>
 bif decide ((0 : Int) < (↑(Arr.n r224) : Int)) then
 bif Arr.f r224 (Int.toNat (0 : Int)) != (0 : Int) then
 k (30 : Int)
 else
 bif decide ((1 : Int) ≤ (↑(Arr.n r224) : Int)) && decide ((↑(Arr.n r224) : Int) ≤ (↑(Arr.n r224) : Int)) then
 coI_v2 N (lst intC (Int.toNat (↑(Arr.n r224) : Int) - Int.toNat (1 : Int)) fun (i j : Nat) ↦ Cod.cell intC (Arr.f r224) (Int.toNat (1 : Int) + i) j) (fun r225 =>
 bif r225 then
 k (30 : Int)
 else
 k (0 : Int))
 else
 Option.none
 else
 Option.none)
 else
 Option.none))
 else
 slices_Contains___bool_bool_ N (lst boolC (3 : Nat) (litC [SV.bool false] [[SV.bool false], [SV.bool false], [SV.bool false]])) false (fun r226 =>
 bif r226 then
 k (30 : Int)
 else
 coI N (api_Circuit.Switches a126) a126 (fun r227 =>
 bif r227 then
 k (30 : Int)
 else
 bif decide ((↑(Arr.n (api_Circuit.Wires a126)) : Int) ≤ (↑(Arr.n (api_Circuit.Wires a126)) : Int)) && decide ((↑(Arr.n (api_Circuit.Wires a126)) : Int) ≤ (1073741824 : Int)) then
 circuit_Check_l6 N N (api_Circuit.Wires a126) ((↑(Arr.n (api_Circuit.Wires a126)) : Int)) (0 : Int) a126 false (lst intC (Int.toNat (↑(Arr.n (api_Circuit.Wires a126)) : Int)) (zeroC [SV.int .i64 0])) (fun r228 =>
 k r228) (fun r229 =>
 bif decide ((0 : Int) < (↑(Arr.n r229) : Int)) then
 bif Arr.f r229 (Int.toNat (0 : Int)) != (0 : Int) then
 k (30 : Int)
 else
 bif decide ((1 : Int) ≤ (↑(Arr.n r229) : Int)) && decide ((↑(Arr.n r229) : Int) ≤ (↑(Arr.n r229) : Int)) then
 coI_v2 N (lst intC (Int.toNat (↑(Arr.n r229) : Int) - Int.toNat (1 : Int)) fun (i j : Nat) ↦ Cod.cell intC (Arr.f r229) (Int.toNat (1 : Int) + i) j) (fun r230 =>
 bif r230 then
 k (30 : Int)
 else
 k (0 : Int))
 else
 Option.none
 else
 Option.none)
 else
 Option.none))
noncomputable def circuit_Check {R : Type} : Nat → api_Circuit → (Int → Option R) → Option R := lock (@circuit_Check_m R)
theorem circuit_Check_def {R : Type} (N : Nat) (a126 : api_Circuit) (k : Int → Option R) : circuit_Check N a126 k = circuit_Check_m N a126 k := by unfold circuit_Check; rw [lock_eq]
def circuit_Check_sp : Sp := ⟨[rAgg api_CircuitC], []⟩
theorem circuit_Check_sp_ok : circuit_Check_sp.Ok := ⟨(allCons (rAgg_ok api_CircuitC_ok api_CircuitC_len) allNil), eNil⟩
def circuit_Check_rs : Sp := ⟨[rInt .i64], []⟩
theorem circuit_Check_rs_ok : circuit_Check_rs.Ok := ⟨(allCons (rInt_ok .i64) allNil), eNil⟩
def circuit_Check_run {R : Type} (N : Nat) (args : List SV) (T : Tab) (kf : SV × Tab → Option R) : Option R :=
  circuit_Check_m N (Cod.dec api_CircuitC (lget (toCs (lget args 0)))) (fun q0 => kf (lget [.int .i64 q0] 0, []))
def circuit_Check_d18 {R : Type} (N : Nat) (S0 : St) (k : Exit → St → Option R) : Option R :=
  circuit_Check_l18 N N (lstC api_WireC (lget S0.tmps 51)) (toI (lget S0.tmps 52)) (toI (lget S0.tmps 53)) (lstC intC (lget S0.tmps 100)) (toI (lget S0.tmps 101)) (toI (lget S0.tmps 102)) (Cod.dec api_CircuitC (lget (entCs (entAt S0.tab 0)))) (entNl (entAt S0.tab 1)) (lst intC (entN (entAt S0.tab 1)) (entC (entAt S0.tab 1))) (fun q5 => k (.exit 3) (circuit_Check_x18_3 (lstC api_WireC (lget S0.tmps 51)) (toI (lget S0.tmps 52)) (toI (lget S0.tmps 53)) (Cod.dec api_CircuitC (lget (entCs (entAt S0.tab 0)))) (entNl (entAt S0.tab 1)) q5))
def circuit_Check_d6 {R : Type} (N : Nat) (S0 : St) (k : Exit → St → Option R) : Option R :=
  circuit_Check_l6 N N (lstC api_WireC (lget S0.tmps 51)) (toI (lget S0.tmps 52)) (toI (lget S0.tmps 53)) (Cod.dec api_CircuitC (lget (entCs (entAt S0.tab 0)))) (entNl (entAt S0.tab 1)) (lst intC (entN (entAt S0.tab 1)) (entC (entAt S0.tab 1))) (fun q0 => k .ret (circuit_Check_x6_r q0)) (fun q1 => k (.exit 0) (circuit_Check_x6_0 (entNl (entAt S0.tab 1)) q1))
def circuit_Check_lp {R : Type} (N : Nat) : Lp R := fun body S k => bif (Go.Sx.keyOf body).getD 0 == 6 then (circuit_Check_L6.head.raw 0 S (fun S0 => circuit_Check_d6 N S0 k)) else bif (Go.Sx.keyOf body).getD 0 == 18 then (circuit_Check_L18.head.raw 0 S (fun S0 => circuit_Check_d18 N S0 k)) else Option.none
theorem circuit_Check_l6_eq {R : Type} (N : Nat) (k : Exit → St → Option R) (n : Nat) : ∀ (v0 : Arr api_Wire) (v1 : Int) (v2 : Int) (v3 : api_Circuit) (v4 : Bool) (v5 : Arr Int), loopM E.Θ (coI_v2_cal N) (circuit_Check_lp N) (noJn) 0 circuit_Check_L6 (bodyAt E 47 6) n (circuit_Check_h6 v0 v1 v2 v3 v4 v5) k = circuit_Check_l6 N n v0 v1 v2 v3 v4 v5 (fun q0 => k .ret (circuit_Check_x6_r q0)) (fun q1 => k (.exit 0) (circuit_Check_x6_0 v4 q1)) := by
  induction n with
  | zero => intro v0 v1 v2 v3 v4 v5; rfl
  | succ n ih =>
    intro v0 v1 v2 v3 v4 v5
    refine Eq.trans (b := circuit_Check_b6 N (fun v0 v1 v2 v3 v4 v5 => loopM E.Θ (coI_v2_cal N) (circuit_Check_lp N) (noJn) 0 circuit_Check_L6 (bodyAt E 47 6) n (circuit_Check_h6 v0 v1 v2 v3 v4 v5) k) v0 v1 v2 v3 v4 v5 (fun q0 => k .ret (circuit_Check_x6_r q0)) (fun q1 => k (.exit 0) (circuit_Check_x6_0 v4 q1))) (by kernel_rfl) ?_
    have h : (fun (v0 : Arr api_Wire) (v1 : Int) (v2 : Int) (v3 : api_Circuit) (v4 : Bool) (v5 : Arr Int) => loopM E.Θ (coI_v2_cal N) (circuit_Check_lp N) (noJn) 0 circuit_Check_L6 (bodyAt E 47 6) n (circuit_Check_h6 v0 v1 v2 v3 v4 v5) k) = (fun (v0 : Arr api_Wire) (v1 : Int) (v2 : Int) (v3 : api_Circuit) (v4 : Bool) (v5 : Arr Int) => circuit_Check_l6 N n v0 v1 v2 v3 v4 v5 (fun q0 => k .ret (circuit_Check_x6_r q0)) (fun q1 => k (.exit 0) (circuit_Check_x6_0 v4 q1))) := funext fun v0 => funext fun v1 => funext fun v2 => funext fun v3 => funext fun v4 => funext fun v5 => ih v0 v1 v2 v3 v4 v5
    rw [h]
    rfl
theorem circuit_Check_l18_eq {R : Type} (N : Nat) (k : Exit → St → Option R) (n : Nat) : ∀ (v0 : Arr api_Wire) (v1 : Int) (v2 : Int) (v3 : Arr Int) (v4 : Int) (v5 : Int) (v6 : api_Circuit) (v7 : Bool) (v8 : Arr Int), loopM E.Θ (coI_v2_cal N) (circuit_Check_lp N) (noJn) 0 circuit_Check_L18 (bodyAt E 47 18) n (circuit_Check_h18 v0 v1 v2 v3 v4 v5 v6 v7 v8) k = circuit_Check_l18 N n v0 v1 v2 v3 v4 v5 v6 v7 v8 (fun q5 => k (.exit 3) (circuit_Check_x18_3 v0 v1 v2 v6 v7 q5)) := by
  induction n with
  | zero => intro v0 v1 v2 v3 v4 v5 v6 v7 v8; rfl
  | succ n ih =>
    intro v0 v1 v2 v3 v4 v5 v6 v7 v8
    refine Eq.trans (b := circuit_Check_b18 N (fun v0 v1 v2 v3 v4 v5 v6 v7 v8 => loopM E.Θ (coI_v2_cal N) (circuit_Check_lp N) (noJn) 0 circuit_Check_L18 (bodyAt E 47 18) n (circuit_Check_h18 v0 v1 v2 v3 v4 v5 v6 v7 v8) k) v0 v1 v2 v3 v4 v5 v6 v7 v8 (fun q5 => k (.exit 3) (circuit_Check_x18_3 v0 v1 v2 v6 v7 q5))) (by kernel_rfl) ?_
    have h : (fun (v0 : Arr api_Wire) (v1 : Int) (v2 : Int) (v3 : Arr Int) (v4 : Int) (v5 : Int) (v6 : api_Circuit) (v7 : Bool) (v8 : Arr Int) => loopM E.Θ (coI_v2_cal N) (circuit_Check_lp N) (noJn) 0 circuit_Check_L18 (bodyAt E 47 18) n (circuit_Check_h18 v0 v1 v2 v3 v4 v5 v6 v7 v8) k) = (fun (v0 : Arr api_Wire) (v1 : Int) (v2 : Int) (v3 : Arr Int) (v4 : Int) (v5 : Int) (v6 : api_Circuit) (v7 : Bool) (v8 : Arr Int) => circuit_Check_l18 N n v0 v1 v2 v3 v4 v5 v6 v7 v8 (fun q5 => k (.exit 3) (circuit_Check_x18_3 v0 v1 v2 v6 v7 q5))) := funext fun v0 => funext fun v1 => funext fun v2 => funext fun v3 => funext fun v4 => funext fun v5 => funext fun v6 => funext fun v7 => funext fun v8 => ih v0 v1 v2 v3 v4 v5 v6 v7 v8
    rw [h]
    rfl
theorem circuit_Check_k18 {R : Type} (N : Nat) : LpKey (R := R) E 47 0 (circuit_Check_lp N) 18 :=
  lpKey_of hE (coI_v2_cal_ok N) (lp := circuit_Check_lp N) (jn := noJn) circuit_Check_L18_ok [] kNil (by kernel_rfl) [] jNil (by kernel_rfl) N fun S k =>
    Eq.trans (b := circuit_Check_L18.head.raw 0 S (fun S0 => circuit_Check_d18 N S0 k)) (by kernel_rfl) (congrArg (circuit_Check_L18.head.raw 0 S) (funext fun S0 => Eq.trans (circuit_Check_l18_eq N k N (lstC api_WireC (lget S0.tmps 51)) (toI (lget S0.tmps 52)) (toI (lget S0.tmps 53)) (lstC intC (lget S0.tmps 100)) (toI (lget S0.tmps 101)) (toI (lget S0.tmps 102)) (Cod.dec api_CircuitC (lget (entCs (entAt S0.tab 0)))) (entNl (entAt S0.tab 1)) (lst intC (entN (entAt S0.tab 1)) (entC (entAt S0.tab 1)))).symm (by kernel_rfl)))
theorem circuit_Check_k6 {R : Type} (N : Nat) : LpKey (R := R) E 47 0 (circuit_Check_lp N) 6 :=
  lpKey_of hE (coI_v2_cal_ok N) (lp := circuit_Check_lp N) (jn := noJn) circuit_Check_L6_ok [18] (kCons (circuit_Check_k18 N) kNil) (by kernel_rfl) [] jNil (by kernel_rfl) N fun S k =>
    Eq.trans (b := circuit_Check_L6.head.raw 0 S (fun S0 => circuit_Check_d6 N S0 k)) (by kernel_rfl) (congrArg (circuit_Check_L6.head.raw 0 S) (funext fun S0 => Eq.trans (circuit_Check_l6_eq N k N (lstC api_WireC (lget S0.tmps 51)) (toI (lget S0.tmps 52)) (toI (lget S0.tmps 53)) (Cod.dec api_CircuitC (lget (entCs (entAt S0.tab 0)))) (entNl (entAt S0.tab 1)) (lst intC (entN (entAt S0.tab 1)) (entC (entAt S0.tab 1)))).symm (by kernel_rfl)))
noncomputable def circuit_Check_go {R : Type} (N : Nat) (args : List SV) (T : Tab) (kf : SV × Tab → Option R) : Option R :=
  circuit_Check N (Cod.dec api_CircuitC (lget (toCs (lget args 0)))) (fun q0 => kf (lget [.int .i64 q0] 0, []))
noncomputable def circuit_Check_cal {R : Type} (N : Nat) : Cal R := callM (coI_v2_cal N) 47 0 circuit_Check_sp (circuit_Check_go N)
theorem circuit_Check_cal_ok {R : Type} (N : Nat) : CalOk E.P (circuit_Check_cal (R := R) N) :=
  callM_ok hE (coI_v2_cal_ok N) (lp := circuit_Check_lp N) (jn := noJn) (keys := [6, 18]) (kCons (circuit_Check_k6 N) (kCons (circuit_Check_k18 N) kNil)) (by kernel_rfl) (js := []) jNil (by kernel_rfl) circuit_Check_sp_ok circuit_Check_rs_ok (fun args T kf => Eq.trans (circuit_Check_def N (Cod.dec api_CircuitC (lget (toCs (lget args 0)))) (fun q0 => kf (lget [.int .i64 q0] 0, []))) (by kernel_rfl : circuit_Check_run N args T kf = fnM E (coI_v2_cal N) (circuit_Check_lp N) (noJn) 47 (circuit_Check_sp.vs args) (circuit_Check_sp.tab T) 0 (resK circuit_Check_rs kf)))
def circuit_state_conducts_m {R : Type} (N : Nat) (a247 : circuit_state) (a248 : Int) (k : Bool → Option R) : Option R :=
 bif decide (a248 < (0 : Int)) then
 Option.none
 else
 bif w64 (↑(BitVec.toNat (BitVec.ofInt (IntKind.bits IntKind.i64) (Int.fdiv (circuit_state.f_open a247) ((2 : Int) ^ min (Int.toNat a248) (IntKind.bits IntKind.i64))) &&& BitVec.ofInt (IntKind.bits IntKind.i64) (1 : Int))) : Int) == (0 : Int) then
 bif decide (a248 < (0 : Int)) then
 Option.none
 else
 bif w64 (↑(BitVec.toNat (BitVec.ofInt (IntKind.bits IntKind.i64) (Int.fdiv (circuit_state.f_closed a247) ((2 : Int) ^ min (Int.toNat a248) (IntKind.bits IntKind.i64))) &&& BitVec.ofInt (IntKind.bits IntKind.i64) (1 : Int))) : Int) == (1 : Int) then
 k true
 else
 bif decide ((0 : Int) ≤ a248) && decide (a248 < (↑(Arr.n (api_Circuit.Switches (circuit_state.f_c a247))) : Int)) then
 k (w64 (↑(BitVec.toNat (BitVec.ofInt (IntKind.bits IntKind.i64) (Arr.f (api_Circuit.Switches (circuit_state.f_c a247)) (Int.toNat a248)) &&& BitVec.ofInt (IntKind.bits IntKind.i64) (circuit_state.f_hazards a247))) : Int) == (0 : Int))
 else
 Option.none
 else
 k false
noncomputable def circuit_state_conducts {R : Type} : Nat → circuit_state → Int → (Bool → Option R) → Option R := lock (@circuit_state_conducts_m R)
theorem circuit_state_conducts_def {R : Type} (N : Nat) (a247 : circuit_state) (a248 : Int) (k : Bool → Option R) : circuit_state_conducts N a247 a248 k = circuit_state_conducts_m N a247 a248 k := by unfold circuit_state_conducts; rw [lock_eq]
def circuit_state_conducts_sp : Sp := ⟨[rAgg circuit_stateC, rInt .i64], []⟩
theorem circuit_state_conducts_sp_ok : circuit_state_conducts_sp.Ok := ⟨(allCons (rAgg_ok circuit_stateC_ok circuit_stateC_len) (allCons (rInt_ok .i64) allNil)), eNil⟩
def circuit_state_conducts_rs : Sp := ⟨[rBool], []⟩
theorem circuit_state_conducts_rs_ok : circuit_state_conducts_rs.Ok := ⟨(allCons rBool_ok allNil), eNil⟩
def circuit_state_conducts_run {R : Type} (N : Nat) (args : List SV) (T : Tab) (kf : SV × Tab → Option R) : Option R :=
  circuit_state_conducts_m N (Cod.dec circuit_stateC (lget (toCs (lget args 0)))) (toI (lget args 1)) (fun q0 => kf (lget [.bool q0] 0, []))
def circuit_state_conducts_lp {R : Type} (N : Nat) : Lp R := fun body S k => Option.none
noncomputable def circuit_state_conducts_go {R : Type} (N : Nat) (args : List SV) (T : Tab) (kf : SV × Tab → Option R) : Option R :=
  circuit_state_conducts N (Cod.dec circuit_stateC (lget (toCs (lget args 0)))) (toI (lget args 1)) (fun q0 => kf (lget [.bool q0] 0, []))
noncomputable def circuit_state_conducts_cal {R : Type} (N : Nat) : Cal R := callM (circuit_Check_cal N) 82 0 circuit_state_conducts_sp (circuit_state_conducts_go N)
theorem circuit_state_conducts_cal_ok {R : Type} (N : Nat) : CalOk E.P (circuit_state_conducts_cal (R := R) N) :=
  callM_ok hE (circuit_Check_cal_ok N) (lp := circuit_state_conducts_lp N) (jn := noJn) (keys := []) kNil (by kernel_rfl) (js := []) jNil (by kernel_rfl) circuit_state_conducts_sp_ok circuit_state_conducts_rs_ok (fun args T kf => Eq.trans (circuit_state_conducts_def N (Cod.dec circuit_stateC (lget (toCs (lget args 0)))) (toI (lget args 1)) (fun q0 => kf (lget [.bool q0] 0, []))) (by kernel_rfl : circuit_state_conducts_run N args T kf = fnM E (circuit_Check_cal N) (circuit_state_conducts_lp N) (noJn) 82 (circuit_state_conducts_sp.vs args) (circuit_state_conducts_sp.tab T) 0 (resK circuit_state_conducts_rs kf)))
def ixI_v3_L2 : LoopSp := ⟨⟨[0, 1, 7, 8], ⟨((rSl intC) :: (rFunc 58 1 [rAgg circuit_stateC]) :: (dr 5 ((rInt .i64) :: (rInt .i64) :: (dr 10 [])))), []⟩, 0⟩, [(Option.none, ⟨[4], ⟨(dr 4 ((rInt .i64) :: (dr 14 []))), []⟩, 0⟩), (some 0, ⟨[], ⟨(dr 19 []), []⟩, 0⟩)]⟩
theorem ixI_v3_L2_ok : ixI_v3_L2.Ok := ⟨⟨(allCons (rSl_ok intC_ok) (allCons (rFunc_ok 58 1 (allCons (rAgg_ok circuit_stateC_ok circuit_stateC_len) allNil)) (drCons 5 (allCons (rInt_ok .i64) (allCons (rInt_ok .i64) (drCons 10 allNil)))))), eNil⟩, (xCons ⟨(drCons 4 (allCons (rInt_ok .i64) (drCons 14 allNil))), eNil⟩ (xCons ⟨(drCons 19 allNil), eNil⟩ xNil))⟩
def ixI_v3_h2 (v292 : Arr Int) (v293 : circuit_state) (v294 : Int) (v295 : Int) : St := ⟨((slC intC v292) :: (.func 58 1 [.agg (Cod.enc circuit_stateC v293)]) :: (un 5 ((.int .i64 v294) :: (.int .i64 v295) :: (un 10 [])))), [], 0⟩
def ixI_v3_x2_r (q0 : Int) : St := ⟨(un 4 ((.int .i64 q0) :: (un 14 []))), [], 0⟩
def ixI_v3_x2_0  : St := ⟨(un 19 []), [], 0⟩
def ixI_v3_b2 {R : Type} (N : Nat) (rf : circuit_state → Int → (Bool → Option R) → Option R) (rc : Arr Int → circuit_state → Int → Int → Option R) (v292 : Arr Int) (v293 : circuit_state) (v294 : Int) (v295 : Int) (kr : Int → Option R) (k0 : Unit → Option R) : Option R :=
 bif decide (v295 < v294) then
 bif decide ((0 : Int) ≤ v295) && decide (v295 < (↑(Arr.n v292) : Int)) then
 rf v293 (Arr.f v292 (Int.toNat v295)) (fun r296 =>
 bif r296 then
 kr v295
 else
 rc v292 v293 v294 (w64 (v295 + (1 : Int))))
 else
 Option.none
 else
 k0 ()
def ixI_v3_l2 {R : Type} (N : Nat) (rf : circuit_state → Int → (Bool → Option R) → Option R) : Nat → Arr Int → circuit_state → Int → Int → (Int → Option R) → (Unit → Option R) → Option R
  | 0, _, _, _, _, _, _ => Option.none
  | n + 1, v292, v293, v294, v295, kr, k0 => ixI_v3_b2 N rf (fun v292 v293 v294 v295 => ixI_v3_l2 N rf n v292 v293 v294 v295 kr k0) v292 v293 v294 v295 kr k0
def ixI_v3_m {R : Type} (N : Nat) (rf : circuit_state → Int → (Bool → Option R) → Option R) (a290 : Arr Int) (a291 : circuit_state) (k : Int → Option R) : Option R :=
 ixI_v3_l2 N rf N a290 a291 ((↑(Arr.n a290) : Int)) (0 : Int) (fun r297 =>
 k r297) (fun (_ : Unit) =>
 k (-1 : Int))
noncomputable def ixI_v3 {R : Type} : Nat → (circuit_state → Int → (Bool → Option R) → Option R) → Arr Int → circuit_state → (Int → Option R) → Option R := lock (@ixI_v3_m R)
theorem ixI_v3_def {R : Type} (N : Nat) (rf : circuit_state → Int → (Bool → Option R) → Option R) (a290 : Arr Int) (a291 : circuit_state) (k : Int → Option R) : ixI_v3 N rf a290 a291 k = ixI_v3_m N rf a290 a291 k := by unfold ixI_v3; rw [lock_eq]
def ixI_v3_sp : Sp := ⟨[rSl intC, rFunc 58 1 [rAgg circuit_stateC]], []⟩
theorem ixI_v3_sp_ok : ixI_v3_sp.Ok := ⟨(allCons (rSl_ok intC_ok) (allCons (rFunc_ok 58 1 (allCons (rAgg_ok circuit_stateC_ok circuit_stateC_len) allNil)) allNil)), eNil⟩
def ixI_v3_rs : Sp := ⟨[rInt .i64], []⟩
theorem ixI_v3_rs_ok : ixI_v3_rs.Ok := ⟨(allCons (rInt_ok .i64) allNil), eNil⟩
def coI_v3_m {R : Type} (N : Nat) (rf : circuit_state → Int → (Bool → Option R) → Option R) (a299 : Arr Int) (a300 : circuit_state) (k : Bool → Option R) : Option R :=
 ixI_v3 N rf a299 a300 (fun r301 =>
 k (decide (r301 ≥ (0 : Int))))
noncomputable def coI_v3 {R : Type} : Nat → (circuit_state → Int → (Bool → Option R) → Option R) → Arr Int → circuit_state → (Bool → Option R) → Option R := lock (@coI_v3_m R)
theorem coI_v3_def {R : Type} (N : Nat) (rf : circuit_state → Int → (Bool → Option R) → Option R) (a299 : Arr Int) (a300 : circuit_state) (k : Bool → Option R) : coI_v3 N rf a299 a300 k = coI_v3_m N rf a299 a300 k := by unfold coI_v3; rw [lock_eq]
def coI_v3_sp : Sp := ⟨[rSl intC, rFunc 58 1 [rAgg circuit_stateC]], []⟩
theorem coI_v3_sp_ok : coI_v3_sp.Ok := ⟨(allCons (rSl_ok intC_ok) (allCons (rFunc_ok 58 1 (allCons (rAgg_ok circuit_stateC_ok circuit_stateC_len) allNil)) allNil)), eNil⟩
def coI_v3_rs : Sp := ⟨[rBool], []⟩
theorem coI_v3_rs_ok : coI_v3_rs.Ok := ⟨(allCons rBool_ok allNil), eNil⟩
def circuit_state_wire_1_m {R : Type} (N : Nat) (rf : circuit_state → Int → (Bool → Option R) → Option R) (a314 : Int) (a315 : circuit_state) (k : Bool → Option R) : Option R :=
 rf a315 a314 (fun r316 =>
 k (!r316))
noncomputable def circuit_state_wire_1 {R : Type} : Nat → (circuit_state → Int → (Bool → Option R) → Option R) → Int → circuit_state → (Bool → Option R) → Option R := lock (@circuit_state_wire_1_m R)
theorem circuit_state_wire_1_def {R : Type} (N : Nat) (rf : circuit_state → Int → (Bool → Option R) → Option R) (a314 : Int) (a315 : circuit_state) (k : Bool → Option R) : circuit_state_wire_1 N rf a314 a315 k = circuit_state_wire_1_m N rf a314 a315 k := by unfold circuit_state_wire_1; rw [lock_eq]
def circuit_state_wire_1_sp : Sp := ⟨[rInt .i64, rPtr 0 0], [(0, eBlkC circuit_stateC)]⟩
theorem circuit_state_wire_1_sp_ok : circuit_state_wire_1_sp.Ok := ⟨(allCons (rInt_ok .i64) (allCons (rPtr_ok 0 0) allNil)), (eCons (eBlkC_ok circuit_stateC_ok circuit_stateC_len) eNil)⟩
def circuit_state_wire_1_rs : Sp := ⟨[rBool], [(0, eBlkC circuit_stateC)]⟩
theorem circuit_state_wire_1_rs_ok : circuit_state_wire_1_rs.Ok := ⟨(allCons rBool_ok allNil), (eCons (eBlkC_ok circuit_stateC_ok circuit_stateC_len) eNil)⟩
def ixI_v4_L2 : LoopSp := ⟨⟨[0, 1, 7, 8], ⟨((rSl intC) :: (rFunc 83 0 [rPtr 0 0]) :: (dr 5 ((rInt .i64) :: (rInt .i64) :: (dr 10 [])))), [(0, eBlkC circuit_stateC)]⟩, 1⟩, [(Option.none, ⟨[4], ⟨(dr 4 ((rInt .i64) :: (dr 14 []))), [(0, eBlkC circuit_stateC)]⟩, 1⟩), (some 0, ⟨[], ⟨(dr 19 []), [(0, eBlkC circuit_stateC)]⟩, 1⟩)]⟩
theorem ixI_v4_L2_ok : ixI_v4_L2.Ok := ⟨⟨(allCons (rSl_ok intC_ok) (allCons (rFunc_ok 83 0 (allCons (rPtr_ok 0 0) allNil)) (drCons 5 (allCons (rInt_ok .i64) (allCons (rInt_ok .i64) (drCons 10 allNil)))))), (eCons (eBlkC_ok circuit_stateC_ok circuit_stateC_len) eNil)⟩, (xCons ⟨(drCons 4 (allCons (rInt_ok .i64) (drCons 14 allNil))), (eCons (eBlkC_ok circuit_stateC_ok circuit_stateC_len) eNil)⟩ (xCons ⟨(drCons 19 allNil), (eCons (eBlkC_ok circuit_stateC_ok circuit_stateC_len) eNil)⟩ xNil))⟩
def ixI_v4_h2 (v321 : Arr Int) (v322 : Int) (v323 : Int) (v324 : circuit_state) : St := ⟨((slC intC v321) :: (.func 83 0 [.ptr 0 0]) :: (un 5 ((.int .i64 v322) :: (.int .i64 v323) :: (un 10 [])))), [(0, .blk (Cod.enc circuit_stateC v324))], 1⟩
def ixI_v4_x2_r (v324 : circuit_state) (q0 : Int) : St := ⟨(un 4 ((.int .i64 q0) :: (un 14 []))), [(0, .blk (Cod.enc circuit_stateC v324))], 1⟩
def ixI_v4_x2_0 (v324 : circuit_state) : St := ⟨(un 19 []), [(0, .blk (Cod.enc circuit_stateC v324))], 1⟩
def ixI_v4_b2 {R : Type} (N : Nat) (rf : circuit_state → Int → (Bool → Option R) → Option R) (rc : Arr Int → Int → Int → circuit_state → Option R) (v321 : Arr Int) (v322 : Int) (v323 : Int) (v324 : circuit_state) (kr : Int → Option R) (k0 : Unit → Option R) : Option R :=
 bif decide (v323 < v322) then
 bif decide ((0 : Int) ≤ v323) && decide (v323 < (↑(Arr.n v321) : Int)) then
 circuit_state_wire_1 N rf (Arr.f v321 (Int.toNat v323)) v324 (fun r325 =>
 bif r325 then
 kr v323
 else
 rc v321 v322 (w64 (v323 + (1 : Int))) v324)
 else
 Option.none
 else
 k0 ()
def ixI_v4_l2 {R : Type} (N : Nat) (rf : circuit_state → Int → (Bool → Option R) → Option R) : Nat → Arr Int → Int → Int → circuit_state → (Int → Option R) → (Unit → Option R) → Option R
  | 0, _, _, _, _, _, _ => Option.none
  | n + 1, v321, v322, v323, v324, kr, k0 => ixI_v4_b2 N rf (fun v321 v322 v323 v324 => ixI_v4_l2 N rf n v321 v322 v323 v324 kr k0) v321 v322 v323 v324 kr k0
def ixI_v4_m {R : Type} (N : Nat) (rf : circuit_state → Int → (Bool → Option R) → Option R) (a319 : Arr Int) (a320 : circuit_state) (k : Int → Option R) : Option R :=
 ixI_v4_l2 N rf N a319 ((↑(Arr.n a319) : Int)) (0 : Int) a320 (fun r326 =>
 k r326) (fun (_ : Unit) =>
 k (-1 : Int))
noncomputable def ixI_v4 {R : Type} : Nat → (circuit_state → Int → (Bool → Option R) → Option R) → Arr Int → circuit_state → (Int → Option R) → Option R := lock (@ixI_v4_m R)
theorem ixI_v4_def {R : Type} (N : Nat) (rf : circuit_state → Int → (Bool → Option R) → Option R) (a319 : Arr Int) (a320 : circuit_state) (k : Int → Option R) : ixI_v4 N rf a319 a320 k = ixI_v4_m N rf a319 a320 k := by unfold ixI_v4; rw [lock_eq]
def ixI_v4_sp : Sp := ⟨[rSl intC, rFunc 83 0 [rPtr 0 0]], [(0, eBlkC circuit_stateC)]⟩
theorem ixI_v4_sp_ok : ixI_v4_sp.Ok := ⟨(allCons (rSl_ok intC_ok) (allCons (rFunc_ok 83 0 (allCons (rPtr_ok 0 0) allNil)) allNil)), (eCons (eBlkC_ok circuit_stateC_ok circuit_stateC_len) eNil)⟩
def ixI_v4_rs : Sp := ⟨[rInt .i64], [(0, eBlkC circuit_stateC)]⟩
theorem ixI_v4_rs_ok : ixI_v4_rs.Ok := ⟨(allCons (rInt_ok .i64) allNil), (eCons (eBlkC_ok circuit_stateC_ok circuit_stateC_len) eNil)⟩
def coI_v4_m {R : Type} (N : Nat) (rf : circuit_state → Int → (Bool → Option R) → Option R) (a328 : Arr Int) (a329 : circuit_state) (k : Bool → Option R) : Option R :=
 ixI_v4 N rf a328 a329 (fun r330 =>
 k (decide (r330 ≥ (0 : Int))))
noncomputable def coI_v4 {R : Type} : Nat → (circuit_state → Int → (Bool → Option R) → Option R) → Arr Int → circuit_state → (Bool → Option R) → Option R := lock (@coI_v4_m R)
theorem coI_v4_def {R : Type} (N : Nat) (rf : circuit_state → Int → (Bool → Option R) → Option R) (a328 : Arr Int) (a329 : circuit_state) (k : Bool → Option R) : coI_v4 N rf a328 a329 k = coI_v4_m N rf a328 a329 k := by unfold coI_v4; rw [lock_eq]
def coI_v4_sp : Sp := ⟨[rSl intC, rFunc 83 0 [rPtr 0 0]], [(0, eBlkC circuit_stateC)]⟩
theorem coI_v4_sp_ok : coI_v4_sp.Ok := ⟨(allCons (rSl_ok intC_ok) (allCons (rFunc_ok 83 0 (allCons (rPtr_ok 0 0) allNil)) allNil)), (eCons (eBlkC_ok circuit_stateC_ok circuit_stateC_len) eNil)⟩
def coI_v4_rs : Sp := ⟨[rBool], [(0, eBlkC circuit_stateC)]⟩
theorem coI_v4_rs_ok : coI_v4_rs.Ok := ⟨(allCons rBool_ok allNil), (eCons (eBlkC_ok circuit_stateC_ok circuit_stateC_len) eNil)⟩
def circuit_state_wire_t {R : Type} (N : Nat) (rf : circuit_state → Int → (Bool → Option R) → Option R) (a277 : circuit_state) (a278 : Int) (k : Bool → Option R) : Option R :=
  bif decide ((0 : Int) ≤ a278) && decide (a278 < (↑(Arr.n (api_Circuit.Wires (circuit_state.f_c a277))) : Int)) then
   bif api_Wire.Kind (Arr.f (api_Circuit.Wires (circuit_state.f_c a277)) (Int.toNat a278)) == (1 : Int) then
    bif decide ((0 : Int) < (↑(Arr.n (api_Wire.Of (Arr.f (api_Circuit.Wires (circuit_state.f_c a277)) (Int.toNat a278)))) : Int)) then
     circuit_state_conducts N a277 (Arr.f (api_Wire.Of (Arr.f (api_Circuit.Wires (circuit_state.f_c a277)) (Int.toNat a278))) (Int.toNat (0 : Int))) (fun r279 =>
     k r279)
    else
     Option.none
   else
    bif api_Wire.Kind (Arr.f (api_Circuit.Wires (circuit_state.f_c a277)) (Int.toNat a278)) == (3 : Int) then
     coI_v3 N rf (api_Wire.Of (Arr.f (api_Circuit.Wires (circuit_state.f_c a277)) (Int.toNat a278))) a277 (fun r302 =>
     k r302)
    else
     coI_v4 N rf (api_Wire.Of (Arr.f (api_Circuit.Wires (circuit_state.f_c a277)) (Int.toNat a278))) a277 (fun r331 =>
     k (!r331))
  else
   Option.none
def circuit_state_wire_r {R : Type} (N : Nat) : Nat → circuit_state → Int → (Bool → Option R) → Option R
  | 0, _, _, _ => Option.none
  | d + 1, a277, a278, k => circuit_state_wire_t N (circuit_state_wire_r N d) a277 a278 k
def circuit_state_wire_m {R : Type} (N : Nat) (a277 : circuit_state) (a278 : Int) (k : Bool → Option R) : Option R := circuit_state_wire_r N N a277 a278 k
noncomputable def circuit_state_wire {R : Type} : Nat → circuit_state → Int → (Bool → Option R) → Option R := lock (@circuit_state_wire_m R)
theorem circuit_state_wire_def {R : Type} (N : Nat) (a277 : circuit_state) (a278 : Int) (k : Bool → Option R) : circuit_state_wire N a277 a278 k = circuit_state_wire_m N a277 a278 k := by unfold circuit_state_wire; rw [lock_eq]
def circuit_state_wire_sp : Sp := ⟨[rAgg circuit_stateC, rInt .i64], []⟩
theorem circuit_state_wire_sp_ok : circuit_state_wire_sp.Ok := ⟨(allCons (rAgg_ok circuit_stateC_ok circuit_stateC_len) (allCons (rInt_ok .i64) allNil)), eNil⟩
def circuit_state_wire_rs : Sp := ⟨[rBool], []⟩
theorem circuit_state_wire_rs_ok : circuit_state_wire_rs.Ok := ⟨(allCons rBool_ok allNil), eNil⟩
def circuit_state_wire_run {R : Type} (N : Nat) (d : Nat) (args : List SV) (T : Tab) (kf : SV × Tab → Option R) : Option R :=
  circuit_state_wire_r N d (Cod.dec circuit_stateC (lget (toCs (lget args 0)))) (toI (lget args 1)) (fun q0 => kf (lget [.bool q0] 0, []))
noncomputable def circuit_state_wire_cald {R : Type} (N : Nat) (d : Nat) : Cal R := callM (circuit_state_conducts_cal N) 58 0 circuit_state_wire_sp (circuit_state_wire_run N d)
def ixI_v3_run {R : Type} (N : Nat) (d : Nat) (args : List SV) (T : Tab) (kf : SV × Tab → Option R) : Option R :=
  ixI_v3_m N (circuit_state_wire_r N d) (lstC intC (lget args 0)) (Cod.dec circuit_stateC (lget (toCs (lget (toCs (lget args 1)) 0)))) (fun q0 => kf (lget [.int .i64 q0] 0, []))
def ixI_v3_d2 {R : Type} (N : Nat) (rf : circuit_state → Int → (Bool → Option R) → Option R) (S0 : St) (k : Exit → St → Option R) : Option R :=
  ixI_v3_l2 N rf N (lstC intC (lget S0.tmps 0)) (Cod.dec circuit_stateC (lget (toCs (lget (toCs (lget S0.tmps 1)) 0)))) (toI (lget S0.tmps 7)) (toI (lget S0.tmps 8)) (fun q0 => k .ret (ixI_v3_x2_r q0)) (fun (_ : Unit) => k (.exit 0) (ixI_v3_x2_0 ))
def ixI_v3_lp {R : Type} (N : Nat) (rf : circuit_state → Int → (Bool → Option R) → Option R) : Lp R := fun body S k => bif (Go.Sx.keyOf body).getD 0 == 2 then (ixI_v3_L2.head.raw 0 S (fun S0 => ixI_v3_d2 N rf S0 k)) else Option.none
theorem ixI_v3_l2_eq {R : Type} (N : Nat) (d : Nat) (k : Exit → St → Option R) (n : Nat) : ∀ (v0 : Arr Int) (v1 : circuit_state) (v2 : Int) (v3 : Int), loopM E.Θ (circuit_state_wire_cald N d) (ixI_v3_lp N (circuit_state_wire_r N d)) (noJn) 0 ixI_v3_L2 (bodyAt E 63 2) n (ixI_v3_h2 v0 v1 v2 v3) k = ixI_v3_l2 N (circuit_state_wire_r N d) n v0 v1 v2 v3 (fun q0 => k .ret (ixI_v3_x2_r q0)) (fun (_ : Unit) => k (.exit 0) (ixI_v3_x2_0 )) := by
  induction n with
  | zero => intro v0 v1 v2 v3; rfl
  | succ n ih =>
    intro v0 v1 v2 v3
    refine Eq.trans (b := ixI_v3_b2 N (circuit_state_wire_r N d) (fun v0 v1 v2 v3 => loopM E.Θ (circuit_state_wire_cald N d) (ixI_v3_lp N (circuit_state_wire_r N d)) (noJn) 0 ixI_v3_L2 (bodyAt E 63 2) n (ixI_v3_h2 v0 v1 v2 v3) k) v0 v1 v2 v3 (fun q0 => k .ret (ixI_v3_x2_r q0)) (fun (_ : Unit) => k (.exit 0) (ixI_v3_x2_0 ))) (by kernel_rfl) ?_
    have h : (fun (v0 : Arr Int) (v1 : circuit_state) (v2 : Int) (v3 : Int) => loopM E.Θ (circuit_state_wire_cald N d) (ixI_v3_lp N (circuit_state_wire_r N d)) (noJn) 0 ixI_v3_L2 (bodyAt E 63 2) n (ixI_v3_h2 v0 v1 v2 v3) k) = (fun (v0 : Arr Int) (v1 : circuit_state) (v2 : Int) (v3 : Int) => ixI_v3_l2 N (circuit_state_wire_r N d) n v0 v1 v2 v3 (fun q0 => k .ret (ixI_v3_x2_r q0)) (fun (_ : Unit) => k (.exit 0) (ixI_v3_x2_0 ))) := funext fun v0 => funext fun v1 => funext fun v2 => funext fun v3 => ih v0 v1 v2 v3
    rw [h]
    rfl
theorem ixI_v3_k2 {R : Type} (N : Nat) (d : Nat) (hc : CalOk E.P (circuit_state_wire_cald (R := R) N d)) : LpKey (R := R) E 63 0 (ixI_v3_lp N (circuit_state_wire_r N d)) 2 :=
  lpKey_of hE hc (lp := ixI_v3_lp N (circuit_state_wire_r N d)) (jn := noJn) ixI_v3_L2_ok [] kNil (by kernel_rfl) [] jNil (by kernel_rfl) N fun S k =>
    Eq.trans (b := ixI_v3_L2.head.raw 0 S (fun S0 => ixI_v3_d2 N (circuit_state_wire_r N d) S0 k)) (by kernel_rfl) (congrArg (ixI_v3_L2.head.raw 0 S) (funext fun S0 => Eq.trans (ixI_v3_l2_eq N d k N (lstC intC (lget S0.tmps 0)) (Cod.dec circuit_stateC (lget (toCs (lget (toCs (lget S0.tmps 1)) 0)))) (toI (lget S0.tmps 7)) (toI (lget S0.tmps 8))).symm (by kernel_rfl)))
noncomputable def ixI_v3_go {R : Type} (N : Nat) (d : Nat) (args : List SV) (T : Tab) (kf : SV × Tab → Option R) : Option R :=
  ixI_v3 N (circuit_state_wire_r N d) (lstC intC (lget args 0)) (Cod.dec circuit_stateC (lget (toCs (lget (toCs (lget args 1)) 0)))) (fun q0 => kf (lget [.int .i64 q0] 0, []))
noncomputable def ixI_v3_calm {R : Type} (N : Nat) (d : Nat) : Cal R := callM (circuit_state_wire_cald N d) 63 0 ixI_v3_sp (ixI_v3_go N d)
theorem ixI_v3_calm_ok {R : Type} (N : Nat) (d : Nat) (hc : CalOk E.P (circuit_state_wire_cald (R := R) N d)) : CalOk E.P (ixI_v3_calm (R := R) N d) :=
  callM_ok hE hc (lp := ixI_v3_lp N (circuit_state_wire_r N d)) (jn := noJn) (keys := [2]) (kCons (ixI_v3_k2 N d hc) kNil) (by kernel_rfl) (js := []) jNil (by kernel_rfl) ixI_v3_sp_ok ixI_v3_rs_ok (fun args T kf => Eq.trans (ixI_v3_def N (circuit_state_wire_r N d) (lstC intC (lget args 0)) (Cod.dec circuit_stateC (lget (toCs (lget (toCs (lget args 1)) 0)))) (fun q0 => kf (lget [.int .i64 q0] 0, []))) (by kernel_rfl : ixI_v3_run N d args T kf = fnM E (circuit_state_wire_cald N d) (ixI_v3_lp N (circuit_state_wire_r N d)) (noJn) 63 (ixI_v3_sp.vs args) (ixI_v3_sp.tab T) 0 (resK ixI_v3_rs kf)))
def coI_v3_run {R : Type} (N : Nat) (d : Nat) (args : List SV) (T : Tab) (kf : SV × Tab → Option R) : Option R :=
  coI_v3_m N (circuit_state_wire_r N d) (lstC intC (lget args 0)) (Cod.dec circuit_stateC (lget (toCs (lget (toCs (lget args 1)) 0)))) (fun q0 => kf (lget [.bool q0] 0, []))
def coI_v3_lp {R : Type} (N : Nat) (rf : circuit_state → Int → (Bool → Option R) → Option R) : Lp R := fun body S k => Option.none
noncomputable def coI_v3_go {R : Type} (N : Nat) (d : Nat) (args : List SV) (T : Tab) (kf : SV × Tab → Option R) : Option R :=
  coI_v3 N (circuit_state_wire_r N d) (lstC intC (lget args 0)) (Cod.dec circuit_stateC (lget (toCs (lget (toCs (lget args 1)) 0)))) (fun q0 => kf (lget [.bool q0] 0, []))
noncomputable def coI_v3_calm {R : Type} (N : Nat) (d : Nat) : Cal R := callM (ixI_v3_calm N d) 32 0 coI_v3_sp (coI_v3_go N d)
theorem coI_v3_calm_ok {R : Type} (N : Nat) (d : Nat) (hc : CalOk E.P (circuit_state_wire_cald (R := R) N d)) : CalOk E.P (coI_v3_calm (R := R) N d) :=
  callM_ok hE (ixI_v3_calm_ok N d hc) (lp := coI_v3_lp N (circuit_state_wire_r N d)) (jn := noJn) (keys := []) kNil (by kernel_rfl) (js := []) jNil (by kernel_rfl) coI_v3_sp_ok coI_v3_rs_ok (fun args T kf => Eq.trans (coI_v3_def N (circuit_state_wire_r N d) (lstC intC (lget args 0)) (Cod.dec circuit_stateC (lget (toCs (lget (toCs (lget args 1)) 0)))) (fun q0 => kf (lget [.bool q0] 0, []))) (by kernel_rfl : coI_v3_run N d args T kf = fnM E (ixI_v3_calm N d) (coI_v3_lp N (circuit_state_wire_r N d)) (noJn) 32 (coI_v3_sp.vs args) (coI_v3_sp.tab T) 0 (resK coI_v3_rs kf)))
def circuit_state_wire_1_run {R : Type} (N : Nat) (d : Nat) (args : List SV) (T : Tab) (kf : SV × Tab → Option R) : Option R :=
  circuit_state_wire_1_m N (circuit_state_wire_r N d) (toI (lget args 0)) (Cod.dec circuit_stateC (lget (entCs (entAt T 0)))) (fun q0 => kf (lget [.bool q0] 0, [(0, .blk (Cod.enc circuit_stateC (Cod.dec circuit_stateC (lget (entCs (entAt T 0))))))]))
def circuit_state_wire_1_lp {R : Type} (N : Nat) (rf : circuit_state → Int → (Bool → Option R) → Option R) : Lp R := fun body S k => Option.none
noncomputable def circuit_state_wire_1_go {R : Type} (N : Nat) (d : Nat) (args : List SV) (T : Tab) (kf : SV × Tab → Option R) : Option R :=
  circuit_state_wire_1 N (circuit_state_wire_r N d) (toI (lget args 0)) (Cod.dec circuit_stateC (lget (entCs (entAt T 0)))) (fun q0 => kf (lget [.bool q0] 0, [(0, .blk (Cod.enc circuit_stateC (Cod.dec circuit_stateC (lget (entCs (entAt T 0))))))]))
noncomputable def circuit_state_wire_1_calm {R : Type} (N : Nat) (d : Nat) : Cal R := callM (coI_v3_calm N d) 83 1 circuit_state_wire_1_sp (circuit_state_wire_1_go N d)
theorem circuit_state_wire_1_calm_ok {R : Type} (N : Nat) (d : Nat) (hc : CalOk E.P (circuit_state_wire_cald (R := R) N d)) : CalOk E.P (circuit_state_wire_1_calm (R := R) N d) :=
  callM_ok hE (coI_v3_calm_ok N d hc) (lp := circuit_state_wire_1_lp N (circuit_state_wire_r N d)) (jn := noJn) (keys := []) kNil (by kernel_rfl) (js := []) jNil (by kernel_rfl) circuit_state_wire_1_sp_ok circuit_state_wire_1_rs_ok (fun args T kf => Eq.trans (circuit_state_wire_1_def N (circuit_state_wire_r N d) (toI (lget args 0)) (Cod.dec circuit_stateC (lget (entCs (entAt T 0)))) (fun q0 => kf (lget [.bool q0] 0, [(0, .blk (Cod.enc circuit_stateC (Cod.dec circuit_stateC (lget (entCs (entAt T 0))))))]))) (by kernel_rfl : circuit_state_wire_1_run N d args T kf = fnM E (coI_v3_calm N d) (circuit_state_wire_1_lp N (circuit_state_wire_r N d)) (noJn) 83 (circuit_state_wire_1_sp.vs args) (circuit_state_wire_1_sp.tab T) 1 (resK circuit_state_wire_1_rs kf)))
def ixI_v4_run {R : Type} (N : Nat) (d : Nat) (args : List SV) (T : Tab) (kf : SV × Tab → Option R) : Option R :=
  ixI_v4_m N (circuit_state_wire_r N d) (lstC intC (lget args 0)) (Cod.dec circuit_stateC (lget (entCs (entAt T 0)))) (fun q0 => kf (lget [.int .i64 q0] 0, [(0, .blk (Cod.enc circuit_stateC (Cod.dec circuit_stateC (lget (entCs (entAt T 0))))))]))
def ixI_v4_d2 {R : Type} (N : Nat) (rf : circuit_state → Int → (Bool → Option R) → Option R) (S0 : St) (k : Exit → St → Option R) : Option R :=
  ixI_v4_l2 N rf N (lstC intC (lget S0.tmps 0)) (toI (lget S0.tmps 7)) (toI (lget S0.tmps 8)) (Cod.dec circuit_stateC (lget (entCs (entAt S0.tab 0)))) (fun q0 => k .ret (ixI_v4_x2_r (Cod.dec circuit_stateC (lget (entCs (entAt S0.tab 0)))) q0)) (fun (_ : Unit) => k (.exit 0) (ixI_v4_x2_0 (Cod.dec circuit_stateC (lget (entCs (entAt S0.tab 0))))))
def ixI_v4_lp {R : Type} (N : Nat) (rf : circuit_state → Int → (Bool → Option R) → Option R) : Lp R := fun body S k => bif (Go.Sx.keyOf body).getD 0 == 2 then (ixI_v4_L2.head.raw 1 S (fun S0 => ixI_v4_d2 N rf S0 k)) else Option.none
theorem ixI_v4_l2_eq {R : Type} (N : Nat) (d : Nat) (k : Exit → St → Option R) (n : Nat) : ∀ (v0 : Arr Int) (v1 : Int) (v2 : Int) (v3 : circuit_state), loopM E.Θ (circuit_state_wire_1_calm N d) (ixI_v4_lp N (circuit_state_wire_r N d)) (noJn) 1 ixI_v4_L2 (bodyAt E 63 2) n (ixI_v4_h2 v0 v1 v2 v3) k = ixI_v4_l2 N (circuit_state_wire_r N d) n v0 v1 v2 v3 (fun q0 => k .ret (ixI_v4_x2_r v3 q0)) (fun (_ : Unit) => k (.exit 0) (ixI_v4_x2_0 v3)) := by
  induction n with
  | zero => intro v0 v1 v2 v3; rfl
  | succ n ih =>
    intro v0 v1 v2 v3
    refine Eq.trans (b := ixI_v4_b2 N (circuit_state_wire_r N d) (fun v0 v1 v2 v3 => loopM E.Θ (circuit_state_wire_1_calm N d) (ixI_v4_lp N (circuit_state_wire_r N d)) (noJn) 1 ixI_v4_L2 (bodyAt E 63 2) n (ixI_v4_h2 v0 v1 v2 v3) k) v0 v1 v2 v3 (fun q0 => k .ret (ixI_v4_x2_r v3 q0)) (fun (_ : Unit) => k (.exit 0) (ixI_v4_x2_0 v3))) (by kernel_rfl) ?_
    have h : (fun (v0 : Arr Int) (v1 : Int) (v2 : Int) (v3 : circuit_state) => loopM E.Θ (circuit_state_wire_1_calm N d) (ixI_v4_lp N (circuit_state_wire_r N d)) (noJn) 1 ixI_v4_L2 (bodyAt E 63 2) n (ixI_v4_h2 v0 v1 v2 v3) k) = (fun (v0 : Arr Int) (v1 : Int) (v2 : Int) (v3 : circuit_state) => ixI_v4_l2 N (circuit_state_wire_r N d) n v0 v1 v2 v3 (fun q0 => k .ret (ixI_v4_x2_r v3 q0)) (fun (_ : Unit) => k (.exit 0) (ixI_v4_x2_0 v3))) := funext fun v0 => funext fun v1 => funext fun v2 => funext fun v3 => ih v0 v1 v2 v3
    rw [h]
    rfl
theorem ixI_v4_k2 {R : Type} (N : Nat) (d : Nat) (hc : CalOk E.P (circuit_state_wire_cald (R := R) N d)) : LpKey (R := R) E 63 1 (ixI_v4_lp N (circuit_state_wire_r N d)) 2 :=
  lpKey_of hE (circuit_state_wire_1_calm_ok N d hc) (lp := ixI_v4_lp N (circuit_state_wire_r N d)) (jn := noJn) ixI_v4_L2_ok [] kNil (by kernel_rfl) [] jNil (by kernel_rfl) N fun S k =>
    Eq.trans (b := ixI_v4_L2.head.raw 1 S (fun S0 => ixI_v4_d2 N (circuit_state_wire_r N d) S0 k)) (by kernel_rfl) (congrArg (ixI_v4_L2.head.raw 1 S) (funext fun S0 => Eq.trans (ixI_v4_l2_eq N d k N (lstC intC (lget S0.tmps 0)) (toI (lget S0.tmps 7)) (toI (lget S0.tmps 8)) (Cod.dec circuit_stateC (lget (entCs (entAt S0.tab 0))))).symm (by kernel_rfl)))
noncomputable def ixI_v4_go {R : Type} (N : Nat) (d : Nat) (args : List SV) (T : Tab) (kf : SV × Tab → Option R) : Option R :=
  ixI_v4 N (circuit_state_wire_r N d) (lstC intC (lget args 0)) (Cod.dec circuit_stateC (lget (entCs (entAt T 0)))) (fun q0 => kf (lget [.int .i64 q0] 0, [(0, .blk (Cod.enc circuit_stateC (Cod.dec circuit_stateC (lget (entCs (entAt T 0))))))]))
noncomputable def ixI_v4_calm {R : Type} (N : Nat) (d : Nat) : Cal R := callM (circuit_state_wire_1_calm N d) 63 1 ixI_v4_sp (ixI_v4_go N d)
theorem ixI_v4_calm_ok {R : Type} (N : Nat) (d : Nat) (hc : CalOk E.P (circuit_state_wire_cald (R := R) N d)) : CalOk E.P (ixI_v4_calm (R := R) N d) :=
  callM_ok hE (circuit_state_wire_1_calm_ok N d hc) (lp := ixI_v4_lp N (circuit_state_wire_r N d)) (jn := noJn) (keys := [2]) (kCons (ixI_v4_k2 N d hc) kNil) (by kernel_rfl) (js := []) jNil (by kernel_rfl) ixI_v4_sp_ok ixI_v4_rs_ok (fun args T kf => Eq.trans (ixI_v4_def N (circuit_state_wire_r N d) (lstC intC (lget args 0)) (Cod.dec circuit_stateC (lget (entCs (entAt T 0)))) (fun q0 => kf (lget [.int .i64 q0] 0, [(0, .blk (Cod.enc circuit_stateC (Cod.dec circuit_stateC (lget (entCs (entAt T 0))))))]))) (by kernel_rfl : ixI_v4_run N d args T kf = fnM E (circuit_state_wire_1_calm N d) (ixI_v4_lp N (circuit_state_wire_r N d)) (noJn) 63 (ixI_v4_sp.vs args) (ixI_v4_sp.tab T) 1 (resK ixI_v4_rs kf)))
def coI_v4_run {R : Type} (N : Nat) (d : Nat) (args : List SV) (T : Tab) (kf : SV × Tab → Option R) : Option R :=
  coI_v4_m N (circuit_state_wire_r N d) (lstC intC (lget args 0)) (Cod.dec circuit_stateC (lget (entCs (entAt T 0)))) (fun q0 => kf (lget [.bool q0] 0, [(0, .blk (Cod.enc circuit_stateC (Cod.dec circuit_stateC (lget (entCs (entAt T 0))))))]))
def coI_v4_lp {R : Type} (N : Nat) (rf : circuit_state → Int → (Bool → Option R) → Option R) : Lp R := fun body S k => Option.none
noncomputable def coI_v4_go {R : Type} (N : Nat) (d : Nat) (args : List SV) (T : Tab) (kf : SV × Tab → Option R) : Option R :=
  coI_v4 N (circuit_state_wire_r N d) (lstC intC (lget args 0)) (Cod.dec circuit_stateC (lget (entCs (entAt T 0)))) (fun q0 => kf (lget [.bool q0] 0, [(0, .blk (Cod.enc circuit_stateC (Cod.dec circuit_stateC (lget (entCs (entAt T 0))))))]))
noncomputable def coI_v4_calm {R : Type} (N : Nat) (d : Nat) : Cal R := callM (ixI_v4_calm N d) 32 1 coI_v4_sp (coI_v4_go N d)
theorem coI_v4_calm_ok {R : Type} (N : Nat) (d : Nat) (hc : CalOk E.P (circuit_state_wire_cald (R := R) N d)) : CalOk E.P (coI_v4_calm (R := R) N d) :=
  callM_ok hE (ixI_v4_calm_ok N d hc) (lp := coI_v4_lp N (circuit_state_wire_r N d)) (jn := noJn) (keys := []) kNil (by kernel_rfl) (js := []) jNil (by kernel_rfl) coI_v4_sp_ok coI_v4_rs_ok (fun args T kf => Eq.trans (coI_v4_def N (circuit_state_wire_r N d) (lstC intC (lget args 0)) (Cod.dec circuit_stateC (lget (entCs (entAt T 0)))) (fun q0 => kf (lget [.bool q0] 0, [(0, .blk (Cod.enc circuit_stateC (Cod.dec circuit_stateC (lget (entCs (entAt T 0))))))]))) (by kernel_rfl : coI_v4_run N d args T kf = fnM E (ixI_v4_calm N d) (coI_v4_lp N (circuit_state_wire_r N d)) (noJn) 32 (coI_v4_sp.vs args) (coI_v4_sp.tab T) 1 (resK coI_v4_rs kf)))
def circuit_state_wire_lp {R : Type} (N : Nat) (rf : circuit_state → Int → (Bool → Option R) → Option R) : Lp R := fun body S k => Option.none
theorem circuit_state_wire_cald_ok {R : Type} (N : Nat) (d : Nat) : CalOk E.P (circuit_state_wire_cald (R := R) N d) := by
  induction d with
  | zero => exact callM_none (circuit_state_conducts_cal_ok N) (fun args T kf => rfl)
  | succ d ih => exact callM_rec hE (circuit_state_conducts_cal_ok N) (coI_v4_calm_ok N d ih) (lp := circuit_state_wire_lp N (circuit_state_wire_r N d)) (jn := noJn) (keys := []) kNil (by kernel_rfl) (js := []) jNil (by kernel_rfl) circuit_state_wire_sp_ok circuit_state_wire_rs_ok (fun args T kf => by kernel_rfl)
noncomputable def circuit_state_wire_go {R : Type} (N : Nat) (args : List SV) (T : Tab) (kf : SV × Tab → Option R) : Option R :=
  circuit_state_wire N (Cod.dec circuit_stateC (lget (toCs (lget args 0)))) (toI (lget args 1)) (fun q0 => kf (lget [.bool q0] 0, []))
noncomputable def circuit_state_wire_cal {R : Type} (N : Nat) : Cal R := callM (circuit_state_conducts_cal N) 58 0 circuit_state_wire_sp (circuit_state_wire_go N)
theorem circuit_state_wire_cal_ok {R : Type} (N : Nat) : CalOk E.P (circuit_state_wire_cal (R := R) N) :=
  callM_eq (fun args T kf => circuit_state_wire_def N (Cod.dec circuit_stateC (lget (toCs (lget args 0)))) (toI (lget args 1)) (fun q0 => kf (lget [.bool q0] 0, []))) (circuit_state_wire_cald_ok N N)
def circuit_weak_L2 : LoopSp := ⟨⟨[1, 2, 4, 7, 8], ⟨(dr 1 ((rInt .i64) :: (rPtr 0 0) :: (dr 1 ((rRow 1) :: (dr 2 ((rInt .i64) :: (rInt .i64) :: (dr 14 []))))))), [(0, eBlkC api_CircuitC), (1, eRow intC)]⟩, 2⟩, [(some 0, ⟨[4], ⟨(dr 4 ((rRow 0) :: (dr 18 []))), [(0, eRow intC)]⟩, 1⟩)]⟩
theorem circuit_weak_L2_ok : circuit_weak_L2.Ok := ⟨⟨(drCons 1 (allCons (rInt_ok .i64) (allCons (rPtr_ok 0 0) (drCons 1 (allCons (rRow_ok 1) (drCons 2 (allCons (rInt_ok .i64) (allCons (rInt_ok .i64) (drCons 14 allNil))))))))), (eCons (eBlkC_ok api_CircuitC_ok api_CircuitC_len) (eCons (eRow_ok intC_ok) eNil))⟩, (xCons ⟨(drCons 4 (allCons (rRow_ok 0) (drCons 18 allNil))), (eCons (eRow_ok intC_ok) eNil)⟩ xNil)⟩
def circuit_weak_h2 (v239 : Int) (v240 : Int) (v241 : Int) (v242 : api_Circuit) (v243 : Bool) (v244 : Arr Int) : St := ⟨(un 1 ((.int .i64 v239) :: (.ptr 0 0) :: (un 1 ((.row 1) :: (un 2 ((.int .i64 v240) :: (.int .i64 v241) :: (un 14 []))))))), [(0, .blk (Cod.enc api_CircuitC v242)), (1, rowE intC v243 v244)], 2⟩
def circuit_weak_x2_0 (q0 : Bool) (q1 : Arr Int) : St := ⟨(un 4 ((.row 0) :: (un 18 []))), [(0, rowE intC q0 q1)], 1⟩
def circuit_weak_b2 {R : Type} (N : Nat) (rc : Int → Int → Int → api_Circuit → Bool → Arr Int → Option R) (v239 : Int) (v240 : Int) (v241 : Int) (v242 : api_Circuit) (v243 : Bool) (v244 : Arr Int) (k0 : Bool → Arr Int → Option R) : Option R :=
 bif decide (v241 < v240) then
 bif decide (v241 < (0 : Int)) then
 Option.none
 else
 circuit_state_wire N (circuit_state.mk v242 (w64 ((1 : Int) * (2 : Int) ^ min (Int.toNat v241) (IntKind.bits IntKind.i64))) v239 (0 : Int)) (0 : Int) (fun r332 =>
 bif r332 then
 bif room (Arr.n v244 + (1 : Nat)) then
 rc v239 v240 (w64 (v241 + (1 : Int))) v242 false (lst intC (Arr.n v244 + (1 : Nat)) (catC (Arr.n v244) (Cod.cell intC (Arr.f v244)) (litC [SV.int .i64 0] [[SV.int IntKind.i64 v241]])))
 else
 Option.none
 else
 rc v239 v240 (w64 (v241 + (1 : Int))) v242 v243 v244)
 else
 k0 v243 v244
def circuit_weak_l2 {R : Type} (N : Nat) : Nat → Int → Int → Int → api_Circuit → Bool → Arr Int → (Bool → Arr Int → Option R) → Option R
  | 0, _, _, _, _, _, _, _ => Option.none
  | n + 1, v239, v240, v241, v242, v243, v244, k0 => circuit_weak_b2 N (fun v239 v240 v241 v242 v243 v244 => circuit_weak_l2 N n v239 v240 v241 v242 v243 v244 k0) v239 v240 v241 v242 v243 v244 k0
def circuit_weak_m {R : Type} (N : Nat) (a237 : api_Circuit) (a238 : Int) (k : Bool → Arr Int → Option R) : Option R :=
 circuit_weak_l2 N N a238 (api_Circuit.Hazards a237) (0 : Int) a237 true (lst intC (0 : Nat) (zeroC [SV.int .i64 0])) (fun r333 r334 =>
 k r333 r334)
noncomputable def circuit_weak {R : Type} : Nat → api_Circuit → Int → (Bool → Arr Int → Option R) → Option R := lock (@circuit_weak_m R)
theorem circuit_weak_def {R : Type} (N : Nat) (a237 : api_Circuit) (a238 : Int) (k : Bool → Arr Int → Option R) : circuit_weak N a237 a238 k = circuit_weak_m N a237 a238 k := by unfold circuit_weak; rw [lock_eq]
def circuit_weak_sp : Sp := ⟨[rAgg api_CircuitC, rInt .i64], []⟩
theorem circuit_weak_sp_ok : circuit_weak_sp.Ok := ⟨(allCons (rAgg_ok api_CircuitC_ok api_CircuitC_len) (allCons (rInt_ok .i64) allNil)), eNil⟩
def circuit_weak_rs : Sp := ⟨[rRow 0], [(0, eRow intC)]⟩
theorem circuit_weak_rs_ok : circuit_weak_rs.Ok := ⟨(allCons (rRow_ok 0) allNil), (eCons (eRow_ok intC_ok) eNil)⟩
def circuit_weak_run {R : Type} (N : Nat) (args : List SV) (T : Tab) (kf : SV × Tab → Option R) : Option R :=
  circuit_weak_m N (Cod.dec api_CircuitC (lget (toCs (lget args 0)))) (toI (lget args 1)) (fun q0 q1 => kf (lget [.row 0] 0, [(0, rowE intC q0 q1)]))
def circuit_weak_d2 {R : Type} (N : Nat) (S0 : St) (k : Exit → St → Option R) : Option R :=
  circuit_weak_l2 N N (toI (lget S0.tmps 1)) (toI (lget S0.tmps 7)) (toI (lget S0.tmps 8)) (Cod.dec api_CircuitC (lget (entCs (entAt S0.tab 0)))) (entNl (entAt S0.tab 1)) (lst intC (entN (entAt S0.tab 1)) (entC (entAt S0.tab 1))) (fun q0 q1 => k (.exit 0) (circuit_weak_x2_0 q0 q1))
def circuit_weak_lp {R : Type} (N : Nat) : Lp R := fun body S k => bif (Go.Sx.keyOf body).getD 0 == 2 then (circuit_weak_L2.head.raw 0 S (fun S0 => circuit_weak_d2 N S0 k)) else Option.none
theorem circuit_weak_l2_eq {R : Type} (N : Nat) (k : Exit → St → Option R) (n : Nat) : ∀ (v0 : Int) (v1 : Int) (v2 : Int) (v3 : api_Circuit) (v4 : Bool) (v5 : Arr Int), loopM E.Θ (circuit_state_wire_cal N) (circuit_weak_lp N) (noJn) 0 circuit_weak_L2 (bodyAt E 48 2) n (circuit_weak_h2 v0 v1 v2 v3 v4 v5) k = circuit_weak_l2 N n v0 v1 v2 v3 v4 v5 (fun q0 q1 => k (.exit 0) (circuit_weak_x2_0 q0 q1)) := by
  induction n with
  | zero => intro v0 v1 v2 v3 v4 v5; rfl
  | succ n ih =>
    intro v0 v1 v2 v3 v4 v5
    refine Eq.trans (b := circuit_weak_b2 N (fun v0 v1 v2 v3 v4 v5 => loopM E.Θ (circuit_state_wire_cal N) (circuit_weak_lp N) (noJn) 0 circuit_weak_L2 (bodyAt E 48 2) n (circuit_weak_h2 v0 v1 v2 v3 v4 v5) k) v0 v1 v2 v3 v4 v5 (fun q0 q1 => k (.exit 0) (circuit_weak_x2_0 q0 q1))) (by kernel_rfl) ?_
    have h : (fun (v0 : Int) (v1 : Int) (v2 : Int) (v3 : api_Circuit) (v4 : Bool) (v5 : Arr Int) => loopM E.Θ (circuit_state_wire_cal N) (circuit_weak_lp N) (noJn) 0 circuit_weak_L2 (bodyAt E 48 2) n (circuit_weak_h2 v0 v1 v2 v3 v4 v5) k) = (fun (v0 : Int) (v1 : Int) (v2 : Int) (v3 : api_Circuit) (v4 : Bool) (v5 : Arr Int) => circuit_weak_l2 N n v0 v1 v2 v3 v4 v5 (fun q0 q1 => k (.exit 0) (circuit_weak_x2_0 q0 q1))) := funext fun v0 => funext fun v1 => funext fun v2 => funext fun v3 => funext fun v4 => funext fun v5 => ih v0 v1 v2 v3 v4 v5
    rw [h]
    rfl
theorem circuit_weak_k2 {R : Type} (N : Nat) : LpKey (R := R) E 48 0 (circuit_weak_lp N) 2 :=
  lpKey_of hE (circuit_state_wire_cal_ok N) (lp := circuit_weak_lp N) (jn := noJn) circuit_weak_L2_ok [] kNil (by kernel_rfl) [] jNil (by kernel_rfl) N fun S k =>
    Eq.trans (b := circuit_weak_L2.head.raw 0 S (fun S0 => circuit_weak_d2 N S0 k)) (by kernel_rfl) (congrArg (circuit_weak_L2.head.raw 0 S) (funext fun S0 => Eq.trans (circuit_weak_l2_eq N k N (toI (lget S0.tmps 1)) (toI (lget S0.tmps 7)) (toI (lget S0.tmps 8)) (Cod.dec api_CircuitC (lget (entCs (entAt S0.tab 0)))) (entNl (entAt S0.tab 1)) (lst intC (entN (entAt S0.tab 1)) (entC (entAt S0.tab 1)))).symm (by kernel_rfl)))
noncomputable def circuit_weak_go {R : Type} (N : Nat) (args : List SV) (T : Tab) (kf : SV × Tab → Option R) : Option R :=
  circuit_weak N (Cod.dec api_CircuitC (lget (toCs (lget args 0)))) (toI (lget args 1)) (fun q0 q1 => kf (lget [.row 0] 0, [(0, rowE intC q0 q1)]))
noncomputable def circuit_weak_cal {R : Type} (N : Nat) : Cal R := callM (circuit_state_wire_cal N) 48 0 circuit_weak_sp (circuit_weak_go N)
theorem circuit_weak_cal_ok {R : Type} (N : Nat) : CalOk E.P (circuit_weak_cal (R := R) N) :=
  callM_ok hE (circuit_state_wire_cal_ok N) (lp := circuit_weak_lp N) (jn := noJn) (keys := [2]) (kCons (circuit_weak_k2 N) kNil) (by kernel_rfl) (js := []) jNil (by kernel_rfl) circuit_weak_sp_ok circuit_weak_rs_ok (fun args T kf => Eq.trans (circuit_weak_def N (Cod.dec api_CircuitC (lget (toCs (lget args 0)))) (toI (lget args 1)) (fun q0 q1 => kf (lget [.row 0] 0, [(0, rowE intC q0 q1)]))) (by kernel_rfl : circuit_weak_run N args T kf = fnM E (circuit_state_wire_cal N) (circuit_weak_lp N) (noJn) 48 (circuit_weak_sp.vs args) (circuit_weak_sp.tab T) 0 (resK circuit_weak_rs kf)))
end
end Go.Proofs.YtpillmoddoccfabDoor
