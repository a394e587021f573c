import Derived.Test.YtpillmoddoccfaaK2
set_option maxRecDepth 100000
set_option maxHeartbeats 0
set_option linter.unusedVariables false
namespace Go.Proofs.Ytpillmoddoccfaa
open Go.Sx
noncomputable section
def lift_between_m {R : Type} (N : Nat) (a174 : Int) (a175 : Int) (a176 : Int) (k : Bool → Option R) : Option R :=
 bif decide (a175 ≤ a174) then
 k (decide (a174 ≤ a176))
 else
 k false
noncomputable def lift_between {R : Type} : Nat → Int → Int → Int → (Bool → Option R) → Option R := lock (@lift_between_m R)
theorem lift_between_def {R : Type} (N : Nat) (a174 : Int) (a175 : Int) (a176 : Int) (k : Bool → Option R) : lift_between N a174 a175 a176 k = lift_between_m N a174 a175 a176 k := by unfold lift_between; rw [lock_eq]
def lift_between_sp : Sp := ⟨[rInt .i64, rInt .i64, rInt .i64], []⟩
theorem lift_between_sp_ok : lift_between_sp.Ok := ⟨(allCons (rInt_ok .i64) (allCons (rInt_ok .i64) (allCons (rInt_ok .i64) allNil))), eNil⟩
def lift_between_rs : Sp := ⟨[rBool], []⟩
theorem lift_between_rs_ok : lift_between_rs.Ok := ⟨(allCons rBool_ok allNil), eNil⟩
def lift_between_run {R : Type} (N : Nat) (args : List SV) (T : Tab) (kf : SV × Tab → Option R) : Option R :=
  lift_between_m N (toI (lget args 0)) (toI (lget args 1)) (toI (lget args 2)) (fun q0 => kf (lget [.bool q0] 0, []))
def lift_between_lp {R : Type} (N : Nat) : Lp R := fun body S k => Option.none
noncomputable def lift_between_go {R : Type} (N : Nat) (args : List SV) (T : Tab) (kf : SV × Tab → Option R) : Option R :=
  lift_between N (toI (lget args 0)) (toI (lget args 1)) (toI (lget args 2)) (fun q0 => kf (lget [.bool q0] 0, []))
noncomputable def lift_between_cal {R : Type} (N : Nat) : Cal R := callM (nT_doorway_cal N) 73 0 lift_between_sp (lift_between_go N)
theorem lift_between_cal_ok {R : Type} (N : Nat) : CalOk E.P (lift_between_cal (R := R) N) :=
  callM_ok hE (nT_doorway_cal_ok N) (lp := lift_between_lp N) (jn := noJn) (keys := []) kNil (by kernel_rfl) (js := []) jNil (by kernel_rfl) lift_between_sp_ok lift_between_rs_ok (fun args T kf => Eq.trans (lift_between_def N (toI (lget args 0)) (toI (lget args 1)) (toI (lget args 2)) (fun q0 => kf (lget [.bool q0] 0, []))) (by kernel_rfl : lift_between_run N args T kf = fnM E (nT_doorway_cal N) (lift_between_lp N) (noJn) 73 (lift_between_sp.vs args) (lift_between_sp.tab T) 0 (resK lift_between_rs kf)))
def lift_checkDoor_m {R : Type} (N : Nat) (a173 : pDo) (k : Int → Option R) : Option R :=
 lift_between N (pDo.Wide a173) (1 : Int) (50 : Int) (fun r177 =>
 bif !r177 then
 k (51 : Int)
 else
 lift_between N (pDo.Wait a173) (0 : Int) (200 : Int) (fun r178 =>
 bif !r178 then
 k (51 : Int)
 else
 k (0 : Int)))
noncomputable def lift_checkDoor {R : Type} : Nat → pDo → (Int → Option R) → Option R := lock (@lift_checkDoor_m R)
theorem lift_checkDoor_def {R : Type} (N : Nat) (a173 : pDo) (k : Int → Option R) : lift_checkDoor N a173 k = lift_checkDoor_m N a173 k := by unfold lift_checkDoor; rw [lock_eq]
def lift_checkDoor_sp : Sp := ⟨[rAgg pDoC], []⟩
theorem lift_checkDoor_sp_ok : lift_checkDoor_sp.Ok := ⟨(allCons (rAgg_ok pDoC_ok pDoC_len) allNil), eNil⟩
def lift_checkDoor_rs : Sp := ⟨[rInt .i64], []⟩
theorem lift_checkDoor_rs_ok : lift_checkDoor_rs.Ok := ⟨(allCons (rInt_ok .i64) allNil), eNil⟩
def lift_checkDoor_run {R : Type} (N : Nat) (args : List SV) (T : Tab) (kf : SV × Tab → Option R) : Option R :=
  lift_checkDoor_m N (Cod.dec pDoC (lget (toCs (lget args 0)))) (fun q0 => kf (lget [.int .i64 q0] 0, []))
def lift_checkDoor_lp {R : Type} (N : Nat) : Lp R := fun body S k => Option.none
noncomputable def lift_checkDoor_go {R : Type} (N : Nat) (args : List SV) (T : Tab) (kf : SV × Tab → Option R) : Option R :=
  lift_checkDoor N (Cod.dec pDoC (lget (toCs (lget args 0)))) (fun q0 => kf (lget [.int .i64 q0] 0, []))
noncomputable def lift_checkDoor_cal {R : Type} (N : Nat) : Cal R := callM (lift_between_cal N) 72 0 lift_checkDoor_sp (lift_checkDoor_go N)
theorem lift_checkDoor_cal_ok {R : Type} (N : Nat) : CalOk E.P (lift_checkDoor_cal (R := R) N) :=
  callM_ok hE (lift_between_cal_ok N) (lp := lift_checkDoor_lp N) (jn := noJn) (keys := []) kNil (by kernel_rfl) (js := []) jNil (by kernel_rfl) lift_checkDoor_sp_ok lift_checkDoor_rs_ok (fun args T kf => Eq.trans (lift_checkDoor_def N (Cod.dec pDoC (lget (toCs (lget args 0)))) (fun q0 => kf (lget [.int .i64 q0] 0, []))) (by kernel_rfl : lift_checkDoor_run N args T kf = fnM E (lift_between_cal N) (lift_checkDoor_lp N) (noJn) 72 (lift_checkDoor_sp.vs args) (lift_checkDoor_sp.tab T) 0 (resK lift_checkDoor_rs kf)))
def slices_Index___int_int__L2 : LoopSp := ⟨⟨[0, 1, 7, 8], ⟨((rSl intC) :: (rInt .i64) :: (dr 5 ((rInt .i64) :: (rInt .i64) :: (dr 10 [])))), []⟩, 0⟩, [(Option.none, ⟨[4], ⟨(dr 4 ((rInt .i64) :: (dr 14 []))), []⟩, 0⟩), (some 0, ⟨[], ⟨(dr 19 []), []⟩, 0⟩)]⟩
theorem slices_Index___int_int__L2_ok : slices_Index___int_int__L2.Ok := ⟨⟨(allCons (rSl_ok intC_ok) (allCons (rInt_ok .i64) (drCons 5 (allCons (rInt_ok .i64) (allCons (rInt_ok .i64) (drCons 10 allNil)))))), eNil⟩, (xCons ⟨(drCons 4 (allCons (rInt_ok .i64) (drCons 14 allNil))), eNil⟩ (xCons ⟨(drCons 19 allNil), eNil⟩ xNil))⟩
def slices_Index___int_int__h2 (v198 : Arr Int) (v199 : Int) (v200 : Int) (v201 : Int) : St := ⟨((slC intC v198) :: (.int .i64 v199) :: (un 5 ((.int .i64 v200) :: (.int .i64 v201) :: (un 10 [])))), [], 0⟩
def slices_Index___int_int__x2_r (q0 : Int) : St := ⟨(un 4 ((.int .i64 q0) :: (un 14 []))), [], 0⟩
def slices_Index___int_int__x2_0  : St := ⟨(un 19 []), [], 0⟩
def slices_Index___int_int__b2 {R : Type} (N : Nat) (rc : Arr Int → Int → Int → Int → Option R) (v198 : Arr Int) (v199 : Int) (v200 : Int) (v201 : Int) (kr : Int → Option R) (k0 : Unit → Option R) : Option R :=
 bif decide (v201 < v200) then
 bif decide ((0 : Int) ≤ v201) && decide (v201 < (↑(Arr.n v198) : Int)) then
 bif v199 == Arr.f v198 (Int.toNat v201) then
 kr v201
 else
 rc v198 v199 v200 (w64 (v201 + (1 : Int)))
 else
 Option.none
 else
 k0 ()
def slices_Index___int_int__l2 {R : Type} (N : Nat) : Nat → Arr Int → Int → Int → Int → (Int → Option R) → (Unit → Option R) → Option R
  | 0, _, _, _, _, _, _ => Option.none
  | n + 1, v198, v199, v200, v201, kr, k0 => slices_Index___int_int__b2 N (fun v198 v199 v200 v201 => slices_Index___int_int__l2 N n v198 v199 v200 v201 kr k0) v198 v199 v200 v201 kr k0
def slices_Index___int_int__m {R : Type} (N : Nat) (a196 : Arr Int) (a197 : Int) (k : Int → Option R) : Option R :=
 slices_Index___int_int__l2 N N a196 a197 ((↑(Arr.n a196) : Int)) (0 : Int) (fun r202 =>
 k r202) (fun (_ : Unit) =>
 k (-1 : Int))
noncomputable def slices_Index___int_int_ {R : Type} : Nat → Arr Int → Int → (Int → Option R) → Option R := lock (@slices_Index___int_int__m R)
theorem slices_Index___int_int__def {R : Type} (N : Nat) (a196 : Arr Int) (a197 : Int) (k : Int → Option R) : slices_Index___int_int_ N a196 a197 k = slices_Index___int_int__m N a196 a197 k := by unfold slices_Index___int_int_; rw [lock_eq]
def slices_Index___int_int__sp : Sp := ⟨[rSl intC, rInt .i64], []⟩
theorem slices_Index___int_int__sp_ok : slices_Index___int_int__sp.Ok := ⟨(allCons (rSl_ok intC_ok) (allCons (rInt_ok .i64) allNil)), eNil⟩
def slices_Index___int_int__rs : Sp := ⟨[rInt .i64], []⟩
theorem slices_Index___int_int__rs_ok : slices_Index___int_int__rs.Ok := ⟨(allCons (rInt_ok .i64) allNil), eNil⟩
def slices_Index___int_int__run {R : Type} (N : Nat) (args : List SV) (T : Tab) (kf : SV × Tab → Option R) : Option R :=
  slices_Index___int_int__m N (lstC intC (lget args 0)) (toI (lget args 1)) (fun q0 => kf (lget [.int .i64 q0] 0, []))
def slices_Index___int_int__d2 {R : Type} (N : Nat) (S0 : St) (k : Exit → St → Option R) : Option R :=
  slices_Index___int_int__l2 N N (lstC intC (lget S0.tmps 0)) (toI (lget S0.tmps 1)) (toI (lget S0.tmps 7)) (toI (lget S0.tmps 8)) (fun q0 => k .ret (slices_Index___int_int__x2_r q0)) (fun (_ : Unit) => k (.exit 0) (slices_Index___int_int__x2_0 ))
def slices_Index___int_int__lp {R : Type} (N : Nat) : Lp R := fun body S k => bif (Go.Sx.keyOf body).getD 0 == 2 then (slices_Index___int_int__L2.head.raw 0 S (fun S0 => slices_Index___int_int__d2 N S0 k)) else Option.none
theorem slices_Index___int_int__l2_eq {R : Type} (N : Nat) (k : Exit → St → Option R) (n : Nat) : ∀ (v0 : Arr Int) (v1 : Int) (v2 : Int) (v3 : Int), loopM E.Θ (lift_checkDoor_cal N) (slices_Index___int_int__lp N) (noJn) 0 slices_Index___int_int__L2 (bodyAt E 116 2) n (slices_Index___int_int__h2 v0 v1 v2 v3) k = slices_Index___int_int__l2 N n v0 v1 v2 v3 (fun q0 => k .ret (slices_Index___int_int__x2_r q0)) (fun (_ : Unit) => k (.exit 0) (slices_Index___int_int__x2_0 )) := by
  induction n with
  | zero => intro v0 v1 v2 v3; rfl
  | succ n ih =>
    intro v0 v1 v2 v3
    refine Eq.trans (b := slices_Index___int_int__b2 N (fun v0 v1 v2 v3 => loopM E.Θ (lift_checkDoor_cal N) (slices_Index___int_int__lp N) (noJn) 0 slices_Index___int_int__L2 (bodyAt E 116 2) n (slices_Index___int_int__h2 v0 v1 v2 v3) k) v0 v1 v2 v3 (fun q0 => k .ret (slices_Index___int_int__x2_r q0)) (fun (_ : Unit) => k (.exit 0) (slices_Index___int_int__x2_0 ))) (by kernel_rfl) ?_
    have h : (fun (v0 : Arr Int) (v1 : Int) (v2 : Int) (v3 : Int) => loopM E.Θ (lift_checkDoor_cal N) (slices_Index___int_int__lp N) (noJn) 0 slices_Index___int_int__L2 (bodyAt E 116 2) n (slices_Index___int_int__h2 v0 v1 v2 v3) k) = (fun (v0 : Arr Int) (v1 : Int) (v2 : Int) (v3 : Int) => slices_Index___int_int__l2 N n v0 v1 v2 v3 (fun q0 => k .ret (slices_Index___int_int__x2_r q0)) (fun (_ : Unit) => k (.exit 0) (slices_Index___int_int__x2_0 ))) := funext fun v0 => funext fun v1 => funext fun v2 => funext fun v3 => ih v0 v1 v2 v3
    rw [h]
    rfl
theorem slices_Index___int_int__k2 {R : Type} (N : Nat) : LpKey (R := R) E 116 0 (slices_Index___int_int__lp N) 2 :=
  lpKey_of hE (lift_checkDoor_cal_ok N) (lp := slices_Index___int_int__lp N) (jn := noJn) slices_Index___int_int__L2_ok [] kNil (by kernel_rfl) [] jNil (by kernel_rfl) N fun S k =>
    Eq.trans (b := slices_Index___int_int__L2.head.raw 0 S (fun S0 => slices_Index___int_int__d2 N S0 k)) (by kernel_rfl) (congrArg (slices_Index___int_int__L2.head.raw 0 S) (funext fun S0 => Eq.trans (slices_Index___int_int__l2_eq N k N (lstC intC (lget S0.tmps 0)) (toI (lget S0.tmps 1)) (toI (lget S0.tmps 7)) (toI (lget S0.tmps 8))).symm (by kernel_rfl)))
noncomputable def slices_Index___int_int__go {R : Type} (N : Nat) (args : List SV) (T : Tab) (kf : SV × Tab → Option R) : Option R :=
  slices_Index___int_int_ N (lstC intC (lget args 0)) (toI (lget args 1)) (fun q0 => kf (lget [.int .i64 q0] 0, []))
noncomputable def slices_Index___int_int__cal {R : Type} (N : Nat) : Cal R := callM (lift_checkDoor_cal N) 116 0 slices_Index___int_int__sp (slices_Index___int_int__go N)
theorem slices_Index___int_int__cal_ok {R : Type} (N : Nat) : CalOk E.P (slices_Index___int_int__cal (R := R) N) :=
  callM_ok hE (lift_checkDoor_cal_ok N) (lp := slices_Index___int_int__lp N) (jn := noJn) (keys := [2]) (kCons (slices_Index___int_int__k2 N) kNil) (by kernel_rfl) (js := []) jNil (by kernel_rfl) slices_Index___int_int__sp_ok slices_Index___int_int__rs_ok (fun args T kf => Eq.trans (slices_Index___int_int__def N (lstC intC (lget args 0)) (toI (lget args 1)) (fun q0 => kf (lget [.int .i64 q0] 0, []))) (by kernel_rfl : slices_Index___int_int__run N args T kf = fnM E (lift_checkDoor_cal N) (slices_Index___int_int__lp N) (noJn) 116 (slices_Index___int_int__sp.vs args) (slices_Index___int_int__sp.tab T) 0 (resK slices_Index___int_int__rs kf)))
def coI_m {R : Type} (N : Nat) (a194 : Arr Int) (a195 : Int) (k : Bool → Option R) : Option R :=
 slices_Index___int_int_ N a194 a195 (fun r203 =>
 k (decide (r203 ≥ (0 : Int))))
noncomputable def coI {R : Type} : Nat → Arr Int → Int → (Bool → Option R) → Option R := lock (@coI_m R)
theorem coI_def {R : Type} (N : Nat) (a194 : Arr Int) (a195 : Int) (k : Bool → Option R) : coI N a194 a195 k = coI_m N a194 a195 k := by unfold coI; rw [lock_eq]
def coI_sp : Sp := ⟨[rSl intC, rInt .i64], []⟩
theorem coI_sp_ok : coI_sp.Ok := ⟨(allCons (rSl_ok intC_ok) (allCons (rInt_ok .i64) allNil)), eNil⟩
def coI_rs : Sp := ⟨[rBool], []⟩
theorem coI_rs_ok : coI_rs.Ok := ⟨(allCons rBool_ok allNil), eNil⟩
def coI_run {R : Type} (N : Nat) (args : List SV) (T : Tab) (kf : SV × Tab → Option R) : Option R :=
  coI_m N (lstC intC (lget args 0)) (toI (lget args 1)) (fun q0 => kf (lget [.bool q0] 0, []))
def coI_lp {R : Type} (N : Nat) : Lp R := fun body S k => Option.none
noncomputable def coI_go {R : Type} (N : Nat) (args : List SV) (T : Tab) (kf : SV × Tab → Option R) : Option R :=
  coI N (lstC intC (lget args 0)) (toI (lget args 1)) (fun q0 => kf (lget [.bool q0] 0, []))
noncomputable def coI_cal {R : Type} (N : Nat) : Cal R := callM (slices_Index___int_int__cal N) 75 0 coI_sp (coI_go N)
theorem coI_cal_ok {R : Type} (N : Nat) : CalOk E.P (coI_cal (R := R) N) :=
  callM_ok hE (slices_Index___int_int__cal_ok N) (lp := coI_lp N) (jn := noJn) (keys := []) kNil (by kernel_rfl) (js := []) jNil (by kernel_rfl) coI_sp_ok coI_rs_ok (fun args T kf => Eq.trans (coI_def N (lstC intC (lget args 0)) (toI (lget args 1)) (fun q0 => kf (lget [.bool q0] 0, []))) (by kernel_rfl : coI_run N args T kf = fnM E (slices_Index___int_int__cal N) (coI_lp N) (noJn) 75 (coI_sp.vs args) (coI_sp.tab T) 0 (resK coI_rs kf)))
def lLe_hold_m {R : Type} (N : Nat) (a207 : lLe) (k : lLe → Option R) : Option R :=
 bif pDo.Wait (lLe.Door a207) == (0 : Int) then
 k (lLe.mk (lLe.Door a207) (lLe.f_at a207) (2 : Int) (pDo.Wait (lLe.Door a207)))
 else
 k (lLe.mk (lLe.Door a207) (lLe.f_at a207) (1 : Int) (pDo.Wait (lLe.Door a207)))
noncomputable def lLe_hold {R : Type} : Nat → lLe → (lLe → Option R) → Option R := lock (@lLe_hold_m R)
theorem lLe_hold_def {R : Type} (N : Nat) (a207 : lLe) (k : lLe → Option R) : lLe_hold N a207 k = lLe_hold_m N a207 k := by unfold lLe_hold; rw [lock_eq]
def lLe_hold_sp : Sp := ⟨[rPtr 0 0], [(0, eBlkC lLeC)]⟩
theorem lLe_hold_sp_ok : lLe_hold_sp.Ok := ⟨(allCons (rPtr_ok 0 0) allNil), (eCons (eBlkC_ok lLeC_ok lLeC_len) eNil)⟩
def lLe_hold_rs : Sp := ⟨[rTup []], [(0, eBlkC lLeC)]⟩
theorem lLe_hold_rs_ok : lLe_hold_rs.Ok := ⟨(allCons (rTup_ok allNil) allNil), (eCons (eBlkC_ok lLeC_ok lLeC_len) eNil)⟩
def lLe_hold_run {R : Type} (N : Nat) (args : List SV) (T : Tab) (kf : SV × Tab → Option R) : Option R :=
  lLe_hold_m N (Cod.dec lLeC (lget (entCs (entAt T 0)))) (fun q0 => kf (lget [.tup []] 0, [(0, .blk (Cod.enc lLeC q0))]))
def lLe_hold_lp {R : Type} (N : Nat) : Lp R := fun body S k => Option.none
noncomputable def lLe_hold_go {R : Type} (N : Nat) (args : List SV) (T : Tab) (kf : SV × Tab → Option R) : Option R :=
  lLe_hold N (Cod.dec lLeC (lget (entCs (entAt T 0)))) (fun q0 => kf (lget [.tup []] 0, [(0, .blk (Cod.enc lLeC q0))]))
noncomputable def lLe_hold_cal {R : Type} (N : Nat) : Cal R := callM (coI_cal N) 115 1 lLe_hold_sp (lLe_hold_go N)
theorem lLe_hold_cal_ok {R : Type} (N : Nat) : CalOk E.P (lLe_hold_cal (R := R) N) :=
  callM_ok hE (coI_cal_ok N) (lp := lLe_hold_lp N) (jn := noJn) (keys := []) kNil (by kernel_rfl) (js := []) jNil (by kernel_rfl) lLe_hold_sp_ok lLe_hold_rs_ok (fun args T kf => Eq.trans (lLe_hold_def N (Cod.dec lLeC (lget (entCs (entAt T 0)))) (fun q0 => kf (lget [.tup []] 0, [(0, .blk (Cod.enc lLeC q0))]))) (by kernel_rfl : lLe_hold_run N args T kf = fnM E (coI_cal N) (lLe_hold_lp N) (noJn) 115 (lLe_hold_sp.vs args) (lLe_hold_sp.tab T) 1 (resK lLe_hold_rs kf)))
def lLe_tick_m {R : Type} (N : Nat) (a205 : Bool) (a206 : lLe) (k : lLe → Option R) : Option R :=
 bif a205 then
 bif lLe.f_does a206 != (0 : Int) then
 bif decide (lLe.f_at a206 < pDo.Wide (lLe.Door a206)) then
 bif w64 (lLe.f_at a206 + (1 : Int)) == pDo.Wide (lLe.Door a206) then
 lLe_hold N (lLe.mk (lLe.Door a206) (w64 (lLe.f_at a206 + (1 : Int))) (0 : Int) (lLe.f_left a206)) (fun r208 =>
 k r208)
 else
 k (lLe.mk (lLe.Door a206) (w64 (lLe.f_at a206 + (1 : Int))) (0 : Int) (lLe.f_left a206))
 else
 lLe_hold N a206 (fun r209 =>
 bif lLe.f_does r209 == (0 : Int) then
 bif w64 (lLe.f_at r209 + (1 : Int)) == pDo.Wide (lLe.Door r209) then
 lLe_hold N (lLe.mk (lLe.Door r209) (w64 (lLe.f_at r209 + (1 : Int))) (lLe.f_does r209) (lLe.f_left r209)) (fun r210 =>
 k r210)
 else
 k (lLe.mk (lLe.Door r209) (w64 (lLe.f_at r209 + (1 : Int))) (lLe.f_does r209) (lLe.f_left r209))
 else
 bif lLe.f_does r209 == (1 : Int) then
 bif w64 (lLe.f_left r209 - (1 : Int)) == (0 : Int) then
 k (lLe.mk (lLe.Door r209) (lLe.f_at r209) (2 : Int) (w64 (lLe.f_left r209 - (1 : Int))))
 else
 k (lLe.mk (lLe.Door r209) (lLe.f_at r209) (lLe.f_does r209) (w64 (lLe.f_left r209 - (1 : Int))))
 else
 bif lLe.f_does r209 == (2 : Int) then
 k (lLe.mk (lLe.Door r209) (w64 (lLe.f_at r209 - (1 : Int))) (lLe.f_does r209) (lLe.f_left r209))
 else
 k r209)
 else
 bif lLe.f_does a206 == (0 : Int) then
 bif w64 (lLe.f_at a206 + (1 : Int)) == pDo.Wide (lLe.Door a206) then
 lLe_hold N (lLe.mk (lLe.Door a206) (w64 (lLe.f_at a206 + (1 : Int))) (lLe.f_does a206) (lLe.f_left a206)) (fun r211 =>
 k r211)
 else
 k (lLe.mk (lLe.Door a206) (w64 (lLe.f_at a206 + (1 : Int))) (lLe.f_does a206) (lLe.f_left a206))
 else
 bif lLe.f_does a206 == (1 : Int) then
 bif w64 (lLe.f_left a206 - (1 : Int)) == (0 : Int) then
 k (lLe.mk (lLe.Door a206) (lLe.f_at a206) (2 : Int) (w64 (lLe.f_left a206 - (1 : Int))))
 else
 k (lLe.mk (lLe.Door a206) (lLe.f_at a206) (lLe.f_does a206) (w64 (lLe.f_left a206 - (1 : Int))))
 else
 bif lLe.f_does a206 == (2 : Int) then
 k (lLe.mk (lLe.Door a206) (w64 (lLe.f_at a206 - (1 : Int))) (lLe.f_does a206) (lLe.f_left a206))
 else
 k a206
 else
 bif lLe.f_does a206 == (0 : Int) then
 bif w64 (lLe.f_at a206 + (1 : Int)) == pDo.Wide (lLe.Door a206) then
 lLe_hold N (lLe.mk (lLe.Door a206) (w64 (lLe.f_at a206 + (1 : Int))) (lLe.f_does a206) (lLe.f_left a206)) (fun r212 =>
 k r212)
 else
 k (lLe.mk (lLe.Door a206) (w64 (lLe.f_at a206 + (1 : Int))) (lLe.f_does a206) (lLe.f_left a206))
 else
 bif lLe.f_does a206 == (1 : Int) then
 bif w64 (lLe.f_left a206 - (1 : Int)) == (0 : Int) then
 k (lLe.mk (lLe.Door a206) (lLe.f_at a206) (2 : Int) (w64 (lLe.f_left a206 - (1 : Int))))
 else
 k (lLe.mk (lLe.Door a206) (lLe.f_at a206) (lLe.f_does a206) (w64 (lLe.f_left a206 - (1 : Int))))
 else
 bif lLe.f_does a206 == (2 : Int) then
 k (lLe.mk (lLe.Door a206) (w64 (lLe.f_at a206 - (1 : Int))) (lLe.f_does a206) (lLe.f_left a206))
 else
 k a206
noncomputable def lLe_tick {R : Type} : Nat → Bool → lLe → (lLe → Option R) → Option R := lock (@lLe_tick_m R)
theorem lLe_tick_def {R : Type} (N : Nat) (a205 : Bool) (a206 : lLe) (k : lLe → Option R) : lLe_tick N a205 a206 k = lLe_tick_m N a205 a206 k := by unfold lLe_tick; rw [lock_eq]
def lLe_tick_sp : Sp := ⟨[rPtr 0 0, rBool], [(0, eBlkC lLeC)]⟩
theorem lLe_tick_sp_ok : lLe_tick_sp.Ok := ⟨(allCons (rPtr_ok 0 0) (allCons rBool_ok allNil)), (eCons (eBlkC_ok lLeC_ok lLeC_len) eNil)⟩
def lLe_tick_rs : Sp := ⟨[rTup []], [(0, eBlkC lLeC)]⟩
theorem lLe_tick_rs_ok : lLe_tick_rs.Ok := ⟨(allCons (rTup_ok allNil) allNil), (eCons (eBlkC_ok lLeC_ok lLeC_len) eNil)⟩
def lLe_tick_run {R : Type} (N : Nat) (args : List SV) (T : Tab) (kf : SV × Tab → Option R) : Option R :=
  lLe_tick_m N (toB (lget args 1)) (Cod.dec lLeC (lget (entCs (entAt T 0)))) (fun q0 => kf (lget [.tup []] 0, [(0, .blk (Cod.enc lLeC q0))]))
def lLe_tick_lp {R : Type} (N : Nat) : Lp R := fun body S k => Option.none
noncomputable def lLe_tick_go {R : Type} (N : Nat) (args : List SV) (T : Tab) (kf : SV × Tab → Option R) : Option R :=
  lLe_tick N (toB (lget args 1)) (Cod.dec lLeC (lget (entCs (entAt T 0)))) (fun q0 => kf (lget [.tup []] 0, [(0, .blk (Cod.enc lLeC q0))]))
noncomputable def lLe_tick_cal {R : Type} (N : Nat) : Cal R := callM (lLe_hold_cal N) 74 1 lLe_tick_sp (lLe_tick_go N)
theorem lLe_tick_cal_ok {R : Type} (N : Nat) : CalOk E.P (lLe_tick_cal (R := R) N) :=
  callM_ok hE (lLe_hold_cal_ok N) (lp := lLe_tick_lp N) (jn := noJn) (keys := []) kNil (by kernel_rfl) (js := []) jNil (by kernel_rfl) lLe_tick_sp_ok lLe_tick_rs_ok (fun args T kf => Eq.trans (lLe_tick_def N (toB (lget args 1)) (Cod.dec lLeC (lget (entCs (entAt T 0)))) (fun q0 => kf (lget [.tup []] 0, [(0, .blk (Cod.enc lLeC q0))]))) (by kernel_rfl : lLe_tick_run N args T kf = fnM E (lLe_hold_cal N) (lLe_tick_lp N) (noJn) 74 (lLe_tick_sp.vs args) (lLe_tick_sp.tab T) 1 (resK lLe_tick_rs kf)))
def lift_Doors_L7 : LoopSp := ⟨⟨[1, 2, 20, 21, 22], ⟨(dr 1 ((rSl intC) :: (rPtr 0 0) :: (dr 17 ((rSl intC) :: (rInt .i64) :: (rInt .i64) :: (dr 42 []))))), [(0, eBlkC pDoC)]⟩, 1⟩, [(Option.none, ⟨[4, 5], ⟨(dr 4 ((rRow 0) :: (rInt .i64) :: (dr 59 []))), [(0, eRow intC)]⟩, 1⟩), (some 0, ⟨[1, 2], ⟨(dr 1 ((rSl intC) :: (rPtr 0 0) :: (dr 62 []))), [(0, eBlkC pDoC)]⟩, 1⟩)]⟩
theorem lift_Doors_L7_ok : lift_Doors_L7.Ok := ⟨⟨(drCons 1 (allCons (rSl_ok intC_ok) (allCons (rPtr_ok 0 0) (drCons 17 (allCons (rSl_ok intC_ok) (allCons (rInt_ok .i64) (allCons (rInt_ok .i64) (drCons 42 allNil)))))))), (eCons (eBlkC_ok pDoC_ok pDoC_len) eNil)⟩, (xCons ⟨(drCons 4 (allCons (rRow_ok 0) (allCons (rInt_ok .i64) (drCons 59 allNil)))), (eCons (eRow_ok intC_ok) eNil)⟩ (xCons ⟨(drCons 1 (allCons (rSl_ok intC_ok) (allCons (rPtr_ok 0 0) (drCons 62 allNil)))), (eCons (eBlkC_ok pDoC_ok pDoC_len) eNil)⟩ xNil))⟩
def lift_Doors_h7 (v180 : Arr Int) (v181 : Arr Int) (v182 : Int) (v183 : Int) (v184 : pDo) : St := ⟨(un 1 ((slC intC v180) :: (.ptr 0 0) :: (un 17 ((slC intC v181) :: (.int .i64 v182) :: (.int .i64 v183) :: (un 42 []))))), [(0, .blk (Cod.enc pDoC v184))], 1⟩
def lift_Doors_x7_r (q0 : Int) (q1 : Bool) (q2 : Arr Int) : St := ⟨(un 4 ((.row 0) :: (.int .i64 q0) :: (un 59 []))), [(0, rowE intC q1 q2)], 1⟩
def lift_Doors_x7_0 (v180 : Arr Int) (v184 : pDo) : St := ⟨(un 1 ((slC intC v180) :: (.ptr 0 0) :: (un 62 []))), [(0, .blk (Cod.enc pDoC v184))], 1⟩
def lift_Doors_b7 {R : Type} (N : Nat) (rc : Arr Int → Arr Int → Int → Int → pDo → Option R) (v180 : Arr Int) (v181 : Arr Int) (v182 : Int) (v183 : Int) (v184 : pDo) (kr : Int → Bool → Arr Int → Option R) (k0 : Unit → Option R) : Option R :=
 bif decide (v183 < v182) then
 bif decide ((0 : Int) ≤ v183) && decide (v183 < (↑(Arr.n v181) : Int)) then
 lift_between N (Arr.f v181 (Int.toNat v183)) (0 : Int) (100000 : Int) (fun r185 =>
 bif !r185 then
 kr (1 : Int) true (lst intC (0 : Nat) (zeroC [SV.int .i64 0]))
 else
 bif decide (v183 > (0 : Int)) then
 bif decide ((0 : Int) ≤ w64 (v183 - (1 : Int))) && decide (w64 (v183 - (1 : Int)) < (↑(Arr.n v180) : Int)) then
 bif decide (Arr.f v181 (Int.toNat v183) ≤ Arr.f v180 (Int.toNat (w64 (v183 - (1 : Int))))) then
 kr (1 : Int) true (lst intC (0 : Nat) (zeroC [SV.int .i64 0]))
 else
 rc v180 v181 v182 (w64 (v183 + (1 : Int))) v184
 else
 Option.none
 else
 rc v180 v181 v182 (w64 (v183 + (1 : Int))) v184)
 else
 Option.none
 else
 k0 ()
def lift_Doors_l7 {R : Type} (N : Nat) : Nat → Arr Int → Arr Int → Int → Int → pDo → (Int → Bool → Arr Int → Option R) → (Unit → Option R) → Option R
  | 0, _, _, _, _, _, _, _ => Option.none
  | n + 1, v180, v181, v182, v183, v184, kr, k0 => lift_Doors_b7 N (fun v180 v181 v182 v183 v184 => lift_Doors_l7 N n v180 v181 v182 v183 v184 kr k0) v180 v181 v182 v183 v184 kr k0
def lift_Doors_L15 : LoopSp := ⟨⟨[1, 9, 10, 11], ⟨(dr 1 ((rSl intC) :: (dr 7 ((rPtr 0 0) :: (rRow 1) :: (rInt .i64) :: (dr 53 []))))), [(0, eBlkC lLeC), (1, eRow intC)]⟩, 2⟩, [(some 2, ⟨[10], ⟨(dr 10 ((rRow 0) :: (dr 54 []))), [(0, eRow intC)]⟩, 1⟩)]⟩
theorem lift_Doors_L15_ok : lift_Doors_L15.Ok := ⟨⟨(drCons 1 (allCons (rSl_ok intC_ok) (drCons 7 (allCons (rPtr_ok 0 0) (allCons (rRow_ok 1) (allCons (rInt_ok .i64) (drCons 53 allNil))))))), (eCons (eBlkC_ok lLeC_ok lLeC_len) (eCons (eRow_ok intC_ok) eNil))⟩, (xCons ⟨(drCons 10 (allCons (rRow_ok 0) (drCons 54 allNil))), (eCons (eRow_ok intC_ok) eNil)⟩ xNil)⟩
def lift_Doors_h15 (v189 : Arr Int) (v190 : Int) (v191 : lLe) (v192 : Bool) (v193 : Arr Int) : St := ⟨(un 1 ((slC intC v189) :: (un 7 ((.ptr 0 0) :: (.row 1) :: (.int .i64 v190) :: (un 53 []))))), [(0, .blk (Cod.enc lLeC v191)), (1, rowE intC v192 v193)], 2⟩
def lift_Doors_x15_2 (q0 : Bool) (q1 : Arr Int) : St := ⟨(un 10 ((.row 0) :: (un 54 []))), [(0, rowE intC q0 q1)], 1⟩
def lift_Doors_b15 {R : Type} (N : Nat) (rc : Arr Int → Int → lLe → Bool → Arr Int → Option R) (v189 : Arr Int) (v190 : Int) (v191 : lLe) (v192 : Bool) (v193 : Arr Int) (k2 : Bool → Arr Int → Option R) : Option R :=
 bif v190 == (0 : Int) then
 coI N v189 v190 (fun r204 =>
 lLe_tick N r204 v191 (fun r213 =>
 bif room (Arr.n v193 + (1 : Nat)) then
 rc v189 (w64 (v190 + (1 : Int))) r213 false (lst intC (Arr.n v193 + (1 : Nat)) (catC (Arr.n v193) (Cod.cell intC (Arr.f v193)) (litC [SV.int .i64 0] [[SV.int IntKind.i64 (lLe.f_at r213)]])))
 else
 Option.none))
 else
 bif decide (lLe.f_at v191 > (0 : Int)) then
 coI N v189 v190 (fun r214 =>
 lLe_tick N r214 v191 (fun r215 =>
 bif room (Arr.n v193 + (1 : Nat)) then
 rc v189 (w64 (v190 + (1 : Int))) r215 false (lst intC (Arr.n v193 + (1 : Nat)) (catC (Arr.n v193) (Cod.cell intC (Arr.f v193)) (litC [SV.int .i64 0] [[SV.int IntKind.i64 (lLe.f_at r215)]])))
 else
 Option.none))
 else
 k2 v192 v193
def lift_Doors_l15 {R : Type} (N : Nat) : Nat → Arr Int → Int → lLe → Bool → Arr Int → (Bool → Arr Int → Option R) → Option R
  | 0, _, _, _, _, _, _ => Option.none
  | n + 1, v189, v190, v191, v192, v193, k2 => lift_Doors_b15 N (fun v189 v190 v191 v192 v193 => lift_Doors_l15 N n v189 v190 v191 v192 v193 k2) v189 v190 v191 v192 v193 k2
def lift_Doors_m {R : Type} (N : Nat) (a171 : pDo) (a172 : Arr Int) (k : Int → Bool → Arr Int → Option R) : Option R :=
 lift_checkDoor N a171 (fun r179 =>
 bif r179 != (0 : Int) then
 k r179 true (lst intC (0 : Nat) (zeroC [SV.int .i64 0]))
 else
 bif decide ((↑(Arr.n a172) : Int) > (20 : Int)) then
 k (1 : Int) true (lst intC (0 : Nat) (zeroC [SV.int .i64 0]))
 else
 lift_Doors_l7 N N a172 a172 ((↑(Arr.n a172) : Int)) (0 : Int) a171 (fun r186 r187 r188 =>
 k r186 r187 r188) (fun (_ : Unit) =>
 lift_Doors_l15 N N a172 (0 : Int) (lLe.mk a171 (0 : Int) (0 : Int) (0 : Int)) true (lst intC (0 : Nat) (zeroC [SV.int .i64 0])) (fun r216 r217 =>
 k (0 : Int) r216 r217)))
noncomputable def lift_Doors {R : Type} : Nat → pDo → Arr Int → (Int → Bool → Arr Int → Option R) → Option R := lock (@lift_Doors_m R)
theorem lift_Doors_def {R : Type} (N : Nat) (a171 : pDo) (a172 : Arr Int) (k : Int → Bool → Arr Int → Option R) : lift_Doors N a171 a172 k = lift_Doors_m N a171 a172 k := by unfold lift_Doors; rw [lock_eq]
def lift_Doors_sp : Sp := ⟨[rAgg pDoC, rSl intC], []⟩
theorem lift_Doors_sp_ok : lift_Doors_sp.Ok := ⟨(allCons (rAgg_ok pDoC_ok pDoC_len) (allCons (rSl_ok intC_ok) allNil)), eNil⟩
def lift_Doors_rs : Sp := ⟨[rTup [rRow 0, rInt .i64]], [(0, eRow intC)]⟩
theorem lift_Doors_rs_ok : lift_Doors_rs.Ok := ⟨(allCons (rTup_ok (allCons (rRow_ok 0) (allCons (rInt_ok .i64) allNil))) allNil), (eCons (eRow_ok intC_ok) eNil)⟩
def lift_Doors_run {R : Type} (N : Nat) (args : List SV) (T : Tab) (kf : SV × Tab → Option R) : Option R :=
  lift_Doors_m N (Cod.dec pDoC (lget (toCs (lget args 0)))) (lstC intC (lget args 1)) (fun q0 q1 q2 => kf (lget [.tup [.row 0, .int .i64 q0]] 0, [(0, rowE intC q1 q2)]))
def lift_Doors_d15 {R : Type} (N : Nat) (S0 : St) (k : Exit → St → Option R) : Option R :=
  lift_Doors_l15 N N (lstC intC (lget S0.tmps 1)) (toI (lget S0.tmps 11)) (Cod.dec lLeC (lget (entCs (entAt S0.tab 0)))) (entNl (entAt S0.tab 1)) (lst intC (entN (entAt S0.tab 1)) (entC (entAt S0.tab 1))) (fun q0 q1 => k (.exit 2) (lift_Doors_x15_2 q0 q1))
def lift_Doors_d7 {R : Type} (N : Nat) (S0 : St) (k : Exit → St → Option R) : Option R :=
  lift_Doors_l7 N N (lstC intC (lget S0.tmps 1)) (lstC intC (lget S0.tmps 20)) (toI (lget S0.tmps 21)) (toI (lget S0.tmps 22)) (Cod.dec pDoC (lget (entCs (entAt S0.tab 0)))) (fun q0 q1 q2 => k .ret (lift_Doors_x7_r q0 q1 q2)) (fun (_ : Unit) => k (.exit 0) (lift_Doors_x7_0 (lstC intC (lget S0.tmps 1)) (Cod.dec pDoC (lget (entCs (entAt S0.tab 0))))))
def lift_Doors_lp {R : Type} (N : Nat) : Lp R := fun body S k => bif (Go.Sx.keyOf body).getD 0 == 7 then (lift_Doors_L7.head.raw 0 S (fun S0 => lift_Doors_d7 N S0 k)) else bif (Go.Sx.keyOf body).getD 0 == 15 then (lift_Doors_L15.head.raw 0 S (fun S0 => lift_Doors_d15 N S0 k)) else Option.none
theorem lift_Doors_l7_eq {R : Type} (N : Nat) (k : Exit → St → Option R) (n : Nat) : ∀ (v0 : Arr Int) (v1 : Arr Int) (v2 : Int) (v3 : Int) (v4 : pDo), loopM E.Θ (lLe_tick_cal N) (lift_Doors_lp N) (noJn) 0 lift_Doors_L7 (bodyAt E 23 7) n (lift_Doors_h7 v0 v1 v2 v3 v4) k = lift_Doors_l7 N n v0 v1 v2 v3 v4 (fun q0 q1 q2 => k .ret (lift_Doors_x7_r q0 q1 q2)) (fun (_ : Unit) => k (.exit 0) (lift_Doors_x7_0 v0 v4)) := by
  induction n with
  | zero => intro v0 v1 v2 v3 v4; rfl
  | succ n ih =>
    intro v0 v1 v2 v3 v4
    refine Eq.trans (b := lift_Doors_b7 N (fun v0 v1 v2 v3 v4 => loopM E.Θ (lLe_tick_cal N) (lift_Doors_lp N) (noJn) 0 lift_Doors_L7 (bodyAt E 23 7) n (lift_Doors_h7 v0 v1 v2 v3 v4) k) v0 v1 v2 v3 v4 (fun q0 q1 q2 => k .ret (lift_Doors_x7_r q0 q1 q2)) (fun (_ : Unit) => k (.exit 0) (lift_Doors_x7_0 v0 v4))) (by kernel_rfl) ?_
    have h : (fun (v0 : Arr Int) (v1 : Arr Int) (v2 : Int) (v3 : Int) (v4 : pDo) => loopM E.Θ (lLe_tick_cal N) (lift_Doors_lp N) (noJn) 0 lift_Doors_L7 (bodyAt E 23 7) n (lift_Doors_h7 v0 v1 v2 v3 v4) k) = (fun (v0 : Arr Int) (v1 : Arr Int) (v2 : Int) (v3 : Int) (v4 : pDo) => lift_Doors_l7 N n v0 v1 v2 v3 v4 (fun q0 q1 q2 => k .ret (lift_Doors_x7_r q0 q1 q2)) (fun (_ : Unit) => k (.exit 0) (lift_Doors_x7_0 v0 v4))) := funext fun v0 => funext fun v1 => funext fun v2 => funext fun v3 => funext fun v4 => ih v0 v1 v2 v3 v4
    rw [h]
    rfl
theorem lift_Doors_l15_eq {R : Type} (N : Nat) (k : Exit → St → Option R) (n : Nat) : ∀ (v0 : Arr Int) (v1 : Int) (v2 : lLe) (v3 : Bool) (v4 : Arr Int), loopM E.Θ (lLe_tick_cal N) (lift_Doors_lp N) (noJn) 0 lift_Doors_L15 (bodyAt E 23 15) n (lift_Doors_h15 v0 v1 v2 v3 v4) k = lift_Doors_l15 N n v0 v1 v2 v3 v4 (fun q0 q1 => k (.exit 2) (lift_Doors_x15_2 q0 q1)) := by
  induction n with
  | zero => intro v0 v1 v2 v3 v4; rfl
  | succ n ih =>
    intro v0 v1 v2 v3 v4
    refine Eq.trans (b := lift_Doors_b15 N (fun v0 v1 v2 v3 v4 => loopM E.Θ (lLe_tick_cal N) (lift_Doors_lp N) (noJn) 0 lift_Doors_L15 (bodyAt E 23 15) n (lift_Doors_h15 v0 v1 v2 v3 v4) k) v0 v1 v2 v3 v4 (fun q0 q1 => k (.exit 2) (lift_Doors_x15_2 q0 q1))) (by kernel_rfl) ?_
    have h : (fun (v0 : Arr Int) (v1 : Int) (v2 : lLe) (v3 : Bool) (v4 : Arr Int) => loopM E.Θ (lLe_tick_cal N) (lift_Doors_lp N) (noJn) 0 lift_Doors_L15 (bodyAt E 23 15) n (lift_Doors_h15 v0 v1 v2 v3 v4) k) = (fun (v0 : Arr Int) (v1 : Int) (v2 : lLe) (v3 : Bool) (v4 : Arr Int) => lift_Doors_l15 N n v0 v1 v2 v3 v4 (fun q0 q1 => k (.exit 2) (lift_Doors_x15_2 q0 q1))) := funext fun v0 => funext fun v1 => funext fun v2 => funext fun v3 => funext fun v4 => ih v0 v1 v2 v3 v4
    rw [h]
    rfl
theorem lift_Doors_k15 {R : Type} (N : Nat) : LpKey (R := R) E 23 0 (lift_Doors_lp N) 15 :=
  lpKey_of hE (lLe_tick_cal_ok N) (lp := lift_Doors_lp N) (jn := noJn) lift_Doors_L15_ok [] kNil (by kernel_rfl) [] jNil (by kernel_rfl) N fun S k =>
    Eq.trans (b := lift_Doors_L15.head.raw 0 S (fun S0 => lift_Doors_d15 N S0 k)) (by kernel_rfl) (congrArg (lift_Doors_L15.head.raw 0 S) (funext fun S0 => Eq.trans (lift_Doors_l15_eq N k N (lstC intC (lget S0.tmps 1)) (toI (lget S0.tmps 11)) (Cod.dec lLeC (lget (entCs (entAt S0.tab 0)))) (entNl (entAt S0.tab 1)) (lst intC (entN (entAt S0.tab 1)) (entC (entAt S0.tab 1)))).symm (by kernel_rfl)))
theorem lift_Doors_k7 {R : Type} (N : Nat) : LpKey (R := R) E 23 0 (lift_Doors_lp N) 7 :=
  lpKey_of hE (lLe_tick_cal_ok N) (lp := lift_Doors_lp N) (jn := noJn) lift_Doors_L7_ok [] kNil (by kernel_rfl) [] jNil (by kernel_rfl) N fun S k =>
    Eq.trans (b := lift_Doors_L7.head.raw 0 S (fun S0 => lift_Doors_d7 N S0 k)) (by kernel_rfl) (congrArg (lift_Doors_L7.head.raw 0 S) (funext fun S0 => Eq.trans (lift_Doors_l7_eq N k N (lstC intC (lget S0.tmps 1)) (lstC intC (lget S0.tmps 20)) (toI (lget S0.tmps 21)) (toI (lget S0.tmps 22)) (Cod.dec pDoC (lget (entCs (entAt S0.tab 0))))).symm (by kernel_rfl)))
noncomputable def lift_Doors_go {R : Type} (N : Nat) (args : List SV) (T : Tab) (kf : SV × Tab → Option R) : Option R :=
  lift_Doors N (Cod.dec pDoC (lget (toCs (lget args 0)))) (lstC intC (lget args 1)) (fun q0 q1 q2 => kf (lget [.tup [.row 0, .int .i64 q0]] 0, [(0, rowE intC q1 q2)]))
noncomputable def lift_Doors_cal {R : Type} (N : Nat) : Cal R := callM (lLe_tick_cal N) 23 0 lift_Doors_sp (lift_Doors_go N)
theorem lift_Doors_cal_ok {R : Type} (N : Nat) : CalOk E.P (lift_Doors_cal (R := R) N) :=
  callM_ok hE (lLe_tick_cal_ok N) (lp := lift_Doors_lp N) (jn := noJn) (keys := [7, 15]) (kCons (lift_Doors_k7 N) (kCons (lift_Doors_k15 N) kNil)) (by kernel_rfl) (js := []) jNil (by kernel_rfl) lift_Doors_sp_ok lift_Doors_rs_ok (fun args T kf => Eq.trans (lift_Doors_def N (Cod.dec pDoC (lget (toCs (lget args 0)))) (lstC intC (lget args 1)) (fun q0 q1 q2 => kf (lget [.tup [.row 0, .int .i64 q0]] 0, [(0, rowE intC q1 q2)]))) (by kernel_rfl : lift_Doors_run N args T kf = fnM E (lLe_tick_cal N) (lift_Doors_lp N) (noJn) 23 (lift_Doors_sp.vs args) (lift_Doors_sp.tab T) 0 (resK lift_Doors_rs kf)))
def sT_within_m {R : Type} (N : Nat) (a222 : Int) (a223 : Int) (a224 : Int) (k : Bool → Option R) : Option R :=
 bif decide (a222 ≥ a223) then
 k (decide (a222 ≤ a224))
 else
 k false
noncomputable def sT_within {R : Type} : Nat → Int → Int → Int → (Bool → Option R) → Option R := lock (@sT_within_m R)
theorem sT_within_def {R : Type} (N : Nat) (a222 : Int) (a223 : Int) (a224 : Int) (k : Bool → Option R) : sT_within N a222 a223 a224 k = sT_within_m N a222 a223 a224 k := by unfold sT_within; rw [lock_eq]
def sT_within_sp : Sp := ⟨[rInt .i64, rInt .i64, rInt .i64], []⟩
theorem sT_within_sp_ok : sT_within_sp.Ok := ⟨(allCons (rInt_ok .i64) (allCons (rInt_ok .i64) (allCons (rInt_ok .i64) allNil))), eNil⟩
def sT_within_rs : Sp := ⟨[rBool], []⟩
theorem sT_within_rs_ok : sT_within_rs.Ok := ⟨(allCons rBool_ok allNil), eNil⟩
def sT_within_run {R : Type} (N : Nat) (args : List SV) (T : Tab) (kf : SV × Tab → Option R) : Option R :=
  sT_within_m N (toI (lget args 0)) (toI (lget args 1)) (toI (lget args 2)) (fun q0 => kf (lget [.bool q0] 0, []))
def sT_within_lp {R : Type} (N : Nat) : Lp R := fun body S k => Option.none
noncomputable def sT_within_go {R : Type} (N : Nat) (args : List SV) (T : Tab) (kf : SV × Tab → Option R) : Option R :=
  sT_within N (toI (lget args 0)) (toI (lget args 1)) (toI (lget args 2)) (fun q0 => kf (lget [.bool q0] 0, []))
noncomputable def sT_within_cal {R : Type} (N : Nat) : Cal R := callM (lift_Doors_cal N) 118 0 sT_within_sp (sT_within_go N)
theorem sT_within_cal_ok {R : Type} (N : Nat) : CalOk E.P (sT_within_cal (R := R) N) :=
  callM_ok hE (lift_Doors_cal_ok N) (lp := sT_within_lp N) (jn := noJn) (keys := []) kNil (by kernel_rfl) (js := []) jNil (by kernel_rfl) sT_within_sp_ok sT_within_rs_ok (fun args T kf => Eq.trans (sT_within_def N (toI (lget args 0)) (toI (lget args 1)) (toI (lget args 2)) (fun q0 => kf (lget [.bool q0] 0, []))) (by kernel_rfl : sT_within_run N args T kf = fnM E (lift_Doors_cal N) (sT_within_lp N) (noJn) 118 (sT_within_sp.vs args) (sT_within_sp.tab T) 0 (resK sT_within_rs kf)))
def slices_Grow___string_string__m {R : Type} (N : Nat) (a235 : Int) (k : Bool → Arr ByteArray → Option R) : Option R :=
 bif decide (a235 < (0 : Int)) then
 Option.none
 else
 bif decide (w64 (a235 - w64 ((↑(0 : Nat) : Int) - (↑(0 : Nat) : Int))) > (0 : Int)) then
 bif decide ((0 : Int) < w64 (a235 - w64 ((↑(0 : Nat) : Int) - (↑(0 : Nat) : Int)))) && decide (w64 (a235 - w64 ((↑(0 : Nat) : Int) - (↑(0 : Nat) : Int))) ≤ (1073741824 : Int)) then
 k false (lst strC (0 : Nat) (zeroC [SV.str (ByteArray.mk (Array.mk []))]))
 else
 Option.none
 else
 k true (lst strC (0 : Nat) fun (x x_1 : Nat) ↦ SV.undef)
noncomputable def slices_Grow___string_string_ {R : Type} : Nat → Int → (Bool → Arr ByteArray → Option R) → Option R := lock (@slices_Grow___string_string__m R)
theorem slices_Grow___string_string__def {R : Type} (N : Nat) (a235 : Int) (k : Bool → Arr ByteArray → Option R) : slices_Grow___string_string_ N a235 k = slices_Grow___string_string__m N a235 k := by unfold slices_Grow___string_string_; rw [lock_eq]
def slices_Grow___string_string__sp : Sp := ⟨[rNilS, rInt .i64], []⟩
theorem slices_Grow___string_string__sp_ok : slices_Grow___string_string__sp.Ok := ⟨(allCons rNilS_ok (allCons (rInt_ok .i64) allNil)), eNil⟩
def slices_Grow___string_string__rs : Sp := ⟨[rRow 0], [(0, eRow strC)]⟩
theorem slices_Grow___string_string__rs_ok : slices_Grow___string_string__rs.Ok := ⟨(allCons (rRow_ok 0) allNil), (eCons (eRow_ok strC_ok) eNil)⟩
def slices_Grow___string_string__run {R : Type} (N : Nat) (args : List SV) (T : Tab) (kf : SV × Tab → Option R) : Option R :=
  slices_Grow___string_string__m N (toI (lget args 1)) (fun q0 q1 => kf (lget [.row 0] 0, [(0, rowE strC q0 q1)]))
def slices_Grow___string_string__lp {R : Type} (N : Nat) : Lp R := fun body S k => Option.none
noncomputable def slices_Grow___string_string__go {R : Type} (N : Nat) (args : List SV) (T : Tab) (kf : SV × Tab → Option R) : Option R :=
  slices_Grow___string_string_ N (toI (lget args 1)) (fun q0 q1 => kf (lget [.row 0] 0, [(0, rowE strC q0 q1)]))
noncomputable def slices_Grow___string_string__cal {R : Type} (N : Nat) : Cal R := callM (sT_within_cal N) 165 0 slices_Grow___string_string__sp (slices_Grow___string_string__go N)
theorem slices_Grow___string_string__cal_ok {R : Type} (N : Nat) : CalOk E.P (slices_Grow___string_string__cal (R := R) N) :=
  callM_ok hE (sT_within_cal_ok N) (lp := slices_Grow___string_string__lp N) (jn := noJn) (keys := []) kNil (by kernel_rfl) (js := []) jNil (by kernel_rfl) slices_Grow___string_string__sp_ok slices_Grow___string_string__rs_ok (fun args T kf => Eq.trans (slices_Grow___string_string__def N (toI (lget args 1)) (fun q0 q1 => kf (lget [.row 0] 0, [(0, rowE strC q0 q1)]))) (by kernel_rfl : slices_Grow___string_string__run N args T kf = fnM E (sT_within_cal N) (slices_Grow___string_string__lp N) (noJn) 165 (slices_Grow___string_string__sp.vs args) (slices_Grow___string_string__sp.tab T) 0 (resK slices_Grow___string_string__rs kf)))
def slices_Concat___string_string__L3 : LoopSp := ⟨⟨[0, 3, 9, 10, 11], ⟨((rSl (lsC strC)) :: (dr 2 ((rInt .i64) :: (dr 5 ((rSl (lsC strC)) :: (rInt .i64) :: (rInt .i64) :: (dr 24 [])))))), []⟩, 0⟩, [(some 0, ⟨[0, 3], ⟨((rSl (lsC strC)) :: (dr 2 ((rInt .i64) :: (dr 32 [])))), []⟩, 0⟩)]⟩
theorem slices_Concat___string_string__L3_ok : slices_Concat___string_string__L3.Ok := ⟨⟨(allCons (rSl_ok (lsC_ok strC_ok)) (drCons 2 (allCons (rInt_ok .i64) (drCons 5 (allCons (rSl_ok (lsC_ok strC_ok)) (allCons (rInt_ok .i64) (allCons (rInt_ok .i64) (drCons 24 allNil)))))))), eNil⟩, (xCons ⟨(allCons (rSl_ok (lsC_ok strC_ok)) (drCons 2 (allCons (rInt_ok .i64) (drCons 32 allNil)))), eNil⟩ xNil)⟩
def slices_Concat___string_string__h3 (v229 : Arr (Arr ByteArray)) (v230 : Int) (v231 : Arr (Arr ByteArray)) (v232 : Int) (v233 : Int) : St := ⟨((slC (lsC strC) v229) :: (un 2 ((.int .i64 v230) :: (un 5 ((slC (lsC strC) v231) :: (.int .i64 v232) :: (.int .i64 v233) :: (un 24 [])))))), [], 0⟩
def slices_Concat___string_string__x3_0 (v229 : Arr (Arr ByteArray)) (q1 : Int) : St := ⟨((slC (lsC strC) v229) :: (un 2 ((.int .i64 q1) :: (un 32 [])))), [], 0⟩
def slices_Concat___string_string__b3 {R : Type} (N : Nat) (rc : Arr (Arr ByteArray) → Int → Arr (Arr ByteArray) → Int → Int → Option R) (v229 : Arr (Arr ByteArray)) (v230 : Int) (v231 : Arr (Arr ByteArray)) (v232 : Int) (v233 : Int) (k0 : Int → Option R) : Option R :=
 bif decide (v233 < v232) then
 bif decide ((0 : Int) ≤ v233) && decide (v233 < (↑(Arr.n v231) : Int)) then
 bif decide (w64 (v230 + (↑(Arr.n (Arr.f v231 (Int.toNat v233))) : Int)) < (0 : Int)) then
 Option.none
 else
 rc v229 (w64 (v230 + (↑(Arr.n (Arr.f v231 (Int.toNat v233))) : Int))) v231 v232 (w64 (v233 + (1 : Int)))
 else
 Option.none
 else
 k0 v230
def slices_Concat___string_string__l3 {R : Type} (N : Nat) : Nat → Arr (Arr ByteArray) → Int → Arr (Arr ByteArray) → Int → Int → (Int → Option R) → Option R
  | 0, _, _, _, _, _, _ => Option.none
  | n + 1, v229, v230, v231, v232, v233, k0 => slices_Concat___string_string__b3 N (fun v229 v230 v231 v232 v233 => slices_Concat___string_string__l3 N n v229 v230 v231 v232 v233 k0) v229 v230 v231 v232 v233 k0
def slices_Concat___string_string__L11 : LoopSp := ⟨⟨[6, 25, 26, 27], ⟨(dr 6 ((rRow 0) :: (dr 18 ((rSl (lsC strC)) :: (rInt .i64) :: (rInt .i64) :: (dr 8 []))))), [(0, eRow strC)]⟩, 1⟩, [(some 2, ⟨[6], ⟨(dr 6 ((rRow 0) :: (dr 29 []))), [(0, eRow strC)]⟩, 1⟩)]⟩
theorem slices_Concat___string_string__L11_ok : slices_Concat___string_string__L11.Ok := ⟨⟨(drCons 6 (allCons (rRow_ok 0) (drCons 18 (allCons (rSl_ok (lsC_ok strC_ok)) (allCons (rInt_ok .i64) (allCons (rInt_ok .i64) (drCons 8 allNil))))))), (eCons (eRow_ok strC_ok) eNil)⟩, (xCons ⟨(drCons 6 (allCons (rRow_ok 0) (drCons 29 allNil))), (eCons (eRow_ok strC_ok) eNil)⟩ xNil)⟩
def slices_Concat___string_string__h11 (v238 : Arr (Arr ByteArray)) (v239 : Int) (v240 : Int) (v241 : Bool) (v242 : Arr ByteArray) : St := ⟨(un 6 ((.row 0) :: (un 18 ((slC (lsC strC) v238) :: (.int .i64 v239) :: (.int .i64 v240) :: (un 8 []))))), [(0, rowE strC v241 v242)], 1⟩
def slices_Concat___string_string__x11_2 (q0 : Bool) (q1 : Arr ByteArray) : St := ⟨(un 6 ((.row 0) :: (un 29 []))), [(0, rowE strC q0 q1)], 1⟩
def slices_Concat___string_string__b11 {R : Type} (N : Nat) (rc : Arr (Arr ByteArray) → Int → Int → Bool → Arr ByteArray → Option R) (v238 : Arr (Arr ByteArray)) (v239 : Int) (v240 : Int) (v241 : Bool) (v242 : Arr ByteArray) (k2 : Bool → Arr ByteArray → Option R) : Option R :=
 bif decide (v240 < v239) then
 bif decide ((0 : Int) ≤ v240) && decide (v240 < (↑(Arr.n v238) : Int)) then
 bif room (Arr.n v242 + Arr.n (Arr.f v238 (Int.toNat v240))) then
 rc v238 v239 (w64 (v240 + (1 : Int))) (bif Arr.n (Arr.f v238 (Int.toNat v240)) == (0 : Nat) then v241 else false) (lst strC (Arr.n v242 + Arr.n (Arr.f v238 (Int.toNat v240))) (catC (Arr.n v242) (Cod.cell strC (Arr.f v242)) (Cod.cell strC (Arr.f (Arr.f v238 (Int.toNat v240))))))
 else
 Option.none
 else
 Option.none
 else
 k2 v241 v242
def slices_Concat___string_string__l11 {R : Type} (N : Nat) : Nat → Arr (Arr ByteArray) → Int → Int → Bool → Arr ByteArray → (Bool → Arr ByteArray → Option R) → Option R
  | 0, _, _, _, _, _, _ => Option.none
  | n + 1, v238, v239, v240, v241, v242, k2 => slices_Concat___string_string__b11 N (fun v238 v239 v240 v241 v242 => slices_Concat___string_string__l11 N n v238 v239 v240 v241 v242 k2) v238 v239 v240 v241 v242 k2
def slices_Concat___string_string__m {R : Type} (N : Nat) (a228 : Arr (Arr ByteArray)) (k : Bool → Arr ByteArray → Option R) : Option R :=
 slices_Concat___string_string__l3 N N a228 (0 : Int) a228 ((↑(Arr.n a228) : Int)) (0 : Int) (fun r234 =>
 slices_Grow___string_string_ N r234 (fun r236 r237 =>
 slices_Concat___string_string__l11 N N a228 ((↑(Arr.n a228) : Int)) (0 : Int) r236 r237 (fun r243 r244 =>
 k r243 r244)))
noncomputable def slices_Concat___string_string_ {R : Type} : Nat → Arr (Arr ByteArray) → (Bool → Arr ByteArray → Option R) → Option R := lock (@slices_Concat___string_string__m R)
theorem slices_Concat___string_string__def {R : Type} (N : Nat) (a228 : Arr (Arr ByteArray)) (k : Bool → Arr ByteArray → Option R) : slices_Concat___string_string_ N a228 k = slices_Concat___string_string__m N a228 k := by unfold slices_Concat___string_string_; rw [lock_eq]
def slices_Concat___string_string__sp : Sp := ⟨[rSl (lsC strC)], []⟩
theorem slices_Concat___string_string__sp_ok : slices_Concat___string_string__sp.Ok := ⟨(allCons (rSl_ok (lsC_ok strC_ok)) allNil), eNil⟩
def slices_Concat___string_string__rs : Sp := ⟨[rRow 0], [(0, eRow strC)]⟩
theorem slices_Concat___string_string__rs_ok : slices_Concat___string_string__rs.Ok := ⟨(allCons (rRow_ok 0) allNil), (eCons (eRow_ok strC_ok) eNil)⟩
def slices_Concat___string_string__run {R : Type} (N : Nat) (args : List SV) (T : Tab) (kf : SV × Tab → Option R) : Option R :=
  slices_Concat___string_string__m N (lstC (lsC strC) (lget args 0)) (fun q0 q1 => kf (lget [.row 0] 0, [(0, rowE strC q0 q1)]))
def slices_Concat___string_string__d11 {R : Type} (N : Nat) (S0 : St) (k : Exit → St → Option R) : Option R :=
  slices_Concat___string_string__l11 N N (lstC (lsC strC) (lget S0.tmps 25)) (toI (lget S0.tmps 26)) (toI (lget S0.tmps 27)) (entNl (entAt S0.tab 0)) (lst strC (entN (entAt S0.tab 0)) (entC (entAt S0.tab 0))) (fun q0 q1 => k (.exit 2) (slices_Concat___string_string__x11_2 q0 q1))
def slices_Concat___string_string__d3 {R : Type} (N : Nat) (S0 : St) (k : Exit → St → Option R) : Option R :=
  slices_Concat___string_string__l3 N N (lstC (lsC strC) (lget S0.tmps 0)) (toI (lget S0.tmps 3)) (lstC (lsC strC) (lget S0.tmps 9)) (toI (lget S0.tmps 10)) (toI (lget S0.tmps 11)) (fun q1 => k (.exit 0) (slices_Concat___string_string__x3_0 (lstC (lsC strC) (lget S0.tmps 0)) q1))
def slices_Concat___string_string__lp {R : Type} (N : Nat) : Lp R := fun body S k => bif (Go.Sx.keyOf body).getD 0 == 3 then (slices_Concat___string_string__L3.head.raw 0 S (fun S0 => slices_Concat___string_string__d3 N S0 k)) else bif (Go.Sx.keyOf body).getD 0 == 11 then (slices_Concat___string_string__L11.head.raw 0 S (fun S0 => slices_Concat___string_string__d11 N S0 k)) else Option.none
theorem slices_Concat___string_string__l3_eq {R : Type} (N : Nat) (k : Exit → St → Option R) (n : Nat) : ∀ (v0 : Arr (Arr ByteArray)) (v1 : Int) (v2 : Arr (Arr ByteArray)) (v3 : Int) (v4 : Int), loopM E.Θ (slices_Grow___string_string__cal N) (slices_Concat___string_string__lp N) (noJn) 0 slices_Concat___string_string__L3 (bodyAt E 164 3) n (slices_Concat___string_string__h3 v0 v1 v2 v3 v4) k = slices_Concat___string_string__l3 N n v0 v1 v2 v3 v4 (fun q1 => k (.exit 0) (slices_Concat___string_string__x3_0 v0 q1)) := by
  induction n with
  | zero => intro v0 v1 v2 v3 v4; rfl
  | succ n ih =>
    intro v0 v1 v2 v3 v4
    refine Eq.trans (b := slices_Concat___string_string__b3 N (fun v0 v1 v2 v3 v4 => loopM E.Θ (slices_Grow___string_string__cal N) (slices_Concat___string_string__lp N) (noJn) 0 slices_Concat___string_string__L3 (bodyAt E 164 3) n (slices_Concat___string_string__h3 v0 v1 v2 v3 v4) k) v0 v1 v2 v3 v4 (fun q1 => k (.exit 0) (slices_Concat___string_string__x3_0 v0 q1))) (by kernel_rfl) ?_
    have h : (fun (v0 : Arr (Arr ByteArray)) (v1 : Int) (v2 : Arr (Arr ByteArray)) (v3 : Int) (v4 : Int) => loopM E.Θ (slices_Grow___string_string__cal N) (slices_Concat___string_string__lp N) (noJn) 0 slices_Concat___string_string__L3 (bodyAt E 164 3) n (slices_Concat___string_string__h3 v0 v1 v2 v3 v4) k) = (fun (v0 : Arr (Arr ByteArray)) (v1 : Int) (v2 : Arr (Arr ByteArray)) (v3 : Int) (v4 : Int) => slices_Concat___string_string__l3 N n v0 v1 v2 v3 v4 (fun q1 => k (.exit 0) (slices_Concat___string_string__x3_0 v0 q1))) := funext fun v0 => funext fun v1 => funext fun v2 => funext fun v3 => funext fun v4 => ih v0 v1 v2 v3 v4
    rw [h]
    rfl
theorem slices_Concat___string_string__l11_eq {R : Type} (N : Nat) (k : Exit → St → Option R) (n : Nat) : ∀ (v0 : Arr (Arr ByteArray)) (v1 : Int) (v2 : Int) (v3 : Bool) (v4 : Arr ByteArray), loopM E.Θ (slices_Grow___string_string__cal N) (slices_Concat___string_string__lp N) (noJn) 0 slices_Concat___string_string__L11 (bodyAt E 164 11) n (slices_Concat___string_string__h11 v0 v1 v2 v3 v4) k = slices_Concat___string_string__l11 N n v0 v1 v2 v3 v4 (fun q0 q1 => k (.exit 2) (slices_Concat___string_string__x11_2 q0 q1)) := by
  induction n with
  | zero => intro v0 v1 v2 v3 v4; rfl
  | succ n ih =>
    intro v0 v1 v2 v3 v4
    refine Eq.trans (b := slices_Concat___string_string__b11 N (fun v0 v1 v2 v3 v4 => loopM E.Θ (slices_Grow___string_string__cal N) (slices_Concat___string_string__lp N) (noJn) 0 slices_Concat___string_string__L11 (bodyAt E 164 11) n (slices_Concat___string_string__h11 v0 v1 v2 v3 v4) k) v0 v1 v2 v3 v4 (fun q0 q1 => k (.exit 2) (slices_Concat___string_string__x11_2 q0 q1))) (by kernel_rfl) ?_
    have h : (fun (v0 : Arr (Arr ByteArray)) (v1 : Int) (v2 : Int) (v3 : Bool) (v4 : Arr ByteArray) => loopM E.Θ (slices_Grow___string_string__cal N) (slices_Concat___string_string__lp N) (noJn) 0 slices_Concat___string_string__L11 (bodyAt E 164 11) n (slices_Concat___string_string__h11 v0 v1 v2 v3 v4) k) = (fun (v0 : Arr (Arr ByteArray)) (v1 : Int) (v2 : Int) (v3 : Bool) (v4 : Arr ByteArray) => slices_Concat___string_string__l11 N n v0 v1 v2 v3 v4 (fun q0 q1 => k (.exit 2) (slices_Concat___string_string__x11_2 q0 q1))) := funext fun v0 => funext fun v1 => funext fun v2 => funext fun v3 => funext fun v4 => ih v0 v1 v2 v3 v4
    rw [h]
    rfl
theorem slices_Concat___string_string__k11 {R : Type} (N : Nat) : LpKey (R := R) E 164 0 (slices_Concat___string_string__lp N) 11 :=
  lpKey_of hE (slices_Grow___string_string__cal_ok N) (lp := slices_Concat___string_string__lp N) (jn := noJn) slices_Concat___string_string__L11_ok [] kNil (by kernel_rfl) [] jNil (by kernel_rfl) N fun S k =>
    Eq.trans (b := slices_Concat___string_string__L11.head.raw 0 S (fun S0 => slices_Concat___string_string__d11 N S0 k)) (by kernel_rfl) (congrArg (slices_Concat___string_string__L11.head.raw 0 S) (funext fun S0 => Eq.trans (slices_Concat___string_string__l11_eq N k N (lstC (lsC strC) (lget S0.tmps 25)) (toI (lget S0.tmps 26)) (toI (lget S0.tmps 27)) (entNl (entAt S0.tab 0)) (lst strC (entN (entAt S0.tab 0)) (entC (entAt S0.tab 0)))).symm (by kernel_rfl)))
theorem slices_Concat___string_string__k3 {R : Type} (N : Nat) : LpKey (R := R) E 164 0 (slices_Concat___string_string__lp N) 3 :=
  lpKey_of hE (slices_Grow___string_string__cal_ok N) (lp := slices_Concat___string_string__lp N) (jn := noJn) slices_Concat___string_string__L3_ok [] kNil (by kernel_rfl) [] jNil (by kernel_rfl) N fun S k =>
    Eq.trans (b := slices_Concat___string_string__L3.head.raw 0 S (fun S0 => slices_Concat___string_string__d3 N S0 k)) (by kernel_rfl) (congrArg (slices_Concat___string_string__L3.head.raw 0 S) (funext fun S0 => Eq.trans (slices_Concat___string_string__l3_eq N k N (lstC (lsC strC) (lget S0.tmps 0)) (toI (lget S0.tmps 3)) (lstC (lsC strC) (lget S0.tmps 9)) (toI (lget S0.tmps 10)) (toI (lget S0.tmps 11))).symm (by kernel_rfl)))
noncomputable def slices_Concat___string_string__go {R : Type} (N : Nat) (args : List SV) (T : Tab) (kf : SV × Tab → Option R) : Option R :=
  slices_Concat___string_string_ N (lstC (lsC strC) (lget args 0)) (fun q0 q1 => kf (lget [.row 0] 0, [(0, rowE strC q0 q1)]))
noncomputable def slices_Concat___string_string__cal {R : Type} (N : Nat) : Cal R := callM (slices_Grow___string_string__cal N) 164 0 slices_Concat___string_string__sp (slices_Concat___string_string__go N)
theorem slices_Concat___string_string__cal_ok {R : Type} (N : Nat) : CalOk E.P (slices_Concat___string_string__cal (R := R) N) :=
  callM_ok hE (slices_Grow___string_string__cal_ok N) (lp := slices_Concat___string_string__lp N) (jn := noJn) (keys := [3, 11]) (kCons (slices_Concat___string_string__k3 N) (kCons (slices_Concat___string_string__k11 N) kNil)) (by kernel_rfl) (js := []) jNil (by kernel_rfl) slices_Concat___string_string__sp_ok slices_Concat___string_string__rs_ok (fun args T kf => Eq.trans (slices_Concat___string_string__def N (lstC (lsC strC) (lget args 0)) (fun q0 q1 => kf (lget [.row 0] 0, [(0, rowE strC q0 q1)]))) (by kernel_rfl : slices_Concat___string_string__run N args T kf = fnM E (slices_Grow___string_string__cal N) (slices_Concat___string_string__lp N) (noJn) 164 (slices_Concat___string_string__sp.vs args) (slices_Concat___string_string__sp.tab T) 0 (resK slices_Concat___string_string__rs kf)))
def sT_names_L3 : LoopSp := ⟨⟨[1, 3, 15, 16, 17], ⟨(dr 1 ((rPtr 0 0) :: (dr 1 ((rRow 1) :: (dr 11 ((rSl pCoC) :: (rInt .i64) :: (rInt .i64) :: (dr 23 []))))))), [(0, eBlkC pMaC), (1, eRow strC)]⟩, 2⟩, [(some 0, ⟨[1, 3], ⟨(dr 1 ((rPtr 0 0) :: (dr 1 ((rRow 1) :: (dr 37 []))))), [(0, eBlkC pMaC), (1, eRow strC)]⟩, 2⟩)]⟩
theorem sT_names_L3_ok : sT_names_L3.Ok := ⟨⟨(drCons 1 (allCons (rPtr_ok 0 0) (drCons 1 (allCons (rRow_ok 1) (drCons 11 (allCons (rSl_ok pCoC_ok) (allCons (rInt_ok .i64) (allCons (rInt_ok .i64) (drCons 23 allNil))))))))), (eCons (eBlkC_ok pMaC_ok pMaC_len) (eCons (eRow_ok strC_ok) eNil))⟩, (xCons ⟨(drCons 1 (allCons (rPtr_ok 0 0) (drCons 1 (allCons (rRow_ok 1) (drCons 37 allNil))))), (eCons (eBlkC_ok pMaC_ok pMaC_len) (eCons (eRow_ok strC_ok) eNil))⟩ xNil)⟩
def sT_names_h3 (v247 : Arr pCo) (v248 : Int) (v249 : Int) (v250 : pMa) (v251 : Bool) (v252 : Arr ByteArray) : St := ⟨(un 1 ((.ptr 0 0) :: (un 1 ((.row 1) :: (un 11 ((slC pCoC v247) :: (.int .i64 v248) :: (.int .i64 v249) :: (un 23 []))))))), [(0, .blk (Cod.enc pMaC v250)), (1, rowE strC v251 v252)], 2⟩
def sT_names_x3_0 (v250 : pMa) (q1 : Bool) (q2 : Arr ByteArray) : St := ⟨(un 1 ((.ptr 0 0) :: (un 1 ((.row 1) :: (un 37 []))))), [(0, .blk (Cod.enc pMaC v250)), (1, rowE strC q1 q2)], 2⟩
def sT_names_b3 {R : Type} (N : Nat) (rc : Arr pCo → Int → Int → pMa → Bool → Arr ByteArray → Option R) (v247 : Arr pCo) (v248 : Int) (v249 : Int) (v250 : pMa) (v251 : Bool) (v252 : Arr ByteArray) (k0 : Bool → Arr ByteArray → Option R) : Option R :=
 bif decide (v249 < v248) then
 bif decide ((0 : Int) ≤ v249) && decide (v249 < (↑(Arr.n v247) : Int)) then
 bif room (Arr.n v252 + (1 : Nat)) then
 rc v247 v248 (w64 (v249 + (1 : Int))) v250 false (lst strC (Arr.n v252 + (1 : Nat)) (catC (Arr.n v252) (Cod.cell strC (Arr.f v252)) (litC [SV.str (ByteArray.mk (Array.mk []))] [[SV.str (pCo.Name (Arr.f v247 (Int.toNat v249)))]])))
 else
 Option.none
 else
 Option.none
 else
 k0 v251 v252
def sT_names_l3 {R : Type} (N : Nat) : Nat → Arr pCo → Int → Int → pMa → Bool → Arr ByteArray → (Bool → Arr ByteArray → Option R) → Option R
  | 0, _, _, _, _, _, _, _ => Option.none
  | n + 1, v247, v248, v249, v250, v251, v252, k0 => sT_names_b3 N (fun v247 v248 v249 v250 v251 v252 => sT_names_l3 N n v247 v248 v249 v250 v251 v252 k0) v247 v248 v249 v250 v251 v252 k0
def sT_names_L8 : LoopSp := ⟨⟨[3, 28, 29, 30], ⟨(dr 3 ((rRow 0) :: (dr 24 ((rSl pStC) :: (rInt .i64) :: (rInt .i64) :: (dr 10 []))))), [(0, eRow strC)]⟩, 1⟩, [(some 2, ⟨[3], ⟨(dr 3 ((rRow 0) :: (dr 37 []))), [(0, eRow strC)]⟩, 1⟩)]⟩
theorem sT_names_L8_ok : sT_names_L8.Ok := ⟨⟨(drCons 3 (allCons (rRow_ok 0) (drCons 24 (allCons (rSl_ok pStC_ok) (allCons (rInt_ok .i64) (allCons (rInt_ok .i64) (drCons 10 allNil))))))), (eCons (eRow_ok strC_ok) eNil)⟩, (xCons ⟨(drCons 3 (allCons (rRow_ok 0) (drCons 37 allNil))), (eCons (eRow_ok strC_ok) eNil)⟩ xNil)⟩
def sT_names_h8 (v255 : Arr pSt) (v256 : Int) (v257 : Int) (v258 : Bool) (v259 : Arr ByteArray) : St := ⟨(un 3 ((.row 0) :: (un 24 ((slC pStC v255) :: (.int .i64 v256) :: (.int .i64 v257) :: (un 10 []))))), [(0, rowE strC v258 v259)], 1⟩
def sT_names_x8_2 (q0 : Bool) (q1 : Arr ByteArray) : St := ⟨(un 3 ((.row 0) :: (un 37 []))), [(0, rowE strC q0 q1)], 1⟩
def sT_names_b8 {R : Type} (N : Nat) (rc : Arr pSt → Int → Int → Bool → Arr ByteArray → Option R) (v255 : Arr pSt) (v256 : Int) (v257 : Int) (v258 : Bool) (v259 : Arr ByteArray) (k2 : Bool → Arr ByteArray → Option R) : Option R :=
 bif decide (v257 < v256) then
 bif decide ((0 : Int) ≤ v257) && decide (v257 < (↑(Arr.n v255) : Int)) then
 bif room (Arr.n v259 + (1 : Nat)) then
 rc v255 v256 (w64 (v257 + (1 : Int))) false (lst strC (Arr.n v259 + (1 : Nat)) (catC (Arr.n v259) (Cod.cell strC (Arr.f v259)) (litC [SV.str (ByteArray.mk (Array.mk []))] [[SV.str (pSt.Name (Arr.f v255 (Int.toNat v257)))]])))
 else
 Option.none
 else
 Option.none
 else
 k2 v258 v259
def sT_names_l8 {R : Type} (N : Nat) : Nat → Arr pSt → Int → Int → Bool → Arr ByteArray → (Bool → Arr ByteArray → Option R) → Option R
  | 0, _, _, _, _, _, _ => Option.none
  | n + 1, v255, v256, v257, v258, v259, k2 => sT_names_b8 N (fun v255 v256 v257 v258 v259 => sT_names_l8 N n v255 v256 v257 v258 v259 k2) v255 v256 v257 v258 v259 k2
def sT_names_m {R : Type} (N : Nat) (a227 : pMa) (k : Bool → Arr ByteArray → Option R) : Option R :=
 slices_Concat___string_string_ N (lst (lsC strC) (2 : Nat) (litC [SV.sl SK.nil (CK.cons CK.str CK.nil) (1 : Nat) (0 : Nat) (zeroC [SV.str (ByteArray.mk (Array.mk []))])] [[slC strC (pMa.Inputs a227)], [slC strC (pMa.Outputs a227)]])) (fun r245 r246 =>
 sT_names_l3 N N (pMa.Counters a227) ((↑(Arr.n (pMa.Counters a227)) : Int)) (0 : Int) a227 r245 r246 (fun r253 r254 =>
 sT_names_l8 N N (pMa.States a227) ((↑(Arr.n (pMa.States a227)) : Int)) (0 : Int) r253 r254 (fun r260 r261 =>
 k r260 r261)))
noncomputable def sT_names {R : Type} : Nat → pMa → (Bool → Arr ByteArray → Option R) → Option R := lock (@sT_names_m R)
theorem sT_names_def {R : Type} (N : Nat) (a227 : pMa) (k : Bool → Arr ByteArray → Option R) : sT_names N a227 k = sT_names_m N a227 k := by unfold sT_names; rw [lock_eq]
def sT_names_sp : Sp := ⟨[rAgg pMaC], []⟩
theorem sT_names_sp_ok : sT_names_sp.Ok := ⟨(allCons (rAgg_ok pMaC_ok pMaC_len) allNil), eNil⟩
def sT_names_rs : Sp := ⟨[rRow 0], [(0, eRow strC)]⟩
theorem sT_names_rs_ok : sT_names_rs.Ok := ⟨(allCons (rRow_ok 0) allNil), (eCons (eRow_ok strC_ok) eNil)⟩
def sT_names_run {R : Type} (N : Nat) (args : List SV) (T : Tab) (kf : SV × Tab → Option R) : Option R :=
  sT_names_m N (Cod.dec pMaC (lget (toCs (lget args 0)))) (fun q0 q1 => kf (lget [.row 0] 0, [(0, rowE strC q0 q1)]))
def sT_names_d8 {R : Type} (N : Nat) (S0 : St) (k : Exit → St → Option R) : Option R :=
  sT_names_l8 N N (lstC pStC (lget S0.tmps 28)) (toI (lget S0.tmps 29)) (toI (lget S0.tmps 30)) (entNl (entAt S0.tab 0)) (lst strC (entN (entAt S0.tab 0)) (entC (entAt S0.tab 0))) (fun q0 q1 => k (.exit 2) (sT_names_x8_2 q0 q1))
def sT_names_d3 {R : Type} (N : Nat) (S0 : St) (k : Exit → St → Option R) : Option R :=
  sT_names_l3 N N (lstC pCoC (lget S0.tmps 15)) (toI (lget S0.tmps 16)) (toI (lget S0.tmps 17)) (Cod.dec pMaC (lget (entCs (entAt S0.tab 0)))) (entNl (entAt S0.tab 1)) (lst strC (entN (entAt S0.tab 1)) (entC (entAt S0.tab 1))) (fun q1 q2 => k (.exit 0) (sT_names_x3_0 (Cod.dec pMaC (lget (entCs (entAt S0.tab 0)))) q1 q2))
def sT_names_lp {R : Type} (N : Nat) : Lp R := fun body S k => bif (Go.Sx.keyOf body).getD 0 == 3 then (sT_names_L3.head.raw 0 S (fun S0 => sT_names_d3 N S0 k)) else bif (Go.Sx.keyOf body).getD 0 == 8 then (sT_names_L8.head.raw 0 S (fun S0 => sT_names_d8 N S0 k)) else Option.none
theorem sT_names_l3_eq {R : Type} (N : Nat) (k : Exit → St → Option R) (n : Nat) : ∀ (v0 : Arr pCo) (v1 : Int) (v2 : Int) (v3 : pMa) (v4 : Bool) (v5 : Arr ByteArray), loopM E.Θ (slices_Concat___string_string__cal N) (sT_names_lp N) (noJn) 0 sT_names_L3 (bodyAt E 157 3) n (sT_names_h3 v0 v1 v2 v3 v4 v5) k = sT_names_l3 N n v0 v1 v2 v3 v4 v5 (fun q1 q2 => k (.exit 0) (sT_names_x3_0 v3 q1 q2)) := by
  induction n with
  | zero => intro v0 v1 v2 v3 v4 v5; rfl
  | succ n ih =>
    intro v0 v1 v2 v3 v4 v5
    refine Eq.trans (b := sT_names_b3 N (fun v0 v1 v2 v3 v4 v5 => loopM E.Θ (slices_Concat___string_string__cal N) (sT_names_lp N) (noJn) 0 sT_names_L3 (bodyAt E 157 3) n (sT_names_h3 v0 v1 v2 v3 v4 v5) k) v0 v1 v2 v3 v4 v5 (fun q1 q2 => k (.exit 0) (sT_names_x3_0 v3 q1 q2))) (by kernel_rfl) ?_
    have h : (fun (v0 : Arr pCo) (v1 : Int) (v2 : Int) (v3 : pMa) (v4 : Bool) (v5 : Arr ByteArray) => loopM E.Θ (slices_Concat___string_string__cal N) (sT_names_lp N) (noJn) 0 sT_names_L3 (bodyAt E 157 3) n (sT_names_h3 v0 v1 v2 v3 v4 v5) k) = (fun (v0 : Arr pCo) (v1 : Int) (v2 : Int) (v3 : pMa) (v4 : Bool) (v5 : Arr ByteArray) => sT_names_l3 N n v0 v1 v2 v3 v4 v5 (fun q1 q2 => k (.exit 0) (sT_names_x3_0 v3 q1 q2))) := funext fun v0 => funext fun v1 => funext fun v2 => funext fun v3 => funext fun v4 => funext fun v5 => ih v0 v1 v2 v3 v4 v5
    rw [h]
    rfl
theorem sT_names_l8_eq {R : Type} (N : Nat) (k : Exit → St → Option R) (n : Nat) : ∀ (v0 : Arr pSt) (v1 : Int) (v2 : Int) (v3 : Bool) (v4 : Arr ByteArray), loopM E.Θ (slices_Concat___string_string__cal N) (sT_names_lp N) (noJn) 0 sT_names_L8 (bodyAt E 157 8) n (sT_names_h8 v0 v1 v2 v3 v4) k = sT_names_l8 N n v0 v1 v2 v3 v4 (fun q0 q1 => k (.exit 2) (sT_names_x8_2 q0 q1)) := by
  induction n with
  | zero => intro v0 v1 v2 v3 v4; rfl
  | succ n ih =>
    intro v0 v1 v2 v3 v4
    refine Eq.trans (b := sT_names_b8 N (fun v0 v1 v2 v3 v4 => loopM E.Θ (slices_Concat___string_string__cal N) (sT_names_lp N) (noJn) 0 sT_names_L8 (bodyAt E 157 8) n (sT_names_h8 v0 v1 v2 v3 v4) k) v0 v1 v2 v3 v4 (fun q0 q1 => k (.exit 2) (sT_names_x8_2 q0 q1))) (by kernel_rfl) ?_
    have h : (fun (v0 : Arr pSt) (v1 : Int) (v2 : Int) (v3 : Bool) (v4 : Arr ByteArray) => loopM E.Θ (slices_Concat___string_string__cal N) (sT_names_lp N) (noJn) 0 sT_names_L8 (bodyAt E 157 8) n (sT_names_h8 v0 v1 v2 v3 v4) k) = (fun (v0 : Arr pSt) (v1 : Int) (v2 : Int) (v3 : Bool) (v4 : Arr ByteArray) => sT_names_l8 N n v0 v1 v2 v3 v4 (fun q0 q1 => k (.exit 2) (sT_names_x8_2 q0 q1))) := funext fun v0 => funext fun v1 => funext fun v2 => funext fun v3 => funext fun v4 => ih v0 v1 v2 v3 v4
    rw [h]
    rfl
theorem sT_names_k8 {R : Type} (N : Nat) : LpKey (R := R) E 157 0 (sT_names_lp N) 8 :=
  lpKey_of hE (slices_Concat___string_string__cal_ok N) (lp := sT_names_lp N) (jn := noJn) sT_names_L8_ok [] kNil (by kernel_rfl) [] jNil (by kernel_rfl) N fun S k =>
    Eq.trans (b := sT_names_L8.head.raw 0 S (fun S0 => sT_names_d8 N S0 k)) (by kernel_rfl) (congrArg (sT_names_L8.head.raw 0 S) (funext fun S0 => Eq.trans (sT_names_l8_eq N k N (lstC pStC (lget S0.tmps 28)) (toI (lget S0.tmps 29)) (toI (lget S0.tmps 30)) (entNl (entAt S0.tab 0)) (lst strC (entN (entAt S0.tab 0)) (entC (entAt S0.tab 0)))).symm (by kernel_rfl)))
theorem sT_names_k3 {R : Type} (N : Nat) : LpKey (R := R) E 157 0 (sT_names_lp N) 3 :=
  lpKey_of hE (slices_Concat___string_string__cal_ok N) (lp := sT_names_lp N) (jn := noJn) sT_names_L3_ok [] kNil (by kernel_rfl) [] jNil (by kernel_rfl) N fun S k =>
    Eq.trans (b := sT_names_L3.head.raw 0 S (fun S0 => sT_names_d3 N S0 k)) (by kernel_rfl) (congrArg (sT_names_L3.head.raw 0 S) (funext fun S0 => Eq.trans (sT_names_l3_eq N k N (lstC pCoC (lget S0.tmps 15)) (toI (lget S0.tmps 16)) (toI (lget S0.tmps 17)) (Cod.dec pMaC (lget (entCs (entAt S0.tab 0)))) (entNl (entAt S0.tab 1)) (lst strC (entN (entAt S0.tab 1)) (entC (entAt S0.tab 1)))).symm (by kernel_rfl)))
noncomputable def sT_names_go {R : Type} (N : Nat) (args : List SV) (T : Tab) (kf : SV × Tab → Option R) : Option R :=
  sT_names N (Cod.dec pMaC (lget (toCs (lget args 0)))) (fun q0 q1 => kf (lget [.row 0] 0, [(0, rowE strC q0 q1)]))
noncomputable def sT_names_cal {R : Type} (N : Nat) : Cal R := callM (slices_Concat___string_string__cal N) 157 0 sT_names_sp (sT_names_go N)
theorem sT_names_cal_ok {R : Type} (N : Nat) : CalOk E.P (sT_names_cal (R := R) N) :=
  callM_ok hE (slices_Concat___string_string__cal_ok N) (lp := sT_names_lp N) (jn := noJn) (keys := [3, 8]) (kCons (sT_names_k3 N) (kCons (sT_names_k8 N) kNil)) (by kernel_rfl) (js := []) jNil (by kernel_rfl) sT_names_sp_ok sT_names_rs_ok (fun args T kf => Eq.trans (sT_names_def N (Cod.dec pMaC (lget (toCs (lget args 0)))) (fun q0 q1 => kf (lget [.row 0] 0, [(0, rowE strC q0 q1)]))) (by kernel_rfl : sT_names_run N args T kf = fnM E (slices_Concat___string_string__cal N) (sT_names_lp N) (noJn) 157 (sT_names_sp.vs args) (sT_names_sp.tab T) 0 (resK sT_names_rs kf)))
def sT_Plain_L2 : LoopSp := ⟨⟨[0, 6, 7, 8], ⟨((rStr) :: (dr 5 ((rSl (kC .u8)) :: (rInt .i64) :: (rInt .i64) :: (dr 12 [])))), []⟩, 0⟩, [(Option.none, ⟨[2], ⟨(dr 2 ((rBool) :: (dr 18 []))), []⟩, 0⟩), (some 0, ⟨[0], ⟨((rStr) :: (dr 20 [])), []⟩, 0⟩)]⟩
theorem sT_Plain_L2_ok : sT_Plain_L2.Ok := ⟨⟨(allCons rStr_ok (drCons 5 (allCons (rSl_ok (kC_ok .u8)) (allCons (rInt_ok .i64) (allCons (rInt_ok .i64) (drCons 12 allNil)))))), eNil⟩, (xCons ⟨(drCons 2 (allCons rBool_ok (drCons 18 allNil))), eNil⟩ (xCons ⟨(allCons rStr_ok (drCons 20 allNil)), eNil⟩ xNil))⟩
def sT_Plain_h2 (v270 : ByteArray) (v271 : Arr Int) (v272 : Int) (v273 : Int) : St := ⟨((.str v270) :: (un 5 ((slC (kC .u8) v271) :: (.int .i64 v272) :: (.int .i64 v273) :: (un 12 [])))), [], 0⟩
def sT_Plain_x2_r (q0 : Bool) : St := ⟨(un 2 ((.bool q0) :: (un 18 []))), [], 0⟩
def sT_Plain_x2_0 (v270 : ByteArray) : St := ⟨((.str v270) :: (un 20 [])), [], 0⟩
def sT_Plain_b2 {R : Type} (N : Nat) (rc : ByteArray → Arr Int → Int → Int → Option R) (v270 : ByteArray) (v271 : Arr Int) (v272 : Int) (v273 : Int) (kr : Bool → Option R) (k0 : Unit → Option R) : Option R :=
 bif decide (v273 < v272) then
 bif decide ((0 : Int) ≤ v273) && decide (v273 < (↑(Arr.n v271) : Int)) then
 bif decide (Arr.f v271 (Int.toNat v273) < (97 : Int)) then
 kr false
 else
 bif decide (Arr.f v271 (Int.toNat v273) > (122 : Int)) then
 kr false
 else
 rc v270 v271 v272 (w64 (v273 + (1 : Int)))
 else
 Option.none
 else
 k0 ()
def sT_Plain_l2 {R : Type} (N : Nat) : Nat → ByteArray → Arr Int → Int → Int → (Bool → Option R) → (Unit → Option R) → Option R
  | 0, _, _, _, _, _, _ => Option.none
  | n + 1, v270, v271, v272, v273, kr, k0 => sT_Plain_b2 N (fun v270 v271 v272 v273 => sT_Plain_l2 N n v270 v271 v272 v273 kr k0) v270 v271 v272 v273 kr k0
def sT_Plain_m {R : Type} (N : Nat) (a269 : ByteArray) (k : Bool → Option R) : Option R :=
 sT_Plain_l2 N N a269 (lst (kC IntKind.u8) (ByteArray.size a269) (byteC a269)) ((↑(ByteArray.size a269) : Int)) (0 : Int) (fun r274 =>
 k r274) (fun (_ : Unit) =>
 k (!ByteArray.toList a269 == ByteArray.toList (ByteArray.mk #[])))
noncomputable def sT_Plain {R : Type} : Nat → ByteArray → (Bool → Option R) → Option R := lock (@sT_Plain_m R)
theorem sT_Plain_def {R : Type} (N : Nat) (a269 : ByteArray) (k : Bool → Option R) : sT_Plain N a269 k = sT_Plain_m N a269 k := by unfold sT_Plain; rw [lock_eq]
def sT_Plain_sp : Sp := ⟨[rStr], []⟩
theorem sT_Plain_sp_ok : sT_Plain_sp.Ok := ⟨(allCons rStr_ok allNil), eNil⟩
def sT_Plain_rs : Sp := ⟨[rBool], []⟩
theorem sT_Plain_rs_ok : sT_Plain_rs.Ok := ⟨(allCons rBool_ok allNil), eNil⟩
def sT_Plain_run {R : Type} (N : Nat) (args : List SV) (T : Tab) (kf : SV × Tab → Option R) : Option R :=
  sT_Plain_m N (toS (lget args 0)) (fun q0 => kf (lget [.bool q0] 0, []))
def sT_Plain_d2 {R : Type} (N : Nat) (S0 : St) (k : Exit → St → Option R) : Option R :=
  sT_Plain_l2 N N (toS (lget S0.tmps 0)) (lstC (kC .u8) (lget S0.tmps 6)) (toI (lget S0.tmps 7)) (toI (lget S0.tmps 8)) (fun q0 => k .ret (sT_Plain_x2_r q0)) (fun (_ : Unit) => k (.exit 0) (sT_Plain_x2_0 (toS (lget S0.tmps 0))))
def sT_Plain_lp {R : Type} (N : Nat) : Lp R := fun body S k => bif (Go.Sx.keyOf body).getD 0 == 2 then (sT_Plain_L2.head.raw 0 S (fun S0 => sT_Plain_d2 N S0 k)) else Option.none
theorem sT_Plain_l2_eq {R : Type} (N : Nat) (k : Exit → St → Option R) (n : Nat) : ∀ (v0 : ByteArray) (v1 : Arr Int) (v2 : Int) (v3 : Int), loopM E.Θ (sT_names_cal N) (sT_Plain_lp N) (noJn) 0 sT_Plain_L2 (bodyAt E 158 2) n (sT_Plain_h2 v0 v1 v2 v3) k = sT_Plain_l2 N n v0 v1 v2 v3 (fun q0 => k .ret (sT_Plain_x2_r q0)) (fun (_ : Unit) => k (.exit 0) (sT_Plain_x2_0 v0)) := by
  induction n with
  | zero => intro v0 v1 v2 v3; rfl
  | succ n ih =>
    intro v0 v1 v2 v3
    refine Eq.trans (b := sT_Plain_b2 N (fun v0 v1 v2 v3 => loopM E.Θ (sT_names_cal N) (sT_Plain_lp N) (noJn) 0 sT_Plain_L2 (bodyAt E 158 2) n (sT_Plain_h2 v0 v1 v2 v3) k) v0 v1 v2 v3 (fun q0 => k .ret (sT_Plain_x2_r q0)) (fun (_ : Unit) => k (.exit 0) (sT_Plain_x2_0 v0))) (by kernel_rfl) ?_
    have h : (fun (v0 : ByteArray) (v1 : Arr Int) (v2 : Int) (v3 : Int) => loopM E.Θ (sT_names_cal N) (sT_Plain_lp N) (noJn) 0 sT_Plain_L2 (bodyAt E 158 2) n (sT_Plain_h2 v0 v1 v2 v3) k) = (fun (v0 : ByteArray) (v1 : Arr Int) (v2 : Int) (v3 : Int) => sT_Plain_l2 N n v0 v1 v2 v3 (fun q0 => k .ret (sT_Plain_x2_r q0)) (fun (_ : Unit) => k (.exit 0) (sT_Plain_x2_0 v0))) := funext fun v0 => funext fun v1 => funext fun v2 => funext fun v3 => ih v0 v1 v2 v3
    rw [h]
    rfl
theorem sT_Plain_k2 {R : Type} (N : Nat) : LpKey (R := R) E 158 0 (sT_Plain_lp N) 2 :=
  lpKey_of hE (sT_names_cal_ok N) (lp := sT_Plain_lp N) (jn := noJn) sT_Plain_L2_ok [] kNil (by kernel_rfl) [] jNil (by kernel_rfl) N fun S k =>
    Eq.trans (b := sT_Plain_L2.head.raw 0 S (fun S0 => sT_Plain_d2 N S0 k)) (by kernel_rfl) (congrArg (sT_Plain_L2.head.raw 0 S) (funext fun S0 => Eq.trans (sT_Plain_l2_eq N k N (toS (lget S0.tmps 0)) (lstC (kC .u8) (lget S0.tmps 6)) (toI (lget S0.tmps 7)) (toI (lget S0.tmps 8))).symm (by kernel_rfl)))
noncomputable def sT_Plain_go {R : Type} (N : Nat) (args : List SV) (T : Tab) (kf : SV × Tab → Option R) : Option R :=
  sT_Plain N (toS (lget args 0)) (fun q0 => kf (lget [.bool q0] 0, []))
noncomputable def sT_Plain_cal {R : Type} (N : Nat) : Cal R := callM (sT_names_cal N) 158 0 sT_Plain_sp (sT_Plain_go N)
theorem sT_Plain_cal_ok {R : Type} (N : Nat) : CalOk E.P (sT_Plain_cal (R := R) N) :=
  callM_ok hE (sT_names_cal_ok N) (lp := sT_Plain_lp N) (jn := noJn) (keys := [2]) (kCons (sT_Plain_k2 N) kNil) (by kernel_rfl) (js := []) jNil (by kernel_rfl) sT_Plain_sp_ok sT_Plain_rs_ok (fun args T kf => Eq.trans (sT_Plain_def N (toS (lget args 0)) (fun q0 => kf (lget [.bool q0] 0, []))) (by kernel_rfl : sT_Plain_run N args T kf = fnM E (sT_names_cal N) (sT_Plain_lp N) (noJn) 158 (sT_Plain_sp.vs args) (sT_Plain_sp.tab T) 0 (resK sT_Plain_rs kf)))
def sT_Reserved_m {R : Type} (N : Nat) (a276 : ByteArray) (k : Bool → Option R) : Option R :=
 bif ByteArray.toList a276 == ByteArray.toList (ByteArray.mk #[(97 : UInt8), (110 : UInt8), (121 : UInt8)]) then
 k true
 else
 bif ByteArray.toList a276 == ByteArray.toList (ByteArray.mk #[(116 : UInt8), (111 : UInt8)]) then
 k true
 else
 bif ByteArray.toList a276 == ByteArray.toList (ByteArray.mk #[(122 : UInt8), (101 : UInt8), (114 : UInt8), (111 : UInt8)]) then
 k true
 else
 bif ByteArray.toList a276 == ByteArray.toList (ByteArray.mk #[(109 : UInt8), (111 : UInt8), (114 : UInt8), (101 : UInt8)]) then
 k true
 else
 bif ByteArray.toList a276 == ByteArray.toList (ByteArray.mk #[(108 : UInt8), (101 : UInt8), (115 : UInt8), (115 : UInt8)]) then
 k true
 else
 bif ByteArray.toList a276 == ByteArray.toList (ByteArray.mk #[(105 : UInt8), (102 : UInt8)]) then
 k true
 else
 bif ByteArray.toList a276 == ByteArray.toList (ByteArray.mk #[(121 : UInt8), (101 : UInt8), (115 : UInt8)]) then
 k true
 else
 bif ByteArray.toList a276 == ByteArray.toList (ByteArray.mk #[(110 : UInt8), (111 : UInt8)]) then
 k true
 else
 k false
noncomputable def sT_Reserved {R : Type} : Nat → ByteArray → (Bool → Option R) → Option R := lock (@sT_Reserved_m R)
theorem sT_Reserved_def {R : Type} (N : Nat) (a276 : ByteArray) (k : Bool → Option R) : sT_Reserved N a276 k = sT_Reserved_m N a276 k := by unfold sT_Reserved; rw [lock_eq]
def sT_Reserved_sp : Sp := ⟨[rStr], []⟩
theorem sT_Reserved_sp_ok : sT_Reserved_sp.Ok := ⟨(allCons rStr_ok allNil), eNil⟩
def sT_Reserved_rs : Sp := ⟨[rBool], []⟩
theorem sT_Reserved_rs_ok : sT_Reserved_rs.Ok := ⟨(allCons rBool_ok allNil), eNil⟩
def sT_Reserved_run {R : Type} (N : Nat) (args : List SV) (T : Tab) (kf : SV × Tab → Option R) : Option R :=
  sT_Reserved_m N (toS (lget args 0)) (fun q0 => kf (lget [.bool q0] 0, []))
def sT_Reserved_lp {R : Type} (N : Nat) : Lp R := fun body S k => Option.none
noncomputable def sT_Reserved_go {R : Type} (N : Nat) (args : List SV) (T : Tab) (kf : SV × Tab → Option R) : Option R :=
  sT_Reserved N (toS (lget args 0)) (fun q0 => kf (lget [.bool q0] 0, []))
noncomputable def sT_Reserved_cal {R : Type} (N : Nat) : Cal R := callM (sT_Plain_cal N) 159 0 sT_Reserved_sp (sT_Reserved_go N)
theorem sT_Reserved_cal_ok {R : Type} (N : Nat) : CalOk E.P (sT_Reserved_cal (R := R) N) :=
  callM_ok hE (sT_Plain_cal_ok N) (lp := sT_Reserved_lp N) (jn := noJn) (keys := []) kNil (by kernel_rfl) (js := []) jNil (by kernel_rfl) sT_Reserved_sp_ok sT_Reserved_rs_ok (fun args T kf => Eq.trans (sT_Reserved_def N (toS (lget args 0)) (fun q0 => kf (lget [.bool q0] 0, []))) (by kernel_rfl : sT_Reserved_run N args T kf = fnM E (sT_Plain_cal N) (sT_Reserved_lp N) (noJn) 159 (sT_Reserved_sp.vs args) (sT_Reserved_sp.tab T) 0 (resK sT_Reserved_rs kf)))
def sT_named_L3 : LoopSp := ⟨⟨[3, 8, 9, 10], ⟨(dr 3 ((rRow 0) :: (dr 4 ((rRow 1) :: (rInt .i64) :: (rInt .i64) :: (dr 26 []))))), [(0, eMp false false strC intC), (1, eRow strC)]⟩, 2⟩, [(Option.none, ⟨[2], ⟨(dr 2 ((rBool) :: (dr 34 []))), []⟩, 0⟩), (some 0, ⟨[], ⟨(dr 37 []), []⟩, 0⟩)]⟩
theorem sT_named_L3_ok : sT_named_L3.Ok := ⟨⟨(drCons 3 (allCons (rRow_ok 0) (drCons 4 (allCons (rRow_ok 1) (allCons (rInt_ok .i64) (allCons (rInt_ok .i64) (drCons 26 allNil))))))), (eCons (eMp_ok strC_flat intC_flat) (eCons (eRow_ok strC_ok) eNil))⟩, (xCons ⟨(drCons 2 (allCons rBool_ok (drCons 34 allNil))), eNil⟩ (xCons ⟨(drCons 37 allNil), eNil⟩ xNil))⟩
def sT_named_h3 (v264 : Int) (v265 : Int) (v266 : Mp ByteArray Int) (v267 : Bool) (v268 : Arr ByteArray) : St := ⟨(un 3 ((.row 0) :: (un 4 ((.row 1) :: (.int .i64 v264) :: (.int .i64 v265) :: (un 26 []))))), [(0, mpE false false strC intC v266), (1, rowE strC v267 v268)], 2⟩
def sT_named_x3_r (q0 : Bool) : St := ⟨(un 2 ((.bool q0) :: (un 34 []))), [], 0⟩
def sT_named_x3_0  : St := ⟨(un 37 []), [], 0⟩
def sT_named_b3 {R : Type} (N : Nat) (rc : Int → Int → Mp ByteArray Int → Bool → Arr ByteArray → Option R) (v264 : Int) (v265 : Int) (v266 : Mp ByteArray Int) (v267 : Bool) (v268 : Arr ByteArray) (kr : Bool → Option R) (k0 : Unit → Option R) : Option R :=
 bif decide (v265 < v264) then
 bif decide ((0 : Int) ≤ v265) && decide (v265 < (↑(Arr.n v268) : Int)) then
 sT_Plain N (Arr.f v268 (Int.toNat v265)) (fun r275 =>
 bif !r275 then
 kr false
 else
 bif decide ((↑(ByteArray.size (Arr.f v268 (Int.toNat v265))) : Int) > (8 : Int)) then
 kr false
 else
 sT_Reserved N (Arr.f v268 (Int.toNat v265)) (fun r277 =>
 bif r277 then
 kr false
 else
 bif decide (toI (putG [SV.str (Arr.f v268 (Int.toNat v265))] [SV.int IntKind.i64 (w64 (Mp.get v266 (Arr.f v268 (Int.toNat v265)) + (1 : Int)))] (mpG strC intC v266) [SV.str (Arr.f v268 (Int.toNat v265))] (0 : Nat)) > (1 : Int)) then
 kr false
 else
 rc v264 (w64 (v265 + (1 : Int))) (mpD strC intC (putH [SV.str (Arr.f v268 (Int.toNat v265))] (mpH strC v266)) (putG [SV.str (Arr.f v268 (Int.toNat v265))] [SV.int IntKind.i64 (w64 (Mp.get v266 (Arr.f v268 (Int.toNat v265)) + (1 : Int)))] (mpG strC intC v266))) v267 v268))
 else
 Option.none
 else
 k0 ()
def sT_named_l3 {R : Type} (N : Nat) : Nat → Int → Int → Mp ByteArray Int → Bool → Arr ByteArray → (Bool → Option R) → (Unit → Option R) → Option R
  | 0, _, _, _, _, _, _, _ => Option.none
  | n + 1, v264, v265, v266, v267, v268, kr, k0 => sT_named_b3 N (fun v264 v265 v266 v267 v268 => sT_named_l3 N n v264 v265 v266 v267 v268 kr k0) v264 v265 v266 v267 v268 kr k0
def sT_named_m {R : Type} (N : Nat) (a226 : pMa) (k : Bool → Option R) : Option R :=
 sT_names N a226 (fun r262 r263 =>
 sT_named_l3 N N ((↑(Arr.n r263) : Int)) (0 : Int) (mpD strC intC noH (noG (CK.cons (CK.int IntKind.i64) CK.nil))) r262 r263 (fun r278 =>
 k r278) (fun (_ : Unit) =>
 k true))
noncomputable def sT_named {R : Type} : Nat → pMa → (Bool → Option R) → Option R := lock (@sT_named_m R)
theorem sT_named_def {R : Type} (N : Nat) (a226 : pMa) (k : Bool → Option R) : sT_named N a226 k = sT_named_m N a226 k := by unfold sT_named; rw [lock_eq]
def sT_named_sp : Sp := ⟨[rAgg pMaC], []⟩
theorem sT_named_sp_ok : sT_named_sp.Ok := ⟨(allCons (rAgg_ok pMaC_ok pMaC_len) allNil), eNil⟩
def sT_named_rs : Sp := ⟨[rBool], []⟩
theorem sT_named_rs_ok : sT_named_rs.Ok := ⟨(allCons rBool_ok allNil), eNil⟩
def sT_named_run {R : Type} (N : Nat) (args : List SV) (T : Tab) (kf : SV × Tab → Option R) : Option R :=
  sT_named_m N (Cod.dec pMaC (lget (toCs (lget args 0)))) (fun q0 => kf (lget [.bool q0] 0, []))
def sT_named_d3 {R : Type} (N : Nat) (S0 : St) (k : Exit → St → Option R) : Option R :=
  sT_named_l3 N N (toI (lget S0.tmps 9)) (toI (lget S0.tmps 10)) (mpD strC intC (entHs (entAt S0.tab 0)) (entGt (entAt S0.tab 0))) (entNl (entAt S0.tab 1)) (lst strC (entN (entAt S0.tab 1)) (entC (entAt S0.tab 1))) (fun q0 => k .ret (sT_named_x3_r q0)) (fun (_ : Unit) => k (.exit 0) (sT_named_x3_0 ))
def sT_named_lp {R : Type} (N : Nat) : Lp R := fun body S k => bif (Go.Sx.keyOf body).getD 0 == 3 then (sT_named_L3.head.raw 0 S (fun S0 => sT_named_d3 N S0 k)) else Option.none
theorem sT_named_l3_eq {R : Type} (N : Nat) (k : Exit → St → Option R) (n : Nat) : ∀ (v0 : Int) (v1 : Int) (v2 : Mp ByteArray Int) (v3 : Bool) (v4 : Arr ByteArray), loopM E.Θ (sT_Reserved_cal N) (sT_named_lp N) (noJn) 0 sT_named_L3 (bodyAt E 146 3) n (sT_named_h3 v0 v1 v2 v3 v4) k = sT_named_l3 N n v0 v1 v2 v3 v4 (fun q0 => k .ret (sT_named_x3_r q0)) (fun (_ : Unit) => k (.exit 0) (sT_named_x3_0 )) := by
  induction n with
  | zero => intro v0 v1 v2 v3 v4; rfl
  | succ n ih =>
    intro v0 v1 v2 v3 v4
    refine Eq.trans (b := sT_named_b3 N (fun v0 v1 v2 v3 v4 => loopM E.Θ (sT_Reserved_cal N) (sT_named_lp N) (noJn) 0 sT_named_L3 (bodyAt E 146 3) n (sT_named_h3 v0 v1 v2 v3 v4) k) v0 v1 v2 v3 v4 (fun q0 => k .ret (sT_named_x3_r q0)) (fun (_ : Unit) => k (.exit 0) (sT_named_x3_0 ))) (by kernel_rfl) ?_
    have h : (fun (v0 : Int) (v1 : Int) (v2 : Mp ByteArray Int) (v3 : Bool) (v4 : Arr ByteArray) => loopM E.Θ (sT_Reserved_cal N) (sT_named_lp N) (noJn) 0 sT_named_L3 (bodyAt E 146 3) n (sT_named_h3 v0 v1 v2 v3 v4) k) = (fun (v0 : Int) (v1 : Int) (v2 : Mp ByteArray Int) (v3 : Bool) (v4 : Arr ByteArray) => sT_named_l3 N n v0 v1 v2 v3 v4 (fun q0 => k .ret (sT_named_x3_r q0)) (fun (_ : Unit) => k (.exit 0) (sT_named_x3_0 ))) := funext fun v0 => funext fun v1 => funext fun v2 => funext fun v3 => funext fun v4 => ih v0 v1 v2 v3 v4
    rw [h]
    rfl
theorem sT_named_k3 {R : Type} (N : Nat) : LpKey (R := R) E 146 0 (sT_named_lp N) 3 :=
  lpKey_of hE (sT_Reserved_cal_ok N) (lp := sT_named_lp N) (jn := noJn) sT_named_L3_ok [] kNil (by kernel_rfl) [] jNil (by kernel_rfl) N fun S k =>
    Eq.trans (b := sT_named_L3.head.raw 0 S (fun S0 => sT_named_d3 N S0 k)) (by kernel_rfl) (congrArg (sT_named_L3.head.raw 0 S) (funext fun S0 => Eq.trans (sT_named_l3_eq N k N (toI (lget S0.tmps 9)) (toI (lget S0.tmps 10)) (mpD strC intC (entHs (entAt S0.tab 0)) (entGt (entAt S0.tab 0))) (entNl (entAt S0.tab 1)) (lst strC (entN (entAt S0.tab 1)) (entC (entAt S0.tab 1)))).symm (by kernel_rfl)))
noncomputable def sT_named_go {R : Type} (N : Nat) (args : List SV) (T : Tab) (kf : SV × Tab → Option R) : Option R :=
  sT_named N (Cod.dec pMaC (lget (toCs (lget args 0)))) (fun q0 => kf (lget [.bool q0] 0, []))
noncomputable def sT_named_cal {R : Type} (N : Nat) : Cal R := callM (sT_Reserved_cal N) 146 0 sT_named_sp (sT_named_go N)
theorem sT_named_cal_ok {R : Type} (N : Nat) : CalOk E.P (sT_named_cal (R := R) N) :=
  callM_ok hE (sT_Reserved_cal_ok N) (lp := sT_named_lp N) (jn := noJn) (keys := [3]) (kCons (sT_named_k3 N) kNil) (by kernel_rfl) (js := []) jNil (by kernel_rfl) sT_named_sp_ok sT_named_rs_ok (fun args T kf => Eq.trans (sT_named_def N (Cod.dec pMaC (lget (toCs (lget args 0)))) (fun q0 => kf (lget [.bool q0] 0, []))) (by kernel_rfl : sT_named_run N args T kf = fnM E (sT_Reserved_cal N) (sT_named_lp N) (noJn) 146 (sT_named_sp.vs args) (sT_named_sp.tab T) 0 (resK sT_named_rs kf)))
def sT_asks_m {R : Type} (N : Nat) (a314 : pMa) (a315 : pLi) (k : Bool → Option R) : Option R :=
 bif pLi.Kind a315 == (1 : Int) then
 sT_within N (pLi.Number a315) (0 : Int) (w64 ((↑(Arr.n (pMa.Inputs a314)) : Int) - (1 : Int))) (fun r316 =>
 bif r316 then
 k (pLi.Value a315 == (0 : Int))
 else
 k false)
 else
 bif pLi.Kind a315 == (2 : Int) then
 sT_within N (pLi.Number a315) (0 : Int) (w64 ((↑(Arr.n (pMa.Counters a314)) : Int) - (1 : Int))) (fun r317 =>
 bif r317 then
 bif decide ((0 : Int) ≤ pLi.Number a315) && decide (pLi.Number a315 < (↑(Arr.n (pMa.Counters a314)) : Int)) then
 sT_within N (pLi.Value a315) (0 : Int) (pCo.Max (Arr.f (pMa.Counters a314) (Int.toNat (pLi.Number a315)))) (fun r318 =>
 k r318)
 else
 Option.none
 else
 k false)
 else
 bif pLi.Kind a315 == (3 : Int) then
 sT_within N (pLi.Number a315) (0 : Int) (w64 ((↑(Arr.n (pMa.States a314)) : Int) - (1 : Int))) (fun r319 =>
 bif r319 then
 k (pLi.Value a315 == (0 : Int))
 else
 k false)
 else
 bif pLi.Kind a315 == (4 : Int) then
 sT_within N (pLi.Number a315) (0 : Int) (w64 ((↑(Arr.n (pMa.Outputs a314)) : Int) - (1 : Int))) (fun r320 =>
 bif r320 then
 k (pLi.Value a315 == (0 : Int))
 else
 k false)
 else
 k false
noncomputable def sT_asks {R : Type} : Nat → pMa → pLi → (Bool → Option R) → Option R := lock (@sT_asks_m R)
theorem sT_asks_def {R : Type} (N : Nat) (a314 : pMa) (a315 : pLi) (k : Bool → Option R) : sT_asks N a314 a315 k = sT_asks_m N a314 a315 k := by unfold sT_asks; rw [lock_eq]
def sT_asks_sp : Sp := ⟨[rAgg pMaC, rAgg pLiC], []⟩
theorem sT_asks_sp_ok : sT_asks_sp.Ok := ⟨(allCons (rAgg_ok pMaC_ok pMaC_len) (allCons (rAgg_ok pLiC_ok pLiC_len) allNil)), eNil⟩
def sT_asks_rs : Sp := ⟨[rBool], []⟩
theorem sT_asks_rs_ok : sT_asks_rs.Ok := ⟨(allCons rBool_ok allNil), eNil⟩
def sT_asks_run {R : Type} (N : Nat) (args : List SV) (T : Tab) (kf : SV × Tab → Option R) : Option R :=
  sT_asks_m N (Cod.dec pMaC (lget (toCs (lget args 0)))) (Cod.dec pLiC (lget (toCs (lget args 1)))) (fun q0 => kf (lget [.bool q0] 0, []))
def sT_asks_lp {R : Type} (N : Nat) : Lp R := fun body S k => Option.none
noncomputable def sT_asks_go {R : Type} (N : Nat) (args : List SV) (T : Tab) (kf : SV × Tab → Option R) : Option R :=
  sT_asks N (Cod.dec pMaC (lget (toCs (lget args 0)))) (Cod.dec pLiC (lget (toCs (lget args 1)))) (fun q0 => kf (lget [.bool q0] 0, []))
noncomputable def sT_asks_cal {R : Type} (N : Nat) : Cal R := callM (sT_named_cal N) 161 0 sT_asks_sp (sT_asks_go N)
theorem sT_asks_cal_ok {R : Type} (N : Nat) : CalOk E.P (sT_asks_cal (R := R) N) :=
  callM_ok hE (sT_named_cal_ok N) (lp := sT_asks_lp N) (jn := noJn) (keys := []) kNil (by kernel_rfl) (js := []) jNil (by kernel_rfl) sT_asks_sp_ok sT_asks_rs_ok (fun args T kf => Eq.trans (sT_asks_def N (Cod.dec pMaC (lget (toCs (lget args 0)))) (Cod.dec pLiC (lget (toCs (lget args 1)))) (fun q0 => kf (lget [.bool q0] 0, []))) (by kernel_rfl : sT_asks_run N args T kf = fnM E (sT_named_cal N) (sT_asks_lp N) (noJn) 161 (sT_asks_sp.vs args) (sT_asks_sp.tab T) 0 (resK sT_asks_rs kf)))
def sT_Asked_1_m {R : Type} (N : Nat) (a312 : pLi) (a313 : pMa) (k : Bool → Option R) : Option R :=
 sT_asks N a313 a312 (fun r321 =>
 k (!r321))
noncomputable def sT_Asked_1 {R : Type} : Nat → pLi → pMa → (Bool → Option R) → Option R := lock (@sT_Asked_1_m R)
theorem sT_Asked_1_def {R : Type} (N : Nat) (a312 : pLi) (a313 : pMa) (k : Bool → Option R) : sT_Asked_1 N a312 a313 k = sT_Asked_1_m N a312 a313 k := by unfold sT_Asked_1; rw [lock_eq]
def sT_Asked_1_sp : Sp := ⟨[rAgg pLiC, rPtr 0 0], [(0, eBlkC pMaC)]⟩
theorem sT_Asked_1_sp_ok : sT_Asked_1_sp.Ok := ⟨(allCons (rAgg_ok pLiC_ok pLiC_len) (allCons (rPtr_ok 0 0) allNil)), (eCons (eBlkC_ok pMaC_ok pMaC_len) eNil)⟩
def sT_Asked_1_rs : Sp := ⟨[rBool], [(0, eBlkC pMaC)]⟩
theorem sT_Asked_1_rs_ok : sT_Asked_1_rs.Ok := ⟨(allCons rBool_ok allNil), (eCons (eBlkC_ok pMaC_ok pMaC_len) eNil)⟩
def sT_Asked_1_run {R : Type} (N : Nat) (args : List SV) (T : Tab) (kf : SV × Tab → Option R) : Option R :=
  sT_Asked_1_m N (Cod.dec pLiC (lget (toCs (lget args 0)))) (Cod.dec pMaC (lget (entCs (entAt T 0)))) (fun q0 => kf (lget [.bool q0] 0, [(0, .blk (Cod.enc pMaC (Cod.dec pMaC (lget (entCs (entAt T 0))))))]))
def sT_Asked_1_lp {R : Type} (N : Nat) : Lp R := fun body S k => Option.none
noncomputable def sT_Asked_1_go {R : Type} (N : Nat) (args : List SV) (T : Tab) (kf : SV × Tab → Option R) : Option R :=
  sT_Asked_1 N (Cod.dec pLiC (lget (toCs (lget args 0)))) (Cod.dec pMaC (lget (entCs (entAt T 0)))) (fun q0 => kf (lget [.bool q0] 0, [(0, .blk (Cod.enc pMaC (Cod.dec pMaC (lget (entCs (entAt T 0))))))]))
noncomputable def sT_Asked_1_cal {R : Type} (N : Nat) : Cal R := callM (sT_asks_cal N) 160 1 sT_Asked_1_sp (sT_Asked_1_go N)
theorem sT_Asked_1_cal_ok {R : Type} (N : Nat) : CalOk E.P (sT_Asked_1_cal (R := R) N) :=
  callM_ok hE (sT_asks_cal_ok N) (lp := sT_Asked_1_lp N) (jn := noJn) (keys := []) kNil (by kernel_rfl) (js := []) jNil (by kernel_rfl) sT_Asked_1_sp_ok sT_Asked_1_rs_ok (fun args T kf => Eq.trans (sT_Asked_1_def N (Cod.dec pLiC (lget (toCs (lget args 0)))) (Cod.dec pMaC (lget (entCs (entAt T 0)))) (fun q0 => kf (lget [.bool q0] 0, [(0, .blk (Cod.enc pMaC (Cod.dec pMaC (lget (entCs (entAt T 0))))))]))) (by kernel_rfl : sT_Asked_1_run N args T kf = fnM E (sT_asks_cal N) (sT_Asked_1_lp N) (noJn) 160 (sT_Asked_1_sp.vs args) (sT_Asked_1_sp.tab T) 1 (resK sT_Asked_1_rs kf)))
def ixL_L2 : LoopSp := ⟨⟨[0, 1, 7, 8], ⟨((rSl pLiC) :: (rFunc 160 0 [rPtr 0 0]) :: (dr 5 ((rInt .i64) :: (rInt .i64) :: (dr 10 [])))), [(0, eBlkC pMaC)]⟩, 1⟩, [(Option.none, ⟨[4], ⟨(dr 4 ((rInt .i64) :: (dr 14 []))), [(0, eBlkC pMaC)]⟩, 1⟩), (some 0, ⟨[], ⟨(dr 19 []), [(0, eBlkC pMaC)]⟩, 1⟩)]⟩
theorem ixL_L2_ok : ixL_L2.Ok := ⟨⟨(allCons (rSl_ok pLiC_ok) (allCons (rFunc_ok 160 0 (allCons (rPtr_ok 0 0) allNil)) (drCons 5 (allCons (rInt_ok .i64) (allCons (rInt_ok .i64) (drCons 10 allNil)))))), (eCons (eBlkC_ok pMaC_ok pMaC_len) eNil)⟩, (xCons ⟨(drCons 4 (allCons (rInt_ok .i64) (drCons 14 allNil))), (eCons (eBlkC_ok pMaC_ok pMaC_len) eNil)⟩ (xCons ⟨(drCons 19 allNil), (eCons (eBlkC_ok pMaC_ok pMaC_len) eNil)⟩ xNil))⟩
def ixL_h2 (v308 : Arr pLi) (v309 : Int) (v310 : Int) (v311 : pMa) : St := ⟨((slC pLiC v308) :: (.func 160 0 [.ptr 0 0]) :: (un 5 ((.int .i64 v309) :: (.int .i64 v310) :: (un 10 [])))), [(0, .blk (Cod.enc pMaC v311))], 1⟩
def ixL_x2_r (v311 : pMa) (q0 : Int) : St := ⟨(un 4 ((.int .i64 q0) :: (un 14 []))), [(0, .blk (Cod.enc pMaC v311))], 1⟩
def ixL_x2_0 (v311 : pMa) : St := ⟨(un 19 []), [(0, .blk (Cod.enc pMaC v311))], 1⟩
def ixL_b2 {R : Type} (N : Nat) (rc : Arr pLi → Int → Int → pMa → Option R) (v308 : Arr pLi) (v309 : Int) (v310 : Int) (v311 : pMa) (kr : Int → Option R) (k0 : Unit → Option R) : Option R :=
 bif decide (v310 < v309) then
 bif decide ((0 : Int) ≤ v310) && decide (v310 < (↑(Arr.n v308) : Int)) then
 sT_Asked_1 N (Arr.f v308 (Int.toNat v310)) v311 (fun r322 =>
 bif r322 then
 kr v310
 else
 rc v308 v309 (w64 (v310 + (1 : Int))) v311)
 else
 Option.none
 else
 k0 ()
def ixL_l2 {R : Type} (N : Nat) : Nat → Arr pLi → Int → Int → pMa → (Int → Option R) → (Unit → Option R) → Option R
  | 0, _, _, _, _, _, _ => Option.none
  | n + 1, v308, v309, v310, v311, kr, k0 => ixL_b2 N (fun v308 v309 v310 v311 => ixL_l2 N n v308 v309 v310 v311 kr k0) v308 v309 v310 v311 kr k0
def ixL_m {R : Type} (N : Nat) (a306 : Arr pLi) (a307 : pMa) (k : Int → Option R) : Option R :=
 ixL_l2 N N a306 ((↑(Arr.n a306) : Int)) (0 : Int) a307 (fun r323 =>
 k r323) (fun (_ : Unit) =>
 k (-1 : Int))
noncomputable def ixL {R : Type} : Nat → Arr pLi → pMa → (Int → Option R) → Option R := lock (@ixL_m R)
theorem ixL_def {R : Type} (N : Nat) (a306 : Arr pLi) (a307 : pMa) (k : Int → Option R) : ixL N a306 a307 k = ixL_m N a306 a307 k := by unfold ixL; rw [lock_eq]
def ixL_sp : Sp := ⟨[rSl pLiC, rFunc 160 0 [rPtr 0 0]], [(0, eBlkC pMaC)]⟩
theorem ixL_sp_ok : ixL_sp.Ok := ⟨(allCons (rSl_ok pLiC_ok) (allCons (rFunc_ok 160 0 (allCons (rPtr_ok 0 0) allNil)) allNil)), (eCons (eBlkC_ok pMaC_ok pMaC_len) eNil)⟩
def ixL_rs : Sp := ⟨[rInt .i64], [(0, eBlkC pMaC)]⟩
theorem ixL_rs_ok : ixL_rs.Ok := ⟨(allCons (rInt_ok .i64) allNil), (eCons (eBlkC_ok pMaC_ok pMaC_len) eNil)⟩
def ixL_run {R : Type} (N : Nat) (args : List SV) (T : Tab) (kf : SV × Tab → Option R) : Option R :=
  ixL_m N (lstC pLiC (lget args 0)) (Cod.dec pMaC (lget (entCs (entAt T 0)))) (fun q0 => kf (lget [.int .i64 q0] 0, [(0, .blk (Cod.enc pMaC (Cod.dec pMaC (lget (entCs (entAt T 0))))))]))
def ixL_d2 {R : Type} (N : Nat) (S0 : St) (k : Exit → St → Option R) : Option R :=
  ixL_l2 N N (lstC pLiC (lget S0.tmps 0)) (toI (lget S0.tmps 7)) (toI (lget S0.tmps 8)) (Cod.dec pMaC (lget (entCs (entAt S0.tab 0)))) (fun q0 => k .ret (ixL_x2_r (Cod.dec pMaC (lget (entCs (entAt S0.tab 0)))) q0)) (fun (_ : Unit) => k (.exit 0) (ixL_x2_0 (Cod.dec pMaC (lget (entCs (entAt S0.tab 0))))))
def ixL_lp {R : Type} (N : Nat) : Lp R := fun body S k => bif (Go.Sx.keyOf body).getD 0 == 2 then (ixL_L2.head.raw 1 S (fun S0 => ixL_d2 N S0 k)) else Option.none
theorem ixL_l2_eq {R : Type} (N : Nat) (k : Exit → St → Option R) (n : Nat) : ∀ (v0 : Arr pLi) (v1 : Int) (v2 : Int) (v3 : pMa), loopM E.Θ (sT_Asked_1_cal N) (ixL_lp N) (noJn) 1 ixL_L2 (bodyAt E 162 2) n (ixL_h2 v0 v1 v2 v3) k = ixL_l2 N n v0 v1 v2 v3 (fun q0 => k .ret (ixL_x2_r v3 q0)) (fun (_ : Unit) => k (.exit 0) (ixL_x2_0 v3)) := by
  induction n with
  | zero => intro v0 v1 v2 v3; rfl
  | succ n ih =>
    intro v0 v1 v2 v3
    refine Eq.trans (b := ixL_b2 N (fun v0 v1 v2 v3 => loopM E.Θ (sT_Asked_1_cal N) (ixL_lp N) (noJn) 1 ixL_L2 (bodyAt E 162 2) n (ixL_h2 v0 v1 v2 v3) k) v0 v1 v2 v3 (fun q0 => k .ret (ixL_x2_r v3 q0)) (fun (_ : Unit) => k (.exit 0) (ixL_x2_0 v3))) (by kernel_rfl) ?_
    have h : (fun (v0 : Arr pLi) (v1 : Int) (v2 : Int) (v3 : pMa) => loopM E.Θ (sT_Asked_1_cal N) (ixL_lp N) (noJn) 1 ixL_L2 (bodyAt E 162 2) n (ixL_h2 v0 v1 v2 v3) k) = (fun (v0 : Arr pLi) (v1 : Int) (v2 : Int) (v3 : pMa) => ixL_l2 N n v0 v1 v2 v3 (fun q0 => k .ret (ixL_x2_r v3 q0)) (fun (_ : Unit) => k (.exit 0) (ixL_x2_0 v3))) := funext fun v0 => funext fun v1 => funext fun v2 => funext fun v3 => ih v0 v1 v2 v3
    rw [h]
    rfl
theorem ixL_k2 {R : Type} (N : Nat) : LpKey (R := R) E 162 1 (ixL_lp N) 2 :=
  lpKey_of hE (sT_Asked_1_cal_ok N) (lp := ixL_lp N) (jn := noJn) ixL_L2_ok [] kNil (by kernel_rfl) [] jNil (by kernel_rfl) N fun S k =>
    Eq.trans (b := ixL_L2.head.raw 1 S (fun S0 => ixL_d2 N S0 k)) (by kernel_rfl) (congrArg (ixL_L2.head.raw 1 S) (funext fun S0 => Eq.trans (ixL_l2_eq N k N (lstC pLiC (lget S0.tmps 0)) (toI (lget S0.tmps 7)) (toI (lget S0.tmps 8)) (Cod.dec pMaC (lget (entCs (entAt S0.tab 0))))).symm (by kernel_rfl)))
noncomputable def ixL_go {R : Type} (N : Nat) (args : List SV) (T : Tab) (kf : SV × Tab → Option R) : Option R :=
  ixL N (lstC pLiC (lget args 0)) (Cod.dec pMaC (lget (entCs (entAt T 0)))) (fun q0 => kf (lget [.int .i64 q0] 0, [(0, .blk (Cod.enc pMaC (Cod.dec pMaC (lget (entCs (entAt T 0))))))]))
noncomputable def ixL_cal {R : Type} (N : Nat) : Cal R := callM (sT_Asked_1_cal N) 162 1 ixL_sp (ixL_go N)
theorem ixL_cal_ok {R : Type} (N : Nat) : CalOk E.P (ixL_cal (R := R) N) :=
  callM_ok hE (sT_Asked_1_cal_ok N) (lp := ixL_lp N) (jn := noJn) (keys := [2]) (kCons (ixL_k2 N) kNil) (by kernel_rfl) (js := []) jNil (by kernel_rfl) ixL_sp_ok ixL_rs_ok (fun args T kf => Eq.trans (ixL_def N (lstC pLiC (lget args 0)) (Cod.dec pMaC (lget (entCs (entAt T 0)))) (fun q0 => kf (lget [.int .i64 q0] 0, [(0, .blk (Cod.enc pMaC (Cod.dec pMaC (lget (entCs (entAt T 0))))))]))) (by kernel_rfl : ixL_run N args T kf = fnM E (sT_Asked_1_cal N) (ixL_lp N) (noJn) 162 (ixL_sp.vs args) (ixL_sp.tab T) 1 (resK ixL_rs kf)))
def coL_m {R : Type} (N : Nat) (a304 : Arr pLi) (a305 : pMa) (k : Bool → Option R) : Option R :=
 ixL N a304 a305 (fun r324 =>
 k (decide (r324 ≥ (0 : Int))))
noncomputable def coL {R : Type} : Nat → Arr pLi → pMa → (Bool → Option R) → Option R := lock (@coL_m R)
theorem coL_def {R : Type} (N : Nat) (a304 : Arr pLi) (a305 : pMa) (k : Bool → Option R) : coL N a304 a305 k = coL_m N a304 a305 k := by unfold coL; rw [lock_eq]
def coL_sp : Sp := ⟨[rSl pLiC, rFunc 160 0 [rPtr 0 0]], [(0, eBlkC pMaC)]⟩
theorem coL_sp_ok : coL_sp.Ok := ⟨(allCons (rSl_ok pLiC_ok) (allCons (rFunc_ok 160 0 (allCons (rPtr_ok 0 0) allNil)) allNil)), (eCons (eBlkC_ok pMaC_ok pMaC_len) eNil)⟩
def coL_rs : Sp := ⟨[rBool], [(0, eBlkC pMaC)]⟩
theorem coL_rs_ok : coL_rs.Ok := ⟨(allCons rBool_ok allNil), (eCons (eBlkC_ok pMaC_ok pMaC_len) eNil)⟩
def coL_run {R : Type} (N : Nat) (args : List SV) (T : Tab) (kf : SV × Tab → Option R) : Option R :=
  coL_m N (lstC pLiC (lget args 0)) (Cod.dec pMaC (lget (entCs (entAt T 0)))) (fun q0 => kf (lget [.bool q0] 0, [(0, .blk (Cod.enc pMaC (Cod.dec pMaC (lget (entCs (entAt T 0))))))]))
def coL_lp {R : Type} (N : Nat) : Lp R := fun body S k => Option.none
noncomputable def coL_go {R : Type} (N : Nat) (args : List SV) (T : Tab) (kf : SV × Tab → Option R) : Option R :=
  coL N (lstC pLiC (lget args 0)) (Cod.dec pMaC (lget (entCs (entAt T 0)))) (fun q0 => kf (lget [.bool q0] 0, [(0, .blk (Cod.enc pMaC (Cod.dec pMaC (lget (entCs (entAt T 0))))))]))
noncomputable def coL_cal {R : Type} (N : Nat) : Cal R := callM (ixL_cal N) 148 1 coL_sp (coL_go N)
theorem coL_cal_ok {R : Type} (N : Nat) : CalOk E.P (coL_cal (R := R) N) :=
  callM_ok hE (ixL_cal_ok N) (lp := coL_lp N) (jn := noJn) (keys := []) kNil (by kernel_rfl) (js := []) jNil (by kernel_rfl) coL_sp_ok coL_rs_ok (fun args T kf => Eq.trans (coL_def N (lstC pLiC (lget args 0)) (Cod.dec pMaC (lget (entCs (entAt T 0)))) (fun q0 => kf (lget [.bool q0] 0, [(0, .blk (Cod.enc pMaC (Cod.dec pMaC (lget (entCs (entAt T 0))))))]))) (by kernel_rfl : coL_run N args T kf = fnM E (ixL_cal N) (coL_lp N) (noJn) 148 (coL_sp.vs args) (coL_sp.tab T) 1 (resK coL_rs kf)))
def sT_Asked_L4 : LoopSp := ⟨⟨[2, 10, 11, 12], ⟨(dr 2 ((rPtr 0 0) :: (dr 7 ((rSl (lsC pLiC)) :: (rInt .i64) :: (rInt .i64) :: (dr 12 []))))), [(0, eBlkC pMaC)]⟩, 1⟩, [(Option.none, ⟨[4], ⟨(dr 4 ((rBool) :: (dr 20 []))), []⟩, 0⟩), (some 0, ⟨[], ⟨(dr 25 []), []⟩, 0⟩)]⟩
theorem sT_Asked_L4_ok : sT_Asked_L4.Ok := ⟨⟨(drCons 2 (allCons (rPtr_ok 0 0) (drCons 7 (allCons (rSl_ok (lsC_ok pLiC_ok)) (allCons (rInt_ok .i64) (allCons (rInt_ok .i64) (drCons 12 allNil))))))), (eCons (eBlkC_ok pMaC_ok pMaC_len) eNil)⟩, (xCons ⟨(drCons 4 (allCons rBool_ok (drCons 20 allNil))), eNil⟩ (xCons ⟨(drCons 25 allNil), eNil⟩ xNil))⟩
def sT_Asked_h4 (v300 : Arr (Arr pLi)) (v301 : Int) (v302 : Int) (v303 : pMa) : St := ⟨(un 2 ((.ptr 0 0) :: (un 7 ((slC (lsC pLiC) v300) :: (.int .i64 v301) :: (.int .i64 v302) :: (un 12 []))))), [(0, .blk (Cod.enc pMaC v303))], 1⟩
def sT_Asked_x4_r (q0 : Bool) : St := ⟨(un 4 ((.bool q0) :: (un 20 []))), [], 0⟩
def sT_Asked_x4_0  : St := ⟨(un 25 []), [], 0⟩
def sT_Asked_b4 {R : Type} (N : Nat) (rc : Arr (Arr pLi) → Int → Int → pMa → Option R) (v300 : Arr (Arr pLi)) (v301 : Int) (v302 : Int) (v303 : pMa) (kr : Bool → Option R) (k0 : Unit → Option R) : Option R :=
 bif decide (v302 < v301) then
 bif decide ((0 : Int) ≤ v302) && decide (v302 < (↑(Arr.n v300) : Int)) then
 bif decide ((↑(Arr.n (Arr.f v300 (Int.toNat v302))) : Int) > (6 : Int)) then
 kr false
 else
 coL N (Arr.f v300 (Int.toNat v302)) v303 (fun r325 =>
 bif r325 then
 kr false
 else
 rc v300 v301 (w64 (v302 + (1 : Int))) v303)
 else
 Option.none
 else
 k0 ()
def sT_Asked_l4 {R : Type} (N : Nat) : Nat → Arr (Arr pLi) → Int → Int → pMa → (Bool → Option R) → (Unit → Option R) → Option R
  | 0, _, _, _, _, _, _ => Option.none
  | n + 1, v300, v301, v302, v303, kr, k0 => sT_Asked_b4 N (fun v300 v301 v302 v303 => sT_Asked_l4 N n v300 v301 v302 v303 kr k0) v300 v301 v302 v303 kr k0
def sT_Asked_m {R : Type} (N : Nat) (a298 : pMa) (a299 : Arr (Arr pLi)) (k : Bool → Option R) : Option R :=
 bif decide ((↑(Arr.n a299) : Int) > (6 : Int)) then
 k false
 else
 sT_Asked_l4 N N a299 ((↑(Arr.n a299) : Int)) (0 : Int) a298 (fun r326 =>
 k r326) (fun (_ : Unit) =>
 k true)
noncomputable def sT_Asked {R : Type} : Nat → pMa → Arr (Arr pLi) → (Bool → Option R) → Option R := lock (@sT_Asked_m R)
theorem sT_Asked_def {R : Type} (N : Nat) (a298 : pMa) (a299 : Arr (Arr pLi)) (k : Bool → Option R) : sT_Asked N a298 a299 k = sT_Asked_m N a298 a299 k := by unfold sT_Asked; rw [lock_eq]
def sT_Asked_sp : Sp := ⟨[rAgg pMaC, rSl (lsC pLiC)], []⟩
theorem sT_Asked_sp_ok : sT_Asked_sp.Ok := ⟨(allCons (rAgg_ok pMaC_ok pMaC_len) (allCons (rSl_ok (lsC_ok pLiC_ok)) allNil)), eNil⟩
def sT_Asked_rs : Sp := ⟨[rBool], []⟩
theorem sT_Asked_rs_ok : sT_Asked_rs.Ok := ⟨(allCons rBool_ok allNil), eNil⟩
def sT_Asked_run {R : Type} (N : Nat) (args : List SV) (T : Tab) (kf : SV × Tab → Option R) : Option R :=
  sT_Asked_m N (Cod.dec pMaC (lget (toCs (lget args 0)))) (lstC (lsC pLiC) (lget args 1)) (fun q0 => kf (lget [.bool q0] 0, []))
def sT_Asked_d4 {R : Type} (N : Nat) (S0 : St) (k : Exit → St → Option R) : Option R :=
  sT_Asked_l4 N N (lstC (lsC pLiC) (lget S0.tmps 10)) (toI (lget S0.tmps 11)) (toI (lget S0.tmps 12)) (Cod.dec pMaC (lget (entCs (entAt S0.tab 0)))) (fun q0 => k .ret (sT_Asked_x4_r q0)) (fun (_ : Unit) => k (.exit 0) (sT_Asked_x4_0 ))
def sT_Asked_lp {R : Type} (N : Nat) : Lp R := fun body S k => bif (Go.Sx.keyOf body).getD 0 == 4 then (sT_Asked_L4.head.raw 0 S (fun S0 => sT_Asked_d4 N S0 k)) else Option.none
theorem sT_Asked_l4_eq {R : Type} (N : Nat) (k : Exit → St → Option R) (n : Nat) : ∀ (v0 : Arr (Arr pLi)) (v1 : Int) (v2 : Int) (v3 : pMa), loopM E.Θ (coL_cal N) (sT_Asked_lp N) (noJn) 0 sT_Asked_L4 (bodyAt E 147 4) n (sT_Asked_h4 v0 v1 v2 v3) k = sT_Asked_l4 N n v0 v1 v2 v3 (fun q0 => k .ret (sT_Asked_x4_r q0)) (fun (_ : Unit) => k (.exit 0) (sT_Asked_x4_0 )) := by
  induction n with
  | zero => intro v0 v1 v2 v3; rfl
  | succ n ih =>
    intro v0 v1 v2 v3
    refine Eq.trans (b := sT_Asked_b4 N (fun v0 v1 v2 v3 => loopM E.Θ (coL_cal N) (sT_Asked_lp N) (noJn) 0 sT_Asked_L4 (bodyAt E 147 4) n (sT_Asked_h4 v0 v1 v2 v3) k) v0 v1 v2 v3 (fun q0 => k .ret (sT_Asked_x4_r q0)) (fun (_ : Unit) => k (.exit 0) (sT_Asked_x4_0 ))) (by kernel_rfl) ?_
    have h : (fun (v0 : Arr (Arr pLi)) (v1 : Int) (v2 : Int) (v3 : pMa) => loopM E.Θ (coL_cal N) (sT_Asked_lp N) (noJn) 0 sT_Asked_L4 (bodyAt E 147 4) n (sT_Asked_h4 v0 v1 v2 v3) k) = (fun (v0 : Arr (Arr pLi)) (v1 : Int) (v2 : Int) (v3 : pMa) => sT_Asked_l4 N n v0 v1 v2 v3 (fun q0 => k .ret (sT_Asked_x4_r q0)) (fun (_ : Unit) => k (.exit 0) (sT_Asked_x4_0 ))) := funext fun v0 => funext fun v1 => funext fun v2 => funext fun v3 => ih v0 v1 v2 v3
    rw [h]
    rfl
theorem sT_Asked_k4 {R : Type} (N : Nat) : LpKey (R := R) E 147 0 (sT_Asked_lp N) 4 :=
  lpKey_of hE (coL_cal_ok N) (lp := sT_Asked_lp N) (jn := noJn) sT_Asked_L4_ok [] kNil (by kernel_rfl) [] jNil (by kernel_rfl) N fun S k =>
    Eq.trans (b := sT_Asked_L4.head.raw 0 S (fun S0 => sT_Asked_d4 N S0 k)) (by kernel_rfl) (congrArg (sT_Asked_L4.head.raw 0 S) (funext fun S0 => Eq.trans (sT_Asked_l4_eq N k N (lstC (lsC pLiC) (lget S0.tmps 10)) (toI (lget S0.tmps 11)) (toI (lget S0.tmps 12)) (Cod.dec pMaC (lget (entCs (entAt S0.tab 0))))).symm (by kernel_rfl)))
noncomputable def sT_Asked_go {R : Type} (N : Nat) (args : List SV) (T : Tab) (kf : SV × Tab → Option R) : Option R :=
  sT_Asked N (Cod.dec pMaC (lget (toCs (lget args 0)))) (lstC (lsC pLiC) (lget args 1)) (fun q0 => kf (lget [.bool q0] 0, []))
noncomputable def sT_Asked_cal {R : Type} (N : Nat) : Cal R := callM (coL_cal N) 147 0 sT_Asked_sp (sT_Asked_go N)
theorem sT_Asked_cal_ok {R : Type} (N : Nat) : CalOk E.P (sT_Asked_cal (R := R) N) :=
  callM_ok hE (coL_cal_ok N) (lp := sT_Asked_lp N) (jn := noJn) (keys := [4]) (kCons (sT_Asked_k4 N) kNil) (by kernel_rfl) (js := []) jNil (by kernel_rfl) sT_Asked_sp_ok sT_Asked_rs_ok (fun args T kf => Eq.trans (sT_Asked_def N (Cod.dec pMaC (lget (toCs (lget args 0)))) (lstC (lsC pLiC) (lget args 1)) (fun q0 => kf (lget [.bool q0] 0, []))) (by kernel_rfl : sT_Asked_run N args T kf = fnM E (coL_cal N) (sT_Asked_lp N) (noJn) 147 (sT_Asked_sp.vs args) (sT_Asked_sp.tab T) 0 (resK sT_Asked_rs kf)))
def sT_Check_1_m {R : Type} (N : Nat) (a341 : pLi) (k : Bool → Option R) : Option R :=
 k (pLi.Kind a341 == (3 : Int))
noncomputable def sT_Check_1 {R : Type} : Nat → pLi → (Bool → Option R) → Option R := lock (@sT_Check_1_m R)
theorem sT_Check_1_def {R : Type} (N : Nat) (a341 : pLi) (k : Bool → Option R) : sT_Check_1 N a341 k = sT_Check_1_m N a341 k := by unfold sT_Check_1; rw [lock_eq]
def sT_Check_1_sp : Sp := ⟨[rAgg pLiC], []⟩
theorem sT_Check_1_sp_ok : sT_Check_1_sp.Ok := ⟨(allCons (rAgg_ok pLiC_ok pLiC_len) allNil), eNil⟩
def sT_Check_1_rs : Sp := ⟨[rBool], []⟩
theorem sT_Check_1_rs_ok : sT_Check_1_rs.Ok := ⟨(allCons rBool_ok allNil), eNil⟩
def sT_Check_1_run {R : Type} (N : Nat) (args : List SV) (T : Tab) (kf : SV × Tab → Option R) : Option R :=
  sT_Check_1_m N (Cod.dec pLiC (lget (toCs (lget args 0)))) (fun q0 => kf (lget [.bool q0] 0, []))
def sT_Check_1_lp {R : Type} (N : Nat) : Lp R := fun body S k => Option.none
noncomputable def sT_Check_1_go {R : Type} (N : Nat) (args : List SV) (T : Tab) (kf : SV × Tab → Option R) : Option R :=
  sT_Check_1 N (Cod.dec pLiC (lget (toCs (lget args 0)))) (fun q0 => kf (lget [.bool q0] 0, []))
noncomputable def sT_Check_1_cal {R : Type} (N : Nat) : Cal R := callM (sT_Asked_cal N) 149 0 sT_Check_1_sp (sT_Check_1_go N)
theorem sT_Check_1_cal_ok {R : Type} (N : Nat) : CalOk E.P (sT_Check_1_cal (R := R) N) :=
  callM_ok hE (sT_Asked_cal_ok N) (lp := sT_Check_1_lp N) (jn := noJn) (keys := []) kNil (by kernel_rfl) (js := []) jNil (by kernel_rfl) sT_Check_1_sp_ok sT_Check_1_rs_ok (fun args T kf => Eq.trans (sT_Check_1_def N (Cod.dec pLiC (lget (toCs (lget args 0)))) (fun q0 => kf (lget [.bool q0] 0, []))) (by kernel_rfl : sT_Check_1_run N args T kf = fnM E (sT_Asked_cal N) (sT_Check_1_lp N) (noJn) 149 (sT_Check_1_sp.vs args) (sT_Check_1_sp.tab T) 0 (resK sT_Check_1_rs kf)))
def ixL_v2_L2 : LoopSp := ⟨⟨[0, 1, 7, 8], ⟨((rSl pLiC) :: (rFunc 149 0 []) :: (dr 5 ((rInt .i64) :: (rInt .i64) :: (dr 10 [])))), []⟩, 0⟩, [(Option.none, ⟨[4], ⟨(dr 4 ((rInt .i64) :: (dr 14 []))), []⟩, 0⟩), (some 0, ⟨[], ⟨(dr 19 []), []⟩, 0⟩)]⟩
theorem ixL_v2_L2_ok : ixL_v2_L2.Ok := ⟨⟨(allCons (rSl_ok pLiC_ok) (allCons (rFunc_ok 149 0 allNil) (drCons 5 (allCons (rInt_ok .i64) (allCons (rInt_ok .i64) (drCons 10 allNil)))))), eNil⟩, (xCons ⟨(drCons 4 (allCons (rInt_ok .i64) (drCons 14 allNil))), eNil⟩ (xCons ⟨(drCons 19 allNil), eNil⟩ xNil))⟩
def ixL_v2_h2 (v338 : Arr pLi) (v339 : Int) (v340 : Int) : St := ⟨((slC pLiC v338) :: (.func 149 0 []) :: (un 5 ((.int .i64 v339) :: (.int .i64 v340) :: (un 10 [])))), [], 0⟩
def ixL_v2_x2_r (q0 : Int) : St := ⟨(un 4 ((.int .i64 q0) :: (un 14 []))), [], 0⟩
def ixL_v2_x2_0  : St := ⟨(un 19 []), [], 0⟩
def ixL_v2_b2 {R : Type} (N : Nat) (rc : Arr pLi → Int → Int → Option R) (v338 : Arr pLi) (v339 : Int) (v340 : Int) (kr : Int → Option R) (k0 : Unit → Option R) : Option R :=
 bif decide (v340 < v339) then
 bif decide ((0 : Int) ≤ v340) && decide (v340 < (↑(Arr.n v338) : Int)) then
 sT_Check_1 N (Arr.f v338 (Int.toNat v340)) (fun r342 =>
 bif r342 then
 kr v340
 else
 rc v338 v339 (w64 (v340 + (1 : Int))))
 else
 Option.none
 else
 k0 ()
def ixL_v2_l2 {R : Type} (N : Nat) : Nat → Arr pLi → Int → Int → (Int → Option R) → (Unit → Option R) → Option R
  | 0, _, _, _, _, _ => Option.none
  | n + 1, v338, v339, v340, kr, k0 => ixL_v2_b2 N (fun v338 v339 v340 => ixL_v2_l2 N n v338 v339 v340 kr k0) v338 v339 v340 kr k0
def ixL_v2_m {R : Type} (N : Nat) (a337 : Arr pLi) (k : Int → Option R) : Option R :=
 ixL_v2_l2 N N a337 ((↑(Arr.n a337) : Int)) (0 : Int) (fun r343 =>
 k r343) (fun (_ : Unit) =>
 k (-1 : Int))
noncomputable def ixL_v2 {R : Type} : Nat → Arr pLi → (Int → Option R) → Option R := lock (@ixL_v2_m R)
theorem ixL_v2_def {R : Type} (N : Nat) (a337 : Arr pLi) (k : Int → Option R) : ixL_v2 N a337 k = ixL_v2_m N a337 k := by unfold ixL_v2; rw [lock_eq]
def ixL_v2_sp : Sp := ⟨[rSl pLiC, rFunc 149 0 []], []⟩
theorem ixL_v2_sp_ok : ixL_v2_sp.Ok := ⟨(allCons (rSl_ok pLiC_ok) (allCons (rFunc_ok 149 0 allNil) allNil)), eNil⟩
def ixL_v2_rs : Sp := ⟨[rInt .i64], []⟩
theorem ixL_v2_rs_ok : ixL_v2_rs.Ok := ⟨(allCons (rInt_ok .i64) allNil), eNil⟩
def ixL_v2_run {R : Type} (N : Nat) (args : List SV) (T : Tab) (kf : SV × Tab → Option R) : Option R :=
  ixL_v2_m N (lstC pLiC (lget args 0)) (fun q0 => kf (lget [.int .i64 q0] 0, []))
def ixL_v2_d2 {R : Type} (N : Nat) (S0 : St) (k : Exit → St → Option R) : Option R :=
  ixL_v2_l2 N N (lstC pLiC (lget S0.tmps 0)) (toI (lget S0.tmps 7)) (toI (lget S0.tmps 8)) (fun q0 => k .ret (ixL_v2_x2_r q0)) (fun (_ : Unit) => k (.exit 0) (ixL_v2_x2_0 ))
def ixL_v2_lp {R : Type} (N : Nat) : Lp R := fun body S k => bif (Go.Sx.keyOf body).getD 0 == 2 then (ixL_v2_L2.head.raw 0 S (fun S0 => ixL_v2_d2 N S0 k)) else Option.none
theorem ixL_v2_l2_eq {R : Type} (N : Nat) (k : Exit → St → Option R) (n : Nat) : ∀ (v0 : Arr pLi) (v1 : Int) (v2 : Int), loopM E.Θ (sT_Check_1_cal N) (ixL_v2_lp N) (noJn) 0 ixL_v2_L2 (bodyAt E 162 2) n (ixL_v2_h2 v0 v1 v2) k = ixL_v2_l2 N n v0 v1 v2 (fun q0 => k .ret (ixL_v2_x2_r q0)) (fun (_ : Unit) => k (.exit 0) (ixL_v2_x2_0 )) := by
  induction n with
  | zero => intro v0 v1 v2; rfl
  | succ n ih =>
    intro v0 v1 v2
    refine Eq.trans (b := ixL_v2_b2 N (fun v0 v1 v2 => loopM E.Θ (sT_Check_1_cal N) (ixL_v2_lp N) (noJn) 0 ixL_v2_L2 (bodyAt E 162 2) n (ixL_v2_h2 v0 v1 v2) k) v0 v1 v2 (fun q0 => k .ret (ixL_v2_x2_r q0)) (fun (_ : Unit) => k (.exit 0) (ixL_v2_x2_0 ))) (by kernel_rfl) ?_
    have h : (fun (v0 : Arr pLi) (v1 : Int) (v2 : Int) => loopM E.Θ (sT_Check_1_cal N) (ixL_v2_lp N) (noJn) 0 ixL_v2_L2 (bodyAt E 162 2) n (ixL_v2_h2 v0 v1 v2) k) = (fun (v0 : Arr pLi) (v1 : Int) (v2 : Int) => ixL_v2_l2 N n v0 v1 v2 (fun q0 => k .ret (ixL_v2_x2_r q0)) (fun (_ : Unit) => k (.exit 0) (ixL_v2_x2_0 ))) := funext fun v0 => funext fun v1 => funext fun v2 => ih v0 v1 v2
    rw [h]
    rfl
theorem ixL_v2_k2 {R : Type} (N : Nat) : LpKey (R := R) E 162 0 (ixL_v2_lp N) 2 :=
  lpKey_of hE (sT_Check_1_cal_ok N) (lp := ixL_v2_lp N) (jn := noJn) ixL_v2_L2_ok [] kNil (by kernel_rfl) [] jNil (by kernel_rfl) N fun S k =>
    Eq.trans (b := ixL_v2_L2.head.raw 0 S (fun S0 => ixL_v2_d2 N S0 k)) (by kernel_rfl) (congrArg (ixL_v2_L2.head.raw 0 S) (funext fun S0 => Eq.trans (ixL_v2_l2_eq N k N (lstC pLiC (lget S0.tmps 0)) (toI (lget S0.tmps 7)) (toI (lget S0.tmps 8))).symm (by kernel_rfl)))
noncomputable def ixL_v2_go {R : Type} (N : Nat) (args : List SV) (T : Tab) (kf : SV × Tab → Option R) : Option R :=
  ixL_v2 N (lstC pLiC (lget args 0)) (fun q0 => kf (lget [.int .i64 q0] 0, []))
noncomputable def ixL_v2_cal {R : Type} (N : Nat) : Cal R := callM (sT_Check_1_cal N) 162 0 ixL_v2_sp (ixL_v2_go N)
theorem ixL_v2_cal_ok {R : Type} (N : Nat) : CalOk E.P (ixL_v2_cal (R := R) N) :=
  callM_ok hE (sT_Check_1_cal_ok N) (lp := ixL_v2_lp N) (jn := noJn) (keys := [2]) (kCons (ixL_v2_k2 N) kNil) (by kernel_rfl) (js := []) jNil (by kernel_rfl) ixL_v2_sp_ok ixL_v2_rs_ok (fun args T kf => Eq.trans (ixL_v2_def N (lstC pLiC (lget args 0)) (fun q0 => kf (lget [.int .i64 q0] 0, []))) (by kernel_rfl : ixL_v2_run N args T kf = fnM E (sT_Check_1_cal N) (ixL_v2_lp N) (noJn) 162 (ixL_v2_sp.vs args) (ixL_v2_sp.tab T) 0 (resK ixL_v2_rs kf)))
def coL_v2_m {R : Type} (N : Nat) (a336 : Arr pLi) (k : Bool → Option R) : Option R :=
 ixL_v2 N a336 (fun r344 =>
 k (decide (r344 ≥ (0 : Int))))
noncomputable def coL_v2 {R : Type} : Nat → Arr pLi → (Bool → Option R) → Option R := lock (@coL_v2_m R)
theorem coL_v2_def {R : Type} (N : Nat) (a336 : Arr pLi) (k : Bool → Option R) : coL_v2 N a336 k = coL_v2_m N a336 k := by unfold coL_v2; rw [lock_eq]
def coL_v2_sp : Sp := ⟨[rSl pLiC, rFunc 149 0 []], []⟩
theorem coL_v2_sp_ok : coL_v2_sp.Ok := ⟨(allCons (rSl_ok pLiC_ok) (allCons (rFunc_ok 149 0 allNil) allNil)), eNil⟩
def coL_v2_rs : Sp := ⟨[rBool], []⟩
theorem coL_v2_rs_ok : coL_v2_rs.Ok := ⟨(allCons rBool_ok allNil), eNil⟩
def coL_v2_run {R : Type} (N : Nat) (args : List SV) (T : Tab) (kf : SV × Tab → Option R) : Option R :=
  coL_v2_m N (lstC pLiC (lget args 0)) (fun q0 => kf (lget [.bool q0] 0, []))
def coL_v2_lp {R : Type} (N : Nat) : Lp R := fun body S k => Option.none
noncomputable def coL_v2_go {R : Type} (N : Nat) (args : List SV) (T : Tab) (kf : SV × Tab → Option R) : Option R :=
  coL_v2 N (lstC pLiC (lget args 0)) (fun q0 => kf (lget [.bool q0] 0, []))
noncomputable def coL_v2_cal {R : Type} (N : Nat) : Cal R := callM (ixL_v2_cal N) 148 0 coL_v2_sp (coL_v2_go N)
theorem coL_v2_cal_ok {R : Type} (N : Nat) : CalOk E.P (coL_v2_cal (R := R) N) :=
  callM_ok hE (ixL_v2_cal_ok N) (lp := coL_v2_lp N) (jn := noJn) (keys := []) kNil (by kernel_rfl) (js := []) jNil (by kernel_rfl) coL_v2_sp_ok coL_v2_rs_ok (fun args T kf => Eq.trans (coL_v2_def N (lstC pLiC (lget args 0)) (fun q0 => kf (lget [.bool q0] 0, []))) (by kernel_rfl : coL_v2_run N args T kf = fnM E (ixL_v2_cal N) (coL_v2_lp N) (noJn) 148 (coL_v2_sp.vs args) (coL_v2_sp.tab T) 0 (resK coL_v2_rs kf)))
def sT_Check_L4 : LoopSp := ⟨⟨[1, 48, 49, 50], ⟨(dr 1 ((rPtr 0 0) :: (dr 46 ((rSl pCoC) :: (rInt .i64) :: (rInt .i64) :: (dr 96 []))))), [(0, eBlkC pMaC)]⟩, 1⟩, [(Option.none, ⟨[2], ⟨(dr 2 ((rInt .i64) :: (dr 144 []))), []⟩, 0⟩), (some 0, ⟨[1], ⟨(dr 1 ((rPtr 0 0) :: (dr 145 []))), [(0, eBlkC pMaC)]⟩, 1⟩)]⟩
theorem sT_Check_L4_ok : sT_Check_L4.Ok := ⟨⟨(drCons 1 (allCons (rPtr_ok 0 0) (drCons 46 (allCons (rSl_ok pCoC_ok) (allCons (rInt_ok .i64) (allCons (rInt_ok .i64) (drCons 96 allNil))))))), (eCons (eBlkC_ok pMaC_ok pMaC_len) eNil)⟩, (xCons ⟨(drCons 2 (allCons (rInt_ok .i64) (drCons 144 allNil))), eNil⟩ (xCons ⟨(drCons 1 (allCons (rPtr_ok 0 0) (drCons 145 allNil))), (eCons (eBlkC_ok pMaC_ok pMaC_len) eNil)⟩ xNil))⟩
def sT_Check_h4 (v280 : Arr pCo) (v281 : Int) (v282 : Int) (v283 : pMa) : St := ⟨(un 1 ((.ptr 0 0) :: (un 46 ((slC pCoC v280) :: (.int .i64 v281) :: (.int .i64 v282) :: (un 96 []))))), [(0, .blk (Cod.enc pMaC v283))], 1⟩
def sT_Check_x4_r (q0 : Int) : St := ⟨(un 2 ((.int .i64 q0) :: (un 144 []))), [], 0⟩
def sT_Check_x4_0 (v283 : pMa) : St := ⟨(un 1 ((.ptr 0 0) :: (un 145 []))), [(0, .blk (Cod.enc pMaC v283))], 1⟩
def sT_Check_b4 {R : Type} (N : Nat) (rc : Arr pCo → Int → Int → pMa → Option R) (v280 : Arr pCo) (v281 : Int) (v282 : Int) (v283 : pMa) (kr : Int → Option R) (k0 : Unit → Option R) : Option R :=
 bif decide (v282 < v281) then
 bif decide ((0 : Int) ≤ v282) && decide (v282 < (↑(Arr.n v280) : Int)) then
 sT_within N (pCo.Max (Arr.f v280 (Int.toNat v282))) (1 : Int) (7 : Int) (fun r284 =>
 bif !r284 then
 kr (41 : Int)
 else
 rc v280 v281 (w64 (v282 + (1 : Int))) v283)
 else
 Option.none
 else
 k0 ()
def sT_Check_l4 {R : Type} (N : Nat) : Nat → Arr pCo → Int → Int → pMa → (Int → Option R) → (Unit → Option R) → Option R
  | 0, _, _, _, _, _, _ => Option.none
  | n + 1, v280, v281, v282, v283, kr, k0 => sT_Check_b4 N (fun v280 v281 v282 v283 => sT_Check_l4 N n v280 v281 v282 v283 kr k0) v280 v281 v282 v283 kr k0
def sT_Check_L10 : LoopSp := ⟨⟨[1, 60, 61, 62], ⟨(dr 1 ((rPtr 0 0) :: (dr 58 ((rSl pStC) :: (rInt .i64) :: (rInt .i64) :: (dr 84 []))))), [(0, eBlkC pMaC)]⟩, 1⟩, [(Option.none, ⟨[2], ⟨(dr 2 ((rInt .i64) :: (dr 144 []))), []⟩, 0⟩), (some 2, ⟨[1], ⟨(dr 1 ((rPtr 0 0) :: (dr 145 []))), [(0, eBlkC pMaC)]⟩, 1⟩)]⟩
theorem sT_Check_L10_ok : sT_Check_L10.Ok := ⟨⟨(drCons 1 (allCons (rPtr_ok 0 0) (drCons 58 (allCons (rSl_ok pStC_ok) (allCons (rInt_ok .i64) (allCons (rInt_ok .i64) (drCons 84 allNil))))))), (eCons (eBlkC_ok pMaC_ok pMaC_len) eNil)⟩, (xCons ⟨(drCons 2 (allCons (rInt_ok .i64) (drCons 144 allNil))), eNil⟩ (xCons ⟨(drCons 1 (allCons (rPtr_ok 0 0) (drCons 145 allNil))), (eCons (eBlkC_ok pMaC_ok pMaC_len) eNil)⟩ xNil))⟩
def sT_Check_h10 (v286 : Arr pSt) (v287 : Int) (v288 : Int) (v289 : pMa) : St := ⟨(un 1 ((.ptr 0 0) :: (un 58 ((slC pStC v286) :: (.int .i64 v287) :: (.int .i64 v288) :: (un 84 []))))), [(0, .blk (Cod.enc pMaC v289))], 1⟩
def sT_Check_x10_r (q0 : Int) : St := ⟨(un 2 ((.int .i64 q0) :: (un 144 []))), [], 0⟩
def sT_Check_x10_2 (v289 : pMa) : St := ⟨(un 1 ((.ptr 0 0) :: (un 145 []))), [(0, .blk (Cod.enc pMaC v289))], 1⟩
def sT_Check_b10 {R : Type} (N : Nat) (rc : Arr pSt → Int → Int → pMa → Option R) (v286 : Arr pSt) (v287 : Int) (v288 : Int) (v289 : pMa) (kr : Int → Option R) (k2 : Unit → Option R) : Option R :=
 bif decide (v288 < v287) then
 bif decide ((0 : Int) ≤ v288) && decide (v288 < (↑(Arr.n v286) : Int)) then
 sT_within N (pSt.Shows (Arr.f v286 (Int.toNat v288))) (0 : Int) (w64 (w64 ((1 : Int) * (2 : Int) ^ min (Int.toNat (↑(Arr.n (pMa.Outputs v289)) : Int)) (IntKind.bits IntKind.i64)) - (1 : Int))) (fun r290 =>
 bif !r290 then
 kr (41 : Int)
 else
 rc v286 v287 (w64 (v288 + (1 : Int))) v289)
 else
 Option.none
 else
 k2 ()
def sT_Check_l10 {R : Type} (N : Nat) : Nat → Arr pSt → Int → Int → pMa → (Int → Option R) → (Unit → Option R) → Option R
  | 0, _, _, _, _, _, _ => Option.none
  | n + 1, v286, v287, v288, v289, kr, k2 => sT_Check_b10 N (fun v286 v287 v288 v289 => sT_Check_l10 N n v286 v287 v288 v289 kr k2) v286 v287 v288 v289 kr k2
def sT_Check_L21 : LoopSp := ⟨⟨[1, 8, 77, 78, 79, 115, 116, 117], ⟨(dr 1 ((rPtr 0 0) :: (dr 6 ((rPtr 1 0) :: (dr 68 ((rSl pRuC) :: (rInt .i64) :: (rInt .i64) :: (dr 35 ((rSl (lsC pLiC)) :: (rInt .i64) :: (rInt .i64) :: (dr 29 []))))))))), [(0, eBlkC pMaC), (1, eBlkC pRuC)]⟩, 2⟩, [(Option.none, ⟨[2], ⟨(dr 2 ((rInt .i64) :: (dr 144 []))), []⟩, 0⟩), (some 6, ⟨[1, 8, 77, 78, 79], ⟨(dr 1 ((rPtr 0 0) :: (dr 6 ((rPtr 1 0) :: (dr 68 ((rSl pRuC) :: (rInt .i64) :: (rInt .i64) :: (dr 67 []))))))), [(0, eBlkC pMaC), (1, eBlkC pRuC)]⟩, 2⟩)]⟩
theorem sT_Check_L21_ok : sT_Check_L21.Ok := ⟨⟨(drCons 1 (allCons (rPtr_ok 0 0) (drCons 6 (allCons (rPtr_ok 1 0) (drCons 68 (allCons (rSl_ok pRuC_ok) (allCons (rInt_ok .i64) (allCons (rInt_ok .i64) (drCons 35 (allCons (rSl_ok (lsC_ok pLiC_ok)) (allCons (rInt_ok .i64) (allCons (rInt_ok .i64) (drCons 29 allNil))))))))))))), (eCons (eBlkC_ok pMaC_ok pMaC_len) (eCons (eBlkC_ok pRuC_ok pRuC_len) eNil))⟩, (xCons ⟨(drCons 2 (allCons (rInt_ok .i64) (drCons 144 allNil))), eNil⟩ (xCons ⟨(drCons 1 (allCons (rPtr_ok 0 0) (drCons 6 (allCons (rPtr_ok 1 0) (drCons 68 (allCons (rSl_ok pRuC_ok) (allCons (rInt_ok .i64) (allCons (rInt_ok .i64) (drCons 67 allNil))))))))), (eCons (eBlkC_ok pMaC_ok pMaC_len) (eCons (eBlkC_ok pRuC_ok pRuC_len) eNil))⟩ xNil))⟩
def sT_Check_h21 (v328 : Arr pRu) (v329 : Int) (v330 : Int) (v331 : Arr (Arr pLi)) (v332 : Int) (v333 : Int) (v334 : pMa) (v335 : pRu) : St := ⟨(un 1 ((.ptr 0 0) :: (un 6 ((.ptr 1 0) :: (un 68 ((slC pRuC v328) :: (.int .i64 v329) :: (.int .i64 v330) :: (un 35 ((slC (lsC pLiC) v331) :: (.int .i64 v332) :: (.int .i64 v333) :: (un 29 []))))))))), [(0, .blk (Cod.enc pMaC v334)), (1, .blk (Cod.enc pRuC v335))], 2⟩
def sT_Check_x21_r (q0 : Int) : St := ⟨(un 2 ((.int .i64 q0) :: (un 144 []))), [], 0⟩
def sT_Check_x21_6 (v328 : Arr pRu) (v329 : Int) (v330 : Int) (v334 : pMa) (v335 : pRu) : St := ⟨(un 1 ((.ptr 0 0) :: (un 6 ((.ptr 1 0) :: (un 68 ((slC pRuC v328) :: (.int .i64 v329) :: (.int .i64 v330) :: (un 67 []))))))), [(0, .blk (Cod.enc pMaC v334)), (1, .blk (Cod.enc pRuC v335))], 2⟩
def sT_Check_b21 {R : Type} (N : Nat) (rc : Arr pRu → Int → Int → Arr (Arr pLi) → Int → Int → pMa → pRu → Option R) (v328 : Arr pRu) (v329 : Int) (v330 : Int) (v331 : Arr (Arr pLi)) (v332 : Int) (v333 : Int) (v334 : pMa) (v335 : pRu) (kr : Int → Option R) (k6 : Unit → Option R) : Option R :=
 bif decide (v333 < v332) then
 bif decide ((0 : Int) ≤ v333) && decide (v333 < (↑(Arr.n v331) : Int)) then
 coL_v2 N (Arr.f v331 (Int.toNat v333)) (fun r345 =>
 bif r345 then
 kr (41 : Int)
 else
 rc v328 v329 v330 v331 v332 (w64 (v333 + (1 : Int))) v334 v335)
 else
 Option.none
 else
 k6 ()
def sT_Check_l21 {R : Type} (N : Nat) : Nat → Arr pRu → Int → Int → Arr (Arr pLi) → Int → Int → pMa → pRu → (Int → Option R) → (Unit → Option R) → Option R
  | 0, _, _, _, _, _, _, _, _, _, _ => Option.none
  | n + 1, v328, v329, v330, v331, v332, v333, v334, v335, kr, k6 => sT_Check_b21 N (fun v328 v329 v330 v331 v332 v333 v334 v335 => sT_Check_l21 N n v328 v329 v330 v331 v332 v333 v334 v335 kr k6) v328 v329 v330 v331 v332 v333 v334 v335 kr k6
def sT_Check_L27 : LoopSp := ⟨⟨[1, 77, 78, 79, 125, 126, 127], ⟨(dr 1 ((rPtr 0 0) :: (dr 75 ((rSl pRuC) :: (rInt .i64) :: (rInt .i64) :: (dr 45 ((rSl api_SetC) :: (rInt .i64) :: (rInt .i64) :: (dr 19 []))))))), [(0, eBlkC pMaC)]⟩, 1⟩, [(Option.none, ⟨[2], ⟨(dr 2 ((rInt .i64) :: (dr 144 []))), []⟩, 0⟩), (some 8, ⟨[1, 77, 78, 79], ⟨(dr 1 ((rPtr 0 0) :: (dr 75 ((rSl pRuC) :: (rInt .i64) :: (rInt .i64) :: (dr 67 []))))), [(0, eBlkC pMaC)]⟩, 1⟩)]⟩
theorem sT_Check_L27_ok : sT_Check_L27.Ok := ⟨⟨(drCons 1 (allCons (rPtr_ok 0 0) (drCons 75 (allCons (rSl_ok pRuC_ok) (allCons (rInt_ok .i64) (allCons (rInt_ok .i64) (drCons 45 (allCons (rSl_ok api_SetC_ok) (allCons (rInt_ok .i64) (allCons (rInt_ok .i64) (drCons 19 allNil))))))))))), (eCons (eBlkC_ok pMaC_ok pMaC_len) eNil)⟩, (xCons ⟨(drCons 2 (allCons (rInt_ok .i64) (drCons 144 allNil))), eNil⟩ (xCons ⟨(drCons 1 (allCons (rPtr_ok 0 0) (drCons 75 (allCons (rSl_ok pRuC_ok) (allCons (rInt_ok .i64) (allCons (rInt_ok .i64) (drCons 67 allNil))))))), (eCons (eBlkC_ok pMaC_ok pMaC_len) eNil)⟩ xNil))⟩
def sT_Check_h27 (v347 : Arr pRu) (v348 : Int) (v349 : Int) (v350 : Arr api_Set) (v351 : Int) (v352 : Int) (v353 : pMa) : St := ⟨(un 1 ((.ptr 0 0) :: (un 75 ((slC pRuC v347) :: (.int .i64 v348) :: (.int .i64 v349) :: (un 45 ((slC api_SetC v350) :: (.int .i64 v351) :: (.int .i64 v352) :: (un 19 []))))))), [(0, .blk (Cod.enc pMaC v353))], 1⟩
def sT_Check_x27_r (q0 : Int) : St := ⟨(un 2 ((.int .i64 q0) :: (un 144 []))), [], 0⟩
def sT_Check_x27_8 (v347 : Arr pRu) (v348 : Int) (v349 : Int) (v353 : pMa) : St := ⟨(un 1 ((.ptr 0 0) :: (un 75 ((slC pRuC v347) :: (.int .i64 v348) :: (.int .i64 v349) :: (un 67 []))))), [(0, .blk (Cod.enc pMaC v353))], 1⟩
def sT_Check_b27 {R : Type} (N : Nat) (rc : Arr pRu → Int → Int → Arr api_Set → Int → Int → pMa → Option R) (v347 : Arr pRu) (v348 : Int) (v349 : Int) (v350 : Arr api_Set) (v351 : Int) (v352 : Int) (v353 : pMa) (kr : Int → Option R) (k8 : Unit → Option R) : Option R :=
 bif decide (v352 < v351) then
 bif decide ((0 : Int) ≤ v352) && decide (v352 < (↑(Arr.n v350) : Int)) then
 sT_within N (api_Set.Kind (Arr.f v350 (Int.toNat v352))) (1 : Int) (3 : Int) (fun r354 =>
 bif !r354 then
 kr (41 : Int)
 else
 sT_within N (api_Set.Counter (Arr.f v350 (Int.toNat v352))) (0 : Int) (w64 ((↑(Arr.n (pMa.Counters v353)) : Int) - (1 : Int))) (fun r355 =>
 bif !r355 then
 kr (41 : Int)
 else
 rc v347 v348 v349 v350 v351 (w64 (v352 + (1 : Int))) v353))
 else
 Option.none
 else
 k8 ()
def sT_Check_l27 {R : Type} (N : Nat) : Nat → Arr pRu → Int → Int → Arr api_Set → Int → Int → pMa → (Int → Option R) → (Unit → Option R) → Option R
  | 0, _, _, _, _, _, _, _, _, _ => Option.none
  | n + 1, v347, v348, v349, v350, v351, v352, v353, kr, k8 => sT_Check_b27 N (fun v347 v348 v349 v350 v351 v352 v353 => sT_Check_l27 N n v347 v348 v349 v350 v351 v352 v353 kr k8) v347 v348 v349 v350 v351 v352 v353 kr k8
def sT_Check_L16 : LoopSp := ⟨⟨[1, 77, 78, 79], ⟨(dr 1 ((rPtr 0 0) :: (dr 75 ((rSl pRuC) :: (rInt .i64) :: (rInt .i64) :: (dr 67 []))))), [(0, eBlkC pMaC)]⟩, 1⟩, [(Option.none, ⟨[2], ⟨(dr 2 ((rInt .i64) :: (dr 144 []))), []⟩, 0⟩), (some 4, ⟨[], ⟨(dr 147 []), []⟩, 0⟩)]⟩
theorem sT_Check_L16_ok : sT_Check_L16.Ok := ⟨⟨(drCons 1 (allCons (rPtr_ok 0 0) (drCons 75 (allCons (rSl_ok pRuC_ok) (allCons (rInt_ok .i64) (allCons (rInt_ok .i64) (drCons 67 allNil))))))), (eCons (eBlkC_ok pMaC_ok pMaC_len) eNil)⟩, (xCons ⟨(drCons 2 (allCons (rInt_ok .i64) (drCons 144 allNil))), eNil⟩ (xCons ⟨(drCons 147 allNil), eNil⟩ xNil))⟩
def sT_Check_h16 (v292 : Arr pRu) (v293 : Int) (v294 : Int) (v295 : pMa) : St := ⟨(un 1 ((.ptr 0 0) :: (un 75 ((slC pRuC v292) :: (.int .i64 v293) :: (.int .i64 v294) :: (un 67 []))))), [(0, .blk (Cod.enc pMaC v295))], 1⟩
def sT_Check_x16_r (q0 : Int) : St := ⟨(un 2 ((.int .i64 q0) :: (un 144 []))), [], 0⟩
def sT_Check_x16_4  : St := ⟨(un 147 []), [], 0⟩
def sT_Check_b16 {R : Type} (N : Nat) (rc : Arr pRu → Int → Int → pMa → Option R) (v292 : Arr pRu) (v293 : Int) (v294 : Int) (v295 : pMa) (kr : Int → Option R) (k4 : Unit → Option R) : Option R :=
 bif decide (v294 < v293) then
 bif decide ((0 : Int) ≤ v294) && decide (v294 < (↑(Arr.n v292) : Int)) then
 sT_within N (pRu.From (Arr.f v292 (Int.toNat v294))) (-1 : Int) (w64 ((↑(Arr.n (pMa.States v295)) : Int) - (1 : Int))) (fun r296 =>
 bif !r296 then
 kr (41 : Int)
 else
 sT_within N (pRu.To (Arr.f v292 (Int.toNat v294))) (0 : Int) (w64 ((↑(Arr.n (pMa.States v295)) : Int) - (1 : Int))) (fun r297 =>
 bif !r297 then
 kr (41 : Int)
 else
 sT_Asked N v295 (pRu.When (Arr.f v292 (Int.toNat v294))) (fun r327 =>
 bif !r327 then
 kr (41 : Int)
 else
 bif decide ((↑(Arr.n (pRu.Sets (Arr.f v292 (Int.toNat v294)))) : Int) > (4 : Int)) then
 kr (41 : Int)
 else
 sT_Check_l21 N N v292 v293 v294 (pRu.When (Arr.f v292 (Int.toNat v294))) ((↑(Arr.n (pRu.When (Arr.f v292 (Int.toNat v294)))) : Int)) (0 : Int) v295 (Arr.f v292 (Int.toNat v294)) (fun r346 =>
 kr r346) (fun (_ : Unit) =>
 sT_Check_l27 N N v292 v293 v294 (pRu.Sets (Arr.f v292 (Int.toNat v294))) ((↑(Arr.n (pRu.Sets (Arr.f v292 (Int.toNat v294)))) : Int)) (0 : Int) v295 (fun r356 =>
 kr r356) (fun (_ : Unit) =>
 rc v292 v293 (w64 (v294 + (1 : Int))) v295)))))
 else
 Option.none
 else
 k4 ()
def sT_Check_l16 {R : Type} (N : Nat) : Nat → Arr pRu → Int → Int → pMa → (Int → Option R) → (Unit → Option R) → Option R
  | 0, _, _, _, _, _, _ => Option.none
  | n + 1, v292, v293, v294, v295, kr, k4 => sT_Check_b16 N (fun v292 v293 v294 v295 => sT_Check_l16 N n v292 v293 v294 v295 kr k4) v292 v293 v294 v295 kr k4
def sT_Check_m {R : Type} (N : Nat) (a221 : pMa) (k : Int → Option R) : Option R :=
 bif decide ((↑(Arr.n (pMa.Inputs a221)) : Int) > (4 : Int)) then
 k (41 : Int)
 else
 bif decide ((↑(Arr.n (pMa.Outputs a221)) : Int) > (6 : Int)) then
 k (41 : Int)
 else
 bif decide ((↑(Arr.n (pMa.Counters a221)) : Int) > (2 : Int)) then
 k (41 : Int)
 else
 sT_within N ((↑(Arr.n (pMa.States a221)) : Int)) (1 : Int) (12 : Int) (fun r225 =>
 bif !r225 then
 k (41 : Int)
 else
 bif decide ((↑(Arr.n (pMa.Rules a221)) : Int) > (40 : Int)) then
 k (41 : Int)
 else
 sT_named N a221 (fun r279 =>
 bif !r279 then
 k (41 : Int)
 else
 sT_Check_l4 N N (pMa.Counters a221) ((↑(Arr.n (pMa.Counters a221)) : Int)) (0 : Int) a221 (fun r285 =>
 k r285) (fun (_ : Unit) =>
 sT_Check_l10 N N (pMa.States a221) ((↑(Arr.n (pMa.States a221)) : Int)) (0 : Int) a221 (fun r291 =>
 k r291) (fun (_ : Unit) =>
 sT_Check_l16 N N (pMa.Rules a221) ((↑(Arr.n (pMa.Rules a221)) : Int)) (0 : Int) a221 (fun r357 =>
 k r357) (fun (_ : Unit) =>
 k (0 : Int))))))
noncomputable def sT_Check {R : Type} : Nat → pMa → (Int → Option R) → Option R := lock (@sT_Check_m R)
theorem sT_Check_def {R : Type} (N : Nat) (a221 : pMa) (k : Int → Option R) : sT_Check N a221 k = sT_Check_m N a221 k := by unfold sT_Check; rw [lock_eq]
def sT_Check_sp : Sp := ⟨[rAgg pMaC], []⟩
theorem sT_Check_sp_ok : sT_Check_sp.Ok := ⟨(allCons (rAgg_ok pMaC_ok pMaC_len) allNil), eNil⟩
def sT_Check_rs : Sp := ⟨[rInt .i64], []⟩
theorem sT_Check_rs_ok : sT_Check_rs.Ok := ⟨(allCons (rInt_ok .i64) allNil), eNil⟩
def sT_Check_run {R : Type} (N : Nat) (args : List SV) (T : Tab) (kf : SV × Tab → Option R) : Option R :=
  sT_Check_m N (Cod.dec pMaC (lget (toCs (lget args 0)))) (fun q0 => kf (lget [.int .i64 q0] 0, []))
def sT_Check_d27 {R : Type} (N : Nat) (S0 : St) (k : Exit → St → Option R) : Option R :=
  sT_Check_l27 N N (lstC pRuC (lget S0.tmps 77)) (toI (lget S0.tmps 78)) (toI (lget S0.tmps 79)) (lstC api_SetC (lget S0.tmps 125)) (toI (lget S0.tmps 126)) (toI (lget S0.tmps 127)) (Cod.dec pMaC (lget (entCs (entAt S0.tab 0)))) (fun q0 => k .ret (sT_Check_x27_r q0)) (fun (_ : Unit) => k (.exit 8) (sT_Check_x27_8 (lstC pRuC (lget S0.tmps 77)) (toI (lget S0.tmps 78)) (toI (lget S0.tmps 79)) (Cod.dec pMaC (lget (entCs (entAt S0.tab 0))))))
def sT_Check_d21 {R : Type} (N : Nat) (S0 : St) (k : Exit → St → Option R) : Option R :=
  sT_Check_l21 N N (lstC pRuC (lget S0.tmps 77)) (toI (lget S0.tmps 78)) (toI (lget S0.tmps 79)) (lstC (lsC pLiC) (lget S0.tmps 115)) (toI (lget S0.tmps 116)) (toI (lget S0.tmps 117)) (Cod.dec pMaC (lget (entCs (entAt S0.tab 0)))) (Cod.dec pRuC (lget (entCs (entAt S0.tab 1)))) (fun q0 => k .ret (sT_Check_x21_r q0)) (fun (_ : Unit) => k (.exit 6) (sT_Check_x21_6 (lstC pRuC (lget S0.tmps 77)) (toI (lget S0.tmps 78)) (toI (lget S0.tmps 79)) (Cod.dec pMaC (lget (entCs (entAt S0.tab 0)))) (Cod.dec pRuC (lget (entCs (entAt S0.tab 1))))))
def sT_Check_d16 {R : Type} (N : Nat) (S0 : St) (k : Exit → St → Option R) : Option R :=
  sT_Check_l16 N N (lstC pRuC (lget S0.tmps 77)) (toI (lget S0.tmps 78)) (toI (lget S0.tmps 79)) (Cod.dec pMaC (lget (entCs (entAt S0.tab 0)))) (fun q0 => k .ret (sT_Check_x16_r q0)) (fun (_ : Unit) => k (.exit 4) (sT_Check_x16_4 ))
def sT_Check_d10 {R : Type} (N : Nat) (S0 : St) (k : Exit → St → Option R) : Option R :=
  sT_Check_l10 N N (lstC pStC (lget S0.tmps 60)) (toI (lget S0.tmps 61)) (toI (lget S0.tmps 62)) (Cod.dec pMaC (lget (entCs (entAt S0.tab 0)))) (fun q0 => k .ret (sT_Check_x10_r q0)) (fun (_ : Unit) => k (.exit 2) (sT_Check_x10_2 (Cod.dec pMaC (lget (entCs (entAt S0.tab 0))))))
def sT_Check_d4 {R : Type} (N : Nat) (S0 : St) (k : Exit → St → Option R) : Option R :=
  sT_Check_l4 N N (lstC pCoC (lget S0.tmps 48)) (toI (lget S0.tmps 49)) (toI (lget S0.tmps 50)) (Cod.dec pMaC (lget (entCs (entAt S0.tab 0)))) (fun q0 => k .ret (sT_Check_x4_r q0)) (fun (_ : Unit) => k (.exit 0) (sT_Check_x4_0 (Cod.dec pMaC (lget (entCs (entAt S0.tab 0))))))
def sT_Check_lp {R : Type} (N : Nat) : Lp R := fun body S k => bif (Go.Sx.keyOf body).getD 0 == 4 then (sT_Check_L4.head.raw 0 S (fun S0 => sT_Check_d4 N S0 k)) else bif (Go.Sx.keyOf body).getD 0 == 10 then (sT_Check_L10.head.raw 0 S (fun S0 => sT_Check_d10 N S0 k)) else bif (Go.Sx.keyOf body).getD 0 == 16 then (sT_Check_L16.head.raw 0 S (fun S0 => sT_Check_d16 N S0 k)) else bif (Go.Sx.keyOf body).getD 0 == 21 then (sT_Check_L21.head.raw 0 S (fun S0 => sT_Check_d21 N S0 k)) else bif (Go.Sx.keyOf body).getD 0 == 27 then (sT_Check_L27.head.raw 0 S (fun S0 => sT_Check_d27 N S0 k)) else Option.none
theorem sT_Check_l4_eq {R : Type} (N : Nat) (k : Exit → St → Option R) (n : Nat) : ∀ (v0 : Arr pCo) (v1 : Int) (v2 : Int) (v3 : pMa), loopM E.Θ (coL_v2_cal N) (sT_Check_lp N) (noJn) 0 sT_Check_L4 (bodyAt E 117 4) n (sT_Check_h4 v0 v1 v2 v3) k = sT_Check_l4 N n v0 v1 v2 v3 (fun q0 => k .ret (sT_Check_x4_r q0)) (fun (_ : Unit) => k (.exit 0) (sT_Check_x4_0 v3)) := by
  induction n with
  | zero => intro v0 v1 v2 v3; rfl
  | succ n ih =>
    intro v0 v1 v2 v3
    refine Eq.trans (b := sT_Check_b4 N (fun v0 v1 v2 v3 => loopM E.Θ (coL_v2_cal N) (sT_Check_lp N) (noJn) 0 sT_Check_L4 (bodyAt E 117 4) n (sT_Check_h4 v0 v1 v2 v3) k) v0 v1 v2 v3 (fun q0 => k .ret (sT_Check_x4_r q0)) (fun (_ : Unit) => k (.exit 0) (sT_Check_x4_0 v3))) (by kernel_rfl) ?_
    have h : (fun (v0 : Arr pCo) (v1 : Int) (v2 : Int) (v3 : pMa) => loopM E.Θ (coL_v2_cal N) (sT_Check_lp N) (noJn) 0 sT_Check_L4 (bodyAt E 117 4) n (sT_Check_h4 v0 v1 v2 v3) k) = (fun (v0 : Arr pCo) (v1 : Int) (v2 : Int) (v3 : pMa) => sT_Check_l4 N n v0 v1 v2 v3 (fun q0 => k .ret (sT_Check_x4_r q0)) (fun (_ : Unit) => k (.exit 0) (sT_Check_x4_0 v3))) := funext fun v0 => funext fun v1 => funext fun v2 => funext fun v3 => ih v0 v1 v2 v3
    rw [h]
    rfl
theorem sT_Check_l10_eq {R : Type} (N : Nat) (k : Exit → St → Option R) (n : Nat) : ∀ (v0 : Arr pSt) (v1 : Int) (v2 : Int) (v3 : pMa), loopM E.Θ (coL_v2_cal N) (sT_Check_lp N) (noJn) 0 sT_Check_L10 (bodyAt E 117 10) n (sT_Check_h10 v0 v1 v2 v3) k = sT_Check_l10 N n v0 v1 v2 v3 (fun q0 => k .ret (sT_Check_x10_r q0)) (fun (_ : Unit) => k (.exit 2) (sT_Check_x10_2 v3)) := by
  induction n with
  | zero => intro v0 v1 v2 v3; rfl
  | succ n ih =>
    intro v0 v1 v2 v3
    refine Eq.trans (b := sT_Check_b10 N (fun v0 v1 v2 v3 => loopM E.Θ (coL_v2_cal N) (sT_Check_lp N) (noJn) 0 sT_Check_L10 (bodyAt E 117 10) n (sT_Check_h10 v0 v1 v2 v3) k) v0 v1 v2 v3 (fun q0 => k .ret (sT_Check_x10_r q0)) (fun (_ : Unit) => k (.exit 2) (sT_Check_x10_2 v3))) (by kernel_rfl) ?_
    have h : (fun (v0 : Arr pSt) (v1 : Int) (v2 : Int) (v3 : pMa) => loopM E.Θ (coL_v2_cal N) (sT_Check_lp N) (noJn) 0 sT_Check_L10 (bodyAt E 117 10) n (sT_Check_h10 v0 v1 v2 v3) k) = (fun (v0 : Arr pSt) (v1 : Int) (v2 : Int) (v3 : pMa) => sT_Check_l10 N n v0 v1 v2 v3 (fun q0 => k .ret (sT_Check_x10_r q0)) (fun (_ : Unit) => k (.exit 2) (sT_Check_x10_2 v3))) := funext fun v0 => funext fun v1 => funext fun v2 => funext fun v3 => ih v0 v1 v2 v3
    rw [h]
    rfl
theorem sT_Check_l16_eq {R : Type} (N : Nat) (k : Exit → St → Option R) (n : Nat) : ∀ (v0 : Arr pRu) (v1 : Int) (v2 : Int) (v3 : pMa), loopM E.Θ (coL_v2_cal N) (sT_Check_lp N) (noJn) 0 sT_Check_L16 (bodyAt E 117 16) n (sT_Check_h16 v0 v1 v2 v3) k = sT_Check_l16 N n v0 v1 v2 v3 (fun q0 => k .ret (sT_Check_x16_r q0)) (fun (_ : Unit) => k (.exit 4) (sT_Check_x16_4 )) := by
  induction n with
  | zero => intro v0 v1 v2 v3; rfl
  | succ n ih =>
    intro v0 v1 v2 v3
    refine Eq.trans (b := sT_Check_b16 N (fun v0 v1 v2 v3 => loopM E.Θ (coL_v2_cal N) (sT_Check_lp N) (noJn) 0 sT_Check_L16 (bodyAt E 117 16) n (sT_Check_h16 v0 v1 v2 v3) k) v0 v1 v2 v3 (fun q0 => k .ret (sT_Check_x16_r q0)) (fun (_ : Unit) => k (.exit 4) (sT_Check_x16_4 ))) (by kernel_rfl) ?_
    have h : (fun (v0 : Arr pRu) (v1 : Int) (v2 : Int) (v3 : pMa) => loopM E.Θ (coL_v2_cal N) (sT_Check_lp N) (noJn) 0 sT_Check_L16 (bodyAt E 117 16) n (sT_Check_h16 v0 v1 v2 v3) k) = (fun (v0 : Arr pRu) (v1 : Int) (v2 : Int) (v3 : pMa) => sT_Check_l16 N n v0 v1 v2 v3 (fun q0 => k .ret (sT_Check_x16_r q0)) (fun (_ : Unit) => k (.exit 4) (sT_Check_x16_4 ))) := funext fun v0 => funext fun v1 => funext fun v2 => funext fun v3 => ih v0 v1 v2 v3
    rw [h]
    rfl
theorem sT_Check_l21_eq {R : Type} (N : Nat) (k : Exit → St → Option R) (n : Nat) : ∀ (v0 : Arr pRu) (v1 : Int) (v2 : Int) (v3 : Arr (Arr pLi)) (v4 : Int) (v5 : Int) (v6 : pMa) (v7 : pRu), loopM E.Θ (coL_v2_cal N) (sT_Check_lp N) (noJn) 0 sT_Check_L21 (bodyAt E 117 21) n (sT_Check_h21 v0 v1 v2 v3 v4 v5 v6 v7) k = sT_Check_l21 N n v0 v1 v2 v3 v4 v5 v6 v7 (fun q0 => k .ret (sT_Check_x21_r q0)) (fun (_ : Unit) => k (.exit 6) (sT_Check_x21_6 v0 v1 v2 v6 v7)) := by
  induction n with
  | zero => intro v0 v1 v2 v3 v4 v5 v6 v7; rfl
  | succ n ih =>
    intro v0 v1 v2 v3 v4 v5 v6 v7
    refine Eq.trans (b := sT_Check_b21 N (fun v0 v1 v2 v3 v4 v5 v6 v7 => loopM E.Θ (coL_v2_cal N) (sT_Check_lp N) (noJn) 0 sT_Check_L21 (bodyAt E 117 21) n (sT_Check_h21 v0 v1 v2 v3 v4 v5 v6 v7) k) v0 v1 v2 v3 v4 v5 v6 v7 (fun q0 => k .ret (sT_Check_x21_r q0)) (fun (_ : Unit) => k (.exit 6) (sT_Check_x21_6 v0 v1 v2 v6 v7))) (by kernel_rfl) ?_
    have h : (fun (v0 : Arr pRu) (v1 : Int) (v2 : Int) (v3 : Arr (Arr pLi)) (v4 : Int) (v5 : Int) (v6 : pMa) (v7 : pRu) => loopM E.Θ (coL_v2_cal N) (sT_Check_lp N) (noJn) 0 sT_Check_L21 (bodyAt E 117 21) n (sT_Check_h21 v0 v1 v2 v3 v4 v5 v6 v7) k) = (fun (v0 : Arr pRu) (v1 : Int) (v2 : Int) (v3 : Arr (Arr pLi)) (v4 : Int) (v5 : Int) (v6 : pMa) (v7 : pRu) => sT_Check_l21 N n v0 v1 v2 v3 v4 v5 v6 v7 (fun q0 => k .ret (sT_Check_x21_r q0)) (fun (_ : Unit) => k (.exit 6) (sT_Check_x21_6 v0 v1 v2 v6 v7))) := funext fun v0 => funext fun v1 => funext fun v2 => funext fun v3 => funext fun v4 => funext fun v5 => funext fun v6 => funext fun v7 => ih v0 v1 v2 v3 v4 v5 v6 v7
    rw [h]
    rfl
theorem sT_Check_l27_eq {R : Type} (N : Nat) (k : Exit → St → Option R) (n : Nat) : ∀ (v0 : Arr pRu) (v1 : Int) (v2 : Int) (v3 : Arr api_Set) (v4 : Int) (v5 : Int) (v6 : pMa), loopM E.Θ (coL_v2_cal N) (sT_Check_lp N) (noJn) 0 sT_Check_L27 (bodyAt E 117 27) n (sT_Check_h27 v0 v1 v2 v3 v4 v5 v6) k = sT_Check_l27 N n v0 v1 v2 v3 v4 v5 v6 (fun q0 => k .ret (sT_Check_x27_r q0)) (fun (_ : Unit) => k (.exit 8) (sT_Check_x27_8 v0 v1 v2 v6)) := by
  induction n with
  | zero => intro v0 v1 v2 v3 v4 v5 v6; rfl
  | succ n ih =>
    intro v0 v1 v2 v3 v4 v5 v6
    refine Eq.trans (b := sT_Check_b27 N (fun v0 v1 v2 v3 v4 v5 v6 => loopM E.Θ (coL_v2_cal N) (sT_Check_lp N) (noJn) 0 sT_Check_L27 (bodyAt E 117 27) n (sT_Check_h27 v0 v1 v2 v3 v4 v5 v6) k) v0 v1 v2 v3 v4 v5 v6 (fun q0 => k .ret (sT_Check_x27_r q0)) (fun (_ : Unit) => k (.exit 8) (sT_Check_x27_8 v0 v1 v2 v6))) (by kernel_rfl) ?_
    have h : (fun (v0 : Arr pRu) (v1 : Int) (v2 : Int) (v3 : Arr api_Set) (v4 : Int) (v5 : Int) (v6 : pMa) => loopM E.Θ (coL_v2_cal N) (sT_Check_lp N) (noJn) 0 sT_Check_L27 (bodyAt E 117 27) n (sT_Check_h27 v0 v1 v2 v3 v4 v5 v6) k) = (fun (v0 : Arr pRu) (v1 : Int) (v2 : Int) (v3 : Arr api_Set) (v4 : Int) (v5 : Int) (v6 : pMa) => sT_Check_l27 N n v0 v1 v2 v3 v4 v5 v6 (fun q0 => k .ret (sT_Check_x27_r q0)) (fun (_ : Unit) => k (.exit 8) (sT_Check_x27_8 v0 v1 v2 v6))) := funext fun v0 => funext fun v1 => funext fun v2 => funext fun v3 => funext fun v4 => funext fun v5 => funext fun v6 => ih v0 v1 v2 v3 v4 v5 v6
    rw [h]
    rfl
theorem sT_Check_k27 {R : Type} (N : Nat) : LpKey (R := R) E 117 0 (sT_Check_lp N) 27 :=
  lpKey_of hE (coL_v2_cal_ok N) (lp := sT_Check_lp N) (jn := noJn) sT_Check_L27_ok [] kNil (by kernel_rfl) [] jNil (by kernel_rfl) N fun S k =>
    Eq.trans (b := sT_Check_L27.head.raw 0 S (fun S0 => sT_Check_d27 N S0 k)) (by kernel_rfl) (congrArg (sT_Check_L27.head.raw 0 S) (funext fun S0 => Eq.trans (sT_Check_l27_eq N k N (lstC pRuC (lget S0.tmps 77)) (toI (lget S0.tmps 78)) (toI (lget S0.tmps 79)) (lstC api_SetC (lget S0.tmps 125)) (toI (lget S0.tmps 126)) (toI (lget S0.tmps 127)) (Cod.dec pMaC (lget (entCs (entAt S0.tab 0))))).symm (by kernel_rfl)))
theorem sT_Check_k4 {R : Type} (N : Nat) : LpKey (R := R) E 117 0 (sT_Check_lp N) 4 :=
  lpKey_of hE (coL_v2_cal_ok N) (lp := sT_Check_lp N) (jn := noJn) sT_Check_L4_ok [] kNil (by kernel_rfl) [] jNil (by kernel_rfl) N fun S k =>
    Eq.trans (b := sT_Check_L4.head.raw 0 S (fun S0 => sT_Check_d4 N S0 k)) (by kernel_rfl) (congrArg (sT_Check_L4.head.raw 0 S) (funext fun S0 => Eq.trans (sT_Check_l4_eq N k N (lstC pCoC (lget S0.tmps 48)) (toI (lget S0.tmps 49)) (toI (lget S0.tmps 50)) (Cod.dec pMaC (lget (entCs (entAt S0.tab 0))))).symm (by kernel_rfl)))
theorem sT_Check_k10 {R : Type} (N : Nat) : LpKey (R := R) E 117 0 (sT_Check_lp N) 10 :=
  lpKey_of hE (coL_v2_cal_ok N) (lp := sT_Check_lp N) (jn := noJn) sT_Check_L10_ok [] kNil (by kernel_rfl) [] jNil (by kernel_rfl) N fun S k =>
    Eq.trans (b := sT_Check_L10.head.raw 0 S (fun S0 => sT_Check_d10 N S0 k)) (by kernel_rfl) (congrArg (sT_Check_L10.head.raw 0 S) (funext fun S0 => Eq.trans (sT_Check_l10_eq N k N (lstC pStC (lget S0.tmps 60)) (toI (lget S0.tmps 61)) (toI (lget S0.tmps 62)) (Cod.dec pMaC (lget (entCs (entAt S0.tab 0))))).symm (by kernel_rfl)))
theorem sT_Check_k21 {R : Type} (N : Nat) : LpKey (R := R) E 117 0 (sT_Check_lp N) 21 :=
  lpKey_of hE (coL_v2_cal_ok N) (lp := sT_Check_lp N) (jn := noJn) sT_Check_L21_ok [] kNil (by kernel_rfl) [] jNil (by kernel_rfl) N fun S k =>
    Eq.trans (b := sT_Check_L21.head.raw 0 S (fun S0 => sT_Check_d21 N S0 k)) (by kernel_rfl) (congrArg (sT_Check_L21.head.raw 0 S) (funext fun S0 => Eq.trans (sT_Check_l21_eq N k N (lstC pRuC (lget S0.tmps 77)) (toI (lget S0.tmps 78)) (toI (lget S0.tmps 79)) (lstC (lsC pLiC) (lget S0.tmps 115)) (toI (lget S0.tmps 116)) (toI (lget S0.tmps 117)) (Cod.dec pMaC (lget (entCs (entAt S0.tab 0)))) (Cod.dec pRuC (lget (entCs (entAt S0.tab 1))))).symm (by kernel_rfl)))
theorem sT_Check_k16 {R : Type} (N : Nat) : LpKey (R := R) E 117 0 (sT_Check_lp N) 16 :=
  lpKey_of hE (coL_v2_cal_ok N) (lp := sT_Check_lp N) (jn := noJn) sT_Check_L16_ok [21, 27] (kCons (sT_Check_k21 N) (kCons (sT_Check_k27 N) kNil)) (by kernel_rfl) [] jNil (by kernel_rfl) N fun S k =>
    Eq.trans (b := sT_Check_L16.head.raw 0 S (fun S0 => sT_Check_d16 N S0 k)) (by kernel_rfl) (congrArg (sT_Check_L16.head.raw 0 S) (funext fun S0 => Eq.trans (sT_Check_l16_eq N k N (lstC pRuC (lget S0.tmps 77)) (toI (lget S0.tmps 78)) (toI (lget S0.tmps 79)) (Cod.dec pMaC (lget (entCs (entAt S0.tab 0))))).symm (by kernel_rfl)))
noncomputable def sT_Check_go {R : Type} (N : Nat) (args : List SV) (T : Tab) (kf : SV × Tab → Option R) : Option R :=
  sT_Check N (Cod.dec pMaC (lget (toCs (lget args 0)))) (fun q0 => kf (lget [.int .i64 q0] 0, []))
noncomputable def sT_Check_cal {R : Type} (N : Nat) : Cal R := callM (coL_v2_cal N) 117 0 sT_Check_sp (sT_Check_go N)
theorem sT_Check_cal_ok {R : Type} (N : Nat) : CalOk E.P (sT_Check_cal (R := R) N) :=
  callM_ok hE (coL_v2_cal_ok N) (lp := sT_Check_lp N) (jn := noJn) (keys := [4, 10, 16, 21, 27]) (kCons (sT_Check_k4 N) (kCons (sT_Check_k10 N) (kCons (sT_Check_k16 N) (kCons (sT_Check_k21 N) (kCons (sT_Check_k27 N) kNil))))) (by kernel_rfl) (js := []) jNil (by kernel_rfl) sT_Check_sp_ok sT_Check_rs_ok (fun args T kf => Eq.trans (sT_Check_def N (Cod.dec pMaC (lget (toCs (lget args 0)))) (fun q0 => kf (lget [.int .i64 q0] 0, []))) (by kernel_rfl : sT_Check_run N args T kf = fnM E (coL_v2_cal N) (sT_Check_lp N) (noJn) 117 (sT_Check_sp.vs args) (sT_Check_sp.tab T) 0 (resK sT_Check_rs kf)))
def cN_Check_m {R : Type} (N : Nat) (a220 : pMa) (k : Int → Option R) : Option R :=
 sT_Check N a220 (fun r358 =>
 k r358)
noncomputable def cN_Check {R : Type} : Nat → pMa → (Int → Option R) → Option R := lock (@cN_Check_m R)
theorem cN_Check_def {R : Type} (N : Nat) (a220 : pMa) (k : Int → Option R) : cN_Check N a220 k = cN_Check_m N a220 k := by unfold cN_Check; rw [lock_eq]
def cN_Check_sp : Sp := ⟨[rAgg pMaC], []⟩
theorem cN_Check_sp_ok : cN_Check_sp.Ok := ⟨(allCons (rAgg_ok pMaC_ok pMaC_len) allNil), eNil⟩
def cN_Check_rs : Sp := ⟨[rInt .i64], []⟩
theorem cN_Check_rs_ok : cN_Check_rs.Ok := ⟨(allCons (rInt_ok .i64) allNil), eNil⟩
def cN_Check_run {R : Type} (N : Nat) (args : List SV) (T : Tab) (kf : SV × Tab → Option R) : Option R :=
  cN_Check_m N (Cod.dec pMaC (lget (toCs (lget args 0)))) (fun q0 => kf (lget [.int .i64 q0] 0, []))
def cN_Check_lp {R : Type} (N : Nat) : Lp R := fun body S k => Option.none
noncomputable def cN_Check_go {R : Type} (N : Nat) (args : List SV) (T : Tab) (kf : SV × Tab → Option R) : Option R :=
  cN_Check N (Cod.dec pMaC (lget (toCs (lget args 0)))) (fun q0 => kf (lget [.int .i64 q0] 0, []))
noncomputable def cN_Check_cal {R : Type} (N : Nat) : Cal R := callM (sT_Check_cal N) 76 0 cN_Check_sp (cN_Check_go N)
theorem cN_Check_cal_ok {R : Type} (N : Nat) : CalOk E.P (cN_Check_cal (R := R) N) :=
  callM_ok hE (sT_Check_cal_ok N) (lp := cN_Check_lp N) (jn := noJn) (keys := []) kNil (by kernel_rfl) (js := []) jNil (by kernel_rfl) cN_Check_sp_ok cN_Check_rs_ok (fun args T kf => Eq.trans (cN_Check_def N (Cod.dec pMaC (lget (toCs (lget args 0)))) (fun q0 => kf (lget [.int .i64 q0] 0, []))) (by kernel_rfl : cN_Check_run N args T kf = fnM E (sT_Check_cal N) (cN_Check_lp N) (noJn) 76 (cN_Check_sp.vs args) (cN_Check_sp.tab T) 0 (resK cN_Check_rs kf)))
def cN_of_m {R : Type} (N : Nat) (a360 : pMa) (k : Arr ByteArray → Arr ByteArray → Arr pCo → Arr pSt → Arr pRu → Option R) : Option R :=
 k (pMa.Inputs a360) (pMa.Outputs a360) (pMa.Counters a360) (pMa.States a360) (pMa.Rules a360)
noncomputable def cN_of {R : Type} : Nat → pMa → (Arr ByteArray → Arr ByteArray → Arr pCo → Arr pSt → Arr pRu → Option R) → Option R := lock (@cN_of_m R)
theorem cN_of_def {R : Type} (N : Nat) (a360 : pMa) (k : Arr ByteArray → Arr ByteArray → Arr pCo → Arr pSt → Arr pRu → Option R) : cN_of N a360 k = cN_of_m N a360 k := by unfold cN_of; rw [lock_eq]
def cN_of_sp : Sp := ⟨[rAgg pMaC], []⟩
theorem cN_of_sp_ok : cN_of_sp.Ok := ⟨(allCons (rAgg_ok pMaC_ok pMaC_len) allNil), eNil⟩
def cN_of_rs : Sp := ⟨[rAggs [rSl strC, rSl strC, rSl pCoC, rSl pStC, rSl pRuC]], []⟩
theorem cN_of_rs_ok : cN_of_rs.Ok := ⟨(allCons (rAggs_ok (allCons (rSl_ok strC_ok) (allCons (rSl_ok strC_ok) (allCons (rSl_ok pCoC_ok) (allCons (rSl_ok pStC_ok) (allCons (rSl_ok pRuC_ok) allNil)))))) allNil), eNil⟩
def cN_of_run {R : Type} (N : Nat) (args : List SV) (T : Tab) (kf : SV × Tab → Option R) : Option R :=
  cN_of_m N (Cod.dec pMaC (lget (toCs (lget args 0)))) (fun q0 q1 q2 q3 q4 => kf (lget [.agg [slC strC q0, slC strC q1, slC pCoC q2, slC pStC q3, slC pRuC q4]] 0, []))
def cN_of_lp {R : Type} (N : Nat) : Lp R := fun body S k => Option.none
noncomputable def cN_of_go {R : Type} (N : Nat) (args : List SV) (T : Tab) (kf : SV × Tab → Option R) : Option R :=
  cN_of N (Cod.dec pMaC (lget (toCs (lget args 0)))) (fun q0 q1 q2 q3 q4 => kf (lget [.agg [slC strC q0, slC strC q1, slC pCoC q2, slC pStC q3, slC pRuC q4]] 0, []))
noncomputable def cN_of_cal {R : Type} (N : Nat) : Cal R := callM (cN_Check_cal N) 77 0 cN_of_sp (cN_of_go N)
theorem cN_of_cal_ok {R : Type} (N : Nat) : CalOk E.P (cN_of_cal (R := R) N) :=
  callM_ok hE (cN_Check_cal_ok N) (lp := cN_of_lp N) (jn := noJn) (keys := []) kNil (by kernel_rfl) (js := []) jNil (by kernel_rfl) cN_of_sp_ok cN_of_rs_ok (fun args T kf => Eq.trans (cN_of_def N (Cod.dec pMaC (lget (toCs (lget args 0)))) (fun q0 q1 q2 q3 q4 => kf (lget [.agg [slC strC q0, slC strC q1, slC pCoC q2, slC pStC q3, slC pRuC q4]] 0, []))) (by kernel_rfl : cN_of_run N args T kf = fnM E (cN_Check_cal N) (cN_of_lp N) (noJn) 77 (cN_of_sp.vs args) (cN_of_sp.tab T) 0 (resK cN_of_rs kf)))
def sP_All_m {R : Type} (N : Nat) (a383 : Arr ByteArray) (a384 : Arr ByteArray) (a385 : Arr pCo) (a386 : Arr pSt) (a387 : Arr pRu) (k : Int → Option R) : Option R :=
 k (w64 ((1 : Int) * (2 : Int) ^ min (Int.toNat (↑(Arr.n a383) : Int)) (IntKind.bits IntKind.i64)))
noncomputable def sP_All {R : Type} : Nat → Arr ByteArray → Arr ByteArray → Arr pCo → Arr pSt → Arr pRu → (Int → Option R) → Option R := lock (@sP_All_m R)
theorem sP_All_def {R : Type} (N : Nat) (a383 : Arr ByteArray) (a384 : Arr ByteArray) (a385 : Arr pCo) (a386 : Arr pSt) (a387 : Arr pRu) (k : Int → Option R) : sP_All N a383 a384 a385 a386 a387 k = sP_All_m N a383 a384 a385 a386 a387 k := by unfold sP_All; rw [lock_eq]
def sP_All_sp : Sp := ⟨[rAggs [rSl strC, rSl strC, rSl pCoC, rSl pStC, rSl pRuC]], []⟩
theorem sP_All_sp_ok : sP_All_sp.Ok := ⟨(allCons (rAggs_ok (allCons (rSl_ok strC_ok) (allCons (rSl_ok strC_ok) (allCons (rSl_ok pCoC_ok) (allCons (rSl_ok pStC_ok) (allCons (rSl_ok pRuC_ok) allNil)))))) allNil), eNil⟩
def sP_All_rs : Sp := ⟨[rInt .i64], []⟩
theorem sP_All_rs_ok : sP_All_rs.Ok := ⟨(allCons (rInt_ok .i64) allNil), eNil⟩
def sP_All_run {R : Type} (N : Nat) (args : List SV) (T : Tab) (kf : SV × Tab → Option R) : Option R :=
  sP_All_m N (lstC strC (lget (toCs (lget args 0)) 0)) (lstC strC (lget (toCs (lget args 0)) 1)) (lstC pCoC (lget (toCs (lget args 0)) 2)) (lstC pStC (lget (toCs (lget args 0)) 3)) (lstC pRuC (lget (toCs (lget args 0)) 4)) (fun q0 => kf (lget [.int .i64 q0] 0, []))
def sP_All_lp {R : Type} (N : Nat) : Lp R := fun body S k => Option.none
noncomputable def sP_All_go {R : Type} (N : Nat) (args : List SV) (T : Tab) (kf : SV × Tab → Option R) : Option R :=
  sP_All N (lstC strC (lget (toCs (lget args 0)) 0)) (lstC strC (lget (toCs (lget args 0)) 1)) (lstC pCoC (lget (toCs (lget args 0)) 2)) (lstC pStC (lget (toCs (lget args 0)) 3)) (lstC pRuC (lget (toCs (lget args 0)) 4)) (fun q0 => kf (lget [.int .i64 q0] 0, []))
noncomputable def sP_All_cal {R : Type} (N : Nat) : Cal R := callM (cN_of_cal N) 119 0 sP_All_sp (sP_All_go N)
theorem sP_All_cal_ok {R : Type} (N : Nat) : CalOk E.P (sP_All_cal (R := R) N) :=
  callM_ok hE (cN_of_cal_ok N) (lp := sP_All_lp N) (jn := noJn) (keys := []) kNil (by kernel_rfl) (js := []) jNil (by kernel_rfl) sP_All_sp_ok sP_All_rs_ok (fun args T kf => Eq.trans (sP_All_def N (lstC strC (lget (toCs (lget args 0)) 0)) (lstC strC (lget (toCs (lget args 0)) 1)) (lstC pCoC (lget (toCs (lget args 0)) 2)) (lstC pStC (lget (toCs (lget args 0)) 3)) (lstC pRuC (lget (toCs (lget args 0)) 4)) (fun q0 => kf (lget [.int .i64 q0] 0, []))) (by kernel_rfl : sP_All_run N args T kf = fnM E (cN_of_cal N) (sP_All_lp N) (noJn) 119 (sP_All_sp.vs args) (sP_All_sp.tab T) 0 (resK sP_All_rs kf)))
def sP_Input_m {R : Type} (N : Nat) (a377 : Arr ByteArray) (a378 : Arr ByteArray) (a379 : Arr pCo) (a380 : Arr pSt) (a381 : Arr pRu) (a382 : Int) (k : Bool → Option R) : Option R :=
 sP_All N a377 a378 a379 a380 a381 (fun r388 =>
 sT_within N a382 (0 : Int) (w64 (r388 - (1 : Int))) (fun r389 =>
 k r389))
noncomputable def sP_Input {R : Type} : Nat → Arr ByteArray → Arr ByteArray → Arr pCo → Arr pSt → Arr pRu → Int → (Bool → Option R) → Option R := lock (@sP_Input_m R)
theorem sP_Input_def {R : Type} (N : Nat) (a377 : Arr ByteArray) (a378 : Arr ByteArray) (a379 : Arr pCo) (a380 : Arr pSt) (a381 : Arr pRu) (a382 : Int) (k : Bool → Option R) : sP_Input N a377 a378 a379 a380 a381 a382 k = sP_Input_m N a377 a378 a379 a380 a381 a382 k := by unfold sP_Input; rw [lock_eq]
def sP_Input_sp : Sp := ⟨[rAggs [rSl strC, rSl strC, rSl pCoC, rSl pStC, rSl pRuC], rInt .i64], []⟩
theorem sP_Input_sp_ok : sP_Input_sp.Ok := ⟨(allCons (rAggs_ok (allCons (rSl_ok strC_ok) (allCons (rSl_ok strC_ok) (allCons (rSl_ok pCoC_ok) (allCons (rSl_ok pStC_ok) (allCons (rSl_ok pRuC_ok) allNil)))))) (allCons (rInt_ok .i64) allNil)), eNil⟩
def sP_Input_rs : Sp := ⟨[rBool], []⟩
theorem sP_Input_rs_ok : sP_Input_rs.Ok := ⟨(allCons rBool_ok allNil), eNil⟩
def sP_Input_run {R : Type} (N : Nat) (args : List SV) (T : Tab) (kf : SV × Tab → Option R) : Option R :=
  sP_Input_m N (lstC strC (lget (toCs (lget args 0)) 0)) (lstC strC (lget (toCs (lget args 0)) 1)) (lstC pCoC (lget (toCs (lget args 0)) 2)) (lstC pStC (lget (toCs (lget args 0)) 3)) (lstC pRuC (lget (toCs (lget args 0)) 4)) (toI (lget args 1)) (fun q0 => kf (lget [.bool q0] 0, []))
def sP_Input_lp {R : Type} (N : Nat) : Lp R := fun body S k => Option.none
noncomputable def sP_Input_go {R : Type} (N : Nat) (args : List SV) (T : Tab) (kf : SV × Tab → Option R) : Option R :=
  sP_Input N (lstC strC (lget (toCs (lget args 0)) 0)) (lstC strC (lget (toCs (lget args 0)) 1)) (lstC pCoC (lget (toCs (lget args 0)) 2)) (lstC pStC (lget (toCs (lget args 0)) 3)) (lstC pRuC (lget (toCs (lget args 0)) 4)) (toI (lget args 1)) (fun q0 => kf (lget [.bool q0] 0, []))
noncomputable def sP_Input_cal {R : Type} (N : Nat) : Cal R := callM (sP_All_cal N) 78 0 sP_Input_sp (sP_Input_go N)
theorem sP_Input_cal_ok {R : Type} (N : Nat) : CalOk E.P (sP_Input_cal (R := R) N) :=
  callM_ok hE (sP_All_cal_ok N) (lp := sP_Input_lp N) (jn := noJn) (keys := []) kNil (by kernel_rfl) (js := []) jNil (by kernel_rfl) sP_Input_sp_ok sP_Input_rs_ok (fun args T kf => Eq.trans (sP_Input_def N (lstC strC (lget (toCs (lget args 0)) 0)) (lstC strC (lget (toCs (lget args 0)) 1)) (lstC pCoC (lget (toCs (lget args 0)) 2)) (lstC pStC (lget (toCs (lget args 0)) 3)) (lstC pRuC (lget (toCs (lget args 0)) 4)) (toI (lget args 1)) (fun q0 => kf (lget [.bool q0] 0, []))) (by kernel_rfl : sP_Input_run N args T kf = fnM E (sP_All_cal N) (sP_Input_lp N) (noJn) 78 (sP_Input_sp.vs args) (sP_Input_sp.tab T) 0 (resK sP_Input_rs kf)))
def sP_literal_m {R : Type} (N : Nat) (a493 : Arr ByteArray) (a494 : Arr ByteArray) (a495 : Arr pCo) (a496 : Arr pSt) (a497 : Arr pRu) (a498 : pLi) (a499 : pPl) (a500 : Int) (k : Bool → Option R) : Option R :=
 bif pLi.Kind a498 == (1 : Int) then
 bif decide (pLi.Number a498 < (0 : Int)) then
 Option.none
 else
 k (!(w64 (↑(BitVec.toNat (BitVec.ofInt (IntKind.bits IntKind.i64) (Int.fdiv a500 ((2 : Int) ^ min (Int.toNat (pLi.Number a498)) (IntKind.bits IntKind.i64))) &&& BitVec.ofInt (IntKind.bits IntKind.i64) (1 : Int))) : Int) == (1 : Int)) == pLi.Not a498)
 else
 bif pLi.Kind a498 == (2 : Int) then
 bif decide ((0 : Int) ≤ pLi.Number a498) && decide (pLi.Number a498 < (↑(2 : Nat) : Int)) then
 k (!decide (pickI (pLi.Number a498) (0 : Nat) [Arr2_int.a0 (pPl.Values a499), Arr2_int.a1 (pPl.Values a499)] ≥ pLi.Value a498) == pLi.Not a498)
 else
 Option.none
 else
 bif pLi.Kind a498 == (3 : Int) then
 k (!(pPl.State a499 == pLi.Number a498) == pLi.Not a498)
 else
 bif pLi.Kind a498 == (4 : Int) then
 bif decide ((0 : Int) ≤ pPl.State a499) && decide (pPl.State a499 < (↑(Arr.n a496) : Int)) then
 bif decide (pLi.Number a498 < (0 : Int)) then
 Option.none
 else
 k (!(w64 (↑(BitVec.toNat (BitVec.ofInt (IntKind.bits IntKind.i64) (Int.fdiv (pSt.Shows (Arr.f a496 (Int.toNat (pPl.State a499)))) ((2 : Int) ^ min (Int.toNat (pLi.Number a498)) (IntKind.bits IntKind.i64))) &&& BitVec.ofInt (IntKind.bits IntKind.i64) (1 : Int))) : Int) == (1 : Int)) == pLi.Not a498)
 else
 Option.none
 else
 k (!false == pLi.Not a498)
noncomputable def sP_literal {R : Type} : Nat → Arr ByteArray → Arr ByteArray → Arr pCo → Arr pSt → Arr pRu → pLi → pPl → Int → (Bool → Option R) → Option R := lock (@sP_literal_m R)
theorem sP_literal_def {R : Type} (N : Nat) (a493 : Arr ByteArray) (a494 : Arr ByteArray) (a495 : Arr pCo) (a496 : Arr pSt) (a497 : Arr pRu) (a498 : pLi) (a499 : pPl) (a500 : Int) (k : Bool → Option R) : sP_literal N a493 a494 a495 a496 a497 a498 a499 a500 k = sP_literal_m N a493 a494 a495 a496 a497 a498 a499 a500 k := by unfold sP_literal; rw [lock_eq]
def sP_literal_sp : Sp := ⟨[rAggs [rSl strC, rSl strC, rSl pCoC, rSl pStC, rSl pRuC], rAgg pLiC, rAgg pPlC, rInt .i64], []⟩
theorem sP_literal_sp_ok : sP_literal_sp.Ok := ⟨(allCons (rAggs_ok (allCons (rSl_ok strC_ok) (allCons (rSl_ok strC_ok) (allCons (rSl_ok pCoC_ok) (allCons (rSl_ok pStC_ok) (allCons (rSl_ok pRuC_ok) allNil)))))) (allCons (rAgg_ok pLiC_ok pLiC_len) (allCons (rAgg_ok pPlC_ok pPlC_len) (allCons (rInt_ok .i64) allNil)))), eNil⟩
def sP_literal_rs : Sp := ⟨[rBool], []⟩
theorem sP_literal_rs_ok : sP_literal_rs.Ok := ⟨(allCons rBool_ok allNil), eNil⟩
def sP_literal_run {R : Type} (N : Nat) (args : List SV) (T : Tab) (kf : SV × Tab → Option R) : Option R :=
  sP_literal_m N (lstC strC (lget (toCs (lget args 0)) 0)) (lstC strC (lget (toCs (lget args 0)) 1)) (lstC pCoC (lget (toCs (lget args 0)) 2)) (lstC pStC (lget (toCs (lget args 0)) 3)) (lstC pRuC (lget (toCs (lget args 0)) 4)) (Cod.dec pLiC (lget (toCs (lget args 1)))) (Cod.dec pPlC (lget (toCs (lget args 2)))) (toI (lget args 3)) (fun q0 => kf (lget [.bool q0] 0, []))
def sP_literal_lp {R : Type} (N : Nat) : Lp R := fun body S k => Option.none
noncomputable def sP_literal_go {R : Type} (N : Nat) (args : List SV) (T : Tab) (kf : SV × Tab → Option R) : Option R :=
  sP_literal N (lstC strC (lget (toCs (lget args 0)) 0)) (lstC strC (lget (toCs (lget args 0)) 1)) (lstC pCoC (lget (toCs (lget args 0)) 2)) (lstC pStC (lget (toCs (lget args 0)) 3)) (lstC pRuC (lget (toCs (lget args 0)) 4)) (Cod.dec pLiC (lget (toCs (lget args 1)))) (Cod.dec pPlC (lget (toCs (lget args 2)))) (toI (lget args 3)) (fun q0 => kf (lget [.bool q0] 0, []))
noncomputable def sP_literal_cal {R : Type} (N : Nat) : Cal R := callM (sP_Input_cal N) 153 0 sP_literal_sp (sP_literal_go N)
theorem sP_literal_cal_ok {R : Type} (N : Nat) : CalOk E.P (sP_literal_cal (R := R) N) :=
  callM_ok hE (sP_Input_cal_ok N) (lp := sP_literal_lp N) (jn := noJn) (keys := []) kNil (by kernel_rfl) (js := []) jNil (by kernel_rfl) sP_literal_sp_ok sP_literal_rs_ok (fun args T kf => Eq.trans (sP_literal_def N (lstC strC (lget (toCs (lget args 0)) 0)) (lstC strC (lget (toCs (lget args 0)) 1)) (lstC pCoC (lget (toCs (lget args 0)) 2)) (lstC pStC (lget (toCs (lget args 0)) 3)) (lstC pRuC (lget (toCs (lget args 0)) 4)) (Cod.dec pLiC (lget (toCs (lget args 1)))) (Cod.dec pPlC (lget (toCs (lget args 2)))) (toI (lget args 3)) (fun q0 => kf (lget [.bool q0] 0, []))) (by kernel_rfl : sP_literal_run N args T kf = fnM E (sP_Input_cal N) (sP_literal_lp N) (noJn) 153 (sP_literal_sp.vs args) (sP_literal_sp.tab T) 0 (resK sP_literal_rs kf)))
def sP_Holds_1_1_m {R : Type} (N : Nat) (a485 : pLi) (a486 : Arr ByteArray) (a487 : Arr ByteArray) (a488 : Arr pCo) (a489 : Arr pSt) (a490 : Arr pRu) (a491 : pPl) (a492 : Int) (k : Bool → Option R) : Option R :=
 sP_literal N a486 a487 a488 a489 a490 a485 a491 a492 (fun r501 =>
 k (!r501))
noncomputable def sP_Holds_1_1 {R : Type} : Nat → pLi → Arr ByteArray → Arr ByteArray → Arr pCo → Arr pSt → Arr pRu → pPl → Int → (Bool → Option R) → Option R := lock (@sP_Holds_1_1_m R)
theorem sP_Holds_1_1_def {R : Type} (N : Nat) (a485 : pLi) (a486 : Arr ByteArray) (a487 : Arr ByteArray) (a488 : Arr pCo) (a489 : Arr pSt) (a490 : Arr pRu) (a491 : pPl) (a492 : Int) (k : Bool → Option R) : sP_Holds_1_1 N a485 a486 a487 a488 a489 a490 a491 a492 k = sP_Holds_1_1_m N a485 a486 a487 a488 a489 a490 a491 a492 k := by unfold sP_Holds_1_1; rw [lock_eq]
def sP_Holds_1_1_sp : Sp := ⟨[rAgg pLiC, rPtr 0 0, rPtr 1 0, rPtr 2 0], [(0, eBlk [rSl strC, rSl strC, rSl pCoC, rSl pStC, rSl pRuC]), (1, eBlkC pPlC), (2, eBlk [rInt .i64])]⟩
theorem sP_Holds_1_1_sp_ok : sP_Holds_1_1_sp.Ok := ⟨(allCons (rAgg_ok pLiC_ok pLiC_len) (allCons (rPtr_ok 0 0) (allCons (rPtr_ok 1 0) (allCons (rPtr_ok 2 0) allNil)))), (eCons (eBlk_ok (allCons (rSl_ok strC_ok) (allCons (rSl_ok strC_ok) (allCons (rSl_ok pCoC_ok) (allCons (rSl_ok pStC_ok) (allCons (rSl_ok pRuC_ok) allNil)))))) (eCons (eBlkC_ok pPlC_ok pPlC_len) (eCons (eBlk_ok (allCons (rInt_ok .i64) allNil)) eNil)))⟩
def sP_Holds_1_1_rs : Sp := ⟨[rBool], [(0, eBlk [rSl strC, rSl strC, rSl pCoC, rSl pStC, rSl pRuC]), (1, eBlkC pPlC), (2, eBlk [rInt .i64])]⟩
theorem sP_Holds_1_1_rs_ok : sP_Holds_1_1_rs.Ok := ⟨(allCons rBool_ok allNil), (eCons (eBlk_ok (allCons (rSl_ok strC_ok) (allCons (rSl_ok strC_ok) (allCons (rSl_ok pCoC_ok) (allCons (rSl_ok pStC_ok) (allCons (rSl_ok pRuC_ok) allNil)))))) (eCons (eBlkC_ok pPlC_ok pPlC_len) (eCons (eBlk_ok (allCons (rInt_ok .i64) allNil)) eNil)))⟩
def sP_Holds_1_1_run {R : Type} (N : Nat) (args : List SV) (T : Tab) (kf : SV × Tab → Option R) : Option R :=
  sP_Holds_1_1_m N (Cod.dec pLiC (lget (toCs (lget args 0)))) (lstC strC (lget (entCs (entAt T 0)) 0)) (lstC strC (lget (entCs (entAt T 0)) 1)) (lstC pCoC (lget (entCs (entAt T 0)) 2)) (lstC pStC (lget (entCs (entAt T 0)) 3)) (lstC pRuC (lget (entCs (entAt T 0)) 4)) (Cod.dec pPlC (lget (entCs (entAt T 1)))) (toI (lget (entCs (entAt T 2)) 0)) (fun q0 => kf (lget [.bool q0] 0, [(0, .blk [slC strC (lstC strC (lget (entCs (entAt T 0)) 0)), slC strC (lstC strC (lget (entCs (entAt T 0)) 1)), slC pCoC (lstC pCoC (lget (entCs (entAt T 0)) 2)), slC pStC (lstC pStC (lget (entCs (entAt T 0)) 3)), slC pRuC (lstC pRuC (lget (entCs (entAt T 0)) 4))]), (1, .blk (Cod.enc pPlC (Cod.dec pPlC (lget (entCs (entAt T 1)))))), (2, .blk [.int .i64 (toI (lget (entCs (entAt T 2)) 0))])]))
def sP_Holds_1_1_lp {R : Type} (N : Nat) : Lp R := fun body S k => Option.none
noncomputable def sP_Holds_1_1_go {R : Type} (N : Nat) (args : List SV) (T : Tab) (kf : SV × Tab → Option R) : Option R :=
  sP_Holds_1_1 N (Cod.dec pLiC (lget (toCs (lget args 0)))) (lstC strC (lget (entCs (entAt T 0)) 0)) (lstC strC (lget (entCs (entAt T 0)) 1)) (lstC pCoC (lget (entCs (entAt T 0)) 2)) (lstC pStC (lget (entCs (entAt T 0)) 3)) (lstC pRuC (lget (entCs (entAt T 0)) 4)) (Cod.dec pPlC (lget (entCs (entAt T 1)))) (toI (lget (entCs (entAt T 2)) 0)) (fun q0 => kf (lget [.bool q0] 0, [(0, .blk [slC strC (lstC strC (lget (entCs (entAt T 0)) 0)), slC strC (lstC strC (lget (entCs (entAt T 0)) 1)), slC pCoC (lstC pCoC (lget (entCs (entAt T 0)) 2)), slC pStC (lstC pStC (lget (entCs (entAt T 0)) 3)), slC pRuC (lstC pRuC (lget (entCs (entAt T 0)) 4))]), (1, .blk (Cod.enc pPlC (Cod.dec pPlC (lget (entCs (entAt T 1)))))), (2, .blk [.int .i64 (toI (lget (entCs (entAt T 2)) 0))])]))
noncomputable def sP_Holds_1_1_cal {R : Type} (N : Nat) : Cal R := callM (sP_literal_cal N) 152 3 sP_Holds_1_1_sp (sP_Holds_1_1_go N)
theorem sP_Holds_1_1_cal_ok {R : Type} (N : Nat) : CalOk E.P (sP_Holds_1_1_cal (R := R) N) :=
  callM_ok hE (sP_literal_cal_ok N) (lp := sP_Holds_1_1_lp N) (jn := noJn) (keys := []) kNil (by kernel_rfl) (js := []) jNil (by kernel_rfl) sP_Holds_1_1_sp_ok sP_Holds_1_1_rs_ok (fun args T kf => Eq.trans (sP_Holds_1_1_def N (Cod.dec pLiC (lget (toCs (lget args 0)))) (lstC strC (lget (entCs (entAt T 0)) 0)) (lstC strC (lget (entCs (entAt T 0)) 1)) (lstC pCoC (lget (entCs (entAt T 0)) 2)) (lstC pStC (lget (entCs (entAt T 0)) 3)) (lstC pRuC (lget (entCs (entAt T 0)) 4)) (Cod.dec pPlC (lget (entCs (entAt T 1)))) (toI (lget (entCs (entAt T 2)) 0)) (fun q0 => kf (lget [.bool q0] 0, [(0, .blk [slC strC (lstC strC (lget (entCs (entAt T 0)) 0)), slC strC (lstC strC (lget (entCs (entAt T 0)) 1)), slC pCoC (lstC pCoC (lget (entCs (entAt T 0)) 2)), slC pStC (lstC pStC (lget (entCs (entAt T 0)) 3)), slC pRuC (lstC pRuC (lget (entCs (entAt T 0)) 4))]), (1, .blk (Cod.enc pPlC (Cod.dec pPlC (lget (entCs (entAt T 1)))))), (2, .blk [.int .i64 (toI (lget (entCs (entAt T 2)) 0))])]))) (by kernel_rfl : sP_Holds_1_1_run N args T kf = fnM E (sP_literal_cal N) (sP_Holds_1_1_lp N) (noJn) 152 (sP_Holds_1_1_sp.vs args) (sP_Holds_1_1_sp.tab T) 3 (resK sP_Holds_1_1_rs kf)))
def ixL_v3_L2 : LoopSp := ⟨⟨[0, 1, 7, 8], ⟨((rSl pLiC) :: (rFunc 152 0 [rPtr 0 0, rPtr 1 0, rPtr 2 0]) :: (dr 5 ((rInt .i64) :: (rInt .i64) :: (dr 10 [])))), [(0, eBlk [rSl strC, rSl strC, rSl pCoC, rSl pStC, rSl pRuC]), (1, eBlkC pPlC), (2, eBlk [rInt .i64])]⟩, 3⟩, [(Option.none, ⟨[4], ⟨(dr 4 ((rInt .i64) :: (dr 14 []))), [(0, eBlk [rSl strC, rSl strC, rSl pCoC, rSl pStC, rSl pRuC]), (1, eBlkC pPlC), (2, eBlk [rInt .i64])]⟩, 3⟩), (some 0, ⟨[], ⟨(dr 19 []), [(0, eBlk [rSl strC, rSl strC, rSl pCoC, rSl pStC, rSl pRuC]), (1, eBlkC pPlC), (2, eBlk [rInt .i64])]⟩, 3⟩)]⟩
theorem ixL_v3_L2_ok : ixL_v3_L2.Ok := ⟨⟨(allCons (rSl_ok pLiC_ok) (allCons (rFunc_ok 152 0 (allCons (rPtr_ok 0 0) (allCons (rPtr_ok 1 0) (allCons (rPtr_ok 2 0) allNil)))) (drCons 5 (allCons (rInt_ok .i64) (allCons (rInt_ok .i64) (drCons 10 allNil)))))), (eCons (eBlk_ok (allCons (rSl_ok strC_ok) (allCons (rSl_ok strC_ok) (allCons (rSl_ok pCoC_ok) (allCons (rSl_ok pStC_ok) (allCons (rSl_ok pRuC_ok) allNil)))))) (eCons (eBlkC_ok pPlC_ok pPlC_len) (eCons (eBlk_ok (allCons (rInt_ok .i64) allNil)) eNil)))⟩, (xCons ⟨(drCons 4 (allCons (rInt_ok .i64) (drCons 14 allNil))), (eCons (eBlk_ok (allCons (rSl_ok strC_ok) (allCons (rSl_ok strC_ok) (allCons (rSl_ok pCoC_ok) (allCons (rSl_ok pStC_ok) (allCons (rSl_ok pRuC_ok) allNil)))))) (eCons (eBlkC_ok pPlC_ok pPlC_len) (eCons (eBlk_ok (allCons (rInt_ok .i64) allNil)) eNil)))⟩ (xCons ⟨(drCons 19 allNil), (eCons (eBlk_ok (allCons (rSl_ok strC_ok) (allCons (rSl_ok strC_ok) (allCons (rSl_ok pCoC_ok) (allCons (rSl_ok pStC_ok) (allCons (rSl_ok pRuC_ok) allNil)))))) (eCons (eBlkC_ok pPlC_ok pPlC_len) (eCons (eBlk_ok (allCons (rInt_ok .i64) allNil)) eNil)))⟩ xNil))⟩
def ixL_v3_h2 (v475 : Arr pLi) (v476 : Int) (v477 : Int) (v478 : Arr ByteArray) (v479 : Arr ByteArray) (v480 : Arr pCo) (v481 : Arr pSt) (v482 : Arr pRu) (v483 : pPl) (v484 : Int) : St := ⟨((slC pLiC v475) :: (.func 152 0 [.ptr 0 0, .ptr 1 0, .ptr 2 0]) :: (un 5 ((.int .i64 v476) :: (.int .i64 v477) :: (un 10 [])))), [(0, .blk [slC strC v478, slC strC v479, slC pCoC v480, slC pStC v481, slC pRuC v482]), (1, .blk (Cod.enc pPlC v483)), (2, .blk [.int .i64 v484])], 3⟩
def ixL_v3_x2_r (v478 : Arr ByteArray) (v479 : Arr ByteArray) (v480 : Arr pCo) (v481 : Arr pSt) (v482 : Arr pRu) (v483 : pPl) (v484 : Int) (q0 : Int) : St := ⟨(un 4 ((.int .i64 q0) :: (un 14 []))), [(0, .blk [slC strC v478, slC strC v479, slC pCoC v480, slC pStC v481, slC pRuC v482]), (1, .blk (Cod.enc pPlC v483)), (2, .blk [.int .i64 v484])], 3⟩
def ixL_v3_x2_0 (v478 : Arr ByteArray) (v479 : Arr ByteArray) (v480 : Arr pCo) (v481 : Arr pSt) (v482 : Arr pRu) (v483 : pPl) (v484 : Int) : St := ⟨(un 19 []), [(0, .blk [slC strC v478, slC strC v479, slC pCoC v480, slC pStC v481, slC pRuC v482]), (1, .blk (Cod.enc pPlC v483)), (2, .blk [.int .i64 v484])], 3⟩
def ixL_v3_b2 {R : Type} (N : Nat) (rc : Arr pLi → Int → Int → Arr ByteArray → Arr ByteArray → Arr pCo → Arr pSt → Arr pRu → pPl → Int → Option R) (v475 : Arr pLi) (v476 : Int) (v477 : Int) (v478 : Arr ByteArray) (v479 : Arr ByteArray) (v480 : Arr pCo) (v481 : Arr pSt) (v482 : Arr pRu) (v483 : pPl) (v484 : Int) (kr : Int → Option R) (k0 : Unit → Option R) : Option R :=
 bif decide (v477 < v476) then
 bif decide ((0 : Int) ≤ v477) && decide (v477 < (↑(Arr.n v475) : Int)) then
 sP_Holds_1_1 N (Arr.f v475 (Int.toNat v477)) v478 v479 v480 v481 v482 v483 v484 (fun r502 =>
 bif r502 then
 kr v477
 else
 rc v475 v476 (w64 (v477 + (1 : Int))) v478 v479 v480 v481 v482 v483 v484)
 else
 Option.none
 else
 k0 ()
def ixL_v3_l2 {R : Type} (N : Nat) : Nat → Arr pLi → Int → Int → Arr ByteArray → Arr ByteArray → Arr pCo → Arr pSt → Arr pRu → pPl → Int → (Int → Option R) → (Unit → Option R) → Option R
  | 0, _, _, _, _, _, _, _, _, _, _, _, _ => Option.none
  | n + 1, v475, v476, v477, v478, v479, v480, v481, v482, v483, v484, kr, k0 => ixL_v3_b2 N (fun v475 v476 v477 v478 v479 v480 v481 v482 v483 v484 => ixL_v3_l2 N n v475 v476 v477 v478 v479 v480 v481 v482 v483 v484 kr k0) v475 v476 v477 v478 v479 v480 v481 v482 v483 v484 kr k0
def ixL_v3_m {R : Type} (N : Nat) (a467 : Arr pLi) (a468 : Arr ByteArray) (a469 : Arr ByteArray) (a470 : Arr pCo) (a471 : Arr pSt) (a472 : Arr pRu) (a473 : pPl) (a474 : Int) (k : Int → Option R) : Option R :=
 ixL_v3_l2 N N a467 ((↑(Arr.n a467) : Int)) (0 : Int) a468 a469 a470 a471 a472 a473 a474 (fun r503 =>
 k r503) (fun (_ : Unit) =>
 k (-1 : Int))
noncomputable def ixL_v3 {R : Type} : Nat → Arr pLi → Arr ByteArray → Arr ByteArray → Arr pCo → Arr pSt → Arr pRu → pPl → Int → (Int → Option R) → Option R := lock (@ixL_v3_m R)
theorem ixL_v3_def {R : Type} (N : Nat) (a467 : Arr pLi) (a468 : Arr ByteArray) (a469 : Arr ByteArray) (a470 : Arr pCo) (a471 : Arr pSt) (a472 : Arr pRu) (a473 : pPl) (a474 : Int) (k : Int → Option R) : ixL_v3 N a467 a468 a469 a470 a471 a472 a473 a474 k = ixL_v3_m N a467 a468 a469 a470 a471 a472 a473 a474 k := by unfold ixL_v3; rw [lock_eq]
def ixL_v3_sp : Sp := ⟨[rSl pLiC, rFunc 152 0 [rPtr 0 0, rPtr 1 0, rPtr 2 0]], [(0, eBlk [rSl strC, rSl strC, rSl pCoC, rSl pStC, rSl pRuC]), (1, eBlkC pPlC), (2, eBlk [rInt .i64])]⟩
theorem ixL_v3_sp_ok : ixL_v3_sp.Ok := ⟨(allCons (rSl_ok pLiC_ok) (allCons (rFunc_ok 152 0 (allCons (rPtr_ok 0 0) (allCons (rPtr_ok 1 0) (allCons (rPtr_ok 2 0) allNil)))) allNil)), (eCons (eBlk_ok (allCons (rSl_ok strC_ok) (allCons (rSl_ok strC_ok) (allCons (rSl_ok pCoC_ok) (allCons (rSl_ok pStC_ok) (allCons (rSl_ok pRuC_ok) allNil)))))) (eCons (eBlkC_ok pPlC_ok pPlC_len) (eCons (eBlk_ok (allCons (rInt_ok .i64) allNil)) eNil)))⟩
def ixL_v3_rs : Sp := ⟨[rInt .i64], [(0, eBlk [rSl strC, rSl strC, rSl pCoC, rSl pStC, rSl pRuC]), (1, eBlkC pPlC), (2, eBlk [rInt .i64])]⟩
theorem ixL_v3_rs_ok : ixL_v3_rs.Ok := ⟨(allCons (rInt_ok .i64) allNil), (eCons (eBlk_ok (allCons (rSl_ok strC_ok) (allCons (rSl_ok strC_ok) (allCons (rSl_ok pCoC_ok) (allCons (rSl_ok pStC_ok) (allCons (rSl_ok pRuC_ok) allNil)))))) (eCons (eBlkC_ok pPlC_ok pPlC_len) (eCons (eBlk_ok (allCons (rInt_ok .i64) allNil)) eNil)))⟩
def ixL_v3_run {R : Type} (N : Nat) (args : List SV) (T : Tab) (kf : SV × Tab → Option R) : Option R :=
  ixL_v3_m N (lstC pLiC (lget args 0)) (lstC strC (lget (entCs (entAt T 0)) 0)) (lstC strC (lget (entCs (entAt T 0)) 1)) (lstC pCoC (lget (entCs (entAt T 0)) 2)) (lstC pStC (lget (entCs (entAt T 0)) 3)) (lstC pRuC (lget (entCs (entAt T 0)) 4)) (Cod.dec pPlC (lget (entCs (entAt T 1)))) (toI (lget (entCs (entAt T 2)) 0)) (fun q0 => kf (lget [.int .i64 q0] 0, [(0, .blk [slC strC (lstC strC (lget (entCs (entAt T 0)) 0)), slC strC (lstC strC (lget (entCs (entAt T 0)) 1)), slC pCoC (lstC pCoC (lget (entCs (entAt T 0)) 2)), slC pStC (lstC pStC (lget (entCs (entAt T 0)) 3)), slC pRuC (lstC pRuC (lget (entCs (entAt T 0)) 4))]), (1, .blk (Cod.enc pPlC (Cod.dec pPlC (lget (entCs (entAt T 1)))))), (2, .blk [.int .i64 (toI (lget (entCs (entAt T 2)) 0))])]))
def ixL_v3_d2 {R : Type} (N : Nat) (S0 : St) (k : Exit → St → Option R) : Option R :=
  ixL_v3_l2 N N (lstC pLiC (lget S0.tmps 0)) (toI (lget S0.tmps 7)) (toI (lget S0.tmps 8)) (lstC strC (lget (entCs (entAt S0.tab 0)) 0)) (lstC strC (lget (entCs (entAt S0.tab 0)) 1)) (lstC pCoC (lget (entCs (entAt S0.tab 0)) 2)) (lstC pStC (lget (entCs (entAt S0.tab 0)) 3)) (lstC pRuC (lget (entCs (entAt S0.tab 0)) 4)) (Cod.dec pPlC (lget (entCs (entAt S0.tab 1)))) (toI (lget (entCs (entAt S0.tab 2)) 0)) (fun q0 => k .ret (ixL_v3_x2_r (lstC strC (lget (entCs (entAt S0.tab 0)) 0)) (lstC strC (lget (entCs (entAt S0.tab 0)) 1)) (lstC pCoC (lget (entCs (entAt S0.tab 0)) 2)) (lstC pStC (lget (entCs (entAt S0.tab 0)) 3)) (lstC pRuC (lget (entCs (entAt S0.tab 0)) 4)) (Cod.dec pPlC (lget (entCs (entAt S0.tab 1)))) (toI (lget (entCs (entAt S0.tab 2)) 0)) q0)) (fun (_ : Unit) => k (.exit 0) (ixL_v3_x2_0 (lstC strC (lget (entCs (entAt S0.tab 0)) 0)) (lstC strC (lget (entCs (entAt S0.tab 0)) 1)) (lstC pCoC (lget (entCs (entAt S0.tab 0)) 2)) (lstC pStC (lget (entCs (entAt S0.tab 0)) 3)) (lstC pRuC (lget (entCs (entAt S0.tab 0)) 4)) (Cod.dec pPlC (lget (entCs (entAt S0.tab 1)))) (toI (lget (entCs (entAt S0.tab 2)) 0))))
def ixL_v3_lp {R : Type} (N : Nat) : Lp R := fun body S k => bif (Go.Sx.keyOf body).getD 0 == 2 then (ixL_v3_L2.head.raw 3 S (fun S0 => ixL_v3_d2 N S0 k)) else Option.none
theorem ixL_v3_l2_eq {R : Type} (N : Nat) (k : Exit → St → Option R) (n : Nat) : ∀ (v0 : Arr pLi) (v1 : Int) (v2 : Int) (v3 : Arr ByteArray) (v4 : Arr ByteArray) (v5 : Arr pCo) (v6 : Arr pSt) (v7 : Arr pRu) (v8 : pPl) (v9 : Int), loopM E.Θ (sP_Holds_1_1_cal N) (ixL_v3_lp N) (noJn) 3 ixL_v3_L2 (bodyAt E 162 2) n (ixL_v3_h2 v0 v1 v2 v3 v4 v5 v6 v7 v8 v9) k = ixL_v3_l2 N n v0 v1 v2 v3 v4 v5 v6 v7 v8 v9 (fun q0 => k .ret (ixL_v3_x2_r v3 v4 v5 v6 v7 v8 v9 q0)) (fun (_ : Unit) => k (.exit 0) (ixL_v3_x2_0 v3 v4 v5 v6 v7 v8 v9)) := by
  induction n with
  | zero => intro v0 v1 v2 v3 v4 v5 v6 v7 v8 v9; rfl
  | succ n ih =>
    intro v0 v1 v2 v3 v4 v5 v6 v7 v8 v9
    refine Eq.trans (b := ixL_v3_b2 N (fun v0 v1 v2 v3 v4 v5 v6 v7 v8 v9 => loopM E.Θ (sP_Holds_1_1_cal N) (ixL_v3_lp N) (noJn) 3 ixL_v3_L2 (bodyAt E 162 2) n (ixL_v3_h2 v0 v1 v2 v3 v4 v5 v6 v7 v8 v9) k) v0 v1 v2 v3 v4 v5 v6 v7 v8 v9 (fun q0 => k .ret (ixL_v3_x2_r v3 v4 v5 v6 v7 v8 v9 q0)) (fun (_ : Unit) => k (.exit 0) (ixL_v3_x2_0 v3 v4 v5 v6 v7 v8 v9))) (by kernel_rfl) ?_
    have h : (fun (v0 : Arr pLi) (v1 : Int) (v2 : Int) (v3 : Arr ByteArray) (v4 : Arr ByteArray) (v5 : Arr pCo) (v6 : Arr pSt) (v7 : Arr pRu) (v8 : pPl) (v9 : Int) => loopM E.Θ (sP_Holds_1_1_cal N) (ixL_v3_lp N) (noJn) 3 ixL_v3_L2 (bodyAt E 162 2) n (ixL_v3_h2 v0 v1 v2 v3 v4 v5 v6 v7 v8 v9) k) = (fun (v0 : Arr pLi) (v1 : Int) (v2 : Int) (v3 : Arr ByteArray) (v4 : Arr ByteArray) (v5 : Arr pCo) (v6 : Arr pSt) (v7 : Arr pRu) (v8 : pPl) (v9 : Int) => ixL_v3_l2 N n v0 v1 v2 v3 v4 v5 v6 v7 v8 v9 (fun q0 => k .ret (ixL_v3_x2_r v3 v4 v5 v6 v7 v8 v9 q0)) (fun (_ : Unit) => k (.exit 0) (ixL_v3_x2_0 v3 v4 v5 v6 v7 v8 v9))) := funext fun v0 => funext fun v1 => funext fun v2 => funext fun v3 => funext fun v4 => funext fun v5 => funext fun v6 => funext fun v7 => funext fun v8 => funext fun v9 => ih v0 v1 v2 v3 v4 v5 v6 v7 v8 v9
    rw [h]
    rfl
theorem ixL_v3_k2 {R : Type} (N : Nat) : LpKey (R := R) E 162 3 (ixL_v3_lp N) 2 :=
  lpKey_of hE (sP_Holds_1_1_cal_ok N) (lp := ixL_v3_lp N) (jn := noJn) ixL_v3_L2_ok [] kNil (by kernel_rfl) [] jNil (by kernel_rfl) N fun S k =>
    Eq.trans (b := ixL_v3_L2.head.raw 3 S (fun S0 => ixL_v3_d2 N S0 k)) (by kernel_rfl) (congrArg (ixL_v3_L2.head.raw 3 S) (funext fun S0 => Eq.trans (ixL_v3_l2_eq N k N (lstC pLiC (lget S0.tmps 0)) (toI (lget S0.tmps 7)) (toI (lget S0.tmps 8)) (lstC strC (lget (entCs (entAt S0.tab 0)) 0)) (lstC strC (lget (entCs (entAt S0.tab 0)) 1)) (lstC pCoC (lget (entCs (entAt S0.tab 0)) 2)) (lstC pStC (lget (entCs (entAt S0.tab 0)) 3)) (lstC pRuC (lget (entCs (entAt S0.tab 0)) 4)) (Cod.dec pPlC (lget (entCs (entAt S0.tab 1)))) (toI (lget (entCs (entAt S0.tab 2)) 0))).symm (by kernel_rfl)))
noncomputable def ixL_v3_go {R : Type} (N : Nat) (args : List SV) (T : Tab) (kf : SV × Tab → Option R) : Option R :=
  ixL_v3 N (lstC pLiC (lget args 0)) (lstC strC (lget (entCs (entAt T 0)) 0)) (lstC strC (lget (entCs (entAt T 0)) 1)) (lstC pCoC (lget (entCs (entAt T 0)) 2)) (lstC pStC (lget (entCs (entAt T 0)) 3)) (lstC pRuC (lget (entCs (entAt T 0)) 4)) (Cod.dec pPlC (lget (entCs (entAt T 1)))) (toI (lget (entCs (entAt T 2)) 0)) (fun q0 => kf (lget [.int .i64 q0] 0, [(0, .blk [slC strC (lstC strC (lget (entCs (entAt T 0)) 0)), slC strC (lstC strC (lget (entCs (entAt T 0)) 1)), slC pCoC (lstC pCoC (lget (entCs (entAt T 0)) 2)), slC pStC (lstC pStC (lget (entCs (entAt T 0)) 3)), slC pRuC (lstC pRuC (lget (entCs (entAt T 0)) 4))]), (1, .blk (Cod.enc pPlC (Cod.dec pPlC (lget (entCs (entAt T 1)))))), (2, .blk [.int .i64 (toI (lget (entCs (entAt T 2)) 0))])]))
noncomputable def ixL_v3_cal {R : Type} (N : Nat) : Cal R := callM (sP_Holds_1_1_cal N) 162 3 ixL_v3_sp (ixL_v3_go N)
theorem ixL_v3_cal_ok {R : Type} (N : Nat) : CalOk E.P (ixL_v3_cal (R := R) N) :=
  callM_ok hE (sP_Holds_1_1_cal_ok N) (lp := ixL_v3_lp N) (jn := noJn) (keys := [2]) (kCons (ixL_v3_k2 N) kNil) (by kernel_rfl) (js := []) jNil (by kernel_rfl) ixL_v3_sp_ok ixL_v3_rs_ok (fun args T kf => Eq.trans (ixL_v3_def N (lstC pLiC (lget args 0)) (lstC strC (lget (entCs (entAt T 0)) 0)) (lstC strC (lget (entCs (entAt T 0)) 1)) (lstC pCoC (lget (entCs (entAt T 0)) 2)) (lstC pStC (lget (entCs (entAt T 0)) 3)) (lstC pRuC (lget (entCs (entAt T 0)) 4)) (Cod.dec pPlC (lget (entCs (entAt T 1)))) (toI (lget (entCs (entAt T 2)) 0)) (fun q0 => kf (lget [.int .i64 q0] 0, [(0, .blk [slC strC (lstC strC (lget (entCs (entAt T 0)) 0)), slC strC (lstC strC (lget (entCs (entAt T 0)) 1)), slC pCoC (lstC pCoC (lget (entCs (entAt T 0)) 2)), slC pStC (lstC pStC (lget (entCs (entAt T 0)) 3)), slC pRuC (lstC pRuC (lget (entCs (entAt T 0)) 4))]), (1, .blk (Cod.enc pPlC (Cod.dec pPlC (lget (entCs (entAt T 1)))))), (2, .blk [.int .i64 (toI (lget (entCs (entAt T 2)) 0))])]))) (by kernel_rfl : ixL_v3_run N args T kf = fnM E (sP_Holds_1_1_cal N) (ixL_v3_lp N) (noJn) 162 (ixL_v3_sp.vs args) (ixL_v3_sp.tab T) 3 (resK ixL_v3_rs kf)))
def coL_v3_m {R : Type} (N : Nat) (a459 : Arr pLi) (a460 : Arr ByteArray) (a461 : Arr ByteArray) (a462 : Arr pCo) (a463 : Arr pSt) (a464 : Arr pRu) (a465 : pPl) (a466 : Int) (k : Bool → Option R) : Option R :=
 ixL_v3 N a459 a460 a461 a462 a463 a464 a465 a466 (fun r504 =>
 k (decide (r504 ≥ (0 : Int))))
noncomputable def coL_v3 {R : Type} : Nat → Arr pLi → Arr ByteArray → Arr ByteArray → Arr pCo → Arr pSt → Arr pRu → pPl → Int → (Bool → Option R) → Option R := lock (@coL_v3_m R)
theorem coL_v3_def {R : Type} (N : Nat) (a459 : Arr pLi) (a460 : Arr ByteArray) (a461 : Arr ByteArray) (a462 : Arr pCo) (a463 : Arr pSt) (a464 : Arr pRu) (a465 : pPl) (a466 : Int) (k : Bool → Option R) : coL_v3 N a459 a460 a461 a462 a463 a464 a465 a466 k = coL_v3_m N a459 a460 a461 a462 a463 a464 a465 a466 k := by unfold coL_v3; rw [lock_eq]
def coL_v3_sp : Sp := ⟨[rSl pLiC, rFunc 152 0 [rPtr 0 0, rPtr 1 0, rPtr 2 0]], [(0, eBlk [rSl strC, rSl strC, rSl pCoC, rSl pStC, rSl pRuC]), (1, eBlkC pPlC), (2, eBlk [rInt .i64])]⟩
theorem coL_v3_sp_ok : coL_v3_sp.Ok := ⟨(allCons (rSl_ok pLiC_ok) (allCons (rFunc_ok 152 0 (allCons (rPtr_ok 0 0) (allCons (rPtr_ok 1 0) (allCons (rPtr_ok 2 0) allNil)))) allNil)), (eCons (eBlk_ok (allCons (rSl_ok strC_ok) (allCons (rSl_ok strC_ok) (allCons (rSl_ok pCoC_ok) (allCons (rSl_ok pStC_ok) (allCons (rSl_ok pRuC_ok) allNil)))))) (eCons (eBlkC_ok pPlC_ok pPlC_len) (eCons (eBlk_ok (allCons (rInt_ok .i64) allNil)) eNil)))⟩
def coL_v3_rs : Sp := ⟨[rBool], [(0, eBlk [rSl strC, rSl strC, rSl pCoC, rSl pStC, rSl pRuC]), (1, eBlkC pPlC), (2, eBlk [rInt .i64])]⟩
theorem coL_v3_rs_ok : coL_v3_rs.Ok := ⟨(allCons rBool_ok allNil), (eCons (eBlk_ok (allCons (rSl_ok strC_ok) (allCons (rSl_ok strC_ok) (allCons (rSl_ok pCoC_ok) (allCons (rSl_ok pStC_ok) (allCons (rSl_ok pRuC_ok) allNil)))))) (eCons (eBlkC_ok pPlC_ok pPlC_len) (eCons (eBlk_ok (allCons (rInt_ok .i64) allNil)) eNil)))⟩
def coL_v3_run {R : Type} (N : Nat) (args : List SV) (T : Tab) (kf : SV × Tab → Option R) : Option R :=
  coL_v3_m N (lstC pLiC (lget args 0)) (lstC strC (lget (entCs (entAt T 0)) 0)) (lstC strC (lget (entCs (entAt T 0)) 1)) (lstC pCoC (lget (entCs (entAt T 0)) 2)) (lstC pStC (lget (entCs (entAt T 0)) 3)) (lstC pRuC (lget (entCs (entAt T 0)) 4)) (Cod.dec pPlC (lget (entCs (entAt T 1)))) (toI (lget (entCs (entAt T 2)) 0)) (fun q0 => kf (lget [.bool q0] 0, [(0, .blk [slC strC (lstC strC (lget (entCs (entAt T 0)) 0)), slC strC (lstC strC (lget (entCs (entAt T 0)) 1)), slC pCoC (lstC pCoC (lget (entCs (entAt T 0)) 2)), slC pStC (lstC pStC (lget (entCs (entAt T 0)) 3)), slC pRuC (lstC pRuC (lget (entCs (entAt T 0)) 4))]), (1, .blk (Cod.enc pPlC (Cod.dec pPlC (lget (entCs (entAt T 1)))))), (2, .blk [.int .i64 (toI (lget (entCs (entAt T 2)) 0))])]))
def coL_v3_lp {R : Type} (N : Nat) : Lp R := fun body S k => Option.none
noncomputable def coL_v3_go {R : Type} (N : Nat) (args : List SV) (T : Tab) (kf : SV × Tab → Option R) : Option R :=
  coL_v3 N (lstC pLiC (lget args 0)) (lstC strC (lget (entCs (entAt T 0)) 0)) (lstC strC (lget (entCs (entAt T 0)) 1)) (lstC pCoC (lget (entCs (entAt T 0)) 2)) (lstC pStC (lget (entCs (entAt T 0)) 3)) (lstC pRuC (lget (entCs (entAt T 0)) 4)) (Cod.dec pPlC (lget (entCs (entAt T 1)))) (toI (lget (entCs (entAt T 2)) 0)) (fun q0 => kf (lget [.bool q0] 0, [(0, .blk [slC strC (lstC strC (lget (entCs (entAt T 0)) 0)), slC strC (lstC strC (lget (entCs (entAt T 0)) 1)), slC pCoC (lstC pCoC (lget (entCs (entAt T 0)) 2)), slC pStC (lstC pStC (lget (entCs (entAt T 0)) 3)), slC pRuC (lstC pRuC (lget (entCs (entAt T 0)) 4))]), (1, .blk (Cod.enc pPlC (Cod.dec pPlC (lget (entCs (entAt T 1)))))), (2, .blk [.int .i64 (toI (lget (entCs (entAt T 2)) 0))])]))
noncomputable def coL_v3_cal {R : Type} (N : Nat) : Cal R := callM (ixL_v3_cal N) 148 3 coL_v3_sp (coL_v3_go N)
theorem coL_v3_cal_ok {R : Type} (N : Nat) : CalOk E.P (coL_v3_cal (R := R) N) :=
  callM_ok hE (ixL_v3_cal_ok N) (lp := coL_v3_lp N) (jn := noJn) (keys := []) kNil (by kernel_rfl) (js := []) jNil (by kernel_rfl) coL_v3_sp_ok coL_v3_rs_ok (fun args T kf => Eq.trans (coL_v3_def N (lstC pLiC (lget args 0)) (lstC strC (lget (entCs (entAt T 0)) 0)) (lstC strC (lget (entCs (entAt T 0)) 1)) (lstC pCoC (lget (entCs (entAt T 0)) 2)) (lstC pStC (lget (entCs (entAt T 0)) 3)) (lstC pRuC (lget (entCs (entAt T 0)) 4)) (Cod.dec pPlC (lget (entCs (entAt T 1)))) (toI (lget (entCs (entAt T 2)) 0)) (fun q0 => kf (lget [.bool q0] 0, [(0, .blk [slC strC (lstC strC (lget (entCs (entAt T 0)) 0)), slC strC (lstC strC (lget (entCs (entAt T 0)) 1)), slC pCoC (lstC pCoC (lget (entCs (entAt T 0)) 2)), slC pStC (lstC pStC (lget (entCs (entAt T 0)) 3)), slC pRuC (lstC pRuC (lget (entCs (entAt T 0)) 4))]), (1, .blk (Cod.enc pPlC (Cod.dec pPlC (lget (entCs (entAt T 1)))))), (2, .blk [.int .i64 (toI (lget (entCs (entAt T 2)) 0))])]))) (by kernel_rfl : coL_v3_run N args T kf = fnM E (ixL_v3_cal N) (coL_v3_lp N) (noJn) 148 (coL_v3_sp.vs args) (coL_v3_sp.tab T) 3 (resK coL_v3_rs kf)))
def sP_Holds_1_m {R : Type} (N : Nat) (a449 : Arr pLi) (a450 : Arr ByteArray) (a451 : Arr ByteArray) (a452 : Arr pCo) (a453 : Arr pSt) (a454 : Arr pRu) (a455 : Int) (a456 : Int) (a457 : Int) (a458 : Int) (k : Bool → Int → Int → Int → Option R) : Option R :=
 coL_v3 N a449 a450 a451 a452 a453 a454 (pPl.mk a455 (Arr2_int.mk a456 a457)) a458 (fun r505 =>
 k (!r505) (pPl.State (pPl.mk a455 (Arr2_int.mk a456 a457))) (Arr2_int.a0 (pPl.Values (pPl.mk a455 (Arr2_int.mk a456 a457)))) (Arr2_int.a1 (pPl.Values (pPl.mk a455 (Arr2_int.mk a456 a457)))))
noncomputable def sP_Holds_1 {R : Type} : Nat → Arr pLi → Arr ByteArray → Arr ByteArray → Arr pCo → Arr pSt → Arr pRu → Int → Int → Int → Int → (Bool → Int → Int → Int → Option R) → Option R := lock (@sP_Holds_1_m R)
theorem sP_Holds_1_def {R : Type} (N : Nat) (a449 : Arr pLi) (a450 : Arr ByteArray) (a451 : Arr ByteArray) (a452 : Arr pCo) (a453 : Arr pSt) (a454 : Arr pRu) (a455 : Int) (a456 : Int) (a457 : Int) (a458 : Int) (k : Bool → Int → Int → Int → Option R) : sP_Holds_1 N a449 a450 a451 a452 a453 a454 a455 a456 a457 a458 k = sP_Holds_1_m N a449 a450 a451 a452 a453 a454 a455 a456 a457 a458 k := by unfold sP_Holds_1; rw [lock_eq]
def sP_Holds_1_sp : Sp := ⟨[rSl pLiC, rPtr 0 0, rPtr 1 0, rPtr 2 0], [(0, eBlk [rSl strC, rSl strC, rSl pCoC, rSl pStC, rSl pRuC]), (1, eBlk [rInt .i64, rInt .i64, rInt .i64]), (2, eBlk [rInt .i64])]⟩
theorem sP_Holds_1_sp_ok : sP_Holds_1_sp.Ok := ⟨(allCons (rSl_ok pLiC_ok) (allCons (rPtr_ok 0 0) (allCons (rPtr_ok 1 0) (allCons (rPtr_ok 2 0) allNil)))), (eCons (eBlk_ok (allCons (rSl_ok strC_ok) (allCons (rSl_ok strC_ok) (allCons (rSl_ok pCoC_ok) (allCons (rSl_ok pStC_ok) (allCons (rSl_ok pRuC_ok) allNil)))))) (eCons (eBlk_ok (allCons (rInt_ok .i64) (allCons (rInt_ok .i64) (allCons (rInt_ok .i64) allNil)))) (eCons (eBlk_ok (allCons (rInt_ok .i64) allNil)) eNil)))⟩
def sP_Holds_1_rs : Sp := ⟨[rBool], [(0, eBlk [rSl strC, rSl strC, rSl pCoC, rSl pStC, rSl pRuC]), (1, eBlk [rInt .i64, rInt .i64, rInt .i64]), (2, eBlk [rInt .i64])]⟩
theorem sP_Holds_1_rs_ok : sP_Holds_1_rs.Ok := ⟨(allCons rBool_ok allNil), (eCons (eBlk_ok (allCons (rSl_ok strC_ok) (allCons (rSl_ok strC_ok) (allCons (rSl_ok pCoC_ok) (allCons (rSl_ok pStC_ok) (allCons (rSl_ok pRuC_ok) allNil)))))) (eCons (eBlk_ok (allCons (rInt_ok .i64) (allCons (rInt_ok .i64) (allCons (rInt_ok .i64) allNil)))) (eCons (eBlk_ok (allCons (rInt_ok .i64) allNil)) eNil)))⟩
def sP_Holds_1_run {R : Type} (N : Nat) (args : List SV) (T : Tab) (kf : SV × Tab → Option R) : Option R :=
  sP_Holds_1_m N (lstC pLiC (lget args 0)) (lstC strC (lget (entCs (entAt T 0)) 0)) (lstC strC (lget (entCs (entAt T 0)) 1)) (lstC pCoC (lget (entCs (entAt T 0)) 2)) (lstC pStC (lget (entCs (entAt T 0)) 3)) (lstC pRuC (lget (entCs (entAt T 0)) 4)) (toI (lget (entCs (entAt T 1)) 0)) (toI (lget (entCs (entAt T 1)) 1)) (toI (lget (entCs (entAt T 1)) 2)) (toI (lget (entCs (entAt T 2)) 0)) (fun q0 q6 q7 q8 => kf (lget [.bool q0] 0, [(0, .blk [slC strC (lstC strC (lget (entCs (entAt T 0)) 0)), slC strC (lstC strC (lget (entCs (entAt T 0)) 1)), slC pCoC (lstC pCoC (lget (entCs (entAt T 0)) 2)), slC pStC (lstC pStC (lget (entCs (entAt T 0)) 3)), slC pRuC (lstC pRuC (lget (entCs (entAt T 0)) 4))]), (1, .blk [.int .i64 q6, .int .i64 q7, .int .i64 q8]), (2, .blk [.int .i64 (toI (lget (entCs (entAt T 2)) 0))])]))
def sP_Holds_1_lp {R : Type} (N : Nat) : Lp R := fun body S k => Option.none
noncomputable def sP_Holds_1_go {R : Type} (N : Nat) (args : List SV) (T : Tab) (kf : SV × Tab → Option R) : Option R :=
  sP_Holds_1 N (lstC pLiC (lget args 0)) (lstC strC (lget (entCs (entAt T 0)) 0)) (lstC strC (lget (entCs (entAt T 0)) 1)) (lstC pCoC (lget (entCs (entAt T 0)) 2)) (lstC pStC (lget (entCs (entAt T 0)) 3)) (lstC pRuC (lget (entCs (entAt T 0)) 4)) (toI (lget (entCs (entAt T 1)) 0)) (toI (lget (entCs (entAt T 1)) 1)) (toI (lget (entCs (entAt T 1)) 2)) (toI (lget (entCs (entAt T 2)) 0)) (fun q0 q6 q7 q8 => kf (lget [.bool q0] 0, [(0, .blk [slC strC (lstC strC (lget (entCs (entAt T 0)) 0)), slC strC (lstC strC (lget (entCs (entAt T 0)) 1)), slC pCoC (lstC pCoC (lget (entCs (entAt T 0)) 2)), slC pStC (lstC pStC (lget (entCs (entAt T 0)) 3)), slC pRuC (lstC pRuC (lget (entCs (entAt T 0)) 4))]), (1, .blk [.int .i64 q6, .int .i64 q7, .int .i64 q8]), (2, .blk [.int .i64 (toI (lget (entCs (entAt T 2)) 0))])]))
noncomputable def sP_Holds_1_cal {R : Type} (N : Nat) : Cal R := callM (coL_v3_cal N) 151 3 sP_Holds_1_sp (sP_Holds_1_go N)
theorem sP_Holds_1_cal_ok {R : Type} (N : Nat) : CalOk E.P (sP_Holds_1_cal (R := R) N) :=
  callM_ok hE (coL_v3_cal_ok N) (lp := sP_Holds_1_lp N) (jn := noJn) (keys := []) kNil (by kernel_rfl) (js := []) jNil (by kernel_rfl) sP_Holds_1_sp_ok sP_Holds_1_rs_ok (fun args T kf => Eq.trans (sP_Holds_1_def N (lstC pLiC (lget args 0)) (lstC strC (lget (entCs (entAt T 0)) 0)) (lstC strC (lget (entCs (entAt T 0)) 1)) (lstC pCoC (lget (entCs (entAt T 0)) 2)) (lstC pStC (lget (entCs (entAt T 0)) 3)) (lstC pRuC (lget (entCs (entAt T 0)) 4)) (toI (lget (entCs (entAt T 1)) 0)) (toI (lget (entCs (entAt T 1)) 1)) (toI (lget (entCs (entAt T 1)) 2)) (toI (lget (entCs (entAt T 2)) 0)) (fun q0 q6 q7 q8 => kf (lget [.bool q0] 0, [(0, .blk [slC strC (lstC strC (lget (entCs (entAt T 0)) 0)), slC strC (lstC strC (lget (entCs (entAt T 0)) 1)), slC pCoC (lstC pCoC (lget (entCs (entAt T 0)) 2)), slC pStC (lstC pStC (lget (entCs (entAt T 0)) 3)), slC pRuC (lstC pRuC (lget (entCs (entAt T 0)) 4))]), (1, .blk [.int .i64 q6, .int .i64 q7, .int .i64 q8]), (2, .blk [.int .i64 (toI (lget (entCs (entAt T 2)) 0))])]))) (by kernel_rfl : sP_Holds_1_run N args T kf = fnM E (coL_v3_cal N) (sP_Holds_1_lp N) (noJn) 151 (sP_Holds_1_sp.vs args) (sP_Holds_1_sp.tab T) 3 (resK sP_Holds_1_rs kf)))
def ixT_L2 : LoopSp := ⟨⟨[0, 1, 7, 8], ⟨((rSl (lsC pLiC)) :: (rFunc 151 0 [rPtr 0 0, rPtr 1 0, rPtr 2 0]) :: (dr 5 ((rInt .i64) :: (rInt .i64) :: (dr 10 [])))), [(0, eBlk [rSl strC, rSl strC, rSl pCoC, rSl pStC, rSl pRuC]), (1, eBlk [rInt .i64, rInt .i64, rInt .i64]), (2, eBlk [rInt .i64])]⟩, 3⟩, [(Option.none, ⟨[4], ⟨(dr 4 ((rInt .i64) :: (dr 14 []))), [(0, eBlk [rSl strC, rSl strC, rSl pCoC, rSl pStC, rSl pRuC]), (1, eBlk [rInt .i64, rInt .i64, rInt .i64]), (2, eBlk [rInt .i64])]⟩, 3⟩), (some 0, ⟨[], ⟨(dr 19 []), [(0, eBlk [rSl strC, rSl strC, rSl pCoC, rSl pStC, rSl pRuC]), (1, eBlk [rInt .i64, rInt .i64, rInt .i64]), (2, eBlk [rInt .i64])]⟩, 3⟩)]⟩
theorem ixT_L2_ok : ixT_L2.Ok := ⟨⟨(allCons (rSl_ok (lsC_ok pLiC_ok)) (allCons (rFunc_ok 151 0 (allCons (rPtr_ok 0 0) (allCons (rPtr_ok 1 0) (allCons (rPtr_ok 2 0) allNil)))) (drCons 5 (allCons (rInt_ok .i64) (allCons (rInt_ok .i64) (drCons 10 allNil)))))), (eCons (eBlk_ok (allCons (rSl_ok strC_ok) (allCons (rSl_ok strC_ok) (allCons (rSl_ok pCoC_ok) (allCons (rSl_ok pStC_ok) (allCons (rSl_ok pRuC_ok) allNil)))))) (eCons (eBlk_ok (allCons (rInt_ok .i64) (allCons (rInt_ok .i64) (allCons (rInt_ok .i64) allNil)))) (eCons (eBlk_ok (allCons (rInt_ok .i64) allNil)) eNil)))⟩, (xCons ⟨(drCons 4 (allCons (rInt_ok .i64) (drCons 14 allNil))), (eCons (eBlk_ok (allCons (rSl_ok strC_ok) (allCons (rSl_ok strC_ok) (allCons (rSl_ok pCoC_ok) (allCons (rSl_ok pStC_ok) (allCons (rSl_ok pRuC_ok) allNil)))))) (eCons (eBlk_ok (allCons (rInt_ok .i64) (allCons (rInt_ok .i64) (allCons (rInt_ok .i64) allNil)))) (eCons (eBlk_ok (allCons (rInt_ok .i64) allNil)) eNil)))⟩ (xCons ⟨(drCons 19 allNil), (eCons (eBlk_ok (allCons (rSl_ok strC_ok) (allCons (rSl_ok strC_ok) (allCons (rSl_ok pCoC_ok) (allCons (rSl_ok pStC_ok) (allCons (rSl_ok pRuC_ok) allNil)))))) (eCons (eBlk_ok (allCons (rInt_ok .i64) (allCons (rInt_ok .i64) (allCons (rInt_ok .i64) allNil)))) (eCons (eBlk_ok (allCons (rInt_ok .i64) allNil)) eNil)))⟩ xNil))⟩
def ixT_h2 (v437 : Arr (Arr pLi)) (v438 : Int) (v439 : Int) (v440 : Arr ByteArray) (v441 : Arr ByteArray) (v442 : Arr pCo) (v443 : Arr pSt) (v444 : Arr pRu) (v445 : Int) (v446 : Int) (v447 : Int) (v448 : Int) : St := ⟨((slC (lsC pLiC) v437) :: (.func 151 0 [.ptr 0 0, .ptr 1 0, .ptr 2 0]) :: (un 5 ((.int .i64 v438) :: (.int .i64 v439) :: (un 10 [])))), [(0, .blk [slC strC v440, slC strC v441, slC pCoC v442, slC pStC v443, slC pRuC v444]), (1, .blk [.int .i64 v445, .int .i64 v446, .int .i64 v447]), (2, .blk [.int .i64 v448])], 3⟩
def ixT_x2_r (v440 : Arr ByteArray) (v441 : Arr ByteArray) (v442 : Arr pCo) (v443 : Arr pSt) (v444 : Arr pRu) (v448 : Int) (q0 : Int) (q6 : Int) (q7 : Int) (q8 : Int) : St := ⟨(un 4 ((.int .i64 q0) :: (un 14 []))), [(0, .blk [slC strC v440, slC strC v441, slC pCoC v442, slC pStC v443, slC pRuC v444]), (1, .blk [.int .i64 q6, .int .i64 q7, .int .i64 q8]), (2, .blk [.int .i64 v448])], 3⟩
def ixT_x2_0 (v440 : Arr ByteArray) (v441 : Arr ByteArray) (v442 : Arr pCo) (v443 : Arr pSt) (v444 : Arr pRu) (v448 : Int) (q5 : Int) (q6 : Int) (q7 : Int) : St := ⟨(un 19 []), [(0, .blk [slC strC v440, slC strC v441, slC pCoC v442, slC pStC v443, slC pRuC v444]), (1, .blk [.int .i64 q5, .int .i64 q6, .int .i64 q7]), (2, .blk [.int .i64 v448])], 3⟩
def ixT_b2 {R : Type} (N : Nat) (rc : Arr (Arr pLi) → Int → Int → Arr ByteArray → Arr ByteArray → Arr pCo → Arr pSt → Arr pRu → Int → Int → Int → Int → Option R) (v437 : Arr (Arr pLi)) (v438 : Int) (v439 : Int) (v440 : Arr ByteArray) (v441 : Arr ByteArray) (v442 : Arr pCo) (v443 : Arr pSt) (v444 : Arr pRu) (v445 : Int) (v446 : Int) (v447 : Int) (v448 : Int) (kr : Int → Int → Int → Int → Option R) (k0 : Int → Int → Int → Option R) : Option R :=
 bif decide (v439 < v438) then
 bif decide ((0 : Int) ≤ v439) && decide (v439 < (↑(Arr.n v437) : Int)) then
 sP_Holds_1 N (Arr.f v437 (Int.toNat v439)) v440 v441 v442 v443 v444 v445 v446 v447 v448 (fun r506 r507 r508 r509 =>
 bif r506 then
 kr v439 r507 r508 r509
 else
 rc v437 v438 (w64 (v439 + (1 : Int))) v440 v441 v442 v443 v444 r507 r508 r509 v448)
 else
 Option.none
 else
 k0 v445 v446 v447
def ixT_l2 {R : Type} (N : Nat) : Nat → Arr (Arr pLi) → Int → Int → Arr ByteArray → Arr ByteArray → Arr pCo → Arr pSt → Arr pRu → Int → Int → Int → Int → (Int → Int → Int → Int → Option R) → (Int → Int → Int → Option R) → Option R
  | 0, _, _, _, _, _, _, _, _, _, _, _, _, _, _ => Option.none
  | n + 1, v437, v438, v439, v440, v441, v442, v443, v444, v445, v446, v447, v448, kr, k0 => ixT_b2 N (fun v437 v438 v439 v440 v441 v442 v443 v444 v445 v446 v447 v448 => ixT_l2 N n v437 v438 v439 v440 v441 v442 v443 v444 v445 v446 v447 v448 kr k0) v437 v438 v439 v440 v441 v442 v443 v444 v445 v446 v447 v448 kr k0
def ixT_m {R : Type} (N : Nat) (a427 : Arr (Arr pLi)) (a428 : Arr ByteArray) (a429 : Arr ByteArray) (a430 : Arr pCo) (a431 : Arr pSt) (a432 : Arr pRu) (a433 : Int) (a434 : Int) (a435 : Int) (a436 : Int) (k : Int → Int → Int → Int → Option R) : Option R :=
 ixT_l2 N N a427 ((↑(Arr.n a427) : Int)) (0 : Int) a428 a429 a430 a431 a432 a433 a434 a435 a436 (fun r510 r511 r512 r513 =>
 k r510 r511 r512 r513) (fun r514 r515 r516 =>
 k (-1 : Int) r514 r515 r516)
noncomputable def ixT {R : Type} : Nat → Arr (Arr pLi) → Arr ByteArray → Arr ByteArray → Arr pCo → Arr pSt → Arr pRu → Int → Int → Int → Int → (Int → Int → Int → Int → Option R) → Option R := lock (@ixT_m R)
theorem ixT_def {R : Type} (N : Nat) (a427 : Arr (Arr pLi)) (a428 : Arr ByteArray) (a429 : Arr ByteArray) (a430 : Arr pCo) (a431 : Arr pSt) (a432 : Arr pRu) (a433 : Int) (a434 : Int) (a435 : Int) (a436 : Int) (k : Int → Int → Int → Int → Option R) : ixT N a427 a428 a429 a430 a431 a432 a433 a434 a435 a436 k = ixT_m N a427 a428 a429 a430 a431 a432 a433 a434 a435 a436 k := by unfold ixT; rw [lock_eq]
def ixT_sp : Sp := ⟨[rSl (lsC pLiC), rFunc 151 0 [rPtr 0 0, rPtr 1 0, rPtr 2 0]], [(0, eBlk [rSl strC, rSl strC, rSl pCoC, rSl pStC, rSl pRuC]), (1, eBlk [rInt .i64, rInt .i64, rInt .i64]), (2, eBlk [rInt .i64])]⟩
theorem ixT_sp_ok : ixT_sp.Ok := ⟨(allCons (rSl_ok (lsC_ok pLiC_ok)) (allCons (rFunc_ok 151 0 (allCons (rPtr_ok 0 0) (allCons (rPtr_ok 1 0) (allCons (rPtr_ok 2 0) allNil)))) allNil)), (eCons (eBlk_ok (allCons (rSl_ok strC_ok) (allCons (rSl_ok strC_ok) (allCons (rSl_ok pCoC_ok) (allCons (rSl_ok pStC_ok) (allCons (rSl_ok pRuC_ok) allNil)))))) (eCons (eBlk_ok (allCons (rInt_ok .i64) (allCons (rInt_ok .i64) (allCons (rInt_ok .i64) allNil)))) (eCons (eBlk_ok (allCons (rInt_ok .i64) allNil)) eNil)))⟩
def ixT_rs : Sp := ⟨[rInt .i64], [(0, eBlk [rSl strC, rSl strC, rSl pCoC, rSl pStC, rSl pRuC]), (1, eBlk [rInt .i64, rInt .i64, rInt .i64]), (2, eBlk [rInt .i64])]⟩
theorem ixT_rs_ok : ixT_rs.Ok := ⟨(allCons (rInt_ok .i64) allNil), (eCons (eBlk_ok (allCons (rSl_ok strC_ok) (allCons (rSl_ok strC_ok) (allCons (rSl_ok pCoC_ok) (allCons (rSl_ok pStC_ok) (allCons (rSl_ok pRuC_ok) allNil)))))) (eCons (eBlk_ok (allCons (rInt_ok .i64) (allCons (rInt_ok .i64) (allCons (rInt_ok .i64) allNil)))) (eCons (eBlk_ok (allCons (rInt_ok .i64) allNil)) eNil)))⟩
def ixT_run {R : Type} (N : Nat) (args : List SV) (T : Tab) (kf : SV × Tab → Option R) : Option R :=
  ixT_m N (lstC (lsC pLiC) (lget args 0)) (lstC strC (lget (entCs (entAt T 0)) 0)) (lstC strC (lget (entCs (entAt T 0)) 1)) (lstC pCoC (lget (entCs (entAt T 0)) 2)) (lstC pStC (lget (entCs (entAt T 0)) 3)) (lstC pRuC (lget (entCs (entAt T 0)) 4)) (toI (lget (entCs (entAt T 1)) 0)) (toI (lget (entCs (entAt T 1)) 1)) (toI (lget (entCs (entAt T 1)) 2)) (toI (lget (entCs (entAt T 2)) 0)) (fun q0 q6 q7 q8 => kf (lget [.int .i64 q0] 0, [(0, .blk [slC strC (lstC strC (lget (entCs (entAt T 0)) 0)), slC strC (lstC strC (lget (entCs (entAt T 0)) 1)), slC pCoC (lstC pCoC (lget (entCs (entAt T 0)) 2)), slC pStC (lstC pStC (lget (entCs (entAt T 0)) 3)), slC pRuC (lstC pRuC (lget (entCs (entAt T 0)) 4))]), (1, .blk [.int .i64 q6, .int .i64 q7, .int .i64 q8]), (2, .blk [.int .i64 (toI (lget (entCs (entAt T 2)) 0))])]))
def ixT_d2 {R : Type} (N : Nat) (S0 : St) (k : Exit → St → Option R) : Option R :=
  ixT_l2 N N (lstC (lsC pLiC) (lget S0.tmps 0)) (toI (lget S0.tmps 7)) (toI (lget S0.tmps 8)) (lstC strC (lget (entCs (entAt S0.tab 0)) 0)) (lstC strC (lget (entCs (entAt S0.tab 0)) 1)) (lstC pCoC (lget (entCs (entAt S0.tab 0)) 2)) (lstC pStC (lget (entCs (entAt S0.tab 0)) 3)) (lstC pRuC (lget (entCs (entAt S0.tab 0)) 4)) (toI (lget (entCs (entAt S0.tab 1)) 0)) (toI (lget (entCs (entAt S0.tab 1)) 1)) (toI (lget (entCs (entAt S0.tab 1)) 2)) (toI (lget (entCs (entAt S0.tab 2)) 0)) (fun q0 q6 q7 q8 => k .ret (ixT_x2_r (lstC strC (lget (entCs (entAt S0.tab 0)) 0)) (lstC strC (lget (entCs (entAt S0.tab 0)) 1)) (lstC pCoC (lget (entCs (entAt S0.tab 0)) 2)) (lstC pStC (lget (entCs (entAt S0.tab 0)) 3)) (lstC pRuC (lget (entCs (entAt S0.tab 0)) 4)) (toI (lget (entCs (entAt S0.tab 2)) 0)) q0 q6 q7 q8)) (fun q5 q6 q7 => k (.exit 0) (ixT_x2_0 (lstC strC (lget (entCs (entAt S0.tab 0)) 0)) (lstC strC (lget (entCs (entAt S0.tab 0)) 1)) (lstC pCoC (lget (entCs (entAt S0.tab 0)) 2)) (lstC pStC (lget (entCs (entAt S0.tab 0)) 3)) (lstC pRuC (lget (entCs (entAt S0.tab 0)) 4)) (toI (lget (entCs (entAt S0.tab 2)) 0)) q5 q6 q7))
def ixT_lp {R : Type} (N : Nat) : Lp R := fun body S k => bif (Go.Sx.keyOf body).getD 0 == 2 then (ixT_L2.head.raw 3 S (fun S0 => ixT_d2 N S0 k)) else Option.none
theorem ixT_l2_eq {R : Type} (N : Nat) (k : Exit → St → Option R) (n : Nat) : ∀ (v0 : Arr (Arr pLi)) (v1 : Int) (v2 : Int) (v3 : Arr ByteArray) (v4 : Arr ByteArray) (v5 : Arr pCo) (v6 : Arr pSt) (v7 : Arr pRu) (v8 : Int) (v9 : Int) (v10 : Int) (v11 : Int), loopM E.Θ (sP_Holds_1_cal N) (ixT_lp N) (noJn) 3 ixT_L2 (bodyAt E 163 2) n (ixT_h2 v0 v1 v2 v3 v4 v5 v6 v7 v8 v9 v10 v11) k = ixT_l2 N n v0 v1 v2 v3 v4 v5 v6 v7 v8 v9 v10 v11 (fun q0 q6 q7 q8 => k .ret (ixT_x2_r v3 v4 v5 v6 v7 v11 q0 q6 q7 q8)) (fun q5 q6 q7 => k (.exit 0) (ixT_x2_0 v3 v4 v5 v6 v7 v11 q5 q6 q7)) := by
  induction n with
  | zero => intro v0 v1 v2 v3 v4 v5 v6 v7 v8 v9 v10 v11; rfl
  | succ n ih =>
    intro v0 v1 v2 v3 v4 v5 v6 v7 v8 v9 v10 v11
    refine Eq.trans (b := ixT_b2 N (fun v0 v1 v2 v3 v4 v5 v6 v7 v8 v9 v10 v11 => loopM E.Θ (sP_Holds_1_cal N) (ixT_lp N) (noJn) 3 ixT_L2 (bodyAt E 163 2) n (ixT_h2 v0 v1 v2 v3 v4 v5 v6 v7 v8 v9 v10 v11) k) v0 v1 v2 v3 v4 v5 v6 v7 v8 v9 v10 v11 (fun q0 q6 q7 q8 => k .ret (ixT_x2_r v3 v4 v5 v6 v7 v11 q0 q6 q7 q8)) (fun q5 q6 q7 => k (.exit 0) (ixT_x2_0 v3 v4 v5 v6 v7 v11 q5 q6 q7))) (by kernel_rfl) ?_
    have h : (fun (v0 : Arr (Arr pLi)) (v1 : Int) (v2 : Int) (v3 : Arr ByteArray) (v4 : Arr ByteArray) (v5 : Arr pCo) (v6 : Arr pSt) (v7 : Arr pRu) (v8 : Int) (v9 : Int) (v10 : Int) (v11 : Int) => loopM E.Θ (sP_Holds_1_cal N) (ixT_lp N) (noJn) 3 ixT_L2 (bodyAt E 163 2) n (ixT_h2 v0 v1 v2 v3 v4 v5 v6 v7 v8 v9 v10 v11) k) = (fun (v0 : Arr (Arr pLi)) (v1 : Int) (v2 : Int) (v3 : Arr ByteArray) (v4 : Arr ByteArray) (v5 : Arr pCo) (v6 : Arr pSt) (v7 : Arr pRu) (v8 : Int) (v9 : Int) (v10 : Int) (v11 : Int) => ixT_l2 N n v0 v1 v2 v3 v4 v5 v6 v7 v8 v9 v10 v11 (fun q0 q6 q7 q8 => k .ret (ixT_x2_r v3 v4 v5 v6 v7 v11 q0 q6 q7 q8)) (fun q5 q6 q7 => k (.exit 0) (ixT_x2_0 v3 v4 v5 v6 v7 v11 q5 q6 q7))) := funext fun v0 => funext fun v1 => funext fun v2 => funext fun v3 => funext fun v4 => funext fun v5 => funext fun v6 => funext fun v7 => funext fun v8 => funext fun v9 => funext fun v10 => funext fun v11 => ih v0 v1 v2 v3 v4 v5 v6 v7 v8 v9 v10 v11
    rw [h]
    rfl
theorem ixT_k2 {R : Type} (N : Nat) : LpKey (R := R) E 163 3 (ixT_lp N) 2 :=
  lpKey_of hE (sP_Holds_1_cal_ok N) (lp := ixT_lp N) (jn := noJn) ixT_L2_ok [] kNil (by kernel_rfl) [] jNil (by kernel_rfl) N fun S k =>
    Eq.trans (b := ixT_L2.head.raw 3 S (fun S0 => ixT_d2 N S0 k)) (by kernel_rfl) (congrArg (ixT_L2.head.raw 3 S) (funext fun S0 => Eq.trans (ixT_l2_eq N k N (lstC (lsC pLiC) (lget S0.tmps 0)) (toI (lget S0.tmps 7)) (toI (lget S0.tmps 8)) (lstC strC (lget (entCs (entAt S0.tab 0)) 0)) (lstC strC (lget (entCs (entAt S0.tab 0)) 1)) (lstC pCoC (lget (entCs (entAt S0.tab 0)) 2)) (lstC pStC (lget (entCs (entAt S0.tab 0)) 3)) (lstC pRuC (lget (entCs (entAt S0.tab 0)) 4)) (toI (lget (entCs (entAt S0.tab 1)) 0)) (toI (lget (entCs (entAt S0.tab 1)) 1)) (toI (lget (entCs (entAt S0.tab 1)) 2)) (toI (lget (entCs (entAt S0.tab 2)) 0))).symm (by kernel_rfl)))
noncomputable def ixT_go {R : Type} (N : Nat) (args : List SV) (T : Tab) (kf : SV × Tab → Option R) : Option R :=
  ixT N (lstC (lsC pLiC) (lget args 0)) (lstC strC (lget (entCs (entAt T 0)) 0)) (lstC strC (lget (entCs (entAt T 0)) 1)) (lstC pCoC (lget (entCs (entAt T 0)) 2)) (lstC pStC (lget (entCs (entAt T 0)) 3)) (lstC pRuC (lget (entCs (entAt T 0)) 4)) (toI (lget (entCs (entAt T 1)) 0)) (toI (lget (entCs (entAt T 1)) 1)) (toI (lget (entCs (entAt T 1)) 2)) (toI (lget (entCs (entAt T 2)) 0)) (fun q0 q6 q7 q8 => kf (lget [.int .i64 q0] 0, [(0, .blk [slC strC (lstC strC (lget (entCs (entAt T 0)) 0)), slC strC (lstC strC (lget (entCs (entAt T 0)) 1)), slC pCoC (lstC pCoC (lget (entCs (entAt T 0)) 2)), slC pStC (lstC pStC (lget (entCs (entAt T 0)) 3)), slC pRuC (lstC pRuC (lget (entCs (entAt T 0)) 4))]), (1, .blk [.int .i64 q6, .int .i64 q7, .int .i64 q8]), (2, .blk [.int .i64 (toI (lget (entCs (entAt T 2)) 0))])]))
noncomputable def ixT_cal {R : Type} (N : Nat) : Cal R := callM (sP_Holds_1_cal N) 163 3 ixT_sp (ixT_go N)
theorem ixT_cal_ok {R : Type} (N : Nat) : CalOk E.P (ixT_cal (R := R) N) :=
  callM_ok hE (sP_Holds_1_cal_ok N) (lp := ixT_lp N) (jn := noJn) (keys := [2]) (kCons (ixT_k2 N) kNil) (by kernel_rfl) (js := []) jNil (by kernel_rfl) ixT_sp_ok ixT_rs_ok (fun args T kf => Eq.trans (ixT_def N (lstC (lsC pLiC) (lget args 0)) (lstC strC (lget (entCs (entAt T 0)) 0)) (lstC strC (lget (entCs (entAt T 0)) 1)) (lstC pCoC (lget (entCs (entAt T 0)) 2)) (lstC pStC (lget (entCs (entAt T 0)) 3)) (lstC pRuC (lget (entCs (entAt T 0)) 4)) (toI (lget (entCs (entAt T 1)) 0)) (toI (lget (entCs (entAt T 1)) 1)) (toI (lget (entCs (entAt T 1)) 2)) (toI (lget (entCs (entAt T 2)) 0)) (fun q0 q6 q7 q8 => kf (lget [.int .i64 q0] 0, [(0, .blk [slC strC (lstC strC (lget (entCs (entAt T 0)) 0)), slC strC (lstC strC (lget (entCs (entAt T 0)) 1)), slC pCoC (lstC pCoC (lget (entCs (entAt T 0)) 2)), slC pStC (lstC pStC (lget (entCs (entAt T 0)) 3)), slC pRuC (lstC pRuC (lget (entCs (entAt T 0)) 4))]), (1, .blk [.int .i64 q6, .int .i64 q7, .int .i64 q8]), (2, .blk [.int .i64 (toI (lget (entCs (entAt T 2)) 0))])]))) (by kernel_rfl : ixT_run N args T kf = fnM E (sP_Holds_1_cal N) (ixT_lp N) (noJn) 163 (ixT_sp.vs args) (ixT_sp.tab T) 3 (resK ixT_rs kf)))
end
end Go.Proofs.Ytpillmoddoccfaa
