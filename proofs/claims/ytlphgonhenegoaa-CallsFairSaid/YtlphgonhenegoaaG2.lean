import Derived.Test.YtlphgonhenegoaaG1
set_option maxRecDepth 100000
set_option maxHeartbeats 0
set_option linter.unusedVariables false
namespace Go.Proofs.Ytlphgonhenegoaa
open Go.Sx
noncomputable section
def calls_group_1_m {R : Type} (N : Nat) (a489 : api_Car) (k : Bool → Option R) : Option R :=
  calls_valid N a489 (fun r490 =>
  k (!r490))
noncomputable def calls_group_1 {R : Type} : Nat → api_Car → (Bool → Option R) → Option R := lock (@calls_group_1_m R)
theorem calls_group_1_def {R : Type} (N : Nat) (a489 : api_Car) (k : Bool → Option R) : calls_group_1 N a489 k = calls_group_1_m N a489 k := by unfold calls_group_1; rw [lock_eq]
def calls_group_1_sp : Sp := ⟨[rAgg api_CarC], []⟩
theorem calls_group_1_sp_ok : calls_group_1_sp.Ok := ⟨(allCons (rAgg_ok api_CarC_ok api_CarC_len) allNil), eNil⟩
def calls_group_1_rs : Sp := ⟨[rBool], []⟩
theorem calls_group_1_rs_ok : calls_group_1_rs.Ok := ⟨(allCons rBool_ok allNil), eNil⟩
def calls_group_1_run {R : Type} (N : Nat) (args : List SV) (T : Tab) (kf : SV × Tab → Option R) : Option R :=
  calls_group_1_m N (Cod.dec api_CarC (lget (toCs (lget args 0)))) (fun q0 => kf (lget [.bool q0] 0, []))
def calls_group_1_lp {R : Type} (N : Nat) : Lp R := fun body S k => Option.none
noncomputable def calls_group_1_go {R : Type} (N : Nat) (args : List SV) (T : Tab) (kf : SV × Tab → Option R) : Option R :=
  calls_group_1 N (Cod.dec api_CarC (lget (toCs (lget args 0)))) (fun q0 => kf (lget [.bool q0] 0, []))
noncomputable def calls_group_1_cal {R : Type} (N : Nat) : Cal R := callM (newellaw07_works_cal N) 75 0 calls_group_1_sp (calls_group_1_go N)
theorem calls_group_1_cal_ok {R : Type} (N : Nat) : CalOk E.P (calls_group_1_cal (R := R) N) :=
  callM_ok hE (newellaw07_works_cal_ok N) (lp := calls_group_1_lp N) (jn := noJn) (keys := []) kNil (by kernel_rfl) (js := []) jNil (by kernel_rfl) calls_group_1_sp_ok calls_group_1_rs_ok (fun args T kf => Eq.trans (calls_group_1_def N (Cod.dec api_CarC (lget (toCs (lget args 0)))) (fun q0 => kf (lget [.bool q0] 0, []))) (by kernel_rfl : calls_group_1_run N args T kf = fnM E (newellaw07_works_cal N) (calls_group_1_lp N) (noJn) 75 (calls_group_1_sp.vs args) (calls_group_1_sp.tab T) 0 (resK calls_group_1_rs kf)))
def slices_IndexFunc___api_Car_api_Car__L2 : LoopSp := ⟨⟨[0, 1, 7, 8], ⟨((rSl api_CarC) :: (rFunc 75 0 []) :: (dr 5 ((rInt .i64) :: (rInt .i64) :: (dr 10 [])))), []⟩, 0⟩, [(Option.none, ⟨[4], ⟨(dr 4 ((rInt .i64) :: (dr 14 []))), []⟩, 0⟩), (some 0, ⟨[], ⟨(dr 19 []), []⟩, 0⟩)]⟩
theorem slices_IndexFunc___api_Car_api_Car__L2_ok : slices_IndexFunc___api_Car_api_Car__L2.Ok := ⟨⟨(allCons (rSl_ok api_CarC_ok) (allCons (rFunc_ok 75 0 allNil) (drCons 5 (allCons (rInt_ok .i64) (allCons (rInt_ok .i64) (drCons 10 allNil)))))), eNil⟩, (xCons ⟨(drCons 4 (allCons (rInt_ok .i64) (drCons 14 allNil))), eNil⟩ (xCons ⟨(drCons 19 allNil), eNil⟩ xNil))⟩
def slices_IndexFunc___api_Car_api_Car__h2 (v486 : Arr api_Car) (v487 : Int) (v488 : Int) : St := ⟨((slC api_CarC v486) :: (.func 75 0 []) :: (un 5 ((.int .i64 v487) :: (.int .i64 v488) :: (un 10 [])))), [], 0⟩
def slices_IndexFunc___api_Car_api_Car__x2_r (q0 : Int) : St := ⟨(un 4 ((.int .i64 q0) :: (un 14 []))), [], 0⟩
def slices_IndexFunc___api_Car_api_Car__x2_0  : St := ⟨(un 19 []), [], 0⟩
def slices_IndexFunc___api_Car_api_Car__b2 {R : Type} (N : Nat) (rc : Arr api_Car → Int → Int → Option R) (v486 : Arr api_Car) (v487 : Int) (v488 : Int) (kr : Int → Option R) (k0 : Unit → Option R) : Option R :=
  bif decide (v488 < v487) then
   bif decide ((0 : Int) ≤ v488) && decide (v488 < (↑(Arr.n v486) : Int)) then
    calls_group_1 N (Arr.f v486 (Int.toNat v488)) (fun r491 =>
    bif r491 then
     kr v488
    else
     rc v486 v487 (w64 (v488 + (1 : Int))))
   else
    Option.none
  else
   k0 ()
def slices_IndexFunc___api_Car_api_Car__l2 {R : Type} (N : Nat) : Nat → Arr api_Car → Int → Int → (Int → Option R) → (Unit → Option R) → Option R
  | 0, _, _, _, _, _ => Option.none
  | n + 1, v486, v487, v488, kr, k0 => slices_IndexFunc___api_Car_api_Car__b2 N (fun v486 v487 v488 => slices_IndexFunc___api_Car_api_Car__l2 N n v486 v487 v488 kr k0) v486 v487 v488 kr k0
def slices_IndexFunc___api_Car_api_Car__m {R : Type} (N : Nat) (a485 : Arr api_Car) (k : Int → Option R) : Option R :=
  slices_IndexFunc___api_Car_api_Car__l2 N N a485 ((↑(Arr.n a485) : Int)) (0 : Int) (fun r492 =>
   k r492) (fun (_ : Unit) =>
   k (-1 : Int))
noncomputable def slices_IndexFunc___api_Car_api_Car_ {R : Type} : Nat → Arr api_Car → (Int → Option R) → Option R := lock (@slices_IndexFunc___api_Car_api_Car__m R)
theorem slices_IndexFunc___api_Car_api_Car__def {R : Type} (N : Nat) (a485 : Arr api_Car) (k : Int → Option R) : slices_IndexFunc___api_Car_api_Car_ N a485 k = slices_IndexFunc___api_Car_api_Car__m N a485 k := by unfold slices_IndexFunc___api_Car_api_Car_; rw [lock_eq]
def slices_IndexFunc___api_Car_api_Car__sp : Sp := ⟨[rSl api_CarC, rFunc 75 0 []], []⟩
theorem slices_IndexFunc___api_Car_api_Car__sp_ok : slices_IndexFunc___api_Car_api_Car__sp.Ok := ⟨(allCons (rSl_ok api_CarC_ok) (allCons (rFunc_ok 75 0 allNil) allNil)), eNil⟩
def slices_IndexFunc___api_Car_api_Car__rs : Sp := ⟨[rInt .i64], []⟩
theorem slices_IndexFunc___api_Car_api_Car__rs_ok : slices_IndexFunc___api_Car_api_Car__rs.Ok := ⟨(allCons (rInt_ok .i64) allNil), eNil⟩
def slices_IndexFunc___api_Car_api_Car__run {R : Type} (N : Nat) (args : List SV) (T : Tab) (kf : SV × Tab → Option R) : Option R :=
  slices_IndexFunc___api_Car_api_Car__m N (lstC api_CarC (lget args 0)) (fun q0 => kf (lget [.int .i64 q0] 0, []))
def slices_IndexFunc___api_Car_api_Car__d2 {R : Type} (N : Nat) (S0 : St) (k : Exit → St → Option R) : Option R :=
  slices_IndexFunc___api_Car_api_Car__l2 N N (lstC api_CarC (lget S0.tmps 0)) (toI (lget S0.tmps 7)) (toI (lget S0.tmps 8)) (fun q0 => k .ret (slices_IndexFunc___api_Car_api_Car__x2_r q0)) (fun (_ : Unit) => k (.exit 0) (slices_IndexFunc___api_Car_api_Car__x2_0 ))
def slices_IndexFunc___api_Car_api_Car__lp {R : Type} (N : Nat) : Lp R := fun body S k => bif (Go.Sx.keyOf body).getD 0 == 2 then (slices_IndexFunc___api_Car_api_Car__L2.head.raw 0 S (fun S0 => slices_IndexFunc___api_Car_api_Car__d2 N S0 k)) else Option.none
theorem slices_IndexFunc___api_Car_api_Car__l2_eq {R : Type} (N : Nat) (k : Exit → St → Option R) (n : Nat) : ∀ (v0 : Arr api_Car) (v1 : Int) (v2 : Int), loopM E.Θ (calls_group_1_cal N) (slices_IndexFunc___api_Car_api_Car__lp N) (noJn) 0 slices_IndexFunc___api_Car_api_Car__L2 (bodyAt E 81 2) n (slices_IndexFunc___api_Car_api_Car__h2 v0 v1 v2) k = slices_IndexFunc___api_Car_api_Car__l2 N n v0 v1 v2 (fun q0 => k .ret (slices_IndexFunc___api_Car_api_Car__x2_r q0)) (fun (_ : Unit) => k (.exit 0) (slices_IndexFunc___api_Car_api_Car__x2_0 )) := by
  induction n with
  | zero => intro v0 v1 v2; rfl
  | succ n ih =>
    intro v0 v1 v2
    refine Eq.trans (b := slices_IndexFunc___api_Car_api_Car__b2 N (fun v0 v1 v2 => loopM E.Θ (calls_group_1_cal N) (slices_IndexFunc___api_Car_api_Car__lp N) (noJn) 0 slices_IndexFunc___api_Car_api_Car__L2 (bodyAt E 81 2) n (slices_IndexFunc___api_Car_api_Car__h2 v0 v1 v2) k) v0 v1 v2 (fun q0 => k .ret (slices_IndexFunc___api_Car_api_Car__x2_r q0)) (fun (_ : Unit) => k (.exit 0) (slices_IndexFunc___api_Car_api_Car__x2_0 ))) (by kernel_rfl) ?_
    have h : (fun (v0 : Arr api_Car) (v1 : Int) (v2 : Int) => loopM E.Θ (calls_group_1_cal N) (slices_IndexFunc___api_Car_api_Car__lp N) (noJn) 0 slices_IndexFunc___api_Car_api_Car__L2 (bodyAt E 81 2) n (slices_IndexFunc___api_Car_api_Car__h2 v0 v1 v2) k) = (fun (v0 : Arr api_Car) (v1 : Int) (v2 : Int) => slices_IndexFunc___api_Car_api_Car__l2 N n v0 v1 v2 (fun q0 => k .ret (slices_IndexFunc___api_Car_api_Car__x2_r q0)) (fun (_ : Unit) => k (.exit 0) (slices_IndexFunc___api_Car_api_Car__x2_0 ))) := funext fun v0 => funext fun v1 => funext fun v2 => ih v0 v1 v2
    rw [h]
    rfl
theorem slices_IndexFunc___api_Car_api_Car__k2 {R : Type} (N : Nat) : LpKey (R := R) E 81 0 (slices_IndexFunc___api_Car_api_Car__lp N) 2 :=
  lpKey_of hE (calls_group_1_cal_ok N) (lp := slices_IndexFunc___api_Car_api_Car__lp N) (jn := noJn) slices_IndexFunc___api_Car_api_Car__L2_ok [] kNil (by kernel_rfl) [] jNil (by kernel_rfl) N fun S k =>
    Eq.trans (b := slices_IndexFunc___api_Car_api_Car__L2.head.raw 0 S (fun S0 => slices_IndexFunc___api_Car_api_Car__d2 N S0 k)) (by kernel_rfl) (congrArg (slices_IndexFunc___api_Car_api_Car__L2.head.raw 0 S) (funext fun S0 => Eq.trans (slices_IndexFunc___api_Car_api_Car__l2_eq N k N (lstC api_CarC (lget S0.tmps 0)) (toI (lget S0.tmps 7)) (toI (lget S0.tmps 8))).symm (by kernel_rfl)))
noncomputable def slices_IndexFunc___api_Car_api_Car__go {R : Type} (N : Nat) (args : List SV) (T : Tab) (kf : SV × Tab → Option R) : Option R :=
  slices_IndexFunc___api_Car_api_Car_ N (lstC api_CarC (lget args 0)) (fun q0 => kf (lget [.int .i64 q0] 0, []))
noncomputable def slices_IndexFunc___api_Car_api_Car__cal {R : Type} (N : Nat) : Cal R := callM (calls_group_1_cal N) 81 0 slices_IndexFunc___api_Car_api_Car__sp (slices_IndexFunc___api_Car_api_Car__go N)
theorem slices_IndexFunc___api_Car_api_Car__cal_ok {R : Type} (N : Nat) : CalOk E.P (slices_IndexFunc___api_Car_api_Car__cal (R := R) N) :=
  callM_ok hE (calls_group_1_cal_ok N) (lp := slices_IndexFunc___api_Car_api_Car__lp N) (jn := noJn) (keys := [2]) (kCons (slices_IndexFunc___api_Car_api_Car__k2 N) kNil) (by kernel_rfl) (js := []) jNil (by kernel_rfl) slices_IndexFunc___api_Car_api_Car__sp_ok slices_IndexFunc___api_Car_api_Car__rs_ok (fun args T kf => Eq.trans (slices_IndexFunc___api_Car_api_Car__def N (lstC api_CarC (lget args 0)) (fun q0 => kf (lget [.int .i64 q0] 0, []))) (by kernel_rfl : slices_IndexFunc___api_Car_api_Car__run N args T kf = fnM E (calls_group_1_cal N) (slices_IndexFunc___api_Car_api_Car__lp N) (noJn) 81 (slices_IndexFunc___api_Car_api_Car__sp.vs args) (slices_IndexFunc___api_Car_api_Car__sp.tab T) 0 (resK slices_IndexFunc___api_Car_api_Car__rs kf)))
def slices_ContainsFunc___api_Car_api_Car__m {R : Type} (N : Nat) (a484 : Arr api_Car) (k : Bool → Option R) : Option R :=
  slices_IndexFunc___api_Car_api_Car_ N a484 (fun r493 =>
  k (decide (r493 ≥ (0 : Int))))
noncomputable def slices_ContainsFunc___api_Car_api_Car_ {R : Type} : Nat → Arr api_Car → (Bool → Option R) → Option R := lock (@slices_ContainsFunc___api_Car_api_Car__m R)
theorem slices_ContainsFunc___api_Car_api_Car__def {R : Type} (N : Nat) (a484 : Arr api_Car) (k : Bool → Option R) : slices_ContainsFunc___api_Car_api_Car_ N a484 k = slices_ContainsFunc___api_Car_api_Car__m N a484 k := by unfold slices_ContainsFunc___api_Car_api_Car_; rw [lock_eq]
def slices_ContainsFunc___api_Car_api_Car__sp : Sp := ⟨[rSl api_CarC, rFunc 75 0 []], []⟩
theorem slices_ContainsFunc___api_Car_api_Car__sp_ok : slices_ContainsFunc___api_Car_api_Car__sp.Ok := ⟨(allCons (rSl_ok api_CarC_ok) (allCons (rFunc_ok 75 0 allNil) allNil)), eNil⟩
def slices_ContainsFunc___api_Car_api_Car__rs : Sp := ⟨[rBool], []⟩
theorem slices_ContainsFunc___api_Car_api_Car__rs_ok : slices_ContainsFunc___api_Car_api_Car__rs.Ok := ⟨(allCons rBool_ok allNil), eNil⟩
def slices_ContainsFunc___api_Car_api_Car__run {R : Type} (N : Nat) (args : List SV) (T : Tab) (kf : SV × Tab → Option R) : Option R :=
  slices_ContainsFunc___api_Car_api_Car__m N (lstC api_CarC (lget args 0)) (fun q0 => kf (lget [.bool q0] 0, []))
def slices_ContainsFunc___api_Car_api_Car__lp {R : Type} (N : Nat) : Lp R := fun body S k => Option.none
noncomputable def slices_ContainsFunc___api_Car_api_Car__go {R : Type} (N : Nat) (args : List SV) (T : Tab) (kf : SV × Tab → Option R) : Option R :=
  slices_ContainsFunc___api_Car_api_Car_ N (lstC api_CarC (lget args 0)) (fun q0 => kf (lget [.bool q0] 0, []))
noncomputable def slices_ContainsFunc___api_Car_api_Car__cal {R : Type} (N : Nat) : Cal R := callM (slices_IndexFunc___api_Car_api_Car__cal N) 74 0 slices_ContainsFunc___api_Car_api_Car__sp (slices_ContainsFunc___api_Car_api_Car__go N)
theorem slices_ContainsFunc___api_Car_api_Car__cal_ok {R : Type} (N : Nat) : CalOk E.P (slices_ContainsFunc___api_Car_api_Car__cal (R := R) N) :=
  callM_ok hE (slices_IndexFunc___api_Car_api_Car__cal_ok N) (lp := slices_ContainsFunc___api_Car_api_Car__lp N) (jn := noJn) (keys := []) kNil (by kernel_rfl) (js := []) jNil (by kernel_rfl) slices_ContainsFunc___api_Car_api_Car__sp_ok slices_ContainsFunc___api_Car_api_Car__rs_ok (fun args T kf => Eq.trans (slices_ContainsFunc___api_Car_api_Car__def N (lstC api_CarC (lget args 0)) (fun q0 => kf (lget [.bool q0] 0, []))) (by kernel_rfl : slices_ContainsFunc___api_Car_api_Car__run N args T kf = fnM E (slices_IndexFunc___api_Car_api_Car__cal N) (slices_ContainsFunc___api_Car_api_Car__lp N) (noJn) 74 (slices_ContainsFunc___api_Car_api_Car__sp.vs args) (slices_ContainsFunc___api_Car_api_Car__sp.tab T) 0 (resK slices_ContainsFunc___api_Car_api_Car__rs kf)))
def calls_group_2_m {R : Type} (N : Nat) (a508 : api_Car) (a509 : api_Press) (k : Bool → Option R) : Option R :=
  calls_within N (api_Press.Floor a509) (api_Car.Low a508) (api_Car.High a508) (fun r510 =>
  k r510)
noncomputable def calls_group_2 {R : Type} : Nat → api_Car → api_Press → (Bool → Option R) → Option R := lock (@calls_group_2_m R)
theorem calls_group_2_def {R : Type} (N : Nat) (a508 : api_Car) (a509 : api_Press) (k : Bool → Option R) : calls_group_2 N a508 a509 k = calls_group_2_m N a508 a509 k := by unfold calls_group_2; rw [lock_eq]
def calls_group_2_sp : Sp := ⟨[rAgg api_CarC, rPtr 0 0], [(0, eBlkC api_PressC)]⟩
theorem calls_group_2_sp_ok : calls_group_2_sp.Ok := ⟨(allCons (rAgg_ok api_CarC_ok api_CarC_len) (allCons (rPtr_ok 0 0) allNil)), (eCons (eBlkC_ok api_PressC_ok api_PressC_len) eNil)⟩
def calls_group_2_rs : Sp := ⟨[rBool], [(0, eBlkC api_PressC)]⟩
theorem calls_group_2_rs_ok : calls_group_2_rs.Ok := ⟨(allCons rBool_ok allNil), (eCons (eBlkC_ok api_PressC_ok api_PressC_len) eNil)⟩
def calls_group_2_run {R : Type} (N : Nat) (args : List SV) (T : Tab) (kf : SV × Tab → Option R) : Option R :=
  calls_group_2_m N (Cod.dec api_CarC (lget (toCs (lget args 0)))) (Cod.dec api_PressC (lget (entCs (entAt T 0)))) (fun q0 => kf (lget [.bool q0] 0, [(0, .blk (Cod.enc api_PressC (Cod.dec api_PressC (lget (entCs (entAt T 0))))))]))
def calls_group_2_lp {R : Type} (N : Nat) : Lp R := fun body S k => Option.none
noncomputable def calls_group_2_go {R : Type} (N : Nat) (args : List SV) (T : Tab) (kf : SV × Tab → Option R) : Option R :=
  calls_group_2 N (Cod.dec api_CarC (lget (toCs (lget args 0)))) (Cod.dec api_PressC (lget (entCs (entAt T 0)))) (fun q0 => kf (lget [.bool q0] 0, [(0, .blk (Cod.enc api_PressC (Cod.dec api_PressC (lget (entCs (entAt T 0))))))]))
noncomputable def calls_group_2_cal {R : Type} (N : Nat) : Cal R := callM (slices_ContainsFunc___api_Car_api_Car__cal N) 76 1 calls_group_2_sp (calls_group_2_go N)
theorem calls_group_2_cal_ok {R : Type} (N : Nat) : CalOk E.P (calls_group_2_cal (R := R) N) :=
  callM_ok hE (slices_ContainsFunc___api_Car_api_Car__cal_ok N) (lp := calls_group_2_lp N) (jn := noJn) (keys := []) kNil (by kernel_rfl) (js := []) jNil (by kernel_rfl) calls_group_2_sp_ok calls_group_2_rs_ok (fun args T kf => Eq.trans (calls_group_2_def N (Cod.dec api_CarC (lget (toCs (lget args 0)))) (Cod.dec api_PressC (lget (entCs (entAt T 0)))) (fun q0 => kf (lget [.bool q0] 0, [(0, .blk (Cod.enc api_PressC (Cod.dec api_PressC (lget (entCs (entAt T 0))))))]))) (by kernel_rfl : calls_group_2_run N args T kf = fnM E (slices_ContainsFunc___api_Car_api_Car__cal N) (calls_group_2_lp N) (noJn) 76 (calls_group_2_sp.vs args) (calls_group_2_sp.tab T) 1 (resK calls_group_2_rs kf)))
def slices_IndexFunc___api_Car_api_Car__v2_L2 : LoopSp := ⟨⟨[0, 1, 7, 8], ⟨((rSl api_CarC) :: (rFunc 76 0 [rPtr 0 0]) :: (dr 5 ((rInt .i64) :: (rInt .i64) :: (dr 10 [])))), [(0, eBlkC api_PressC)]⟩, 1⟩, [(Option.none, ⟨[4], ⟨(dr 4 ((rInt .i64) :: (dr 14 []))), [(0, eBlkC api_PressC)]⟩, 1⟩), (some 0, ⟨[], ⟨(dr 19 []), [(0, eBlkC api_PressC)]⟩, 1⟩)]⟩
theorem slices_IndexFunc___api_Car_api_Car__v2_L2_ok : slices_IndexFunc___api_Car_api_Car__v2_L2.Ok := ⟨⟨(allCons (rSl_ok api_CarC_ok) (allCons (rFunc_ok 76 0 (allCons (rPtr_ok 0 0) allNil)) (drCons 5 (allCons (rInt_ok .i64) (allCons (rInt_ok .i64) (drCons 10 allNil)))))), (eCons (eBlkC_ok api_PressC_ok api_PressC_len) eNil)⟩, (xCons ⟨(drCons 4 (allCons (rInt_ok .i64) (drCons 14 allNil))), (eCons (eBlkC_ok api_PressC_ok api_PressC_len) eNil)⟩ (xCons ⟨(drCons 19 allNil), (eCons (eBlkC_ok api_PressC_ok api_PressC_len) eNil)⟩ xNil))⟩
def slices_IndexFunc___api_Car_api_Car__v2_h2 (v504 : Arr api_Car) (v505 : Int) (v506 : Int) (v507 : api_Press) : St := ⟨((slC api_CarC v504) :: (.func 76 0 [.ptr 0 0]) :: (un 5 ((.int .i64 v505) :: (.int .i64 v506) :: (un 10 [])))), [(0, .blk (Cod.enc api_PressC v507))], 1⟩
def slices_IndexFunc___api_Car_api_Car__v2_x2_r (v507 : api_Press) (q0 : Int) : St := ⟨(un 4 ((.int .i64 q0) :: (un 14 []))), [(0, .blk (Cod.enc api_PressC v507))], 1⟩
def slices_IndexFunc___api_Car_api_Car__v2_x2_0 (v507 : api_Press) : St := ⟨(un 19 []), [(0, .blk (Cod.enc api_PressC v507))], 1⟩
def slices_IndexFunc___api_Car_api_Car__v2_b2 {R : Type} (N : Nat) (rc : Arr api_Car → Int → Int → api_Press → Option R) (v504 : Arr api_Car) (v505 : Int) (v506 : Int) (v507 : api_Press) (kr : Int → Option R) (k0 : Unit → Option R) : Option R :=
  bif decide (v506 < v505) then
   bif decide ((0 : Int) ≤ v506) && decide (v506 < (↑(Arr.n v504) : Int)) then
    calls_group_2 N (Arr.f v504 (Int.toNat v506)) v507 (fun r511 =>
    bif r511 then
     kr v506
    else
     rc v504 v505 (w64 (v506 + (1 : Int))) v507)
   else
    Option.none
  else
   k0 ()
def slices_IndexFunc___api_Car_api_Car__v2_l2 {R : Type} (N : Nat) : Nat → Arr api_Car → Int → Int → api_Press → (Int → Option R) → (Unit → Option R) → Option R
  | 0, _, _, _, _, _, _ => Option.none
  | n + 1, v504, v505, v506, v507, kr, k0 => slices_IndexFunc___api_Car_api_Car__v2_b2 N (fun v504 v505 v506 v507 => slices_IndexFunc___api_Car_api_Car__v2_l2 N n v504 v505 v506 v507 kr k0) v504 v505 v506 v507 kr k0
def slices_IndexFunc___api_Car_api_Car__v2_m {R : Type} (N : Nat) (a502 : Arr api_Car) (a503 : api_Press) (k : Int → Option R) : Option R :=
  slices_IndexFunc___api_Car_api_Car__v2_l2 N N a502 ((↑(Arr.n a502) : Int)) (0 : Int) a503 (fun r512 =>
   k r512) (fun (_ : Unit) =>
   k (-1 : Int))
noncomputable def slices_IndexFunc___api_Car_api_Car__v2 {R : Type} : Nat → Arr api_Car → api_Press → (Int → Option R) → Option R := lock (@slices_IndexFunc___api_Car_api_Car__v2_m R)
theorem slices_IndexFunc___api_Car_api_Car__v2_def {R : Type} (N : Nat) (a502 : Arr api_Car) (a503 : api_Press) (k : Int → Option R) : slices_IndexFunc___api_Car_api_Car__v2 N a502 a503 k = slices_IndexFunc___api_Car_api_Car__v2_m N a502 a503 k := by unfold slices_IndexFunc___api_Car_api_Car__v2; rw [lock_eq]
def slices_IndexFunc___api_Car_api_Car__v2_sp : Sp := ⟨[rSl api_CarC, rFunc 76 0 [rPtr 0 0]], [(0, eBlkC api_PressC)]⟩
theorem slices_IndexFunc___api_Car_api_Car__v2_sp_ok : slices_IndexFunc___api_Car_api_Car__v2_sp.Ok := ⟨(allCons (rSl_ok api_CarC_ok) (allCons (rFunc_ok 76 0 (allCons (rPtr_ok 0 0) allNil)) allNil)), (eCons (eBlkC_ok api_PressC_ok api_PressC_len) eNil)⟩
def slices_IndexFunc___api_Car_api_Car__v2_rs : Sp := ⟨[rInt .i64], [(0, eBlkC api_PressC)]⟩
theorem slices_IndexFunc___api_Car_api_Car__v2_rs_ok : slices_IndexFunc___api_Car_api_Car__v2_rs.Ok := ⟨(allCons (rInt_ok .i64) allNil), (eCons (eBlkC_ok api_PressC_ok api_PressC_len) eNil)⟩
def slices_IndexFunc___api_Car_api_Car__v2_run {R : Type} (N : Nat) (args : List SV) (T : Tab) (kf : SV × Tab → Option R) : Option R :=
  slices_IndexFunc___api_Car_api_Car__v2_m N (lstC api_CarC (lget args 0)) (Cod.dec api_PressC (lget (entCs (entAt T 0)))) (fun q0 => kf (lget [.int .i64 q0] 0, [(0, .blk (Cod.enc api_PressC (Cod.dec api_PressC (lget (entCs (entAt T 0))))))]))
def slices_IndexFunc___api_Car_api_Car__v2_d2 {R : Type} (N : Nat) (S0 : St) (k : Exit → St → Option R) : Option R :=
  slices_IndexFunc___api_Car_api_Car__v2_l2 N N (lstC api_CarC (lget S0.tmps 0)) (toI (lget S0.tmps 7)) (toI (lget S0.tmps 8)) (Cod.dec api_PressC (lget (entCs (entAt S0.tab 0)))) (fun q0 => k .ret (slices_IndexFunc___api_Car_api_Car__v2_x2_r (Cod.dec api_PressC (lget (entCs (entAt S0.tab 0)))) q0)) (fun (_ : Unit) => k (.exit 0) (slices_IndexFunc___api_Car_api_Car__v2_x2_0 (Cod.dec api_PressC (lget (entCs (entAt S0.tab 0))))))
def slices_IndexFunc___api_Car_api_Car__v2_lp {R : Type} (N : Nat) : Lp R := fun body S k => bif (Go.Sx.keyOf body).getD 0 == 2 then (slices_IndexFunc___api_Car_api_Car__v2_L2.head.raw 1 S (fun S0 => slices_IndexFunc___api_Car_api_Car__v2_d2 N S0 k)) else Option.none
theorem slices_IndexFunc___api_Car_api_Car__v2_l2_eq {R : Type} (N : Nat) (k : Exit → St → Option R) (n : Nat) : ∀ (v0 : Arr api_Car) (v1 : Int) (v2 : Int) (v3 : api_Press), loopM E.Θ (calls_group_2_cal N) (slices_IndexFunc___api_Car_api_Car__v2_lp N) (noJn) 1 slices_IndexFunc___api_Car_api_Car__v2_L2 (bodyAt E 81 2) n (slices_IndexFunc___api_Car_api_Car__v2_h2 v0 v1 v2 v3) k = slices_IndexFunc___api_Car_api_Car__v2_l2 N n v0 v1 v2 v3 (fun q0 => k .ret (slices_IndexFunc___api_Car_api_Car__v2_x2_r v3 q0)) (fun (_ : Unit) => k (.exit 0) (slices_IndexFunc___api_Car_api_Car__v2_x2_0 v3)) := by
  induction n with
  | zero => intro v0 v1 v2 v3; rfl
  | succ n ih =>
    intro v0 v1 v2 v3
    refine Eq.trans (b := slices_IndexFunc___api_Car_api_Car__v2_b2 N (fun v0 v1 v2 v3 => loopM E.Θ (calls_group_2_cal N) (slices_IndexFunc___api_Car_api_Car__v2_lp N) (noJn) 1 slices_IndexFunc___api_Car_api_Car__v2_L2 (bodyAt E 81 2) n (slices_IndexFunc___api_Car_api_Car__v2_h2 v0 v1 v2 v3) k) v0 v1 v2 v3 (fun q0 => k .ret (slices_IndexFunc___api_Car_api_Car__v2_x2_r v3 q0)) (fun (_ : Unit) => k (.exit 0) (slices_IndexFunc___api_Car_api_Car__v2_x2_0 v3))) (by kernel_rfl) ?_
    have h : (fun (v0 : Arr api_Car) (v1 : Int) (v2 : Int) (v3 : api_Press) => loopM E.Θ (calls_group_2_cal N) (slices_IndexFunc___api_Car_api_Car__v2_lp N) (noJn) 1 slices_IndexFunc___api_Car_api_Car__v2_L2 (bodyAt E 81 2) n (slices_IndexFunc___api_Car_api_Car__v2_h2 v0 v1 v2 v3) k) = (fun (v0 : Arr api_Car) (v1 : Int) (v2 : Int) (v3 : api_Press) => slices_IndexFunc___api_Car_api_Car__v2_l2 N n v0 v1 v2 v3 (fun q0 => k .ret (slices_IndexFunc___api_Car_api_Car__v2_x2_r v3 q0)) (fun (_ : Unit) => k (.exit 0) (slices_IndexFunc___api_Car_api_Car__v2_x2_0 v3))) := funext fun v0 => funext fun v1 => funext fun v2 => funext fun v3 => ih v0 v1 v2 v3
    rw [h]
    rfl
theorem slices_IndexFunc___api_Car_api_Car__v2_k2 {R : Type} (N : Nat) : LpKey (R := R) E 81 1 (slices_IndexFunc___api_Car_api_Car__v2_lp N) 2 :=
  lpKey_of hE (calls_group_2_cal_ok N) (lp := slices_IndexFunc___api_Car_api_Car__v2_lp N) (jn := noJn) slices_IndexFunc___api_Car_api_Car__v2_L2_ok [] kNil (by kernel_rfl) [] jNil (by kernel_rfl) N fun S k =>
    Eq.trans (b := slices_IndexFunc___api_Car_api_Car__v2_L2.head.raw 1 S (fun S0 => slices_IndexFunc___api_Car_api_Car__v2_d2 N S0 k)) (by kernel_rfl) (congrArg (slices_IndexFunc___api_Car_api_Car__v2_L2.head.raw 1 S) (funext fun S0 => Eq.trans (slices_IndexFunc___api_Car_api_Car__v2_l2_eq N k N (lstC api_CarC (lget S0.tmps 0)) (toI (lget S0.tmps 7)) (toI (lget S0.tmps 8)) (Cod.dec api_PressC (lget (entCs (entAt S0.tab 0))))).symm (by kernel_rfl)))
noncomputable def slices_IndexFunc___api_Car_api_Car__v2_go {R : Type} (N : Nat) (args : List SV) (T : Tab) (kf : SV × Tab → Option R) : Option R :=
  slices_IndexFunc___api_Car_api_Car__v2 N (lstC api_CarC (lget args 0)) (Cod.dec api_PressC (lget (entCs (entAt T 0)))) (fun q0 => kf (lget [.int .i64 q0] 0, [(0, .blk (Cod.enc api_PressC (Cod.dec api_PressC (lget (entCs (entAt T 0))))))]))
noncomputable def slices_IndexFunc___api_Car_api_Car__v2_cal {R : Type} (N : Nat) : Cal R := callM (calls_group_2_cal N) 81 1 slices_IndexFunc___api_Car_api_Car__v2_sp (slices_IndexFunc___api_Car_api_Car__v2_go N)
theorem slices_IndexFunc___api_Car_api_Car__v2_cal_ok {R : Type} (N : Nat) : CalOk E.P (slices_IndexFunc___api_Car_api_Car__v2_cal (R := R) N) :=
  callM_ok hE (calls_group_2_cal_ok N) (lp := slices_IndexFunc___api_Car_api_Car__v2_lp N) (jn := noJn) (keys := [2]) (kCons (slices_IndexFunc___api_Car_api_Car__v2_k2 N) kNil) (by kernel_rfl) (js := []) jNil (by kernel_rfl) slices_IndexFunc___api_Car_api_Car__v2_sp_ok slices_IndexFunc___api_Car_api_Car__v2_rs_ok (fun args T kf => Eq.trans (slices_IndexFunc___api_Car_api_Car__v2_def N (lstC api_CarC (lget args 0)) (Cod.dec api_PressC (lget (entCs (entAt T 0)))) (fun q0 => kf (lget [.int .i64 q0] 0, [(0, .blk (Cod.enc api_PressC (Cod.dec api_PressC (lget (entCs (entAt T 0))))))]))) (by kernel_rfl : slices_IndexFunc___api_Car_api_Car__v2_run N args T kf = fnM E (calls_group_2_cal N) (slices_IndexFunc___api_Car_api_Car__v2_lp N) (noJn) 81 (slices_IndexFunc___api_Car_api_Car__v2_sp.vs args) (slices_IndexFunc___api_Car_api_Car__v2_sp.tab T) 1 (resK slices_IndexFunc___api_Car_api_Car__v2_rs kf)))
def slices_ContainsFunc___api_Car_api_Car__v2_m {R : Type} (N : Nat) (a500 : Arr api_Car) (a501 : api_Press) (k : Bool → Option R) : Option R :=
  slices_IndexFunc___api_Car_api_Car__v2 N a500 a501 (fun r513 =>
  k (decide (r513 ≥ (0 : Int))))
noncomputable def slices_ContainsFunc___api_Car_api_Car__v2 {R : Type} : Nat → Arr api_Car → api_Press → (Bool → Option R) → Option R := lock (@slices_ContainsFunc___api_Car_api_Car__v2_m R)
theorem slices_ContainsFunc___api_Car_api_Car__v2_def {R : Type} (N : Nat) (a500 : Arr api_Car) (a501 : api_Press) (k : Bool → Option R) : slices_ContainsFunc___api_Car_api_Car__v2 N a500 a501 k = slices_ContainsFunc___api_Car_api_Car__v2_m N a500 a501 k := by unfold slices_ContainsFunc___api_Car_api_Car__v2; rw [lock_eq]
def slices_ContainsFunc___api_Car_api_Car__v2_sp : Sp := ⟨[rSl api_CarC, rFunc 76 0 [rPtr 0 0]], [(0, eBlkC api_PressC)]⟩
theorem slices_ContainsFunc___api_Car_api_Car__v2_sp_ok : slices_ContainsFunc___api_Car_api_Car__v2_sp.Ok := ⟨(allCons (rSl_ok api_CarC_ok) (allCons (rFunc_ok 76 0 (allCons (rPtr_ok 0 0) allNil)) allNil)), (eCons (eBlkC_ok api_PressC_ok api_PressC_len) eNil)⟩
def slices_ContainsFunc___api_Car_api_Car__v2_rs : Sp := ⟨[rBool], [(0, eBlkC api_PressC)]⟩
theorem slices_ContainsFunc___api_Car_api_Car__v2_rs_ok : slices_ContainsFunc___api_Car_api_Car__v2_rs.Ok := ⟨(allCons rBool_ok allNil), (eCons (eBlkC_ok api_PressC_ok api_PressC_len) eNil)⟩
def slices_ContainsFunc___api_Car_api_Car__v2_run {R : Type} (N : Nat) (args : List SV) (T : Tab) (kf : SV × Tab → Option R) : Option R :=
  slices_ContainsFunc___api_Car_api_Car__v2_m N (lstC api_CarC (lget args 0)) (Cod.dec api_PressC (lget (entCs (entAt T 0)))) (fun q0 => kf (lget [.bool q0] 0, [(0, .blk (Cod.enc api_PressC (Cod.dec api_PressC (lget (entCs (entAt T 0))))))]))
def slices_ContainsFunc___api_Car_api_Car__v2_lp {R : Type} (N : Nat) : Lp R := fun body S k => Option.none
noncomputable def slices_ContainsFunc___api_Car_api_Car__v2_go {R : Type} (N : Nat) (args : List SV) (T : Tab) (kf : SV × Tab → Option R) : Option R :=
  slices_ContainsFunc___api_Car_api_Car__v2 N (lstC api_CarC (lget args 0)) (Cod.dec api_PressC (lget (entCs (entAt T 0)))) (fun q0 => kf (lget [.bool q0] 0, [(0, .blk (Cod.enc api_PressC (Cod.dec api_PressC (lget (entCs (entAt T 0))))))]))
noncomputable def slices_ContainsFunc___api_Car_api_Car__v2_cal {R : Type} (N : Nat) : Cal R := callM (slices_IndexFunc___api_Car_api_Car__v2_cal N) 74 1 slices_ContainsFunc___api_Car_api_Car__v2_sp (slices_ContainsFunc___api_Car_api_Car__v2_go N)
theorem slices_ContainsFunc___api_Car_api_Car__v2_cal_ok {R : Type} (N : Nat) : CalOk E.P (slices_ContainsFunc___api_Car_api_Car__v2_cal (R := R) N) :=
  callM_ok hE (slices_IndexFunc___api_Car_api_Car__v2_cal_ok N) (lp := slices_ContainsFunc___api_Car_api_Car__v2_lp N) (jn := noJn) (keys := []) kNil (by kernel_rfl) (js := []) jNil (by kernel_rfl) slices_ContainsFunc___api_Car_api_Car__v2_sp_ok slices_ContainsFunc___api_Car_api_Car__v2_rs_ok (fun args T kf => Eq.trans (slices_ContainsFunc___api_Car_api_Car__v2_def N (lstC api_CarC (lget args 0)) (Cod.dec api_PressC (lget (entCs (entAt T 0)))) (fun q0 => kf (lget [.bool q0] 0, [(0, .blk (Cod.enc api_PressC (Cod.dec api_PressC (lget (entCs (entAt T 0))))))]))) (by kernel_rfl : slices_ContainsFunc___api_Car_api_Car__v2_run N args T kf = fnM E (slices_IndexFunc___api_Car_api_Car__v2_cal N) (slices_ContainsFunc___api_Car_api_Car__v2_lp N) (noJn) 74 (slices_ContainsFunc___api_Car_api_Car__v2_sp.vs args) (slices_ContainsFunc___api_Car_api_Car__v2_sp.tab T) 1 (resK slices_ContainsFunc___api_Car_api_Car__v2_rs kf)))
def calls_group_L6 : LoopSp := ⟨⟨[0, 18, 19, 20], ⟨((rSl api_CarC) :: (dr 17 ((rSl api_PressC) :: (rInt .i64) :: (rInt .i64) :: (dr 8 [])))), []⟩, 0⟩, [(Option.none, ⟨[4], ⟨(dr 4 ((rInt .i64) :: (dr 24 []))), []⟩, 0⟩), (some 0, ⟨[], ⟨(dr 29 []), []⟩, 0⟩)]⟩
theorem calls_group_L6_ok : calls_group_L6.Ok := ⟨⟨(allCons (rSl_ok api_CarC_ok) (drCons 17 (allCons (rSl_ok api_PressC_ok) (allCons (rInt_ok .i64) (allCons (rInt_ok .i64) (drCons 8 allNil)))))), eNil⟩, (xCons ⟨(drCons 4 (allCons (rInt_ok .i64) (drCons 24 allNil))), eNil⟩ (xCons ⟨(drCons 29 allNil), eNil⟩ xNil))⟩
def calls_group_h6 (v496 : Arr api_Car) (v497 : Arr api_Press) (v498 : Int) (v499 : Int) : St := ⟨((slC api_CarC v496) :: (un 17 ((slC api_PressC v497) :: (.int .i64 v498) :: (.int .i64 v499) :: (un 8 [])))), [], 0⟩
def calls_group_x6_r (q0 : Int) : St := ⟨(un 4 ((.int .i64 q0) :: (un 24 []))), [], 0⟩
def calls_group_x6_0  : St := ⟨(un 29 []), [], 0⟩
def calls_group_b6 {R : Type} (N : Nat) (rc : Arr api_Car → Arr api_Press → Int → Int → Option R) (v496 : Arr api_Car) (v497 : Arr api_Press) (v498 : Int) (v499 : Int) (kr : Int → Option R) (k0 : Unit → Option R) : Option R :=
  bif decide (v499 < v498) then
   bif decide ((0 : Int) ≤ v499) && decide (v499 < (↑(Arr.n v497) : Int)) then
    slices_ContainsFunc___api_Car_api_Car__v2 N v496 (Arr.f v497 (Int.toNat v499)) (fun r514 =>
    bif !r514 then
     kr (71 : Int)
    else
     rc v496 v497 v498 (w64 (v499 + (1 : Int))))
   else
    Option.none
  else
   k0 ()
def calls_group_l6 {R : Type} (N : Nat) : Nat → Arr api_Car → Arr api_Press → Int → Int → (Int → Option R) → (Unit → Option R) → Option R
  | 0, _, _, _, _, _, _ => Option.none
  | n + 1, v496, v497, v498, v499, kr, k0 => calls_group_b6 N (fun v496 v497 v498 v499 => calls_group_l6 N n v496 v497 v498 v499 kr k0) v496 v497 v498 v499 kr k0
def calls_group_m {R : Type} (N : Nat) (a481 : Arr api_Car) (a482 : Arr api_Press) (k : Int → Option R) : Option R :=
  calls_within N ((↑(Arr.n a481) : Int)) (1 : Int) (3 : Int) (fun r483 =>
  bif !r483 then
   k (70 : Int)
  else
   slices_ContainsFunc___api_Car_api_Car_ N a481 (fun r494 =>
   bif r494 then
    k (70 : Int)
   else
    calls_timed N a482 (fun r495 =>
    bif !r495 then
     k (71 : Int)
    else
     calls_group_l6 N N a481 a482 ((↑(Arr.n a482) : Int)) (0 : Int) (fun r515 =>
      k r515) (fun (_ : Unit) =>
      k (0 : Int)))))
noncomputable def calls_group {R : Type} : Nat → Arr api_Car → Arr api_Press → (Int → Option R) → Option R := lock (@calls_group_m R)
theorem calls_group_def {R : Type} (N : Nat) (a481 : Arr api_Car) (a482 : Arr api_Press) (k : Int → Option R) : calls_group N a481 a482 k = calls_group_m N a481 a482 k := by unfold calls_group; rw [lock_eq]
def calls_group_sp : Sp := ⟨[rSl api_CarC, rSl api_PressC], []⟩
theorem calls_group_sp_ok : calls_group_sp.Ok := ⟨(allCons (rSl_ok api_CarC_ok) (allCons (rSl_ok api_PressC_ok) allNil)), eNil⟩
def calls_group_rs : Sp := ⟨[rInt .i64], []⟩
theorem calls_group_rs_ok : calls_group_rs.Ok := ⟨(allCons (rInt_ok .i64) allNil), eNil⟩
def calls_group_run {R : Type} (N : Nat) (args : List SV) (T : Tab) (kf : SV × Tab → Option R) : Option R :=
  calls_group_m N (lstC api_CarC (lget args 0)) (lstC api_PressC (lget args 1)) (fun q0 => kf (lget [.int .i64 q0] 0, []))
def calls_group_d6 {R : Type} (N : Nat) (S0 : St) (k : Exit → St → Option R) : Option R :=
  calls_group_l6 N N (lstC api_CarC (lget S0.tmps 0)) (lstC api_PressC (lget S0.tmps 18)) (toI (lget S0.tmps 19)) (toI (lget S0.tmps 20)) (fun q0 => k .ret (calls_group_x6_r q0)) (fun (_ : Unit) => k (.exit 0) (calls_group_x6_0 ))
def calls_group_lp {R : Type} (N : Nat) : Lp R := fun body S k => bif (Go.Sx.keyOf body).getD 0 == 6 then (calls_group_L6.head.raw 0 S (fun S0 => calls_group_d6 N S0 k)) else Option.none
theorem calls_group_l6_eq {R : Type} (N : Nat) (k : Exit → St → Option R) (n : Nat) : ∀ (v0 : Arr api_Car) (v1 : Arr api_Press) (v2 : Int) (v3 : Int), loopM E.Θ (slices_ContainsFunc___api_Car_api_Car__v2_cal N) (calls_group_lp N) (noJn) 0 calls_group_L6 (bodyAt E 63 6) n (calls_group_h6 v0 v1 v2 v3) k = calls_group_l6 N n v0 v1 v2 v3 (fun q0 => k .ret (calls_group_x6_r q0)) (fun (_ : Unit) => k (.exit 0) (calls_group_x6_0 )) := by
  induction n with
  | zero => intro v0 v1 v2 v3; rfl
  | succ n ih =>
    intro v0 v1 v2 v3
    refine Eq.trans (b := calls_group_b6 N (fun v0 v1 v2 v3 => loopM E.Θ (slices_ContainsFunc___api_Car_api_Car__v2_cal N) (calls_group_lp N) (noJn) 0 calls_group_L6 (bodyAt E 63 6) n (calls_group_h6 v0 v1 v2 v3) k) v0 v1 v2 v3 (fun q0 => k .ret (calls_group_x6_r q0)) (fun (_ : Unit) => k (.exit 0) (calls_group_x6_0 ))) (by kernel_rfl) ?_
    have h : (fun (v0 : Arr api_Car) (v1 : Arr api_Press) (v2 : Int) (v3 : Int) => loopM E.Θ (slices_ContainsFunc___api_Car_api_Car__v2_cal N) (calls_group_lp N) (noJn) 0 calls_group_L6 (bodyAt E 63 6) n (calls_group_h6 v0 v1 v2 v3) k) = (fun (v0 : Arr api_Car) (v1 : Arr api_Press) (v2 : Int) (v3 : Int) => calls_group_l6 N n v0 v1 v2 v3 (fun q0 => k .ret (calls_group_x6_r q0)) (fun (_ : Unit) => k (.exit 0) (calls_group_x6_0 ))) := funext fun v0 => funext fun v1 => funext fun v2 => funext fun v3 => ih v0 v1 v2 v3
    rw [h]
    rfl
theorem calls_group_k6 {R : Type} (N : Nat) : LpKey (R := R) E 63 0 (calls_group_lp N) 6 :=
  lpKey_of hE (slices_ContainsFunc___api_Car_api_Car__v2_cal_ok N) (lp := calls_group_lp N) (jn := noJn) calls_group_L6_ok [] kNil (by kernel_rfl) [] jNil (by kernel_rfl) N fun S k =>
    Eq.trans (b := calls_group_L6.head.raw 0 S (fun S0 => calls_group_d6 N S0 k)) (by kernel_rfl) (congrArg (calls_group_L6.head.raw 0 S) (funext fun S0 => Eq.trans (calls_group_l6_eq N k N (lstC api_CarC (lget S0.tmps 0)) (lstC api_PressC (lget S0.tmps 18)) (toI (lget S0.tmps 19)) (toI (lget S0.tmps 20))).symm (by kernel_rfl)))
noncomputable def calls_group_go {R : Type} (N : Nat) (args : List SV) (T : Tab) (kf : SV × Tab → Option R) : Option R :=
  calls_group N (lstC api_CarC (lget args 0)) (lstC api_PressC (lget args 1)) (fun q0 => kf (lget [.int .i64 q0] 0, []))
noncomputable def calls_group_cal {R : Type} (N : Nat) : Cal R := callM (slices_ContainsFunc___api_Car_api_Car__v2_cal N) 63 0 calls_group_sp (calls_group_go N)
theorem calls_group_cal_ok {R : Type} (N : Nat) : CalOk E.P (calls_group_cal (R := R) N) :=
  callM_ok hE (slices_ContainsFunc___api_Car_api_Car__v2_cal_ok N) (lp := calls_group_lp N) (jn := noJn) (keys := [6]) (kCons (calls_group_k6 N) kNil) (by kernel_rfl) (js := []) jNil (by kernel_rfl) calls_group_sp_ok calls_group_rs_ok (fun args T kf => Eq.trans (calls_group_def N (lstC api_CarC (lget args 0)) (lstC api_PressC (lget args 1)) (fun q0 => kf (lget [.int .i64 q0] 0, []))) (by kernel_rfl : calls_group_run N args T kf = fnM E (slices_ContainsFunc___api_Car_api_Car__v2_cal N) (calls_group_lp N) (noJn) 63 (calls_group_sp.vs args) (calls_group_sp.tab T) 0 (resK calls_group_rs kf)))
def calls_given_m {R : Type} (N : Nat) (a523 : Arr api_Car) (a524 : api_Press) (a525 : Int) (k : Bool → Option R) : Option R :=
  calls_within N a525 (0 : Int) (w64 ((↑(Arr.n a523) : Int) - (1 : Int))) (fun r526 =>
  bif r526 then
   bif decide ((0 : Int) ≤ a525) && decide (a525 < (↑(Arr.n a523) : Int)) then
    bif decide ((0 : Int) ≤ a525) && decide (a525 < (↑(Arr.n a523) : Int)) then
     calls_within N (api_Press.Floor a524) (api_Car.Low (Arr.f a523 (Int.toNat a525))) (api_Car.High (Arr.f a523 (Int.toNat a525))) (fun r527 =>
     k r527)
    else
     Option.none
   else
    Option.none
  else
   k false)
noncomputable def calls_given {R : Type} : Nat → Arr api_Car → api_Press → Int → (Bool → Option R) → Option R := lock (@calls_given_m R)
theorem calls_given_def {R : Type} (N : Nat) (a523 : Arr api_Car) (a524 : api_Press) (a525 : Int) (k : Bool → Option R) : calls_given N a523 a524 a525 k = calls_given_m N a523 a524 a525 k := by unfold calls_given; rw [lock_eq]
def calls_given_sp : Sp := ⟨[rSl api_CarC, rAgg api_PressC, rInt .i64], []⟩
theorem calls_given_sp_ok : calls_given_sp.Ok := ⟨(allCons (rSl_ok api_CarC_ok) (allCons (rAgg_ok api_PressC_ok api_PressC_len) (allCons (rInt_ok .i64) allNil))), eNil⟩
def calls_given_rs : Sp := ⟨[rBool], []⟩
theorem calls_given_rs_ok : calls_given_rs.Ok := ⟨(allCons rBool_ok allNil), eNil⟩
def calls_given_run {R : Type} (N : Nat) (args : List SV) (T : Tab) (kf : SV × Tab → Option R) : Option R :=
  calls_given_m N (lstC api_CarC (lget args 0)) (Cod.dec api_PressC (lget (toCs (lget args 1)))) (toI (lget args 2)) (fun q0 => kf (lget [.bool q0] 0, []))
def calls_given_lp {R : Type} (N : Nat) : Lp R := fun body S k => Option.none
noncomputable def calls_given_go {R : Type} (N : Nat) (args : List SV) (T : Tab) (kf : SV × Tab → Option R) : Option R :=
  calls_given N (lstC api_CarC (lget args 0)) (Cod.dec api_PressC (lget (toCs (lget args 1)))) (toI (lget args 2)) (fun q0 => kf (lget [.bool q0] 0, []))
noncomputable def calls_given_cal {R : Type} (N : Nat) : Cal R := callM (calls_group_cal N) 65 0 calls_given_sp (calls_given_go N)
theorem calls_given_cal_ok {R : Type} (N : Nat) : CalOk E.P (calls_given_cal (R := R) N) :=
  callM_ok hE (calls_group_cal_ok N) (lp := calls_given_lp N) (jn := noJn) (keys := []) kNil (by kernel_rfl) (js := []) jNil (by kernel_rfl) calls_given_sp_ok calls_given_rs_ok (fun args T kf => Eq.trans (calls_given_def N (lstC api_CarC (lget args 0)) (Cod.dec api_PressC (lget (toCs (lget args 1)))) (toI (lget args 2)) (fun q0 => kf (lget [.bool q0] 0, []))) (by kernel_rfl : calls_given_run N args T kf = fnM E (calls_group_cal N) (calls_given_lp N) (noJn) 65 (calls_given_sp.vs args) (calls_given_sp.tab T) 0 (resK calls_given_rs kf)))
def calls_longest_1_m {R : Type} (N : Nat) (a565 : Int) (a566 : Arr Int) (a567 : Int) (k : Bool → Option R) : Option R :=
  bif decide ((0 : Int) ≤ a565) && decide (a565 < (↑(Arr.n a566) : Int)) then
   k (Arr.f a566 (Int.toNat a565) == a567)
  else
   Option.none
noncomputable def calls_longest_1 {R : Type} : Nat → Int → Arr Int → Int → (Bool → Option R) → Option R := lock (@calls_longest_1_m R)
theorem calls_longest_1_def {R : Type} (N : Nat) (a565 : Int) (a566 : Arr Int) (a567 : Int) (k : Bool → Option R) : calls_longest_1 N a565 a566 a567 k = calls_longest_1_m N a565 a566 a567 k := by unfold calls_longest_1; rw [lock_eq]
def calls_longest_1_sp : Sp := ⟨[rInt .i64, rPtr 0 0, rPtr 1 0], [(0, eBlk [rSl intC]), (1, eBlk [rInt .i64])]⟩
theorem calls_longest_1_sp_ok : calls_longest_1_sp.Ok := ⟨(allCons (rInt_ok .i64) (allCons (rPtr_ok 0 0) (allCons (rPtr_ok 1 0) allNil))), (eCons (eBlk_ok (allCons (rSl_ok intC_ok) allNil)) (eCons (eBlk_ok (allCons (rInt_ok .i64) allNil)) eNil))⟩
def calls_longest_1_rs : Sp := ⟨[rBool], [(0, eBlk [rSl intC]), (1, eBlk [rInt .i64])]⟩
theorem calls_longest_1_rs_ok : calls_longest_1_rs.Ok := ⟨(allCons rBool_ok allNil), (eCons (eBlk_ok (allCons (rSl_ok intC_ok) allNil)) (eCons (eBlk_ok (allCons (rInt_ok .i64) allNil)) eNil))⟩
def calls_longest_1_run {R : Type} (N : Nat) (args : List SV) (T : Tab) (kf : SV × Tab → Option R) : Option R :=
  calls_longest_1_m N (toI (lget args 0)) (lstC intC (lget (entCs (entAt T 0)) 0)) (toI (lget (entCs (entAt T 1)) 0)) (fun q0 => kf (lget [.bool q0] 0, [(0, .blk [slC intC (lstC intC (lget (entCs (entAt T 0)) 0))]), (1, .blk [.int .i64 (toI (lget (entCs (entAt T 1)) 0))])]))
def calls_longest_1_lp {R : Type} (N : Nat) : Lp R := fun body S k => Option.none
noncomputable def calls_longest_1_go {R : Type} (N : Nat) (args : List SV) (T : Tab) (kf : SV × Tab → Option R) : Option R :=
  calls_longest_1 N (toI (lget args 0)) (lstC intC (lget (entCs (entAt T 0)) 0)) (toI (lget (entCs (entAt T 1)) 0)) (fun q0 => kf (lget [.bool q0] 0, [(0, .blk [slC intC (lstC intC (lget (entCs (entAt T 0)) 0))]), (1, .blk [.int .i64 (toI (lget (entCs (entAt T 1)) 0))])]))
noncomputable def calls_longest_1_cal {R : Type} (N : Nat) : Cal R := callM (calls_given_cal N) 80 2 calls_longest_1_sp (calls_longest_1_go N)
theorem calls_longest_1_cal_ok {R : Type} (N : Nat) : CalOk E.P (calls_longest_1_cal (R := R) N) :=
  callM_ok hE (calls_given_cal_ok N) (lp := calls_longest_1_lp N) (jn := noJn) (keys := []) kNil (by kernel_rfl) (js := []) jNil (by kernel_rfl) calls_longest_1_sp_ok calls_longest_1_rs_ok (fun args T kf => Eq.trans (calls_longest_1_def N (toI (lget args 0)) (lstC intC (lget (entCs (entAt T 0)) 0)) (toI (lget (entCs (entAt T 1)) 0)) (fun q0 => kf (lget [.bool q0] 0, [(0, .blk [slC intC (lstC intC (lget (entCs (entAt T 0)) 0))]), (1, .blk [.int .i64 (toI (lget (entCs (entAt T 1)) 0))])]))) (by kernel_rfl : calls_longest_1_run N args T kf = fnM E (calls_given_cal N) (calls_longest_1_lp N) (noJn) 80 (calls_longest_1_sp.vs args) (calls_longest_1_sp.tab T) 2 (resK calls_longest_1_rs kf)))
def calls_waits_v2_L9 : LoopSp := ⟨⟨[1, 2, 7, 8, 9, 10, 11, 12], ⟨(dr 1 ((rSl api_PressC) :: (rFunc 80 0 [rPtr 0 0, rPtr 1 0]) :: (dr 4 ((rRow 2) :: (rRow 3) :: (rPtr 4 0) :: (rInt .i64) :: (rInt .i64) :: (rRow 5) :: (dr 102 []))))), [(0, eBlk [rSl intC]), (1, eBlk [rInt .i64]), (2, eRow intC), (3, eFm .i64 intC), (4, eBlkC calls_cageC), (5, eRow intC)]⟩, 6⟩, [(some 2, ⟨[1, 2, 7, 8, 9, 10, 11, 12], ⟨(dr 1 ((rSl api_PressC) :: (rFunc 80 0 [rPtr 0 0, rPtr 1 0]) :: (dr 4 ((rRow 2) :: (rRow 3) :: (rPtr 4 0) :: (rInt .i64) :: (rInt .i64) :: (rRow 5) :: (dr 102 []))))), [(0, eBlk [rSl intC]), (1, eBlk [rInt .i64]), (2, eRow intC), (3, eFm .i64 intC), (4, eBlkC calls_cageC), (5, eRow intC)]⟩, 6⟩)]⟩
theorem calls_waits_v2_L9_ok : calls_waits_v2_L9.Ok := ⟨⟨(drCons 1 (allCons (rSl_ok api_PressC_ok) (allCons (rFunc_ok 80 0 (allCons (rPtr_ok 0 0) (allCons (rPtr_ok 1 0) allNil))) (drCons 4 (allCons (rRow_ok 2) (allCons (rRow_ok 3) (allCons (rPtr_ok 4 0) (allCons (rInt_ok .i64) (allCons (rInt_ok .i64) (allCons (rRow_ok 5) (drCons 102 allNil))))))))))), (eCons (eBlk_ok (allCons (rSl_ok intC_ok) allNil)) (eCons (eBlk_ok (allCons (rInt_ok .i64) allNil)) (eCons (eRow_ok intC_ok) (eCons (eFm_ok intC_ok) (eCons (eBlkC_ok calls_cageC_ok calls_cageC_len) (eCons (eRow_ok intC_ok) eNil))))))⟩, (xCons ⟨(drCons 1 (allCons (rSl_ok api_PressC_ok) (allCons (rFunc_ok 80 0 (allCons (rPtr_ok 0 0) (allCons (rPtr_ok 1 0) allNil))) (drCons 4 (allCons (rRow_ok 2) (allCons (rRow_ok 3) (allCons (rPtr_ok 4 0) (allCons (rInt_ok .i64) (allCons (rInt_ok .i64) (allCons (rRow_ok 5) (drCons 102 allNil))))))))))), (eCons (eBlk_ok (allCons (rSl_ok intC_ok) allNil)) (eCons (eBlk_ok (allCons (rInt_ok .i64) allNil)) (eCons (eRow_ok intC_ok) (eCons (eFm_ok intC_ok) (eCons (eBlkC_ok calls_cageC_ok calls_cageC_len) (eCons (eRow_ok intC_ok) eNil))))))⟩ xNil)⟩
def calls_waits_v2_h9 (v554 : Arr api_Press) (v555 : Int) (v556 : Int) (v557 : Arr Int) (v558 : Int) (v559 : Bool) (v560 : Arr Int) (v561 : Fm Int) (v562 : calls_cage) (v563 : Bool) (v564 : Arr Int) : St := ⟨(un 1 ((slC api_PressC v554) :: (.func 80 0 [.ptr 0 0, .ptr 1 0]) :: (un 4 ((.row 2) :: (.row 3) :: (.ptr 4 0) :: (.int .i64 v555) :: (.int .i64 v556) :: (.row 5) :: (un 102 []))))), [(0, .blk [slC intC v557]), (1, .blk [.int .i64 v558]), (2, rowE intC v559 v560), (3, fmE .i64 intC v561), (4, .blk (Cod.enc calls_cageC v562)), (5, rowE intC v563 v564)], 6⟩
def calls_waits_v2_x9_2 (v554 : Arr api_Press) (v556 : Int) (v557 : Arr Int) (v558 : Int) (v559 : Bool) (v560 : Arr Int) (v562 : calls_cage) (q1 : Int) (q7 : Fm Int) (q9 : Bool) (q10 : Arr Int) : St := ⟨(un 1 ((slC api_PressC v554) :: (.func 80 0 [.ptr 0 0, .ptr 1 0]) :: (un 4 ((.row 2) :: (.row 3) :: (.ptr 4 0) :: (.int .i64 q1) :: (.int .i64 v556) :: (.row 5) :: (un 102 []))))), [(0, .blk [slC intC v557]), (1, .blk [.int .i64 v558]), (2, rowE intC v559 v560), (3, fmE .i64 intC q7), (4, .blk (Cod.enc calls_cageC v562)), (5, rowE intC q9 q10)], 6⟩
def calls_waits_v2_b9 {R : Type} (N : Nat) (rc : Arr api_Press → Int → Int → Arr Int → Int → Bool → Arr Int → Fm Int → calls_cage → Bool → Arr Int → Option R) (v554 : Arr api_Press) (v555 : Int) (v556 : Int) (v557 : Arr Int) (v558 : Int) (v559 : Bool) (v560 : Arr Int) (v561 : Fm Int) (v562 : calls_cage) (v563 : Bool) (v564 : Arr Int) (k2 : Int → Fm Int → Bool → Arr Int → Option R) : Option R :=
  bif decide (v555 < (↑(Arr.n v554) : Int)) then
   bif decide ((0 : Int) ≤ v555) && decide (v555 < (↑(Arr.n v554) : Int)) then
    bif api_Press.At (Arr.f v554 (Int.toNat v555)) == v556 then
     calls_longest_1 N v555 v557 v558 (fun r568 =>
     bif r568 then
      bif decide ((0 : Int) ≤ v555) && decide (v555 < (↑(Arr.n v554) : Int)) then
       bif decide ((0 : Int) ≤ v555) && decide (v555 < (↑(Arr.n v554) : Int)) then
        bif room (fmL v561 (api_Press.Floor (Arr.f v554 (Int.toNat v555))) + (1 : Nat)) then
         bif decide (api_Press.Floor (Arr.f v554 (Int.toNat v555)) = api_Press.Floor (Arr.f v554 (Int.toNat v555))) then
          bif decide ((0 : Int) ≤ v555) && decide (v555 < (↑(Arr.n v554) : Int)) then
           bif room (Arr.n v564 + (1 : Nat)) then
            rc v554 (w64 (v555 + (1 : Int))) v556 v557 v558 v559 v560 (fmD intC (fHs (api_Press.Floor (Arr.f v554 (Int.toNat v555))) (Fm.has v561)) (fLn (api_Press.Floor (Arr.f v554 (Int.toNat v555))) (fmL v561 (api_Press.Floor (Arr.f v554 (Int.toNat v555))) + (1 : Nat)) (fmL v561)) (fGt (api_Press.Floor (Arr.f v554 (Int.toNat v555))) (catC (fmL v561 (api_Press.Floor (Arr.f v554 (Int.toNat v555)))) (fmG intC v561 (api_Press.Floor (Arr.f v554 (Int.toNat v555)))) (litC [SV.int IntKind.i64 (0 : Int)] [[SV.int IntKind.i64 v555]])) (fmG intC v561))) v562 false (lst intC (Arr.n v564 + (1 : Nat)) (catC (Arr.n v564) (Cod.cell intC (Arr.f v564)) (litC [SV.int IntKind.i64 (0 : Int)] [[SV.int IntKind.i64 (api_Press.Floor (Arr.f v554 (Int.toNat v555)))]])))
           else
            Option.none
          else
           Option.none
         else
          Option.none
        else
         Option.none
       else
        Option.none
      else
       Option.none
     else
      rc v554 (w64 (v555 + (1 : Int))) v556 v557 v558 v559 v560 v561 v562 v563 v564)
    else
     k2 v555 v561 v563 v564
   else
    Option.none
  else
   k2 v555 v561 v563 v564
def calls_waits_v2_l9 {R : Type} (N : Nat) : Nat → Arr api_Press → Int → Int → Arr Int → Int → Bool → Arr Int → Fm Int → calls_cage → Bool → Arr Int → (Int → Fm Int → Bool → Arr Int → Option R) → Option R
  | 0, _, _, _, _, _, _, _, _, _, _, _, _ => Option.none
  | n + 1, v554, v555, v556, v557, v558, v559, v560, v561, v562, v563, v564, k2 => calls_waits_v2_b9 N (fun v554 v555 v556 v557 v558 v559 v560 v561 v562 v563 v564 => calls_waits_v2_l9 N n v554 v555 v556 v557 v558 v559 v560 v561 v562 v563 v564 k2) v554 v555 v556 v557 v558 v559 v560 v561 v562 v563 v564 k2
def calls_waits_v2_L100000 : LoopSp := ⟨⟨[1, 2, 7, 8, 9, 10, 11, 13], ⟨(dr 1 ((rSl api_PressC) :: (rFunc 80 0 [rPtr 0 0, rPtr 1 0]) :: (dr 4 ((rRow 2) :: (rRow 3) :: (rPtr 4 0) :: (rInt .i64) :: (rInt .i64) :: (dr 1 ((rInt .i64) :: (dr 101 []))))))), [(0, eBlk [rSl intC]), (1, eBlk [rInt .i64]), (2, eRow intC), (3, eFm .i64 intC), (4, eBlkC calls_cageC)]⟩, 5⟩, [(some 1000000, ⟨[1, 2, 7, 8, 9, 10, 11], ⟨(dr 1 ((rSl api_PressC) :: (rFunc 80 0 [rPtr 0 0, rPtr 1 0]) :: (dr 4 ((rRow 2) :: (rRow 3) :: (rPtr 4 0) :: (rInt .i64) :: (rInt .i64) :: (dr 103 []))))), [(0, eBlk [rSl intC]), (1, eBlk [rInt .i64]), (2, eRow intC), (3, eFm .i64 intC), (4, eBlkC calls_cageC)]⟩, 7⟩)]⟩
theorem calls_waits_v2_L100000_ok : calls_waits_v2_L100000.Ok := ⟨⟨(drCons 1 (allCons (rSl_ok api_PressC_ok) (allCons (rFunc_ok 80 0 (allCons (rPtr_ok 0 0) (allCons (rPtr_ok 1 0) allNil))) (drCons 4 (allCons (rRow_ok 2) (allCons (rRow_ok 3) (allCons (rPtr_ok 4 0) (allCons (rInt_ok .i64) (allCons (rInt_ok .i64) (drCons 1 (allCons (rInt_ok .i64) (drCons 101 allNil)))))))))))), (eCons (eBlk_ok (allCons (rSl_ok intC_ok) allNil)) (eCons (eBlk_ok (allCons (rInt_ok .i64) allNil)) (eCons (eRow_ok intC_ok) (eCons (eFm_ok intC_ok) (eCons (eBlkC_ok calls_cageC_ok calls_cageC_len) eNil)))))⟩, (xCons ⟨(drCons 1 (allCons (rSl_ok api_PressC_ok) (allCons (rFunc_ok 80 0 (allCons (rPtr_ok 0 0) (allCons (rPtr_ok 1 0) allNil))) (drCons 4 (allCons (rRow_ok 2) (allCons (rRow_ok 3) (allCons (rPtr_ok 4 0) (allCons (rInt_ok .i64) (allCons (rInt_ok .i64) (drCons 103 allNil)))))))))), (eCons (eBlk_ok (allCons (rSl_ok intC_ok) allNil)) (eCons (eBlk_ok (allCons (rInt_ok .i64) allNil)) (eCons (eRow_ok intC_ok) (eCons (eFm_ok intC_ok) (eCons (eBlkC_ok calls_cageC_ok calls_cageC_len) eNil)))))⟩ xNil)⟩
def calls_waits_v2_x100000_n (v575 : Arr api_Press) (v576 : Int) (v577 : Int) (v579 : Arr Int) (v580 : Int) (v581 : Bool) (v584 : calls_cage) (q6 : Arr Int) (q7 : Fm Int) : St := ⟨(un 1 ((slC api_PressC v575) :: (.func 80 0 [.ptr 0 0, .ptr 1 0]) :: (un 4 ((.row 2) :: (.row 3) :: (.ptr 4 0) :: (.int .i64 v576) :: (.int .i64 v577) :: (un 103 []))))), [(0, .blk [slC intC v579]), (1, .blk [.int .i64 v580]), (2, rowE intC v581 q6), (3, fmE .i64 intC q7), (4, .blk (Cod.enc calls_cageC v584))], 7⟩
def calls_waits_v2_j0_m {R : Type} (N : Nat) (v575 : Arr api_Press) (v576 : Int) (v577 : Int) (v578 : Int) (v579 : Arr Int) (v580 : Int) (v581 : Bool) (v582 : Arr Int) (v583 : Fm Int) (v584 : calls_cage) (kn : Arr Int → Fm Int → Option R) : Option R :=
  waitsRound v575 v577 v578 v581 v582 v583 kn
noncomputable def calls_waits_v2_j0 {R : Type} : Nat → Arr api_Press → Int → Int → Int → Arr Int → Int → Bool → Arr Int → Fm Int → calls_cage → (Arr Int → Fm Int → Option R) → Option R := lock (@calls_waits_v2_j0_m R)
theorem calls_waits_v2_j0_def {R : Type} (N : Nat) (v575 : Arr api_Press) (v576 : Int) (v577 : Int) (v578 : Int) (v579 : Arr Int) (v580 : Int) (v581 : Bool) (v582 : Arr Int) (v583 : Fm Int) (v584 : calls_cage) (kn : Arr Int → Fm Int → Option R) : calls_waits_v2_j0 N v575 v576 v577 v578 v579 v580 v581 v582 v583 v584 kn = calls_waits_v2_j0_m N v575 v576 v577 v578 v579 v580 v581 v582 v583 v584 kn := by unfold calls_waits_v2_j0; rw [lock_eq]
def calls_waits_v2_L6 : LoopSp := ⟨⟨[1, 2, 7, 8, 9, 10, 11], ⟨(dr 1 ((rSl api_PressC) :: (rFunc 80 0 [rPtr 0 0, rPtr 1 0]) :: (dr 4 ((rRow 2) :: (rRow 3) :: (rPtr 4 0) :: (rInt .i64) :: (rInt .i64) :: (dr 103 []))))), [(0, eBlk [rSl intC]), (1, eBlk [rInt .i64]), (2, eRow intC), (3, eFm .i64 intC), (4, eBlkC calls_cageC)]⟩, 5⟩, [(some 0, ⟨[7], ⟨(dr 7 ((rRow 2) :: (dr 107 []))), [(0, eBlk [rSl intC]), (1, eBlk [rInt .i64]), (2, eRow intC)]⟩, 3⟩)]⟩
theorem calls_waits_v2_L6_ok : calls_waits_v2_L6.Ok := ⟨⟨(drCons 1 (allCons (rSl_ok api_PressC_ok) (allCons (rFunc_ok 80 0 (allCons (rPtr_ok 0 0) (allCons (rPtr_ok 1 0) allNil))) (drCons 4 (allCons (rRow_ok 2) (allCons (rRow_ok 3) (allCons (rPtr_ok 4 0) (allCons (rInt_ok .i64) (allCons (rInt_ok .i64) (drCons 103 allNil)))))))))), (eCons (eBlk_ok (allCons (rSl_ok intC_ok) allNil)) (eCons (eBlk_ok (allCons (rInt_ok .i64) allNil)) (eCons (eRow_ok intC_ok) (eCons (eFm_ok intC_ok) (eCons (eBlkC_ok calls_cageC_ok calls_cageC_len) eNil)))))⟩, (xCons ⟨(drCons 7 (allCons (rRow_ok 2) (drCons 107 allNil))), (eCons (eBlk_ok (allCons (rSl_ok intC_ok) allNil)) (eCons (eBlk_ok (allCons (rInt_ok .i64) allNil)) (eCons (eRow_ok intC_ok) eNil)))⟩ xNil)⟩
def calls_waits_v2_h6 (v545 : Arr api_Press) (v546 : Int) (v547 : Int) (v548 : Arr Int) (v549 : Int) (v550 : Bool) (v551 : Arr Int) (v552 : Fm Int) (v553 : calls_cage) : St := ⟨(un 1 ((slC api_PressC v545) :: (.func 80 0 [.ptr 0 0, .ptr 1 0]) :: (un 4 ((.row 2) :: (.row 3) :: (.ptr 4 0) :: (.int .i64 v546) :: (.int .i64 v547) :: (un 103 []))))), [(0, .blk [slC intC v548]), (1, .blk [.int .i64 v549]), (2, rowE intC v550 v551), (3, fmE .i64 intC v552), (4, .blk (Cod.enc calls_cageC v553))], 5⟩
def calls_waits_v2_x6_0 (v548 : Arr Int) (v549 : Int) (v550 : Bool) (q3 : Arr Int) : St := ⟨(un 7 ((.row 2) :: (un 107 []))), [(0, .blk [slC intC v548]), (1, .blk [.int .i64 v549]), (2, rowE intC v550 q3)], 3⟩
def calls_waits_v2_b6 {R : Type} (N : Nat) (rc : Arr api_Press → Int → Int → Arr Int → Int → Bool → Arr Int → Fm Int → calls_cage → Option R) (v545 : Arr api_Press) (v546 : Int) (v547 : Int) (v548 : Arr Int) (v549 : Int) (v550 : Bool) (v551 : Arr Int) (v552 : Fm Int) (v553 : calls_cage) (k0 : Arr Int → Option R) : Option R :=
  bif decide (v546 < (↑(Arr.n v545) : Int)) then
   calls_waits_v2_l9 N N v545 v546 v547 v548 v549 v550 v551 v552 v553 true (lst intC (0 : Nat) (zeroC [SV.int IntKind.i64 (0 : Int)])) (fun r569 r570 r571 r572 =>
    calls_cage_tick N r572 v553 (fun r573 r574 =>
    calls_waits_v2_j0 N v545 r569 v547 r573 v548 v549 v550 v551 r570 r574 (fun r585 r586 =>
     rc v545 r569 (w64 (v547 + (1 : Int))) v548 v549 v550 r585 r586 r574)))
  else
   bif api_Ride.Wants (calls_cage.Ride v553) != (0 : Int) then
    calls_waits_v2_l9 N N v545 v546 v547 v548 v549 v550 v551 v552 v553 true (lst intC (0 : Nat) (zeroC [SV.int IntKind.i64 (0 : Int)])) (fun r587 r588 r589 r590 =>
     calls_cage_tick N r590 v553 (fun r591 r592 =>
     calls_waits_v2_j0 N v545 r587 v547 r591 v548 v549 v550 v551 r588 r592 (fun r593 r594 =>
      rc v545 r587 (w64 (v547 + (1 : Int))) v548 v549 v550 r593 r594 r592)))
   else
    k0 v551
def calls_waits_v2_l6 {R : Type} (N : Nat) : Nat → Arr api_Press → Int → Int → Arr Int → Int → Bool → Arr Int → Fm Int → calls_cage → (Arr Int → Option R) → Option R
  | 0, _, _, _, _, _, _, _, _, _, _ => Option.none
  | n + 1, v545, v546, v547, v548, v549, v550, v551, v552, v553, k0 => calls_waits_v2_b6 N (fun v545 v546 v547 v548 v549 v550 v551 v552 v553 => calls_waits_v2_l6 N n v545 v546 v547 v548 v549 v550 v551 v552 v553 k0) v545 v546 v547 v548 v549 v550 v551 v552 v553 k0
def calls_waits_v2_m {R : Type} (N : Nat) (a540 : api_Car) (a541 : Arr api_Press) (a542 : Arr Int) (a543 : Int) (k : Bool → Arr Int → Option R) : Option R :=
  bif decide ((↑(Arr.n a541) : Int) ≤ (↑(Arr.n a541) : Int)) && decide ((↑(Arr.n a541) : Int) ≤ (1073741824 : Int)) then
   calls_begin N a540 (fun r544 =>
   calls_waits_v2_l6 N N a541 (0 : Int) (0 : Int) a542 a543 false (lst intC (Int.toNat (↑(Arr.n a541) : Int)) (zeroC [SV.int IntKind.i64 (0 : Int)])) (fmD intC noHs noLn (noGt [SV.int IntKind.i64 (0 : Int)])) r544 (fun r595 =>
    k false r595))
  else
   Option.none
noncomputable def calls_waits_v2 {R : Type} : Nat → api_Car → Arr api_Press → Arr Int → Int → (Bool → Arr Int → Option R) → Option R := lock (@calls_waits_v2_m R)
theorem calls_waits_v2_def {R : Type} (N : Nat) (a540 : api_Car) (a541 : Arr api_Press) (a542 : Arr Int) (a543 : Int) (k : Bool → Arr Int → Option R) : calls_waits_v2 N a540 a541 a542 a543 k = calls_waits_v2_m N a540 a541 a542 a543 k := by unfold calls_waits_v2; rw [lock_eq]
def calls_waits_v2_sp : Sp := ⟨[rAgg api_CarC, rSl api_PressC, rFunc 80 0 [rPtr 0 0, rPtr 1 0]], [(0, eBlk [rSl intC]), (1, eBlk [rInt .i64])]⟩
theorem calls_waits_v2_sp_ok : calls_waits_v2_sp.Ok := ⟨(allCons (rAgg_ok api_CarC_ok api_CarC_len) (allCons (rSl_ok api_PressC_ok) (allCons (rFunc_ok 80 0 (allCons (rPtr_ok 0 0) (allCons (rPtr_ok 1 0) allNil))) allNil))), (eCons (eBlk_ok (allCons (rSl_ok intC_ok) allNil)) (eCons (eBlk_ok (allCons (rInt_ok .i64) allNil)) eNil))⟩
def calls_waits_v2_rs : Sp := ⟨[rRow 2], [(0, eBlk [rSl intC]), (1, eBlk [rInt .i64]), (2, eRow intC)]⟩
theorem calls_waits_v2_rs_ok : calls_waits_v2_rs.Ok := ⟨(allCons (rRow_ok 2) allNil), (eCons (eBlk_ok (allCons (rSl_ok intC_ok) allNil)) (eCons (eBlk_ok (allCons (rInt_ok .i64) allNil)) (eCons (eRow_ok intC_ok) eNil)))⟩
def calls_waits_v2_run {R : Type} (N : Nat) (args : List SV) (T : Tab) (kf : SV × Tab → Option R) : Option R :=
  calls_waits_v2_m N (Cod.dec api_CarC (lget (toCs (lget args 0)))) (lstC api_PressC (lget args 1)) (lstC intC (lget (entCs (entAt T 0)) 0)) (toI (lget (entCs (entAt T 1)) 0)) (fun q2 q3 => kf (lget [.row 2] 0, [(0, .blk [slC intC (lstC intC (lget (entCs (entAt T 0)) 0))]), (1, .blk [.int .i64 (toI (lget (entCs (entAt T 1)) 0))]), (2, rowE intC q2 q3)]))
def calls_waits_v2_d100000 {R : Type} (N : Nat) (S0 : St) (k : Exit → St → Option R) : Option R :=
  calls_waits_v2_j0 N (lstC api_PressC (lget S0.tmps 1)) (toI (lget S0.tmps 10)) (toI (lget S0.tmps 11)) (toI (lget S0.tmps 13)) (lstC intC (lget (entCs (entAt S0.tab 0)) 0)) (toI (lget (entCs (entAt S0.tab 1)) 0)) (entNl (entAt S0.tab 2)) (lst intC (entN (entAt S0.tab 2)) (entC (entAt S0.tab 2))) (fmD intC (entFh (entAt S0.tab 3)) (entFl (entAt S0.tab 3)) (entFg (entAt S0.tab 3))) (Cod.dec calls_cageC (lget (entCs (entAt S0.tab 4)))) (fun q6 q7 => k .normal (calls_waits_v2_x100000_n (lstC api_PressC (lget S0.tmps 1)) (toI (lget S0.tmps 10)) (toI (lget S0.tmps 11)) (lstC intC (lget (entCs (entAt S0.tab 0)) 0)) (toI (lget (entCs (entAt S0.tab 1)) 0)) (entNl (entAt S0.tab 2)) (Cod.dec calls_cageC (lget (entCs (entAt S0.tab 4)))) q6 q7))
def calls_waits_v2_d9 {R : Type} (N : Nat) (S0 : St) (k : Exit → St → Option R) : Option R :=
  calls_waits_v2_l9 N N (lstC api_PressC (lget S0.tmps 1)) (toI (lget S0.tmps 10)) (toI (lget S0.tmps 11)) (lstC intC (lget (entCs (entAt S0.tab 0)) 0)) (toI (lget (entCs (entAt S0.tab 1)) 0)) (entNl (entAt S0.tab 2)) (lst intC (entN (entAt S0.tab 2)) (entC (entAt S0.tab 2))) (fmD intC (entFh (entAt S0.tab 3)) (entFl (entAt S0.tab 3)) (entFg (entAt S0.tab 3))) (Cod.dec calls_cageC (lget (entCs (entAt S0.tab 4)))) (entNl (entAt S0.tab 5)) (lst intC (entN (entAt S0.tab 5)) (entC (entAt S0.tab 5))) (fun q1 q7 q9 q10 => k (.exit 2) (calls_waits_v2_x9_2 (lstC api_PressC (lget S0.tmps 1)) (toI (lget S0.tmps 11)) (lstC intC (lget (entCs (entAt S0.tab 0)) 0)) (toI (lget (entCs (entAt S0.tab 1)) 0)) (entNl (entAt S0.tab 2)) (lst intC (entN (entAt S0.tab 2)) (entC (entAt S0.tab 2))) (Cod.dec calls_cageC (lget (entCs (entAt S0.tab 4)))) q1 q7 q9 q10))
def calls_waits_v2_d6 {R : Type} (N : Nat) (S0 : St) (k : Exit → St → Option R) : Option R :=
  calls_waits_v2_l6 N N (lstC api_PressC (lget S0.tmps 1)) (toI (lget S0.tmps 10)) (toI (lget S0.tmps 11)) (lstC intC (lget (entCs (entAt S0.tab 0)) 0)) (toI (lget (entCs (entAt S0.tab 1)) 0)) (entNl (entAt S0.tab 2)) (lst intC (entN (entAt S0.tab 2)) (entC (entAt S0.tab 2))) (fmD intC (entFh (entAt S0.tab 3)) (entFl (entAt S0.tab 3)) (entFg (entAt S0.tab 3))) (Cod.dec calls_cageC (lget (entCs (entAt S0.tab 4)))) (fun q3 => k (.exit 0) (calls_waits_v2_x6_0 (lstC intC (lget (entCs (entAt S0.tab 0)) 0)) (toI (lget (entCs (entAt S0.tab 1)) 0)) (entNl (entAt S0.tab 2)) q3))
def calls_waits_v2_lp {R : Type} (N : Nat) : Lp R := fun body S k => bif (Go.Sx.keyOf body).getD 0 == 6 then (calls_waits_v2_L6.head.raw 2 S (fun S0 => calls_waits_v2_d6 N S0 k)) else bif (Go.Sx.keyOf body).getD 0 == 9 then (calls_waits_v2_L9.head.raw 2 S (fun S0 => calls_waits_v2_d9 N S0 k)) else Option.none
def calls_waits_v2_jn {R : Type} (N : Nat) : Jn R := fun b => bif isJ 15 37 b then some (fun S k => calls_waits_v2_L100000.head.raw 2 S (fun S0 => calls_waits_v2_d100000 N S0 k)) else Option.none
theorem calls_waits_v2_l6_eq {R : Type} (N : Nat) (k : Exit → St → Option R) (n : Nat) : ∀ (v0 : Arr api_Press) (v1 : Int) (v2 : Int) (v3 : Arr Int) (v4 : Int) (v5 : Bool) (v6 : Arr Int) (v7 : Fm Int) (v8 : calls_cage), loopM E.Θ (calls_longest_1_cal N) (calls_waits_v2_lp N) (calls_waits_v2_jn N) 2 calls_waits_v2_L6 (bodyAt E 51 6) n (calls_waits_v2_h6 v0 v1 v2 v3 v4 v5 v6 v7 v8) k = calls_waits_v2_l6 N n v0 v1 v2 v3 v4 v5 v6 v7 v8 (fun q3 => k (.exit 0) (calls_waits_v2_x6_0 v3 v4 v5 q3)) := by
  induction n with
  | zero => intro v0 v1 v2 v3 v4 v5 v6 v7 v8; rfl
  | succ n ih =>
    intro v0 v1 v2 v3 v4 v5 v6 v7 v8
    refine Eq.trans (b := calls_waits_v2_b6 N (fun v0 v1 v2 v3 v4 v5 v6 v7 v8 => loopM E.Θ (calls_longest_1_cal N) (calls_waits_v2_lp N) (calls_waits_v2_jn N) 2 calls_waits_v2_L6 (bodyAt E 51 6) n (calls_waits_v2_h6 v0 v1 v2 v3 v4 v5 v6 v7 v8) k) v0 v1 v2 v3 v4 v5 v6 v7 v8 (fun q3 => k (.exit 0) (calls_waits_v2_x6_0 v3 v4 v5 q3))) (by kernel_rfl) ?_
    have h : (fun (v0 : Arr api_Press) (v1 : Int) (v2 : Int) (v3 : Arr Int) (v4 : Int) (v5 : Bool) (v6 : Arr Int) (v7 : Fm Int) (v8 : calls_cage) => loopM E.Θ (calls_longest_1_cal N) (calls_waits_v2_lp N) (calls_waits_v2_jn N) 2 calls_waits_v2_L6 (bodyAt E 51 6) n (calls_waits_v2_h6 v0 v1 v2 v3 v4 v5 v6 v7 v8) k) = (fun (v0 : Arr api_Press) (v1 : Int) (v2 : Int) (v3 : Arr Int) (v4 : Int) (v5 : Bool) (v6 : Arr Int) (v7 : Fm Int) (v8 : calls_cage) => calls_waits_v2_l6 N n v0 v1 v2 v3 v4 v5 v6 v7 v8 (fun q3 => k (.exit 0) (calls_waits_v2_x6_0 v3 v4 v5 q3))) := funext fun v0 => funext fun v1 => funext fun v2 => funext fun v3 => funext fun v4 => funext fun v5 => funext fun v6 => funext fun v7 => funext fun v8 => ih v0 v1 v2 v3 v4 v5 v6 v7 v8
    rw [h]
    rfl
theorem calls_waits_v2_l9_eq {R : Type} (N : Nat) (k : Exit → St → Option R) (n : Nat) : ∀ (v0 : Arr api_Press) (v1 : Int) (v2 : Int) (v3 : Arr Int) (v4 : Int) (v5 : Bool) (v6 : Arr Int) (v7 : Fm Int) (v8 : calls_cage) (v9 : Bool) (v10 : Arr Int), loopM E.Θ (calls_longest_1_cal N) (calls_waits_v2_lp N) (calls_waits_v2_jn N) 2 calls_waits_v2_L9 (bodyAt E 51 9) n (calls_waits_v2_h9 v0 v1 v2 v3 v4 v5 v6 v7 v8 v9 v10) k = calls_waits_v2_l9 N n v0 v1 v2 v3 v4 v5 v6 v7 v8 v9 v10 (fun q1 q7 q9 q10 => k (.exit 2) (calls_waits_v2_x9_2 v0 v2 v3 v4 v5 v6 v8 q1 q7 q9 q10)) := by
  induction n with
  | zero => intro v0 v1 v2 v3 v4 v5 v6 v7 v8 v9 v10; rfl
  | succ n ih =>
    intro v0 v1 v2 v3 v4 v5 v6 v7 v8 v9 v10
    refine Eq.trans (b := calls_waits_v2_b9 N (fun v0 v1 v2 v3 v4 v5 v6 v7 v8 v9 v10 => loopM E.Θ (calls_longest_1_cal N) (calls_waits_v2_lp N) (calls_waits_v2_jn N) 2 calls_waits_v2_L9 (bodyAt E 51 9) n (calls_waits_v2_h9 v0 v1 v2 v3 v4 v5 v6 v7 v8 v9 v10) k) v0 v1 v2 v3 v4 v5 v6 v7 v8 v9 v10 (fun q1 q7 q9 q10 => k (.exit 2) (calls_waits_v2_x9_2 v0 v2 v3 v4 v5 v6 v8 q1 q7 q9 q10))) (by kernel_rfl) ?_
    have h : (fun (v0 : Arr api_Press) (v1 : Int) (v2 : Int) (v3 : Arr Int) (v4 : Int) (v5 : Bool) (v6 : Arr Int) (v7 : Fm Int) (v8 : calls_cage) (v9 : Bool) (v10 : Arr Int) => loopM E.Θ (calls_longest_1_cal N) (calls_waits_v2_lp N) (calls_waits_v2_jn N) 2 calls_waits_v2_L9 (bodyAt E 51 9) n (calls_waits_v2_h9 v0 v1 v2 v3 v4 v5 v6 v7 v8 v9 v10) k) = (fun (v0 : Arr api_Press) (v1 : Int) (v2 : Int) (v3 : Arr Int) (v4 : Int) (v5 : Bool) (v6 : Arr Int) (v7 : Fm Int) (v8 : calls_cage) (v9 : Bool) (v10 : Arr Int) => calls_waits_v2_l9 N n v0 v1 v2 v3 v4 v5 v6 v7 v8 v9 v10 (fun q1 q7 q9 q10 => k (.exit 2) (calls_waits_v2_x9_2 v0 v2 v3 v4 v5 v6 v8 q1 q7 q9 q10))) := funext fun v0 => funext fun v1 => funext fun v2 => funext fun v3 => funext fun v4 => funext fun v5 => funext fun v6 => funext fun v7 => funext fun v8 => funext fun v9 => funext fun v10 => ih v0 v1 v2 v3 v4 v5 v6 v7 v8 v9 v10
    rw [h]
    rfl
theorem calls_waits_v2_k16 {R : Type} (N : Nat) : LpKey (R := R) E 51 2 (calls_waits_v2_lp N) 16 := lpKey_none fun S k => by kernel_rfl
theorem calls_waits_v2_k20 {R : Type} (N : Nat) : LpKey (R := R) E 51 2 (calls_waits_v2_lp N) 20 := lpKey_none fun S k => by kernel_rfl
theorem calls_waits_v2_k9 {R : Type} (N : Nat) : LpKey (R := R) E 51 2 (calls_waits_v2_lp N) 9 :=
  lpKey_of hE (calls_longest_1_cal_ok N) (lp := calls_waits_v2_lp N) (jn := calls_waits_v2_jn N) calls_waits_v2_L9_ok [] kNil (by kernel_rfl) [] jNil (by kernel_rfl) N fun S k =>
    Eq.trans (b := calls_waits_v2_L9.head.raw 2 S (fun S0 => calls_waits_v2_d9 N S0 k)) (by kernel_rfl) (congrArg (calls_waits_v2_L9.head.raw 2 S) (funext fun S0 => Eq.trans (calls_waits_v2_l9_eq N k N (lstC api_PressC (lget S0.tmps 1)) (toI (lget S0.tmps 10)) (toI (lget S0.tmps 11)) (lstC intC (lget (entCs (entAt S0.tab 0)) 0)) (toI (lget (entCs (entAt S0.tab 1)) 0)) (entNl (entAt S0.tab 2)) (lst intC (entN (entAt S0.tab 2)) (entC (entAt S0.tab 2))) (fmD intC (entFh (entAt S0.tab 3)) (entFl (entAt S0.tab 3)) (entFg (entAt S0.tab 3))) (Cod.dec calls_cageC (lget (entCs (entAt S0.tab 4)))) (entNl (entAt S0.tab 5)) (lst intC (entN (entAt S0.tab 5)) (entC (entAt S0.tab 5)))).symm (by kernel_rfl)))
theorem calls_waits_v2_q0 {R : Type} (N : Nat) : JnKey (R := R) E 51 2 (calls_waits_v2_jn N) (15, 37) :=
  jnKey_hand calls_waits_v2_L100000_ok.head (fun S k => calls_waits_v2_L100000.head.raw 2 S (fun S0 => calls_waits_v2_d100000 N S0 k)) (by kernel_rfl) (fun S0 k => calls_waits_v2_d100000 N S0 k) (fun S k => rfl) fun S0 k r h =>
    waitsRound_ok2 (lstC api_PressC (lget S0.tmps 1)) (toI (lget S0.tmps 10)) (toI (lget S0.tmps 11)) (toI (lget S0.tmps 13)) (lstC intC (lget (entCs (entAt S0.tab 0)) 0)) (toI (lget (entCs (entAt S0.tab 1)) 0)) (entNl (entAt S0.tab 2)) (lst intC (entN (entAt S0.tab 2)) (entC (entAt S0.tab 2))) (fmD intC (entFh (entAt S0.tab 3)) (entFl (entAt S0.tab 3)) (entFg (entAt S0.tab 3))) (Cod.dec calls_cageC (lget (entCs (entAt S0.tab 4)))) h (Eq.trans (calls_waits_v2_j0_def N (lstC api_PressC (lget S0.tmps 1)) (toI (lget S0.tmps 10)) (toI (lget S0.tmps 11)) (toI (lget S0.tmps 13)) (lstC intC (lget (entCs (entAt S0.tab 0)) 0)) (toI (lget (entCs (entAt S0.tab 1)) 0)) (entNl (entAt S0.tab 2)) (lst intC (entN (entAt S0.tab 2)) (entC (entAt S0.tab 2))) (fmD intC (entFh (entAt S0.tab 3)) (entFl (entAt S0.tab 3)) (entFg (entAt S0.tab 3))) (Cod.dec calls_cageC (lget (entCs (entAt S0.tab 4)))) (fun q6 q7 => k .normal (calls_waits_v2_x100000_n (lstC api_PressC (lget S0.tmps 1)) (toI (lget S0.tmps 10)) (toI (lget S0.tmps 11)) (lstC intC (lget (entCs (entAt S0.tab 0)) 0)) (toI (lget (entCs (entAt S0.tab 1)) 0)) (entNl (entAt S0.tab 2)) (Cod.dec calls_cageC (lget (entCs (entAt S0.tab 4)))) q6 q7))) (by kernel_rfl)) (by kernel_rfl)
theorem calls_waits_v2_k6 {R : Type} (N : Nat) : LpKey (R := R) E 51 2 (calls_waits_v2_lp N) 6 :=
  lpKey_of hE (calls_longest_1_cal_ok N) (lp := calls_waits_v2_lp N) (jn := calls_waits_v2_jn N) calls_waits_v2_L6_ok [9, 16, 20] (kCons (calls_waits_v2_k9 N) (kCons (calls_waits_v2_k16 N) (kCons (calls_waits_v2_k20 N) kNil))) (by kernel_rfl) [(15, 37)] (jCons (calls_waits_v2_q0 N) jNil) (by kernel_rfl) N fun S k =>
    Eq.trans (b := calls_waits_v2_L6.head.raw 2 S (fun S0 => calls_waits_v2_d6 N S0 k)) (by kernel_rfl) (congrArg (calls_waits_v2_L6.head.raw 2 S) (funext fun S0 => Eq.trans (calls_waits_v2_l6_eq N k N (lstC api_PressC (lget S0.tmps 1)) (toI (lget S0.tmps 10)) (toI (lget S0.tmps 11)) (lstC intC (lget (entCs (entAt S0.tab 0)) 0)) (toI (lget (entCs (entAt S0.tab 1)) 0)) (entNl (entAt S0.tab 2)) (lst intC (entN (entAt S0.tab 2)) (entC (entAt S0.tab 2))) (fmD intC (entFh (entAt S0.tab 3)) (entFl (entAt S0.tab 3)) (entFg (entAt S0.tab 3))) (Cod.dec calls_cageC (lget (entCs (entAt S0.tab 4))))).symm (by kernel_rfl)))
noncomputable def calls_waits_v2_go {R : Type} (N : Nat) (args : List SV) (T : Tab) (kf : SV × Tab → Option R) : Option R :=
  calls_waits_v2 N (Cod.dec api_CarC (lget (toCs (lget args 0)))) (lstC api_PressC (lget args 1)) (lstC intC (lget (entCs (entAt T 0)) 0)) (toI (lget (entCs (entAt T 1)) 0)) (fun q2 q3 => kf (lget [.row 2] 0, [(0, .blk [slC intC (lstC intC (lget (entCs (entAt T 0)) 0))]), (1, .blk [.int .i64 (toI (lget (entCs (entAt T 1)) 0))]), (2, rowE intC q2 q3)]))
noncomputable def calls_waits_v2_cal {R : Type} (N : Nat) : Cal R := callM (calls_longest_1_cal N) 51 2 calls_waits_v2_sp (calls_waits_v2_go N)
theorem calls_waits_v2_cal_ok {R : Type} (N : Nat) : CalOk E.P (calls_waits_v2_cal (R := R) N) :=
  callM_ok hE (calls_longest_1_cal_ok N) (lp := calls_waits_v2_lp N) (jn := calls_waits_v2_jn N) (keys := [6, 9, 16, 20]) (kCons (calls_waits_v2_k6 N) (kCons (calls_waits_v2_k9 N) (kCons (calls_waits_v2_k16 N) (kCons (calls_waits_v2_k20 N) kNil)))) (by kernel_rfl) (js := [(15, 37)]) (jCons (calls_waits_v2_q0 N) jNil) (by kernel_rfl) calls_waits_v2_sp_ok calls_waits_v2_rs_ok (fun args T kf => Eq.trans (calls_waits_v2_def N (Cod.dec api_CarC (lget (toCs (lget args 0)))) (lstC api_PressC (lget args 1)) (lstC intC (lget (entCs (entAt T 0)) 0)) (toI (lget (entCs (entAt T 1)) 0)) (fun q2 q3 => kf (lget [.row 2] 0, [(0, .blk [slC intC (lstC intC (lget (entCs (entAt T 0)) 0))]), (1, .blk [.int .i64 (toI (lget (entCs (entAt T 1)) 0))]), (2, rowE intC q2 q3)]))) (by kernel_rfl : calls_waits_v2_run N args T kf = fnM E (calls_longest_1_cal N) (calls_waits_v2_lp N) (calls_waits_v2_jn N) 51 (calls_waits_v2_sp.vs args) (calls_waits_v2_sp.tab T) 2 (resK calls_waits_v2_rs kf)))
def slices_Max___int_int__L5 : LoopSp := ⟨⟨[0, 3, 4], ⟨((rSl intC) :: (dr 2 ((rInt .i64) :: (rInt .i64) :: (dr 20 [])))), []⟩, 0⟩, [(some 0, ⟨[3], ⟨(dr 3 ((rInt .i64) :: (dr 21 []))), []⟩, 0⟩)]⟩
theorem slices_Max___int_int__L5_ok : slices_Max___int_int__L5.Ok := ⟨⟨(allCons (rSl_ok intC_ok) (drCons 2 (allCons (rInt_ok .i64) (allCons (rInt_ok .i64) (drCons 20 allNil))))), eNil⟩, (xCons ⟨(drCons 3 (allCons (rInt_ok .i64) (drCons 21 allNil))), eNil⟩ xNil)⟩
def slices_Max___int_int__h5 (v600 : Arr Int) (v601 : Int) (v602 : Int) : St := ⟨((slC intC v600) :: (un 2 ((.int .i64 v601) :: (.int .i64 v602) :: (un 20 [])))), [], 0⟩
def slices_Max___int_int__x5_0 (q0 : Int) : St := ⟨(un 3 ((.int .i64 q0) :: (un 21 []))), [], 0⟩
def slices_Max___int_int__b5 {R : Type} (N : Nat) (rc : Arr Int → Int → Int → Option R) (v600 : Arr Int) (v601 : Int) (v602 : Int) (k0 : Int → Option R) : Option R :=
  bif decide (v602 < (↑(Arr.n v600) : Int)) then
   bif decide ((0 : Int) ≤ v602) && decide (v602 < (↑(Arr.n v600) : Int)) then
    rc v600 (mxI v601 (Arr.f v600 (Int.toNat v602))) (w64 (v602 + (1 : Int)))
   else
    Option.none
  else
   k0 v601
def slices_Max___int_int__l5 {R : Type} (N : Nat) : Nat → Arr Int → Int → Int → (Int → Option R) → Option R
  | 0, _, _, _, _ => Option.none
  | n + 1, v600, v601, v602, k0 => slices_Max___int_int__b5 N (fun v600 v601 v602 => slices_Max___int_int__l5 N n v600 v601 v602 k0) v600 v601 v602 k0
def slices_Max___int_int__L100000 : LoopSp := ⟨⟨[0], ⟨((rSl intC) :: (dr 24 [])), []⟩, 0⟩, [(Option.none, ⟨[2], ⟨(dr 2 ((rInt .i64) :: (dr 22 []))), []⟩, 0⟩)]⟩
theorem slices_Max___int_int__L100000_ok : slices_Max___int_int__L100000.Ok := ⟨⟨(allCons (rSl_ok intC_ok) (drCons 24 allNil)), eNil⟩, (xCons ⟨(drCons 2 (allCons (rInt_ok .i64) (drCons 22 allNil))), eNil⟩ xNil)⟩
def slices_Max___int_int__h100000 (v599 : Arr Int) : St := ⟨((slC intC v599) :: (un 24 [])), [], 0⟩
def slices_Max___int_int__x100000_r (q0 : Int) : St := ⟨(un 2 ((.int .i64 q0) :: (un 22 []))), [], 0⟩
def slices_Max___int_int__j0_m {R : Type} (N : Nat) (v599 : Arr Int) (kr : Int → Option R) : Option R :=
  bif decide ((0 : Int) < (↑(Arr.n v599) : Int)) then
   slices_Max___int_int__l5 N N v599 (Arr.f v599 (Int.toNat (0 : Int))) (1 : Int) (fun r603 =>
    kr r603)
  else
   Option.none
noncomputable def slices_Max___int_int__j0 {R : Type} : Nat → Arr Int → (Int → Option R) → Option R := lock (@slices_Max___int_int__j0_m R)
theorem slices_Max___int_int__j0_def {R : Type} (N : Nat) (v599 : Arr Int) (kr : Int → Option R) : slices_Max___int_int__j0 N v599 kr = slices_Max___int_int__j0_m N v599 kr := by unfold slices_Max___int_int__j0; rw [lock_eq]
def slices_Max___int_int__m {R : Type} (N : Nat) (a598 : Arr Int) (k : Int → Option R) : Option R :=
  bif decide ((↑(Arr.n a598) : Int) < (1 : Int)) then
   Option.none
  else
   slices_Max___int_int__j0 N a598 (fun r604 =>
    k r604)
noncomputable def slices_Max___int_int_ {R : Type} : Nat → Arr Int → (Int → Option R) → Option R := lock (@slices_Max___int_int__m R)
theorem slices_Max___int_int__def {R : Type} (N : Nat) (a598 : Arr Int) (k : Int → Option R) : slices_Max___int_int_ N a598 k = slices_Max___int_int__m N a598 k := by unfold slices_Max___int_int_; rw [lock_eq]
def slices_Max___int_int__sp : Sp := ⟨[rSl intC], []⟩
theorem slices_Max___int_int__sp_ok : slices_Max___int_int__sp.Ok := ⟨(allCons (rSl_ok intC_ok) allNil), eNil⟩
def slices_Max___int_int__rs : Sp := ⟨[rInt .i64], []⟩
theorem slices_Max___int_int__rs_ok : slices_Max___int_int__rs.Ok := ⟨(allCons (rInt_ok .i64) allNil), eNil⟩
def slices_Max___int_int__run {R : Type} (N : Nat) (args : List SV) (T : Tab) (kf : SV × Tab → Option R) : Option R :=
  slices_Max___int_int__m N (lstC intC (lget args 0)) (fun q0 => kf (lget [.int .i64 q0] 0, []))
def slices_Max___int_int__d100000 {R : Type} (N : Nat) (S0 : St) (k : Exit → St → Option R) : Option R :=
  slices_Max___int_int__j0 N (lstC intC (lget S0.tmps 0)) (fun q0 => k .ret (slices_Max___int_int__x100000_r q0))
def slices_Max___int_int__d5 {R : Type} (N : Nat) (S0 : St) (k : Exit → St → Option R) : Option R :=
  slices_Max___int_int__l5 N N (lstC intC (lget S0.tmps 0)) (toI (lget S0.tmps 3)) (toI (lget S0.tmps 4)) (fun q0 => k (.exit 0) (slices_Max___int_int__x5_0 q0))
def slices_Max___int_int__lp {R : Type} (N : Nat) : Lp R := fun body S k => bif (Go.Sx.keyOf body).getD 0 == 5 then (slices_Max___int_int__L5.head.raw 0 S (fun S0 => slices_Max___int_int__d5 N S0 k)) else Option.none
def slices_Max___int_int__jn {R : Type} (N : Nat) : Jn R := fun b => bif isJ 3 20 b then some (fun S k => slices_Max___int_int__L100000.head.raw 0 S (fun S0 => slices_Max___int_int__d100000 N S0 k)) else Option.none
theorem slices_Max___int_int__l5_eq {R : Type} (N : Nat) (k : Exit → St → Option R) (n : Nat) : ∀ (v0 : Arr Int) (v1 : Int) (v2 : Int), loopM E.Θ (calls_waits_v2_cal N) (slices_Max___int_int__lp N) (slices_Max___int_int__jn N) 0 slices_Max___int_int__L5 (bodyAt E 79 5) n (slices_Max___int_int__h5 v0 v1 v2) k = slices_Max___int_int__l5 N n v0 v1 v2 (fun q0 => k (.exit 0) (slices_Max___int_int__x5_0 q0)) := by
  induction n with
  | zero => intro v0 v1 v2; rfl
  | succ n ih =>
    intro v0 v1 v2
    refine Eq.trans (b := slices_Max___int_int__b5 N (fun v0 v1 v2 => loopM E.Θ (calls_waits_v2_cal N) (slices_Max___int_int__lp N) (slices_Max___int_int__jn N) 0 slices_Max___int_int__L5 (bodyAt E 79 5) n (slices_Max___int_int__h5 v0 v1 v2) k) v0 v1 v2 (fun q0 => k (.exit 0) (slices_Max___int_int__x5_0 q0))) (by kernel_rfl) ?_
    have h : (fun (v0 : Arr Int) (v1 : Int) (v2 : Int) => loopM E.Θ (calls_waits_v2_cal N) (slices_Max___int_int__lp N) (slices_Max___int_int__jn N) 0 slices_Max___int_int__L5 (bodyAt E 79 5) n (slices_Max___int_int__h5 v0 v1 v2) k) = (fun (v0 : Arr Int) (v1 : Int) (v2 : Int) => slices_Max___int_int__l5 N n v0 v1 v2 (fun q0 => k (.exit 0) (slices_Max___int_int__x5_0 q0))) := funext fun v0 => funext fun v1 => funext fun v2 => ih v0 v1 v2
    rw [h]
    rfl
theorem slices_Max___int_int__j0_eq {R : Type} (N : Nat) (k : Exit → St → Option R) : ∀ (v0 : Arr Int), joinM E.Θ (calls_waits_v2_cal N) (slices_Max___int_int__lp N) (slices_Max___int_int__jn N) 0 slices_Max___int_int__L100000 (joinAt E 79 (3, 20)) (slices_Max___int_int__h100000 v0) k = slices_Max___int_int__j0 N v0 (fun q0 => k .ret (slices_Max___int_int__x100000_r q0)) := by
  intro v0; exact Eq.trans (b := slices_Max___int_int__j0_m N v0 (fun q0 => k .ret (slices_Max___int_int__x100000_r q0))) (by kernel_rfl) (slices_Max___int_int__j0_def N v0 (fun q0 => k .ret (slices_Max___int_int__x100000_r q0))).symm
theorem slices_Max___int_int__k5 {R : Type} (N : Nat) : LpKey (R := R) E 79 0 (slices_Max___int_int__lp N) 5 :=
  lpKey_of hE (calls_waits_v2_cal_ok N) (lp := slices_Max___int_int__lp N) (jn := slices_Max___int_int__jn N) slices_Max___int_int__L5_ok [] kNil (by kernel_rfl) [] jNil (by kernel_rfl) N fun S k =>
    Eq.trans (b := slices_Max___int_int__L5.head.raw 0 S (fun S0 => slices_Max___int_int__d5 N S0 k)) (by kernel_rfl) (congrArg (slices_Max___int_int__L5.head.raw 0 S) (funext fun S0 => Eq.trans (slices_Max___int_int__l5_eq N k N (lstC intC (lget S0.tmps 0)) (toI (lget S0.tmps 3)) (toI (lget S0.tmps 4))).symm (by kernel_rfl)))
theorem slices_Max___int_int__q0 {R : Type} (N : Nat) : JnKey (R := R) E 79 0 (slices_Max___int_int__jn N) (3, 20) :=
  jnKey_of hE (calls_waits_v2_cal_ok N) (lp := slices_Max___int_int__lp N) (jn := slices_Max___int_int__jn N) slices_Max___int_int__L100000_ok [5] (kCons (slices_Max___int_int__k5 N) kNil) (by kernel_rfl) [] jNil (by kernel_rfl) (fun S k => slices_Max___int_int__L100000.head.raw 0 S (fun S0 => slices_Max___int_int__d100000 N S0 k)) (by kernel_rfl) fun S k =>
    congrArg (slices_Max___int_int__L100000.head.raw 0 S) (funext fun S0 => Eq.trans (slices_Max___int_int__j0_eq N k (lstC intC (lget S0.tmps 0))).symm (by kernel_rfl))
noncomputable def slices_Max___int_int__go {R : Type} (N : Nat) (args : List SV) (T : Tab) (kf : SV × Tab → Option R) : Option R :=
  slices_Max___int_int_ N (lstC intC (lget args 0)) (fun q0 => kf (lget [.int .i64 q0] 0, []))
noncomputable def slices_Max___int_int__cal {R : Type} (N : Nat) : Cal R := callM (calls_waits_v2_cal N) 79 0 slices_Max___int_int__sp (slices_Max___int_int__go N)
theorem slices_Max___int_int__cal_ok {R : Type} (N : Nat) : CalOk E.P (slices_Max___int_int__cal (R := R) N) :=
  callM_ok hE (calls_waits_v2_cal_ok N) (lp := slices_Max___int_int__lp N) (jn := slices_Max___int_int__jn N) (keys := [5]) (kCons (slices_Max___int_int__k5 N) kNil) (by kernel_rfl) (js := [(3, 20)]) (jCons (slices_Max___int_int__q0 N) jNil) (by kernel_rfl) slices_Max___int_int__sp_ok slices_Max___int_int__rs_ok (fun args T kf => Eq.trans (slices_Max___int_int__def N (lstC intC (lget args 0)) (fun q0 => kf (lget [.int .i64 q0] 0, []))) (by kernel_rfl : slices_Max___int_int__run N args T kf = fnM E (calls_waits_v2_cal N) (slices_Max___int_int__lp N) (slices_Max___int_int__jn N) 79 (slices_Max___int_int__sp.vs args) (slices_Max___int_int__sp.tab T) 0 (resK slices_Max___int_int__rs kf)))
def calls_longest_L3 : LoopSp := ⟨⟨[1, 5, 7, 10, 11, 12], ⟨(dr 1 ((rSl api_PressC) :: (dr 3 ((rPtr 0 0) :: (dr 1 ((rInt .i64) :: (dr 2 ((rSl api_CarC) :: (rInt .i64) :: (rInt .i64) :: (dr 15 []))))))))), [(0, eBlk [rSl intC])]⟩, 1⟩, [(some 0, ⟨[7], ⟨(dr 7 ((rInt .i64) :: (dr 20 []))), []⟩, 0⟩)]⟩
theorem calls_longest_L3_ok : calls_longest_L3.Ok := ⟨⟨(drCons 1 (allCons (rSl_ok api_PressC_ok) (drCons 3 (allCons (rPtr_ok 0 0) (drCons 1 (allCons (rInt_ok .i64) (drCons 2 (allCons (rSl_ok api_CarC_ok) (allCons (rInt_ok .i64) (allCons (rInt_ok .i64) (drCons 15 allNil))))))))))), (eCons (eBlk_ok (allCons (rSl_ok intC_ok) allNil)) eNil)⟩, (xCons ⟨(drCons 7 (allCons (rInt_ok .i64) (drCons 20 allNil))), eNil⟩ xNil)⟩
def calls_longest_h3 (v534 : Arr api_Press) (v535 : Int) (v536 : Arr api_Car) (v537 : Int) (v538 : Int) (v539 : Arr Int) : St := ⟨(un 1 ((slC api_PressC v534) :: (un 3 ((.ptr 0 0) :: (un 1 ((.int .i64 v535) :: (un 2 ((slC api_CarC v536) :: (.int .i64 v537) :: (.int .i64 v538) :: (un 15 []))))))))), [(0, .blk [slC intC v539])], 1⟩
def calls_longest_x3_0 (q0 : Int) : St := ⟨(un 7 ((.int .i64 q0) :: (un 20 []))), [], 0⟩
def calls_longest_b3 {R : Type} (N : Nat) (rc : Arr api_Press → Int → Arr api_Car → Int → Int → Arr Int → Option R) (v534 : Arr api_Press) (v535 : Int) (v536 : Arr api_Car) (v537 : Int) (v538 : Int) (v539 : Arr Int) (k0 : Int → Option R) : Option R :=
  bif decide (v538 < v537) then
   bif decide ((0 : Int) ≤ v538) && decide (v538 < (↑(Arr.n v536) : Int)) then
    calls_waits_v2 N (Arr.f v536 (Int.toNat v538)) v534 v539 v538 (fun r596 r597 =>
    bif room (Arr.n r597 + (1 : Nat)) then
     slices_Max___int_int_ N (lst intC (Arr.n r597 + (1 : Nat)) (catC (Arr.n r597) (Cod.cell intC (Arr.f r597)) (litC [SV.int IntKind.i64 (0 : Int)] [[SV.int IntKind.i64 (0 : Int)]]))) (fun r605 =>
     rc v534 (mxI v535 r605) v536 v537 (w64 (v538 + (1 : Int))) v539)
    else
     Option.none)
   else
    Option.none
  else
   k0 v535
def calls_longest_l3 {R : Type} (N : Nat) : Nat → Arr api_Press → Int → Arr api_Car → Int → Int → Arr Int → (Int → Option R) → Option R
  | 0, _, _, _, _, _, _, _ => Option.none
  | n + 1, v534, v535, v536, v537, v538, v539, k0 => calls_longest_b3 N (fun v534 v535 v536 v537 v538 v539 => calls_longest_l3 N n v534 v535 v536 v537 v538 v539 k0) v534 v535 v536 v537 v538 v539 k0
def calls_longest_m {R : Type} (N : Nat) (a531 : Arr api_Car) (a532 : Arr api_Press) (a533 : Arr Int) (k : Int → Option R) : Option R :=
  calls_longest_l3 N N a532 (0 : Int) a531 ((↑(Arr.n a531) : Int)) (0 : Int) a533 (fun r606 =>
   k r606)
noncomputable def calls_longest {R : Type} : Nat → Arr api_Car → Arr api_Press → Arr Int → (Int → Option R) → Option R := lock (@calls_longest_m R)
theorem calls_longest_def {R : Type} (N : Nat) (a531 : Arr api_Car) (a532 : Arr api_Press) (a533 : Arr Int) (k : Int → Option R) : calls_longest N a531 a532 a533 k = calls_longest_m N a531 a532 a533 k := by unfold calls_longest; rw [lock_eq]
def calls_longest_sp : Sp := ⟨[rSl api_CarC, rSl api_PressC, rSl intC], []⟩
theorem calls_longest_sp_ok : calls_longest_sp.Ok := ⟨(allCons (rSl_ok api_CarC_ok) (allCons (rSl_ok api_PressC_ok) (allCons (rSl_ok intC_ok) allNil))), eNil⟩
def calls_longest_rs : Sp := ⟨[rInt .i64], []⟩
theorem calls_longest_rs_ok : calls_longest_rs.Ok := ⟨(allCons (rInt_ok .i64) allNil), eNil⟩
def calls_longest_run {R : Type} (N : Nat) (args : List SV) (T : Tab) (kf : SV × Tab → Option R) : Option R :=
  calls_longest_m N (lstC api_CarC (lget args 0)) (lstC api_PressC (lget args 1)) (lstC intC (lget args 2)) (fun q0 => kf (lget [.int .i64 q0] 0, []))
def calls_longest_d3 {R : Type} (N : Nat) (S0 : St) (k : Exit → St → Option R) : Option R :=
  calls_longest_l3 N N (lstC api_PressC (lget S0.tmps 1)) (toI (lget S0.tmps 7)) (lstC api_CarC (lget S0.tmps 10)) (toI (lget S0.tmps 11)) (toI (lget S0.tmps 12)) (lstC intC (lget (entCs (entAt S0.tab 0)) 0)) (fun q0 => k (.exit 0) (calls_longest_x3_0 q0))
def calls_longest_lp {R : Type} (N : Nat) : Lp R := fun body S k => bif (Go.Sx.keyOf body).getD 0 == 3 then (calls_longest_L3.head.raw 0 S (fun S0 => calls_longest_d3 N S0 k)) else Option.none
theorem calls_longest_l3_eq {R : Type} (N : Nat) (k : Exit → St → Option R) (n : Nat) : ∀ (v0 : Arr api_Press) (v1 : Int) (v2 : Arr api_Car) (v3 : Int) (v4 : Int) (v5 : Arr Int), loopM E.Θ (slices_Max___int_int__cal N) (calls_longest_lp N) (noJn) 0 calls_longest_L3 (bodyAt E 66 3) n (calls_longest_h3 v0 v1 v2 v3 v4 v5) k = calls_longest_l3 N n v0 v1 v2 v3 v4 v5 (fun q0 => k (.exit 0) (calls_longest_x3_0 q0)) := by
  induction n with
  | zero => intro v0 v1 v2 v3 v4 v5; rfl
  | succ n ih =>
    intro v0 v1 v2 v3 v4 v5
    refine Eq.trans (b := calls_longest_b3 N (fun v0 v1 v2 v3 v4 v5 => loopM E.Θ (slices_Max___int_int__cal N) (calls_longest_lp N) (noJn) 0 calls_longest_L3 (bodyAt E 66 3) n (calls_longest_h3 v0 v1 v2 v3 v4 v5) k) v0 v1 v2 v3 v4 v5 (fun q0 => k (.exit 0) (calls_longest_x3_0 q0))) (by kernel_rfl) ?_
    have h : (fun (v0 : Arr api_Press) (v1 : Int) (v2 : Arr api_Car) (v3 : Int) (v4 : Int) (v5 : Arr Int) => loopM E.Θ (slices_Max___int_int__cal N) (calls_longest_lp N) (noJn) 0 calls_longest_L3 (bodyAt E 66 3) n (calls_longest_h3 v0 v1 v2 v3 v4 v5) k) = (fun (v0 : Arr api_Press) (v1 : Int) (v2 : Arr api_Car) (v3 : Int) (v4 : Int) (v5 : Arr Int) => calls_longest_l3 N n v0 v1 v2 v3 v4 v5 (fun q0 => k (.exit 0) (calls_longest_x3_0 q0))) := funext fun v0 => funext fun v1 => funext fun v2 => funext fun v3 => funext fun v4 => funext fun v5 => ih v0 v1 v2 v3 v4 v5
    rw [h]
    rfl
theorem calls_longest_k3 {R : Type} (N : Nat) : LpKey (R := R) E 66 0 (calls_longest_lp N) 3 :=
  lpKey_of hE (slices_Max___int_int__cal_ok N) (lp := calls_longest_lp N) (jn := noJn) calls_longest_L3_ok [] kNil (by kernel_rfl) [] jNil (by kernel_rfl) N fun S k =>
    Eq.trans (b := calls_longest_L3.head.raw 0 S (fun S0 => calls_longest_d3 N S0 k)) (by kernel_rfl) (congrArg (calls_longest_L3.head.raw 0 S) (funext fun S0 => Eq.trans (calls_longest_l3_eq N k N (lstC api_PressC (lget S0.tmps 1)) (toI (lget S0.tmps 7)) (lstC api_CarC (lget S0.tmps 10)) (toI (lget S0.tmps 11)) (toI (lget S0.tmps 12)) (lstC intC (lget (entCs (entAt S0.tab 0)) 0))).symm (by kernel_rfl)))
noncomputable def calls_longest_go {R : Type} (N : Nat) (args : List SV) (T : Tab) (kf : SV × Tab → Option R) : Option R :=
  calls_longest N (lstC api_CarC (lget args 0)) (lstC api_PressC (lget args 1)) (lstC intC (lget args 2)) (fun q0 => kf (lget [.int .i64 q0] 0, []))
noncomputable def calls_longest_cal {R : Type} (N : Nat) : Cal R := callM (slices_Max___int_int__cal N) 66 0 calls_longest_sp (calls_longest_go N)
theorem calls_longest_cal_ok {R : Type} (N : Nat) : CalOk E.P (calls_longest_cal (R := R) N) :=
  callM_ok hE (slices_Max___int_int__cal_ok N) (lp := calls_longest_lp N) (jn := noJn) (keys := [3]) (kCons (calls_longest_k3 N) kNil) (by kernel_rfl) (js := []) jNil (by kernel_rfl) calls_longest_sp_ok calls_longest_rs_ok (fun args T kf => Eq.trans (calls_longest_def N (lstC api_CarC (lget args 0)) (lstC api_PressC (lget args 1)) (lstC intC (lget args 2)) (fun q0 => kf (lget [.int .i64 q0] 0, []))) (by kernel_rfl : calls_longest_run N args T kf = fnM E (slices_Max___int_int__cal N) (calls_longest_lp N) (noJn) 66 (calls_longest_sp.vs args) (calls_longest_sp.tab T) 0 (resK calls_longest_rs kf)))
def calls_Longest_L7 : LoopSp := ⟨⟨[0, 1, 2, 22, 23, 24], ⟨((rSl api_CarC) :: (rSl api_PressC) :: (rSl intC) :: (dr 19 ((rSl api_PressC) :: (rInt .i64) :: (rInt .i64) :: (dr 17 [])))), []⟩, 0⟩, [(Option.none, ⟨[6, 7], ⟨(dr 6 ((rInt .i64) :: (rInt .i64) :: (dr 34 []))), []⟩, 0⟩), (some 0, ⟨[0, 1, 2], ⟨((rSl api_CarC) :: (rSl api_PressC) :: (rSl intC) :: (dr 39 [])), []⟩, 0⟩)]⟩
theorem calls_Longest_L7_ok : calls_Longest_L7.Ok := ⟨⟨(allCons (rSl_ok api_CarC_ok) (allCons (rSl_ok api_PressC_ok) (allCons (rSl_ok intC_ok) (drCons 19 (allCons (rSl_ok api_PressC_ok) (allCons (rInt_ok .i64) (allCons (rInt_ok .i64) (drCons 17 allNil)))))))), eNil⟩, (xCons ⟨(drCons 6 (allCons (rInt_ok .i64) (allCons (rInt_ok .i64) (drCons 34 allNil)))), eNil⟩ (xCons ⟨(allCons (rSl_ok api_CarC_ok) (allCons (rSl_ok api_PressC_ok) (allCons (rSl_ok intC_ok) (drCons 39 allNil)))), eNil⟩ xNil))⟩
def calls_Longest_h7 (v517 : Arr api_Car) (v518 : Arr api_Press) (v519 : Arr Int) (v520 : Arr api_Press) (v521 : Int) (v522 : Int) : St := ⟨((slC api_CarC v517) :: (slC api_PressC v518) :: (slC intC v519) :: (un 19 ((slC api_PressC v520) :: (.int .i64 v521) :: (.int .i64 v522) :: (un 17 [])))), [], 0⟩
def calls_Longest_x7_r (q0 : Int) (q1 : Int) : St := ⟨(un 6 ((.int .i64 q0) :: (.int .i64 q1) :: (un 34 []))), [], 0⟩
def calls_Longest_x7_0 (v517 : Arr api_Car) (v518 : Arr api_Press) (v519 : Arr Int) : St := ⟨((slC api_CarC v517) :: (slC api_PressC v518) :: (slC intC v519) :: (un 39 [])), [], 0⟩
def calls_Longest_b7 {R : Type} (N : Nat) (rc : Arr api_Car → Arr api_Press → Arr Int → Arr api_Press → Int → Int → Option R) (v517 : Arr api_Car) (v518 : Arr api_Press) (v519 : Arr Int) (v520 : Arr api_Press) (v521 : Int) (v522 : Int) (kr : Int → Int → Option R) (k0 : Unit → Option R) : Option R :=
  bif decide (v522 < v521) then
   bif decide ((0 : Int) ≤ v522) && decide (v522 < (↑(Arr.n v520) : Int)) then
    bif decide ((0 : Int) ≤ v522) && decide (v522 < (↑(Arr.n v519) : Int)) then
     calls_given N v517 (Arr.f v520 (Int.toNat v522)) (Arr.f v519 (Int.toNat v522)) (fun r528 =>
     bif !r528 then
      kr (0 : Int) (1 : Int)
     else
      rc v517 v518 v519 v520 v521 (w64 (v522 + (1 : Int))))
    else
     Option.none
   else
    Option.none
  else
   k0 ()
def calls_Longest_l7 {R : Type} (N : Nat) : Nat → Arr api_Car → Arr api_Press → Arr Int → Arr api_Press → Int → Int → (Int → Int → Option R) → (Unit → Option R) → Option R
  | 0, _, _, _, _, _, _, _, _ => Option.none
  | n + 1, v517, v518, v519, v520, v521, v522, kr, k0 => calls_Longest_b7 N (fun v517 v518 v519 v520 v521 v522 => calls_Longest_l7 N n v517 v518 v519 v520 v521 v522 kr k0) v517 v518 v519 v520 v521 v522 kr k0
def calls_Longest_m {R : Type} (N : Nat) (a478 : Arr api_Car) (a479 : Arr api_Press) (a480 : Arr Int) (k : Int → Int → Option R) : Option R :=
  calls_group N a478 a479 (fun r516 =>
  bif r516 != (0 : Int) then
   k (0 : Int) r516
  else
   bif (↑(Arr.n a480) : Int) != (↑(Arr.n a479) : Int) then
    k (0 : Int) (1 : Int)
   else
    calls_Longest_l7 N N a478 a479 a480 a479 ((↑(Arr.n a479) : Int)) (0 : Int) (fun r529 r530 =>
     k r529 r530) (fun (_ : Unit) =>
     calls_longest N a478 a479 a480 (fun r607 =>
     k r607 (0 : Int))))
noncomputable def calls_Longest {R : Type} : Nat → Arr api_Car → Arr api_Press → Arr Int → (Int → Int → Option R) → Option R := lock (@calls_Longest_m R)
theorem calls_Longest_def {R : Type} (N : Nat) (a478 : Arr api_Car) (a479 : Arr api_Press) (a480 : Arr Int) (k : Int → Int → Option R) : calls_Longest N a478 a479 a480 k = calls_Longest_m N a478 a479 a480 k := by unfold calls_Longest; rw [lock_eq]
def calls_Longest_sp : Sp := ⟨[rSl api_CarC, rSl api_PressC, rSl intC], []⟩
theorem calls_Longest_sp_ok : calls_Longest_sp.Ok := ⟨(allCons (rSl_ok api_CarC_ok) (allCons (rSl_ok api_PressC_ok) (allCons (rSl_ok intC_ok) allNil))), eNil⟩
def calls_Longest_rs : Sp := ⟨[rTup [rInt .i64, rInt .i64]], []⟩
theorem calls_Longest_rs_ok : calls_Longest_rs.Ok := ⟨(allCons (rTup_ok (allCons (rInt_ok .i64) (allCons (rInt_ok .i64) allNil))) allNil), eNil⟩
def calls_Longest_run {R : Type} (N : Nat) (args : List SV) (T : Tab) (kf : SV × Tab → Option R) : Option R :=
  calls_Longest_m N (lstC api_CarC (lget args 0)) (lstC api_PressC (lget args 1)) (lstC intC (lget args 2)) (fun q0 q1 => kf (lget [.tup [.int .i64 q0, .int .i64 q1]] 0, []))
def calls_Longest_d7 {R : Type} (N : Nat) (S0 : St) (k : Exit → St → Option R) : Option R :=
  calls_Longest_l7 N N (lstC api_CarC (lget S0.tmps 0)) (lstC api_PressC (lget S0.tmps 1)) (lstC intC (lget S0.tmps 2)) (lstC api_PressC (lget S0.tmps 22)) (toI (lget S0.tmps 23)) (toI (lget S0.tmps 24)) (fun q0 q1 => k .ret (calls_Longest_x7_r q0 q1)) (fun (_ : Unit) => k (.exit 0) (calls_Longest_x7_0 (lstC api_CarC (lget S0.tmps 0)) (lstC api_PressC (lget S0.tmps 1)) (lstC intC (lget S0.tmps 2))))
def calls_Longest_lp {R : Type} (N : Nat) : Lp R := fun body S k => bif (Go.Sx.keyOf body).getD 0 == 7 then (calls_Longest_L7.head.raw 0 S (fun S0 => calls_Longest_d7 N S0 k)) else Option.none
theorem calls_Longest_l7_eq {R : Type} (N : Nat) (k : Exit → St → Option R) (n : Nat) : ∀ (v0 : Arr api_Car) (v1 : Arr api_Press) (v2 : Arr Int) (v3 : Arr api_Press) (v4 : Int) (v5 : Int), loopM E.Θ (calls_longest_cal N) (calls_Longest_lp N) (noJn) 0 calls_Longest_L7 (bodyAt E 33 7) n (calls_Longest_h7 v0 v1 v2 v3 v4 v5) k = calls_Longest_l7 N n v0 v1 v2 v3 v4 v5 (fun q0 q1 => k .ret (calls_Longest_x7_r q0 q1)) (fun (_ : Unit) => k (.exit 0) (calls_Longest_x7_0 v0 v1 v2)) := by
  induction n with
  | zero => intro v0 v1 v2 v3 v4 v5; rfl
  | succ n ih =>
    intro v0 v1 v2 v3 v4 v5
    refine Eq.trans (b := calls_Longest_b7 N (fun v0 v1 v2 v3 v4 v5 => loopM E.Θ (calls_longest_cal N) (calls_Longest_lp N) (noJn) 0 calls_Longest_L7 (bodyAt E 33 7) n (calls_Longest_h7 v0 v1 v2 v3 v4 v5) k) v0 v1 v2 v3 v4 v5 (fun q0 q1 => k .ret (calls_Longest_x7_r q0 q1)) (fun (_ : Unit) => k (.exit 0) (calls_Longest_x7_0 v0 v1 v2))) (by kernel_rfl) ?_
    have h : (fun (v0 : Arr api_Car) (v1 : Arr api_Press) (v2 : Arr Int) (v3 : Arr api_Press) (v4 : Int) (v5 : Int) => loopM E.Θ (calls_longest_cal N) (calls_Longest_lp N) (noJn) 0 calls_Longest_L7 (bodyAt E 33 7) n (calls_Longest_h7 v0 v1 v2 v3 v4 v5) k) = (fun (v0 : Arr api_Car) (v1 : Arr api_Press) (v2 : Arr Int) (v3 : Arr api_Press) (v4 : Int) (v5 : Int) => calls_Longest_l7 N n v0 v1 v2 v3 v4 v5 (fun q0 q1 => k .ret (calls_Longest_x7_r q0 q1)) (fun (_ : Unit) => k (.exit 0) (calls_Longest_x7_0 v0 v1 v2))) := funext fun v0 => funext fun v1 => funext fun v2 => funext fun v3 => funext fun v4 => funext fun v5 => ih v0 v1 v2 v3 v4 v5
    rw [h]
    rfl
theorem calls_Longest_k7 {R : Type} (N : Nat) : LpKey (R := R) E 33 0 (calls_Longest_lp N) 7 :=
  lpKey_of hE (calls_longest_cal_ok N) (lp := calls_Longest_lp N) (jn := noJn) calls_Longest_L7_ok [] kNil (by kernel_rfl) [] jNil (by kernel_rfl) N fun S k =>
    Eq.trans (b := calls_Longest_L7.head.raw 0 S (fun S0 => calls_Longest_d7 N S0 k)) (by kernel_rfl) (congrArg (calls_Longest_L7.head.raw 0 S) (funext fun S0 => Eq.trans (calls_Longest_l7_eq N k N (lstC api_CarC (lget S0.tmps 0)) (lstC api_PressC (lget S0.tmps 1)) (lstC intC (lget S0.tmps 2)) (lstC api_PressC (lget S0.tmps 22)) (toI (lget S0.tmps 23)) (toI (lget S0.tmps 24))).symm (by kernel_rfl)))
noncomputable def calls_Longest_go {R : Type} (N : Nat) (args : List SV) (T : Tab) (kf : SV × Tab → Option R) : Option R :=
  calls_Longest N (lstC api_CarC (lget args 0)) (lstC api_PressC (lget args 1)) (lstC intC (lget args 2)) (fun q0 q1 => kf (lget [.tup [.int .i64 q0, .int .i64 q1]] 0, []))
noncomputable def calls_Longest_cal {R : Type} (N : Nat) : Cal R := callM (calls_longest_cal N) 33 0 calls_Longest_sp (calls_Longest_go N)
theorem calls_Longest_cal_ok {R : Type} (N : Nat) : CalOk E.P (calls_Longest_cal (R := R) N) :=
  callM_ok hE (calls_longest_cal_ok N) (lp := calls_Longest_lp N) (jn := noJn) (keys := [7]) (kCons (calls_Longest_k7 N) kNil) (by kernel_rfl) (js := []) jNil (by kernel_rfl) calls_Longest_sp_ok calls_Longest_rs_ok (fun args T kf => Eq.trans (calls_Longest_def N (lstC api_CarC (lget args 0)) (lstC api_PressC (lget args 1)) (lstC intC (lget args 2)) (fun q0 q1 => kf (lget [.tup [.int .i64 q0, .int .i64 q1]] 0, []))) (by kernel_rfl : calls_Longest_run N args T kf = fnM E (calls_longest_cal N) (calls_Longest_lp N) (noJn) 33 (calls_Longest_sp.vs args) (calls_Longest_sp.tab T) 0 (resK calls_Longest_rs kf)))
def newelref07_CheckGroup_L4 : LoopSp := ⟨⟨[0, 1, 5], ⟨((rSl api_CarC) :: (rSl api_PressC) :: (dr 3 ((rInt .i64) :: (dr 55 [])))), []⟩, 0⟩, [(Option.none, ⟨[4], ⟨(dr 4 ((rInt .i64) :: (dr 56 []))), []⟩, 0⟩), (some 0, ⟨[0, 1], ⟨((rSl api_CarC) :: (rSl api_PressC) :: (dr 59 [])), []⟩, 0⟩)]⟩
theorem newelref07_CheckGroup_L4_ok : newelref07_CheckGroup_L4.Ok := ⟨⟨(allCons (rSl_ok api_CarC_ok) (allCons (rSl_ok api_PressC_ok) (drCons 3 (allCons (rInt_ok .i64) (drCons 55 allNil))))), eNil⟩, (xCons ⟨(drCons 4 (allCons (rInt_ok .i64) (drCons 56 allNil))), eNil⟩ (xCons ⟨(allCons (rSl_ok api_CarC_ok) (allCons (rSl_ok api_PressC_ok) (drCons 59 allNil))), eNil⟩ xNil))⟩
def newelref07_CheckGroup_h4 (v614 : Arr api_Car) (v615 : Arr api_Press) (v616 : Int) : St := ⟨((slC api_CarC v614) :: (slC api_PressC v615) :: (un 3 ((.int .i64 v616) :: (un 55 [])))), [], 0⟩
def newelref07_CheckGroup_x4_r (q0 : Int) : St := ⟨(un 4 ((.int .i64 q0) :: (un 56 []))), [], 0⟩
def newelref07_CheckGroup_x4_0 (v614 : Arr api_Car) (v615 : Arr api_Press) : St := ⟨((slC api_CarC v614) :: (slC api_PressC v615) :: (un 59 [])), [], 0⟩
def newelref07_CheckGroup_b4 {R : Type} (N : Nat) (rc : Arr api_Car → Arr api_Press → Int → Option R) (v614 : Arr api_Car) (v615 : Arr api_Press) (v616 : Int) (kr : Int → Option R) (k0 : Unit → Option R) : Option R :=
  bif decide (v616 < (↑(Arr.n v614) : Int)) then
   bif decide ((0 : Int) ≤ v616) && decide (v616 < (↑(Arr.n v614) : Int)) then
    newelref07_CheckCar N (Arr.f v614 (Int.toNat v616)) (fun r617 =>
    bif r617 != (0 : Int) then
     kr (70 : Int)
    else
     rc v614 v615 (w64 (v616 + (1 : Int))))
   else
    Option.none
  else
   k0 ()
def newelref07_CheckGroup_l4 {R : Type} (N : Nat) : Nat → Arr api_Car → Arr api_Press → Int → (Int → Option R) → (Unit → Option R) → Option R
  | 0, _, _, _, _, _ => Option.none
  | n + 1, v614, v615, v616, kr, k0 => newelref07_CheckGroup_b4 N (fun v614 v615 v616 => newelref07_CheckGroup_l4 N n v614 v615 v616 kr k0) v614 v615 v616 kr k0
def newelref07_CheckGroup_L15 : LoopSp := ⟨⟨[0, 1, 6, 7, 8], ⟨((rSl api_CarC) :: (rSl api_PressC) :: (dr 4 ((rInt .i64) :: (rBool) :: (rInt .i64) :: (dr 52 [])))), []⟩, 0⟩, [(some 4, ⟨[0, 1, 6, 7], ⟨((rSl api_CarC) :: (rSl api_PressC) :: (dr 4 ((rInt .i64) :: (rBool) :: (dr 53 [])))), []⟩, 0⟩)]⟩
theorem newelref07_CheckGroup_L15_ok : newelref07_CheckGroup_L15.Ok := ⟨⟨(allCons (rSl_ok api_CarC_ok) (allCons (rSl_ok api_PressC_ok) (drCons 4 (allCons (rInt_ok .i64) (allCons rBool_ok (allCons (rInt_ok .i64) (drCons 52 allNil))))))), eNil⟩, (xCons ⟨(allCons (rSl_ok api_CarC_ok) (allCons (rSl_ok api_PressC_ok) (drCons 4 (allCons (rInt_ok .i64) (allCons rBool_ok (drCons 53 allNil)))))), eNil⟩ xNil)⟩
def newelref07_CheckGroup_h15 (v623 : Arr api_Car) (v624 : Arr api_Press) (v625 : Int) (v626 : Bool) (v627 : Int) : St := ⟨((slC api_CarC v623) :: (slC api_PressC v624) :: (un 4 ((.int .i64 v625) :: (.bool v626) :: (.int .i64 v627) :: (un 52 [])))), [], 0⟩
def newelref07_CheckGroup_x15_4 (v623 : Arr api_Car) (v624 : Arr api_Press) (v625 : Int) (q3 : Bool) : St := ⟨((slC api_CarC v623) :: (slC api_PressC v624) :: (un 4 ((.int .i64 v625) :: (.bool q3) :: (un 53 [])))), [], 0⟩
def newelref07_CheckGroup_b15 {R : Type} (N : Nat) (rc : Arr api_Car → Arr api_Press → Int → Bool → Int → Option R) (v623 : Arr api_Car) (v624 : Arr api_Press) (v625 : Int) (v626 : Bool) (v627 : Int) (k4 : Bool → Option R) : Option R :=
  bif decide (v627 < (↑(Arr.n v623) : Int)) then
   bif v626 then
    rc v623 v624 v625 true (w64 (v627 + (1 : Int)))
   else
    bif decide ((0 : Int) ≤ v625) && decide (v625 < (↑(Arr.n v624) : Int)) then
     bif decide ((0 : Int) ≤ v627) && decide (v627 < (↑(Arr.n v623) : Int)) then
      bif decide ((0 : Int) ≤ v627) && decide (v627 < (↑(Arr.n v623) : Int)) then
       newelref07_from N (api_Press.Floor (Arr.f v624 (Int.toNat v625))) (api_Car.Low (Arr.f v623 (Int.toNat v627))) (api_Car.High (Arr.f v623 (Int.toNat v627))) (fun r628 =>
       rc v623 v624 v625 r628 (w64 (v627 + (1 : Int))))
      else
       Option.none
     else
      Option.none
    else
     Option.none
  else
   k4 v626
def newelref07_CheckGroup_l15 {R : Type} (N : Nat) : Nat → Arr api_Car → Arr api_Press → Int → Bool → Int → (Bool → Option R) → Option R
  | 0, _, _, _, _, _, _ => Option.none
  | n + 1, v623, v624, v625, v626, v627, k4 => newelref07_CheckGroup_b15 N (fun v623 v624 v625 v626 v627 => newelref07_CheckGroup_l15 N n v623 v624 v625 v626 v627 k4) v623 v624 v625 v626 v627 k4
def newelref07_CheckGroup_L11 : LoopSp := ⟨⟨[0, 1, 6], ⟨((rSl api_CarC) :: (rSl api_PressC) :: (dr 4 ((rInt .i64) :: (dr 54 [])))), []⟩, 0⟩, [(Option.none, ⟨[4], ⟨(dr 4 ((rInt .i64) :: (dr 56 []))), []⟩, 0⟩), (some 2, ⟨[], ⟨(dr 61 []), []⟩, 0⟩)]⟩
theorem newelref07_CheckGroup_L11_ok : newelref07_CheckGroup_L11.Ok := ⟨⟨(allCons (rSl_ok api_CarC_ok) (allCons (rSl_ok api_PressC_ok) (drCons 4 (allCons (rInt_ok .i64) (drCons 54 allNil))))), eNil⟩, (xCons ⟨(drCons 4 (allCons (rInt_ok .i64) (drCons 56 allNil))), eNil⟩ (xCons ⟨(drCons 61 allNil), eNil⟩ xNil))⟩
def newelref07_CheckGroup_h11 (v620 : Arr api_Car) (v621 : Arr api_Press) (v622 : Int) : St := ⟨((slC api_CarC v620) :: (slC api_PressC v621) :: (un 4 ((.int .i64 v622) :: (un 54 [])))), [], 0⟩
def newelref07_CheckGroup_x11_r (q0 : Int) : St := ⟨(un 4 ((.int .i64 q0) :: (un 56 []))), [], 0⟩
def newelref07_CheckGroup_x11_2  : St := ⟨(un 61 []), [], 0⟩
def newelref07_CheckGroup_b11 {R : Type} (N : Nat) (rc : Arr api_Car → Arr api_Press → Int → Option R) (v620 : Arr api_Car) (v621 : Arr api_Press) (v622 : Int) (kr : Int → Option R) (k2 : Unit → Option R) : Option R :=
  bif decide (v622 < (↑(Arr.n v621) : Int)) then
   newelref07_CheckGroup_l15 N N v620 v621 v622 false (0 : Int) (fun r629 =>
    bif !r629 then
     kr (71 : Int)
    else
     rc v620 v621 (w64 (v622 + (1 : Int))))
  else
   k2 ()
def newelref07_CheckGroup_l11 {R : Type} (N : Nat) : Nat → Arr api_Car → Arr api_Press → Int → (Int → Option R) → (Unit → Option R) → Option R
  | 0, _, _, _, _, _ => Option.none
  | n + 1, v620, v621, v622, kr, k2 => newelref07_CheckGroup_b11 N (fun v620 v621 v622 => newelref07_CheckGroup_l11 N n v620 v621 v622 kr k2) v620 v621 v622 kr k2
def newelref07_CheckGroup_m {R : Type} (N : Nat) (a611 : Arr api_Car) (a612 : Arr api_Press) (k : Int → Option R) : Option R :=
  newelref07_from N ((↑(Arr.n a611) : Int)) (1 : Int) (3 : Int) (fun r613 =>
  bif !r613 then
   k (70 : Int)
  else
   newelref07_CheckGroup_l4 N N a611 a612 (0 : Int) (fun r618 =>
    k r618) (fun (_ : Unit) =>
    newelref07_isPresses N a612 (fun r619 =>
    bif !r619 then
     k (71 : Int)
    else
     newelref07_CheckGroup_l11 N N a611 a612 (0 : Int) (fun r630 =>
      k r630) (fun (_ : Unit) =>
      k (0 : Int)))))
noncomputable def newelref07_CheckGroup {R : Type} : Nat → Arr api_Car → Arr api_Press → (Int → Option R) → Option R := lock (@newelref07_CheckGroup_m R)
theorem newelref07_CheckGroup_def {R : Type} (N : Nat) (a611 : Arr api_Car) (a612 : Arr api_Press) (k : Int → Option R) : newelref07_CheckGroup N a611 a612 k = newelref07_CheckGroup_m N a611 a612 k := by unfold newelref07_CheckGroup; rw [lock_eq]
def newelref07_CheckGroup_sp : Sp := ⟨[rSl api_CarC, rSl api_PressC], []⟩
theorem newelref07_CheckGroup_sp_ok : newelref07_CheckGroup_sp.Ok := ⟨(allCons (rSl_ok api_CarC_ok) (allCons (rSl_ok api_PressC_ok) allNil)), eNil⟩
def newelref07_CheckGroup_rs : Sp := ⟨[rInt .i64], []⟩
theorem newelref07_CheckGroup_rs_ok : newelref07_CheckGroup_rs.Ok := ⟨(allCons (rInt_ok .i64) allNil), eNil⟩
def newelref07_CheckGroup_run {R : Type} (N : Nat) (args : List SV) (T : Tab) (kf : SV × Tab → Option R) : Option R :=
  newelref07_CheckGroup_m N (lstC api_CarC (lget args 0)) (lstC api_PressC (lget args 1)) (fun q0 => kf (lget [.int .i64 q0] 0, []))
def newelref07_CheckGroup_d15 {R : Type} (N : Nat) (S0 : St) (k : Exit → St → Option R) : Option R :=
  newelref07_CheckGroup_l15 N N (lstC api_CarC (lget S0.tmps 0)) (lstC api_PressC (lget S0.tmps 1)) (toI (lget S0.tmps 6)) (toB (lget S0.tmps 7)) (toI (lget S0.tmps 8)) (fun q3 => k (.exit 4) (newelref07_CheckGroup_x15_4 (lstC api_CarC (lget S0.tmps 0)) (lstC api_PressC (lget S0.tmps 1)) (toI (lget S0.tmps 6)) q3))
def newelref07_CheckGroup_d11 {R : Type} (N : Nat) (S0 : St) (k : Exit → St → Option R) : Option R :=
  newelref07_CheckGroup_l11 N N (lstC api_CarC (lget S0.tmps 0)) (lstC api_PressC (lget S0.tmps 1)) (toI (lget S0.tmps 6)) (fun q0 => k .ret (newelref07_CheckGroup_x11_r q0)) (fun (_ : Unit) => k (.exit 2) (newelref07_CheckGroup_x11_2 ))
def newelref07_CheckGroup_d4 {R : Type} (N : Nat) (S0 : St) (k : Exit → St → Option R) : Option R :=
  newelref07_CheckGroup_l4 N N (lstC api_CarC (lget S0.tmps 0)) (lstC api_PressC (lget S0.tmps 1)) (toI (lget S0.tmps 5)) (fun q0 => k .ret (newelref07_CheckGroup_x4_r q0)) (fun (_ : Unit) => k (.exit 0) (newelref07_CheckGroup_x4_0 (lstC api_CarC (lget S0.tmps 0)) (lstC api_PressC (lget S0.tmps 1))))
def newelref07_CheckGroup_lp {R : Type} (N : Nat) : Lp R := fun body S k => bif (Go.Sx.keyOf body).getD 0 == 4 then (newelref07_CheckGroup_L4.head.raw 0 S (fun S0 => newelref07_CheckGroup_d4 N S0 k)) else bif (Go.Sx.keyOf body).getD 0 == 11 then (newelref07_CheckGroup_L11.head.raw 0 S (fun S0 => newelref07_CheckGroup_d11 N S0 k)) else bif (Go.Sx.keyOf body).getD 0 == 15 then (newelref07_CheckGroup_L15.head.raw 0 S (fun S0 => newelref07_CheckGroup_d15 N S0 k)) else Option.none
theorem newelref07_CheckGroup_l4_eq {R : Type} (N : Nat) (k : Exit → St → Option R) (n : Nat) : ∀ (v0 : Arr api_Car) (v1 : Arr api_Press) (v2 : Int), loopM E.Θ (calls_Longest_cal N) (newelref07_CheckGroup_lp N) (noJn) 0 newelref07_CheckGroup_L4 (bodyAt E 37 4) n (newelref07_CheckGroup_h4 v0 v1 v2) k = newelref07_CheckGroup_l4 N n v0 v1 v2 (fun q0 => k .ret (newelref07_CheckGroup_x4_r q0)) (fun (_ : Unit) => k (.exit 0) (newelref07_CheckGroup_x4_0 v0 v1)) := by
  induction n with
  | zero => intro v0 v1 v2; rfl
  | succ n ih =>
    intro v0 v1 v2
    refine Eq.trans (b := newelref07_CheckGroup_b4 N (fun v0 v1 v2 => loopM E.Θ (calls_Longest_cal N) (newelref07_CheckGroup_lp N) (noJn) 0 newelref07_CheckGroup_L4 (bodyAt E 37 4) n (newelref07_CheckGroup_h4 v0 v1 v2) k) v0 v1 v2 (fun q0 => k .ret (newelref07_CheckGroup_x4_r q0)) (fun (_ : Unit) => k (.exit 0) (newelref07_CheckGroup_x4_0 v0 v1))) (by kernel_rfl) ?_
    have h : (fun (v0 : Arr api_Car) (v1 : Arr api_Press) (v2 : Int) => loopM E.Θ (calls_Longest_cal N) (newelref07_CheckGroup_lp N) (noJn) 0 newelref07_CheckGroup_L4 (bodyAt E 37 4) n (newelref07_CheckGroup_h4 v0 v1 v2) k) = (fun (v0 : Arr api_Car) (v1 : Arr api_Press) (v2 : Int) => newelref07_CheckGroup_l4 N n v0 v1 v2 (fun q0 => k .ret (newelref07_CheckGroup_x4_r q0)) (fun (_ : Unit) => k (.exit 0) (newelref07_CheckGroup_x4_0 v0 v1))) := funext fun v0 => funext fun v1 => funext fun v2 => ih v0 v1 v2
    rw [h]
    rfl
theorem newelref07_CheckGroup_l11_eq {R : Type} (N : Nat) (k : Exit → St → Option R) (n : Nat) : ∀ (v0 : Arr api_Car) (v1 : Arr api_Press) (v2 : Int), loopM E.Θ (calls_Longest_cal N) (newelref07_CheckGroup_lp N) (noJn) 0 newelref07_CheckGroup_L11 (bodyAt E 37 11) n (newelref07_CheckGroup_h11 v0 v1 v2) k = newelref07_CheckGroup_l11 N n v0 v1 v2 (fun q0 => k .ret (newelref07_CheckGroup_x11_r q0)) (fun (_ : Unit) => k (.exit 2) (newelref07_CheckGroup_x11_2 )) := by
  induction n with
  | zero => intro v0 v1 v2; rfl
  | succ n ih =>
    intro v0 v1 v2
    refine Eq.trans (b := newelref07_CheckGroup_b11 N (fun v0 v1 v2 => loopM E.Θ (calls_Longest_cal N) (newelref07_CheckGroup_lp N) (noJn) 0 newelref07_CheckGroup_L11 (bodyAt E 37 11) n (newelref07_CheckGroup_h11 v0 v1 v2) k) v0 v1 v2 (fun q0 => k .ret (newelref07_CheckGroup_x11_r q0)) (fun (_ : Unit) => k (.exit 2) (newelref07_CheckGroup_x11_2 ))) (by kernel_rfl) ?_
    have h : (fun (v0 : Arr api_Car) (v1 : Arr api_Press) (v2 : Int) => loopM E.Θ (calls_Longest_cal N) (newelref07_CheckGroup_lp N) (noJn) 0 newelref07_CheckGroup_L11 (bodyAt E 37 11) n (newelref07_CheckGroup_h11 v0 v1 v2) k) = (fun (v0 : Arr api_Car) (v1 : Arr api_Press) (v2 : Int) => newelref07_CheckGroup_l11 N n v0 v1 v2 (fun q0 => k .ret (newelref07_CheckGroup_x11_r q0)) (fun (_ : Unit) => k (.exit 2) (newelref07_CheckGroup_x11_2 ))) := funext fun v0 => funext fun v1 => funext fun v2 => ih v0 v1 v2
    rw [h]
    rfl
theorem newelref07_CheckGroup_l15_eq {R : Type} (N : Nat) (k : Exit → St → Option R) (n : Nat) : ∀ (v0 : Arr api_Car) (v1 : Arr api_Press) (v2 : Int) (v3 : Bool) (v4 : Int), loopM E.Θ (calls_Longest_cal N) (newelref07_CheckGroup_lp N) (noJn) 0 newelref07_CheckGroup_L15 (bodyAt E 37 15) n (newelref07_CheckGroup_h15 v0 v1 v2 v3 v4) k = newelref07_CheckGroup_l15 N n v0 v1 v2 v3 v4 (fun q3 => k (.exit 4) (newelref07_CheckGroup_x15_4 v0 v1 v2 q3)) := by
  induction n with
  | zero => intro v0 v1 v2 v3 v4; rfl
  | succ n ih =>
    intro v0 v1 v2 v3 v4
    refine Eq.trans (b := newelref07_CheckGroup_b15 N (fun v0 v1 v2 v3 v4 => loopM E.Θ (calls_Longest_cal N) (newelref07_CheckGroup_lp N) (noJn) 0 newelref07_CheckGroup_L15 (bodyAt E 37 15) n (newelref07_CheckGroup_h15 v0 v1 v2 v3 v4) k) v0 v1 v2 v3 v4 (fun q3 => k (.exit 4) (newelref07_CheckGroup_x15_4 v0 v1 v2 q3))) (by kernel_rfl) ?_
    have h : (fun (v0 : Arr api_Car) (v1 : Arr api_Press) (v2 : Int) (v3 : Bool) (v4 : Int) => loopM E.Θ (calls_Longest_cal N) (newelref07_CheckGroup_lp N) (noJn) 0 newelref07_CheckGroup_L15 (bodyAt E 37 15) n (newelref07_CheckGroup_h15 v0 v1 v2 v3 v4) k) = (fun (v0 : Arr api_Car) (v1 : Arr api_Press) (v2 : Int) (v3 : Bool) (v4 : Int) => newelref07_CheckGroup_l15 N n v0 v1 v2 v3 v4 (fun q3 => k (.exit 4) (newelref07_CheckGroup_x15_4 v0 v1 v2 q3))) := funext fun v0 => funext fun v1 => funext fun v2 => funext fun v3 => funext fun v4 => ih v0 v1 v2 v3 v4
    rw [h]
    rfl
theorem newelref07_CheckGroup_k15 {R : Type} (N : Nat) : LpKey (R := R) E 37 0 (newelref07_CheckGroup_lp N) 15 :=
  lpKey_of hE (calls_Longest_cal_ok N) (lp := newelref07_CheckGroup_lp N) (jn := noJn) newelref07_CheckGroup_L15_ok [] kNil (by kernel_rfl) [] jNil (by kernel_rfl) N fun S k =>
    Eq.trans (b := newelref07_CheckGroup_L15.head.raw 0 S (fun S0 => newelref07_CheckGroup_d15 N S0 k)) (by kernel_rfl) (congrArg (newelref07_CheckGroup_L15.head.raw 0 S) (funext fun S0 => Eq.trans (newelref07_CheckGroup_l15_eq N k N (lstC api_CarC (lget S0.tmps 0)) (lstC api_PressC (lget S0.tmps 1)) (toI (lget S0.tmps 6)) (toB (lget S0.tmps 7)) (toI (lget S0.tmps 8))).symm (by kernel_rfl)))
theorem newelref07_CheckGroup_k4 {R : Type} (N : Nat) : LpKey (R := R) E 37 0 (newelref07_CheckGroup_lp N) 4 :=
  lpKey_of hE (calls_Longest_cal_ok N) (lp := newelref07_CheckGroup_lp N) (jn := noJn) newelref07_CheckGroup_L4_ok [] kNil (by kernel_rfl) [] jNil (by kernel_rfl) N fun S k =>
    Eq.trans (b := newelref07_CheckGroup_L4.head.raw 0 S (fun S0 => newelref07_CheckGroup_d4 N S0 k)) (by kernel_rfl) (congrArg (newelref07_CheckGroup_L4.head.raw 0 S) (funext fun S0 => Eq.trans (newelref07_CheckGroup_l4_eq N k N (lstC api_CarC (lget S0.tmps 0)) (lstC api_PressC (lget S0.tmps 1)) (toI (lget S0.tmps 5))).symm (by kernel_rfl)))
theorem newelref07_CheckGroup_k11 {R : Type} (N : Nat) : LpKey (R := R) E 37 0 (newelref07_CheckGroup_lp N) 11 :=
  lpKey_of hE (calls_Longest_cal_ok N) (lp := newelref07_CheckGroup_lp N) (jn := noJn) newelref07_CheckGroup_L11_ok [15] (kCons (newelref07_CheckGroup_k15 N) kNil) (by kernel_rfl) [] jNil (by kernel_rfl) N fun S k =>
    Eq.trans (b := newelref07_CheckGroup_L11.head.raw 0 S (fun S0 => newelref07_CheckGroup_d11 N S0 k)) (by kernel_rfl) (congrArg (newelref07_CheckGroup_L11.head.raw 0 S) (funext fun S0 => Eq.trans (newelref07_CheckGroup_l11_eq N k N (lstC api_CarC (lget S0.tmps 0)) (lstC api_PressC (lget S0.tmps 1)) (toI (lget S0.tmps 6))).symm (by kernel_rfl)))
noncomputable def newelref07_CheckGroup_go {R : Type} (N : Nat) (args : List SV) (T : Tab) (kf : SV × Tab → Option R) : Option R :=
  newelref07_CheckGroup N (lstC api_CarC (lget args 0)) (lstC api_PressC (lget args 1)) (fun q0 => kf (lget [.int .i64 q0] 0, []))
noncomputable def newelref07_CheckGroup_cal {R : Type} (N : Nat) : Cal R := callM (calls_Longest_cal N) 37 0 newelref07_CheckGroup_sp (newelref07_CheckGroup_go N)
theorem newelref07_CheckGroup_cal_ok {R : Type} (N : Nat) : CalOk E.P (newelref07_CheckGroup_cal (R := R) N) :=
  callM_ok hE (calls_Longest_cal_ok N) (lp := newelref07_CheckGroup_lp N) (jn := noJn) (keys := [4, 11, 15]) (kCons (newelref07_CheckGroup_k4 N) (kCons (newelref07_CheckGroup_k11 N) (kCons (newelref07_CheckGroup_k15 N) kNil))) (by kernel_rfl) (js := []) jNil (by kernel_rfl) newelref07_CheckGroup_sp_ok newelref07_CheckGroup_rs_ok (fun args T kf => Eq.trans (newelref07_CheckGroup_def N (lstC api_CarC (lget args 0)) (lstC api_PressC (lget args 1)) (fun q0 => kf (lget [.int .i64 q0] 0, []))) (by kernel_rfl : newelref07_CheckGroup_run N args T kf = fnM E (calls_Longest_cal N) (newelref07_CheckGroup_lp N) (noJn) 37 (newelref07_CheckGroup_sp.vs args) (newelref07_CheckGroup_sp.tab T) 0 (resK newelref07_CheckGroup_rs kf)))
def slices_Clone___int_int__m {R : Type} (N : Nat) (a682 : Bool) (a683 : Arr Int) (k : Bool → Arr Int → Option R) : Option R :=
  bif a682 then
   k true (lst intC (0 : Nat) (zeroC [SV.int IntKind.i64 (0 : Int)]))
  else
   bif room ((0 : Nat) + Arr.n a683) then
    k (bif Arr.n a683 == (0 : Nat) then false else false) (lst intC ((0 : Nat) + Arr.n a683) (catC (0 : Nat) (litC [SV.int IntKind.i64 (0 : Int)] []) (Cod.cell intC (Arr.f a683))))
   else
    Option.none
noncomputable def slices_Clone___int_int_ {R : Type} : Nat → Bool → Arr Int → (Bool → Arr Int → Option R) → Option R := lock (@slices_Clone___int_int__m R)
theorem slices_Clone___int_int__def {R : Type} (N : Nat) (a682 : Bool) (a683 : Arr Int) (k : Bool → Arr Int → Option R) : slices_Clone___int_int_ N a682 a683 k = slices_Clone___int_int__m N a682 a683 k := by unfold slices_Clone___int_int_; rw [lock_eq]
def slices_Clone___int_int__sp : Sp := ⟨[rRow 0], [(0, eRow intC)]⟩
theorem slices_Clone___int_int__sp_ok : slices_Clone___int_int__sp.Ok := ⟨(allCons (rRow_ok 0) allNil), (eCons (eRow_ok intC_ok) eNil)⟩
def slices_Clone___int_int__rs : Sp := ⟨[rRow 1], [(0, eRow intC), (1, eRow intC)]⟩
theorem slices_Clone___int_int__rs_ok : slices_Clone___int_int__rs.Ok := ⟨(allCons (rRow_ok 1) allNil), (eCons (eRow_ok intC_ok) (eCons (eRow_ok intC_ok) eNil))⟩
def slices_Clone___int_int__run {R : Type} (N : Nat) (args : List SV) (T : Tab) (kf : SV × Tab → Option R) : Option R :=
  slices_Clone___int_int__m N (entNl (entAt T 0)) (lst intC (entN (entAt T 0)) (entC (entAt T 0))) (fun q2 q3 => kf (lget [.row 1] 0, [(0, rowE intC (entNl (entAt T 0)) (lst intC (entN (entAt T 0)) (entC (entAt T 0)))), (1, rowE intC q2 q3)]))
def slices_Clone___int_int__lp {R : Type} (N : Nat) : Lp R := fun body S k => Option.none
noncomputable def slices_Clone___int_int__go {R : Type} (N : Nat) (args : List SV) (T : Tab) (kf : SV × Tab → Option R) : Option R :=
  slices_Clone___int_int_ N (entNl (entAt T 0)) (lst intC (entN (entAt T 0)) (entC (entAt T 0))) (fun q2 q3 => kf (lget [.row 1] 0, [(0, rowE intC (entNl (entAt T 0)) (lst intC (entN (entAt T 0)) (entC (entAt T 0)))), (1, rowE intC q2 q3)]))
noncomputable def slices_Clone___int_int__cal {R : Type} (N : Nat) : Cal R := callM (newelref07_CheckGroup_cal N) 69 1 slices_Clone___int_int__sp (slices_Clone___int_int__go N)
theorem slices_Clone___int_int__cal_ok {R : Type} (N : Nat) : CalOk E.P (slices_Clone___int_int__cal (R := R) N) :=
  callM_ok hE (newelref07_CheckGroup_cal_ok N) (lp := slices_Clone___int_int__lp N) (jn := noJn) (keys := []) kNil (by kernel_rfl) (js := []) jNil (by kernel_rfl) slices_Clone___int_int__sp_ok slices_Clone___int_int__rs_ok (fun args T kf => Eq.trans (slices_Clone___int_int__def N (entNl (entAt T 0)) (lst intC (entN (entAt T 0)) (entC (entAt T 0))) (fun q2 q3 => kf (lget [.row 1] 0, [(0, rowE intC (entNl (entAt T 0)) (lst intC (entN (entAt T 0)) (entC (entAt T 0)))), (1, rowE intC q2 q3)]))) (by kernel_rfl : slices_Clone___int_int__run N args T kf = fnM E (newelref07_CheckGroup_cal N) (slices_Clone___int_int__lp N) (noJn) 69 (slices_Clone___int_int__sp.vs args) (slices_Clone___int_int__sp.tab T) 1 (resK slices_Clone___int_int__rs kf)))
end
end Go.Proofs.Ytlphgonhenegoaa
