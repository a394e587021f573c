/-
  Models of the functions, and that they are what the code does. Written by a program.
-/
import Derived.Test.YtfaefhegfcidpaaG1
set_option maxRecDepth 100000
set_option maxHeartbeats 0
set_option linter.unusedVariables false
namespace Go.Proofs.Ytfaefhegfcidpaa
open Go.Sx
noncomputable section
def slices_IndexFunc___api_Span_api_Span__L2 : LoopSp := ⟨⟨[0, 1, 7, 8], ⟨((rSl api_SpanC) :: (rFunc 59 0 []) :: (dr 5 ((rInt .i64) :: (rInt .i64) :: (dr 10 [])))), []⟩, 0⟩, [(Option.none, ⟨[4], ⟨(dr 4 ((rInt .i64) :: (dr 14 []))), []⟩, 0⟩), (some 0, ⟨[], ⟨(dr 19 []), []⟩, 0⟩)]⟩
theorem slices_IndexFunc___api_Span_api_Span__L2_ok : slices_IndexFunc___api_Span_api_Span__L2.Ok := ⟨⟨(allCons (rSl_ok api_SpanC_ok) (allCons (rFunc_ok 59 0 allNil) (drCons 5 (allCons (rInt_ok .i64) (allCons (rInt_ok .i64) (drCons 10 allNil)))))), eNil⟩, (xCons ⟨(drCons 4 (allCons (rInt_ok .i64) (drCons 14 allNil))), eNil⟩ (xCons ⟨(drCons 19 allNil), eNil⟩ xNil))⟩
def slices_IndexFunc___api_Span_api_Span__h2 (v372 : Arr api_Span) (v373 : Int) (v374 : Int) : St := ⟨((slC api_SpanC v372) :: (.func 59 0 []) :: (un 5 ((.int .i64 v373) :: (.int .i64 v374) :: (un 10 [])))), [], 0⟩
def slices_IndexFunc___api_Span_api_Span__x2_r (q0 : Int) : St := ⟨(un 4 ((.int .i64 q0) :: (un 14 []))), [], 0⟩
def slices_IndexFunc___api_Span_api_Span__x2_0  : St := ⟨(un 19 []), [], 0⟩
def slices_IndexFunc___api_Span_api_Span__b2 {R : Type} (N : Nat) (rc : Arr api_Span → Int → Int → Option R) (v372 : Arr api_Span) (v373 : Int) (v374 : Int) (kr : Int → Option R) (k0 : Unit → Option R) : Option R :=
  bif decide (v374 < v373) then
   bif decide ((0 : Int) ≤ v374) && decide (v374 < (↑(Arr.n v372) : Int)) then
    energy_Explains_1 N (Arr.f v372 (Int.toNat v374)) (fun r376 =>
    bif r376 then
     kr v374
    else
     rc v372 v373 (w64 (v374 + (1 : Int))))
   else
    Option.none
  else
   k0 ()
def slices_IndexFunc___api_Span_api_Span__l2 {R : Type} (N : Nat) : Nat → Arr api_Span → Int → Int → (Int → Option R) → (Unit → Option R) → Option R
  | 0, _, _, _, _, _ => Option.none
  | n + 1, v372, v373, v374, kr, k0 => slices_IndexFunc___api_Span_api_Span__b2 N (fun v372 v373 v374 => slices_IndexFunc___api_Span_api_Span__l2 N n v372 v373 v374 kr k0) v372 v373 v374 kr k0


def slices_IndexFunc___api_Span_api_Span__m {R : Type} (N : Nat) (a371 : Arr api_Span) (k : Int → Option R) : Option R :=
  slices_IndexFunc___api_Span_api_Span__l2 N N a371 ((↑(Arr.n a371) : Int)) (0 : Int) (fun r377 =>
   k r377) (fun (_ : Unit) =>
   k (-1 : Int))
noncomputable def slices_IndexFunc___api_Span_api_Span_ {R : Type} : Nat → Arr api_Span → (Int → Option R) → Option R := lock (@slices_IndexFunc___api_Span_api_Span__m R)
theorem slices_IndexFunc___api_Span_api_Span__def {R : Type} (N : Nat) (a371 : Arr api_Span) (k : Int → Option R) : slices_IndexFunc___api_Span_api_Span_ N a371 k = slices_IndexFunc___api_Span_api_Span__m N a371 k := by unfold slices_IndexFunc___api_Span_api_Span_; rw [lock_eq]
def slices_IndexFunc___api_Span_api_Span__sp : Sp := ⟨[rSl api_SpanC, rFunc 59 0 []], []⟩
theorem slices_IndexFunc___api_Span_api_Span__sp_ok : slices_IndexFunc___api_Span_api_Span__sp.Ok := ⟨(allCons (rSl_ok api_SpanC_ok) (allCons (rFunc_ok 59 0 allNil) allNil)), eNil⟩
def slices_IndexFunc___api_Span_api_Span__rs : Sp := ⟨[rInt .i64], []⟩
theorem slices_IndexFunc___api_Span_api_Span__rs_ok : slices_IndexFunc___api_Span_api_Span__rs.Ok := ⟨(allCons (rInt_ok .i64) allNil), eNil⟩
def slices_IndexFunc___api_Span_api_Span__run {R : Type} (N : Nat) (args : List SV) (T : Tab) (kf : SV × Tab → Option R) : Option R :=
  slices_IndexFunc___api_Span_api_Span__m N (lstC api_SpanC (lget args 0)) (fun q0 => kf (lget [.int .i64 q0] 0, []))
def slices_IndexFunc___api_Span_api_Span__d2 {R : Type} (N : Nat) (S0 : St) (k : Exit → St → Option R) : Option R :=
  slices_IndexFunc___api_Span_api_Span__l2 N N (lstC api_SpanC (lget S0.tmps 0)) (toI (lget S0.tmps 7)) (toI (lget S0.tmps 8)) (fun q0 => k .ret (slices_IndexFunc___api_Span_api_Span__x2_r q0)) (fun (_ : Unit) => k (.exit 0) (slices_IndexFunc___api_Span_api_Span__x2_0 ))
def slices_IndexFunc___api_Span_api_Span__lp {R : Type} (N : Nat) : Lp R := fun body S k => bif (Go.Sx.keyOf body).getD 0 == 2 then slices_IndexFunc___api_Span_api_Span__L2.head.raw 0 S (fun S0 => slices_IndexFunc___api_Span_api_Span__d2 N S0 k) else Option.none
theorem slices_IndexFunc___api_Span_api_Span__l2_eq {R : Type} (N : Nat) (k : Exit → St → Option R) (n : Nat) : ∀ (v0 : Arr api_Span) (v1 : Int) (v2 : Int), loopM E.Θ (energy_Explains_1_cal N) (slices_IndexFunc___api_Span_api_Span__lp N) (noJn) 0 slices_IndexFunc___api_Span_api_Span__L2 (bodyAt E 65 2) n (slices_IndexFunc___api_Span_api_Span__h2 v0 v1 v2) k = slices_IndexFunc___api_Span_api_Span__l2 N n v0 v1 v2 (fun q0 => k .ret (slices_IndexFunc___api_Span_api_Span__x2_r q0)) (fun (_ : Unit) => k (.exit 0) (slices_IndexFunc___api_Span_api_Span__x2_0 )) := by
  induction n with
  | zero => intro v0 v1 v2; rfl
  | succ n ih =>
    intro v0 v1 v2
    refine Eq.trans (b := slices_IndexFunc___api_Span_api_Span__b2 N (fun v0 v1 v2 => loopM E.Θ (energy_Explains_1_cal N) (slices_IndexFunc___api_Span_api_Span__lp N) (noJn) 0 slices_IndexFunc___api_Span_api_Span__L2 (bodyAt E 65 2) n (slices_IndexFunc___api_Span_api_Span__h2 v0 v1 v2) k) v0 v1 v2 (fun q0 => k .ret (slices_IndexFunc___api_Span_api_Span__x2_r q0)) (fun (_ : Unit) => k (.exit 0) (slices_IndexFunc___api_Span_api_Span__x2_0 ))) (by kernel_rfl) ?_
    have h : (fun (v0 : Arr api_Span) (v1 : Int) (v2 : Int) => loopM E.Θ (energy_Explains_1_cal N) (slices_IndexFunc___api_Span_api_Span__lp N) (noJn) 0 slices_IndexFunc___api_Span_api_Span__L2 (bodyAt E 65 2) n (slices_IndexFunc___api_Span_api_Span__h2 v0 v1 v2) k) = (fun (v0 : Arr api_Span) (v1 : Int) (v2 : Int) => slices_IndexFunc___api_Span_api_Span__l2 N n v0 v1 v2 (fun q0 => k .ret (slices_IndexFunc___api_Span_api_Span__x2_r q0)) (fun (_ : Unit) => k (.exit 0) (slices_IndexFunc___api_Span_api_Span__x2_0 ))) := funext fun v0 => funext fun v1 => funext fun v2 => ih v0 v1 v2
    rw [h]
    rfl
theorem slices_IndexFunc___api_Span_api_Span__k2 {R : Type} (N : Nat) : LpKey (R := R) E 65 0 (slices_IndexFunc___api_Span_api_Span__lp N) 2 :=
  lpKey_of hE (energy_Explains_1_cal_ok N) (jn := noJn) slices_IndexFunc___api_Span_api_Span__L2_ok [] kNil (by kernel_rfl) [] jNil (by kernel_rfl) N fun S k =>
    Eq.trans (b := slices_IndexFunc___api_Span_api_Span__L2.head.raw 0 S (fun S0 => slices_IndexFunc___api_Span_api_Span__d2 N S0 k)) (by kernel_rfl) (congrArg (slices_IndexFunc___api_Span_api_Span__L2.head.raw 0 S) (funext fun S0 => Eq.trans (slices_IndexFunc___api_Span_api_Span__l2_eq N k N (lstC api_SpanC (lget S0.tmps 0)) (toI (lget S0.tmps 7)) (toI (lget S0.tmps 8))).symm (by kernel_rfl)))
noncomputable def slices_IndexFunc___api_Span_api_Span__go {R : Type} (N : Nat) (args : List SV) (T : Tab) (kf : SV × Tab → Option R) : Option R :=
  slices_IndexFunc___api_Span_api_Span_ N (lstC api_SpanC (lget args 0)) (fun q0 => kf (lget [.int .i64 q0] 0, []))
noncomputable def slices_IndexFunc___api_Span_api_Span__cal {R : Type} (N : Nat) : Cal R := callM (energy_Explains_1_cal N) 65 0 slices_IndexFunc___api_Span_api_Span__sp (slices_IndexFunc___api_Span_api_Span__go N)
theorem slices_IndexFunc___api_Span_api_Span__cal_ok {R : Type} (N : Nat) : CalOk E.P (slices_IndexFunc___api_Span_api_Span__cal (R := R) N) :=
  callM_ok hE (energy_Explains_1_cal_ok N) (lp := slices_IndexFunc___api_Span_api_Span__lp N) (jn := noJn) (keys := [2]) (kCons (slices_IndexFunc___api_Span_api_Span__k2 N) kNil) (by kernel_rfl) (js := []) jNil (by kernel_rfl) slices_IndexFunc___api_Span_api_Span__sp_ok slices_IndexFunc___api_Span_api_Span__rs_ok (fun args T kf => Eq.trans (slices_IndexFunc___api_Span_api_Span__def N (lstC api_SpanC (lget args 0)) (fun q0 => kf (lget [.int .i64 q0] 0, []))) (by kernel_rfl : slices_IndexFunc___api_Span_api_Span__run N args T kf = fnM E (energy_Explains_1_cal N) (slices_IndexFunc___api_Span_api_Span__lp N) (noJn) 65 (slices_IndexFunc___api_Span_api_Span__sp.vs args) (slices_IndexFunc___api_Span_api_Span__sp.tab T) 0 (resK slices_IndexFunc___api_Span_api_Span__rs kf)))


def slices_ContainsFunc___api_Span_api_Span__m {R : Type} (N : Nat) (a370 : Arr api_Span) (k : Bool → Option R) : Option R :=
  slices_IndexFunc___api_Span_api_Span_ N a370 (fun r378 =>
  k (decide (r378 ≥ (0 : Int))))
noncomputable def slices_ContainsFunc___api_Span_api_Span_ {R : Type} : Nat → Arr api_Span → (Bool → Option R) → Option R := lock (@slices_ContainsFunc___api_Span_api_Span__m R)
theorem slices_ContainsFunc___api_Span_api_Span__def {R : Type} (N : Nat) (a370 : Arr api_Span) (k : Bool → Option R) : slices_ContainsFunc___api_Span_api_Span_ N a370 k = slices_ContainsFunc___api_Span_api_Span__m N a370 k := by unfold slices_ContainsFunc___api_Span_api_Span_; rw [lock_eq]
def slices_ContainsFunc___api_Span_api_Span__sp : Sp := ⟨[rSl api_SpanC, rFunc 59 0 []], []⟩
theorem slices_ContainsFunc___api_Span_api_Span__sp_ok : slices_ContainsFunc___api_Span_api_Span__sp.Ok := ⟨(allCons (rSl_ok api_SpanC_ok) (allCons (rFunc_ok 59 0 allNil) allNil)), eNil⟩
def slices_ContainsFunc___api_Span_api_Span__rs : Sp := ⟨[rBool], []⟩
theorem slices_ContainsFunc___api_Span_api_Span__rs_ok : slices_ContainsFunc___api_Span_api_Span__rs.Ok := ⟨(allCons rBool_ok allNil), eNil⟩
def slices_ContainsFunc___api_Span_api_Span__run {R : Type} (N : Nat) (args : List SV) (T : Tab) (kf : SV × Tab → Option R) : Option R :=
  slices_ContainsFunc___api_Span_api_Span__m N (lstC api_SpanC (lget args 0)) (fun q0 => kf (lget [.bool q0] 0, []))
def slices_ContainsFunc___api_Span_api_Span__lp {R : Type} (N : Nat) : Lp R := fun body S k => Option.none
noncomputable def slices_ContainsFunc___api_Span_api_Span__go {R : Type} (N : Nat) (args : List SV) (T : Tab) (kf : SV × Tab → Option R) : Option R :=
  slices_ContainsFunc___api_Span_api_Span_ N (lstC api_SpanC (lget args 0)) (fun q0 => kf (lget [.bool q0] 0, []))
noncomputable def slices_ContainsFunc___api_Span_api_Span__cal {R : Type} (N : Nat) : Cal R := callM (slices_IndexFunc___api_Span_api_Span__cal N) 58 0 slices_ContainsFunc___api_Span_api_Span__sp (slices_ContainsFunc___api_Span_api_Span__go N)
theorem slices_ContainsFunc___api_Span_api_Span__cal_ok {R : Type} (N : Nat) : CalOk E.P (slices_ContainsFunc___api_Span_api_Span__cal (R := R) N) :=
  callM_ok hE (slices_IndexFunc___api_Span_api_Span__cal_ok N) (lp := slices_ContainsFunc___api_Span_api_Span__lp N) (jn := noJn) (keys := []) kNil (by kernel_rfl) (js := []) jNil (by kernel_rfl) slices_ContainsFunc___api_Span_api_Span__sp_ok slices_ContainsFunc___api_Span_api_Span__rs_ok (fun args T kf => Eq.trans (slices_ContainsFunc___api_Span_api_Span__def N (lstC api_SpanC (lget args 0)) (fun q0 => kf (lget [.bool q0] 0, []))) (by kernel_rfl : slices_ContainsFunc___api_Span_api_Span__run N args T kf = fnM E (slices_IndexFunc___api_Span_api_Span__cal N) (slices_ContainsFunc___api_Span_api_Span__lp N) (noJn) 58 (slices_ContainsFunc___api_Span_api_Span__sp.vs args) (slices_ContainsFunc___api_Span_api_Span__sp.tab T) 0 (resK slices_ContainsFunc___api_Span_api_Span__rs kf)))

def energy_Explains_L7 : LoopSp := ⟨⟨[2, 3, 4, 30, 31, 32], ⟨(dr 2 ((rSl intC) :: (rSl api_SpanC) :: (rPtr 0 0) :: (dr 25 ((rSl api_PeriodC) :: (rInt .i64) :: (rInt .i64) :: (dr 19 []))))), [(0, eBlkC api_BandC)]⟩, 1⟩, [(Option.none, ⟨[8, 9, 10], ⟨(dr 8 ((rInt .i64) :: (rBool) :: (rInt .i64) :: (dr 41 []))), []⟩, 0⟩), (some 0, ⟨[], ⟨(dr 52 []), []⟩, 0⟩)]⟩
theorem energy_Explains_L7_ok : energy_Explains_L7.Ok := ⟨⟨(drCons 2 (allCons (rSl_ok intC_ok) (allCons (rSl_ok api_SpanC_ok) (allCons (rPtr_ok 0 0) (drCons 25 (allCons (rSl_ok api_PeriodC_ok) (allCons (rInt_ok .i64) (allCons (rInt_ok .i64) (drCons 19 allNil))))))))), (eCons (eBlkC_ok api_BandC_ok api_BandC_len) eNil)⟩, (xCons ⟨(drCons 8 (allCons (rInt_ok .i64) (allCons rBool_ok (allCons (rInt_ok .i64) (drCons 41 allNil))))), eNil⟩ (xCons ⟨(drCons 52 allNil), eNil⟩ xNil))⟩
def energy_Explains_h7 (v380 : Arr Int) (v381 : Arr api_Span) (v382 : Arr api_Period) (v383 : Int) (v384 : Int) (v385 : api_Band) : St := ⟨(un 2 ((slC intC v380) :: (slC api_SpanC v381) :: (.ptr 0 0) :: (un 25 ((slC api_PeriodC v382) :: (.int .i64 v383) :: (.int .i64 v384) :: (un 19 []))))), [(0, .blk (Cod.enc api_BandC v385))], 1⟩
def energy_Explains_x7_r (q0 : Int) (q1 : Bool) (q2 : Int) : St := ⟨(un 8 ((.int .i64 q0) :: (.bool q1) :: (.int .i64 q2) :: (un 41 []))), [], 0⟩
def energy_Explains_x7_0  : St := ⟨(un 52 []), [], 0⟩
def energy_Explains_b7 {R : Type} (N : Nat) (rc : Arr Int → Arr api_Span → Arr api_Period → Int → Int → api_Band → Option R) (v380 : Arr Int) (v381 : Arr api_Span) (v382 : Arr api_Period) (v383 : Int) (v384 : Int) (v385 : api_Band) (kr : Int → Bool → Int → Option R) (k0 : Unit → Option R) : Option R :=
  bif decide (v384 < v383) then
   bif decide ((0 : Int) ≤ v384) && decide (v384 < (↑(Arr.n v382) : Int)) then
    bif decide ((0 : Int) ≤ v384) && decide (v384 < (↑(Arr.n v380) : Int)) then
     bif decide ((0 : Int) ≤ v384) && decide (v384 < (↑(Arr.n v381) : Int)) then
      energy_flows N v385 (Arr.f v382 (Int.toNat v384)) (Arr.f v380 (Int.toNat v384)) (Arr.f v381 (Int.toNat v384)) (fun r386 r387 =>
      bif (↑(Arr.n r387) : Int) == (0 : Int) then
       kr v384 false (0 : Int)
      else
       rc v380 v381 v382 v383 (w64 (v384 + (1 : Int))) v385)
     else
      Option.none
    else
     Option.none
   else
    Option.none
  else
   k0 ()
def energy_Explains_l7 {R : Type} (N : Nat) : Nat → Arr Int → Arr api_Span → Arr api_Period → Int → Int → api_Band → (Int → Bool → Int → Option R) → (Unit → Option R) → Option R
  | 0, _, _, _, _, _, _, _, _ => Option.none
  | n + 1, v380, v381, v382, v383, v384, v385, kr, k0 => energy_Explains_b7 N (fun v380 v381 v382 v383 v384 v385 => energy_Explains_l7 N n v380 v381 v382 v383 v384 v385 kr k0) v380 v381 v382 v383 v384 v385 kr k0


def energy_Explains_m {R : Type} (N : Nat) (a365 : api_Band) (a366 : api_Times) (a367 : Arr Int) (a368 : Arr api_Span) (k : Int → Bool → Int → Option R) : Option R :=
  energy_checkPlan N a365 a366 a367 (fun r369 =>
  bif r369 != (0 : Int) then
   k (0 : Int) false r369
  else
   bif (↑(Arr.n a368) : Int) != (↑(Arr.n a367) : Int) then
    k (0 : Int) false (1 : Int)
   else
    slices_ContainsFunc___api_Span_api_Span_ N a368 (fun r379 =>
    bif r379 then
     k (0 : Int) false (1 : Int)
    else
     energy_Explains_l7 N N a367 a368 (api_Times.Periods a366) ((↑(Arr.n (api_Times.Periods a366)) : Int)) (0 : Int) a365 (fun r388 r389 r390 =>
      k r388 r389 r390) (fun (_ : Unit) =>
      k (0 : Int) true (0 : Int))))
noncomputable def energy_Explains {R : Type} : Nat → api_Band → api_Times → Arr Int → Arr api_Span → (Int → Bool → Int → Option R) → Option R := lock (@energy_Explains_m R)
theorem energy_Explains_def {R : Type} (N : Nat) (a365 : api_Band) (a366 : api_Times) (a367 : Arr Int) (a368 : Arr api_Span) (k : Int → Bool → Int → Option R) : energy_Explains N a365 a366 a367 a368 k = energy_Explains_m N a365 a366 a367 a368 k := by unfold energy_Explains; rw [lock_eq]
def energy_Explains_sp : Sp := ⟨[rAgg api_BandC, rAgg api_TimesC, rSl intC, rSl api_SpanC], []⟩
theorem energy_Explains_sp_ok : energy_Explains_sp.Ok := ⟨(allCons (rAgg_ok api_BandC_ok api_BandC_len) (allCons (rAgg_ok api_TimesC_ok api_TimesC_len) (allCons (rSl_ok intC_ok) (allCons (rSl_ok api_SpanC_ok) allNil)))), eNil⟩
def energy_Explains_rs : Sp := ⟨[rTup [rInt .i64, rBool, rInt .i64]], []⟩
theorem energy_Explains_rs_ok : energy_Explains_rs.Ok := ⟨(allCons (rTup_ok (allCons (rInt_ok .i64) (allCons rBool_ok (allCons (rInt_ok .i64) allNil)))) allNil), eNil⟩
def energy_Explains_run {R : Type} (N : Nat) (args : List SV) (T : Tab) (kf : SV × Tab → Option R) : Option R :=
  energy_Explains_m N (Cod.dec api_BandC (lget (toCs (lget args 0)))) (Cod.dec api_TimesC (lget (toCs (lget args 1)))) (lstC intC (lget args 2)) (lstC api_SpanC (lget args 3)) (fun q0 q1 q2 => kf (lget [.tup [.int .i64 q0, .bool q1, .int .i64 q2]] 0, []))
def energy_Explains_d7 {R : Type} (N : Nat) (S0 : St) (k : Exit → St → Option R) : Option R :=
  energy_Explains_l7 N N (lstC intC (lget S0.tmps 2)) (lstC api_SpanC (lget S0.tmps 3)) (lstC api_PeriodC (lget S0.tmps 30)) (toI (lget S0.tmps 31)) (toI (lget S0.tmps 32)) (Cod.dec api_BandC (lget (entCs (entAt S0.tab 0)))) (fun q0 q1 q2 => k .ret (energy_Explains_x7_r q0 q1 q2)) (fun (_ : Unit) => k (.exit 0) (energy_Explains_x7_0 ))
def energy_Explains_lp {R : Type} (N : Nat) : Lp R := fun body S k => bif (Go.Sx.keyOf body).getD 0 == 7 then energy_Explains_L7.head.raw 0 S (fun S0 => energy_Explains_d7 N S0 k) else Option.none
theorem energy_Explains_l7_eq {R : Type} (N : Nat) (k : Exit → St → Option R) (n : Nat) : ∀ (v0 : Arr Int) (v1 : Arr api_Span) (v2 : Arr api_Period) (v3 : Int) (v4 : Int) (v5 : api_Band), loopM E.Θ (slices_ContainsFunc___api_Span_api_Span__cal N) (energy_Explains_lp N) (noJn) 0 energy_Explains_L7 (bodyAt E 37 7) n (energy_Explains_h7 v0 v1 v2 v3 v4 v5) k = energy_Explains_l7 N n v0 v1 v2 v3 v4 v5 (fun q0 q1 q2 => k .ret (energy_Explains_x7_r q0 q1 q2)) (fun (_ : Unit) => k (.exit 0) (energy_Explains_x7_0 )) := by
  induction n with
  | zero => intro v0 v1 v2 v3 v4 v5; rfl
  | succ n ih =>
    intro v0 v1 v2 v3 v4 v5
    refine Eq.trans (b := energy_Explains_b7 N (fun v0 v1 v2 v3 v4 v5 => loopM E.Θ (slices_ContainsFunc___api_Span_api_Span__cal N) (energy_Explains_lp N) (noJn) 0 energy_Explains_L7 (bodyAt E 37 7) n (energy_Explains_h7 v0 v1 v2 v3 v4 v5) k) v0 v1 v2 v3 v4 v5 (fun q0 q1 q2 => k .ret (energy_Explains_x7_r q0 q1 q2)) (fun (_ : Unit) => k (.exit 0) (energy_Explains_x7_0 ))) (by kernel_rfl) ?_
    have h : (fun (v0 : Arr Int) (v1 : Arr api_Span) (v2 : Arr api_Period) (v3 : Int) (v4 : Int) (v5 : api_Band) => loopM E.Θ (slices_ContainsFunc___api_Span_api_Span__cal N) (energy_Explains_lp N) (noJn) 0 energy_Explains_L7 (bodyAt E 37 7) n (energy_Explains_h7 v0 v1 v2 v3 v4 v5) k) = (fun (v0 : Arr Int) (v1 : Arr api_Span) (v2 : Arr api_Period) (v3 : Int) (v4 : Int) (v5 : api_Band) => energy_Explains_l7 N n v0 v1 v2 v3 v4 v5 (fun q0 q1 q2 => k .ret (energy_Explains_x7_r q0 q1 q2)) (fun (_ : Unit) => k (.exit 0) (energy_Explains_x7_0 ))) := funext fun v0 => funext fun v1 => funext fun v2 => funext fun v3 => funext fun v4 => funext fun v5 => ih v0 v1 v2 v3 v4 v5
    rw [h]
    rfl
theorem energy_Explains_k7 {R : Type} (N : Nat) : LpKey (R := R) E 37 0 (energy_Explains_lp N) 7 :=
  lpKey_of hE (slices_ContainsFunc___api_Span_api_Span__cal_ok N) (jn := noJn) energy_Explains_L7_ok [] kNil (by kernel_rfl) [] jNil (by kernel_rfl) N fun S k =>
    Eq.trans (b := energy_Explains_L7.head.raw 0 S (fun S0 => energy_Explains_d7 N S0 k)) (by kernel_rfl) (congrArg (energy_Explains_L7.head.raw 0 S) (funext fun S0 => Eq.trans (energy_Explains_l7_eq N k N (lstC intC (lget S0.tmps 2)) (lstC api_SpanC (lget S0.tmps 3)) (lstC api_PeriodC (lget S0.tmps 30)) (toI (lget S0.tmps 31)) (toI (lget S0.tmps 32)) (Cod.dec api_BandC (lget (entCs (entAt S0.tab 0))))).symm (by kernel_rfl)))
noncomputable def energy_Explains_go {R : Type} (N : Nat) (args : List SV) (T : Tab) (kf : SV × Tab → Option R) : Option R :=
  energy_Explains N (Cod.dec api_BandC (lget (toCs (lget args 0)))) (Cod.dec api_TimesC (lget (toCs (lget args 1)))) (lstC intC (lget args 2)) (lstC api_SpanC (lget args 3)) (fun q0 q1 q2 => kf (lget [.tup [.int .i64 q0, .bool q1, .int .i64 q2]] 0, []))
noncomputable def energy_Explains_cal {R : Type} (N : Nat) : Cal R := callM (slices_ContainsFunc___api_Span_api_Span__cal N) 37 0 energy_Explains_sp (energy_Explains_go N)
theorem energy_Explains_cal_ok {R : Type} (N : Nat) : CalOk E.P (energy_Explains_cal (R := R) N) :=
  callM_ok hE (slices_ContainsFunc___api_Span_api_Span__cal_ok N) (lp := energy_Explains_lp N) (jn := noJn) (keys := [7]) (kCons (energy_Explains_k7 N) kNil) (by kernel_rfl) (js := []) jNil (by kernel_rfl) energy_Explains_sp_ok energy_Explains_rs_ok (fun args T kf => Eq.trans (energy_Explains_def N (Cod.dec api_BandC (lget (toCs (lget args 0)))) (Cod.dec api_TimesC (lget (toCs (lget args 1)))) (lstC intC (lget args 2)) (lstC api_SpanC (lget args 3)) (fun q0 q1 q2 => kf (lget [.tup [.int .i64 q0, .bool q1, .int .i64 q2]] 0, []))) (by kernel_rfl : energy_Explains_run N args T kf = fnM E (slices_ContainsFunc___api_Span_api_Span__cal N) (energy_Explains_lp N) (noJn) 37 (energy_Explains_sp.vs args) (energy_Explains_sp.tab T) 0 (resK energy_Explains_rs kf)))

def newelref11_Explains_L7 : LoopSp := ⟨⟨[2, 3, 4, 5, 11], ⟨(dr 2 ((rSl intC) :: (rSl api_SpanC) :: (rPtr 0 0) :: (rPtr 1 0) :: (dr 5 ((rInt .i64) :: (dr 54 []))))), [(0, eBlkC api_BandC), (1, eBlkC api_TimesC)]⟩, 2⟩, [(Option.none, ⟨[8, 9, 10], ⟨(dr 8 ((rInt .i64) :: (rBool) :: (rInt .i64) :: (dr 55 []))), []⟩, 0⟩), (some 0, ⟨[2, 3, 4, 5], ⟨(dr 2 ((rSl intC) :: (rSl api_SpanC) :: (rPtr 0 0) :: (rPtr 1 0) :: (dr 60 []))), [(0, eBlkC api_BandC), (1, eBlkC api_TimesC)]⟩, 2⟩)]⟩
theorem newelref11_Explains_L7_ok : newelref11_Explains_L7.Ok := ⟨⟨(drCons 2 (allCons (rSl_ok intC_ok) (allCons (rSl_ok api_SpanC_ok) (allCons (rPtr_ok 0 0) (allCons (rPtr_ok 1 0) (drCons 5 (allCons (rInt_ok .i64) (drCons 54 allNil)))))))), (eCons (eBlkC_ok api_BandC_ok api_BandC_len) (eCons (eBlkC_ok api_TimesC_ok api_TimesC_len) eNil))⟩, (xCons ⟨(drCons 8 (allCons (rInt_ok .i64) (allCons rBool_ok (allCons (rInt_ok .i64) (drCons 55 allNil))))), eNil⟩ (xCons ⟨(drCons 2 (allCons (rSl_ok intC_ok) (allCons (rSl_ok api_SpanC_ok) (allCons (rPtr_ok 0 0) (allCons (rPtr_ok 1 0) (drCons 60 allNil)))))), (eCons (eBlkC_ok api_BandC_ok api_BandC_len) (eCons (eBlkC_ok api_TimesC_ok api_TimesC_len) eNil))⟩ xNil))⟩
def newelref11_Explains_h7 (v396 : Arr Int) (v397 : Arr api_Span) (v398 : Int) (v399 : api_Band) (v400 : api_Times) : St := ⟨(un 2 ((slC intC v396) :: (slC api_SpanC v397) :: (.ptr 0 0) :: (.ptr 1 0) :: (un 5 ((.int .i64 v398) :: (un 54 []))))), [(0, .blk (Cod.enc api_BandC v399)), (1, .blk (Cod.enc api_TimesC v400))], 2⟩
def newelref11_Explains_x7_r (q0 : Int) (q1 : Bool) (q2 : Int) : St := ⟨(un 8 ((.int .i64 q0) :: (.bool q1) :: (.int .i64 q2) :: (un 55 []))), [], 0⟩
def newelref11_Explains_x7_0 (v396 : Arr Int) (v397 : Arr api_Span) (v399 : api_Band) (v400 : api_Times) : St := ⟨(un 2 ((slC intC v396) :: (slC api_SpanC v397) :: (.ptr 0 0) :: (.ptr 1 0) :: (un 60 []))), [(0, .blk (Cod.enc api_BandC v399)), (1, .blk (Cod.enc api_TimesC v400))], 2⟩
def newelref11_Explains_b7 {R : Type} (N : Nat) (rc : Arr Int → Arr api_Span → Int → api_Band → api_Times → Option R) (v396 : Arr Int) (v397 : Arr api_Span) (v398 : Int) (v399 : api_Band) (v400 : api_Times) (kr : Int → Bool → Int → Option R) (k0 : Unit → Option R) : Option R :=
  bif decide (v398 < (↑(Arr.n v397) : Int)) then
   bif decide ((0 : Int) ≤ v398) && decide (v398 < (↑(Arr.n v397) : Int)) then
    bif decide ((0 : Int) ≤ v398) && decide (v398 < (↑(Arr.n v397) : Int)) then
     bif decide (api_Span.High (Arr.f v397 (Int.toNat v398)) < api_Span.Low (Arr.f v397 (Int.toNat v398))) then
      kr (0 : Int) false (1 : Int)
     else
      rc v396 v397 (w64 (v398 + (1 : Int))) v399 v400
    else
     Option.none
   else
    Option.none
  else
   k0 ()
def newelref11_Explains_l7 {R : Type} (N : Nat) : Nat → Arr Int → Arr api_Span → Int → api_Band → api_Times → (Int → Bool → Int → Option R) → (Unit → Option R) → Option R
  | 0, _, _, _, _, _, _, _ => Option.none
  | n + 1, v396, v397, v398, v399, v400, kr, k0 => newelref11_Explains_b7 N (fun v396 v397 v398 v399 v400 => newelref11_Explains_l7 N n v396 v397 v398 v399 v400 kr k0) v396 v397 v398 v399 v400 kr k0

def newelref11_Explains_L12 : LoopSp := ⟨⟨[2, 3, 4, 5, 12], ⟨(dr 2 ((rSl intC) :: (rSl api_SpanC) :: (rPtr 0 0) :: (rPtr 1 0) :: (dr 6 ((rInt .i64) :: (dr 53 []))))), [(0, eBlkC api_BandC), (1, eBlkC api_TimesC)]⟩, 2⟩, [(Option.none, ⟨[8, 9, 10], ⟨(dr 8 ((rInt .i64) :: (rBool) :: (rInt .i64) :: (dr 55 []))), []⟩, 0⟩), (some 2, ⟨[], ⟨(dr 66 []), []⟩, 0⟩)]⟩
theorem newelref11_Explains_L12_ok : newelref11_Explains_L12.Ok := ⟨⟨(drCons 2 (allCons (rSl_ok intC_ok) (allCons (rSl_ok api_SpanC_ok) (allCons (rPtr_ok 0 0) (allCons (rPtr_ok 1 0) (drCons 6 (allCons (rInt_ok .i64) (drCons 53 allNil)))))))), (eCons (eBlkC_ok api_BandC_ok api_BandC_len) (eCons (eBlkC_ok api_TimesC_ok api_TimesC_len) eNil))⟩, (xCons ⟨(drCons 8 (allCons (rInt_ok .i64) (allCons rBool_ok (allCons (rInt_ok .i64) (drCons 55 allNil))))), eNil⟩ (xCons ⟨(drCons 66 allNil), eNil⟩ xNil))⟩
def newelref11_Explains_h12 (v404 : Arr Int) (v405 : Arr api_Span) (v406 : Int) (v407 : api_Band) (v408 : api_Times) : St := ⟨(un 2 ((slC intC v404) :: (slC api_SpanC v405) :: (.ptr 0 0) :: (.ptr 1 0) :: (un 6 ((.int .i64 v406) :: (un 53 []))))), [(0, .blk (Cod.enc api_BandC v407)), (1, .blk (Cod.enc api_TimesC v408))], 2⟩
def newelref11_Explains_x12_r (q0 : Int) (q1 : Bool) (q2 : Int) : St := ⟨(un 8 ((.int .i64 q0) :: (.bool q1) :: (.int .i64 q2) :: (un 55 []))), [], 0⟩
def newelref11_Explains_x12_2  : St := ⟨(un 66 []), [], 0⟩
def newelref11_Explains_b12 {R : Type} (N : Nat) (rc : Arr Int → Arr api_Span → Int → api_Band → api_Times → Option R) (v404 : Arr Int) (v405 : Arr api_Span) (v406 : Int) (v407 : api_Band) (v408 : api_Times) (kr : Int → Bool → Int → Option R) (k2 : Unit → Option R) : Option R :=
  bif decide (v406 < (↑(Arr.n v405) : Int)) then
   bif decide ((0 : Int) ≤ v406) && decide (v406 < (↑(Arr.n (api_Times.Periods v408)) : Int)) then
    bif decide ((0 : Int) ≤ v406) && decide (v406 < (↑(Arr.n v404) : Int)) then
     bif decide ((0 : Int) ≤ v406) && decide (v406 < (↑(Arr.n v405) : Int)) then
      newelref11_flows N v407 (Arr.f (api_Times.Periods v408) (Int.toNat v406)) (Arr.f v404 (Int.toNat v406)) (Arr.f v405 (Int.toNat v406)) (fun r409 r410 =>
      bif (↑(Arr.n r410) : Int) == (0 : Int) then
       kr v406 false (0 : Int)
      else
       rc v404 v405 (w64 (v406 + (1 : Int))) v407 v408)
     else
      Option.none
    else
     Option.none
   else
    Option.none
  else
   k2 ()
def newelref11_Explains_l12 {R : Type} (N : Nat) : Nat → Arr Int → Arr api_Span → Int → api_Band → api_Times → (Int → Bool → Int → Option R) → (Unit → Option R) → Option R
  | 0, _, _, _, _, _, _, _ => Option.none
  | n + 1, v404, v405, v406, v407, v408, kr, k2 => newelref11_Explains_b12 N (fun v404 v405 v406 v407 v408 => newelref11_Explains_l12 N n v404 v405 v406 v407 v408 kr k2) v404 v405 v406 v407 v408 kr k2


def newelref11_Explains_m {R : Type} (N : Nat) (a391 : api_Band) (a392 : api_Times) (a393 : Arr Int) (a394 : Arr api_Span) (k : Int → Bool → Int → Option R) : Option R :=
  newelref11_CheckPlan N a391 a392 a393 (fun r395 =>
  bif r395 != (0 : Int) then
   k (0 : Int) false r395
  else
   bif (↑(Arr.n a394) : Int) != (↑(Arr.n a393) : Int) then
    k (0 : Int) false (1 : Int)
   else
    newelref11_Explains_l7 N N a393 a394 (0 : Int) a391 a392 (fun r401 r402 r403 =>
     k r401 r402 r403) (fun (_ : Unit) =>
     newelref11_Explains_l12 N N a393 a394 (0 : Int) a391 a392 (fun r411 r412 r413 =>
      k r411 r412 r413) (fun (_ : Unit) =>
      k (0 : Int) true (0 : Int))))
noncomputable def newelref11_Explains {R : Type} : Nat → api_Band → api_Times → Arr Int → Arr api_Span → (Int → Bool → Int → Option R) → Option R := lock (@newelref11_Explains_m R)
theorem newelref11_Explains_def {R : Type} (N : Nat) (a391 : api_Band) (a392 : api_Times) (a393 : Arr Int) (a394 : Arr api_Span) (k : Int → Bool → Int → Option R) : newelref11_Explains N a391 a392 a393 a394 k = newelref11_Explains_m N a391 a392 a393 a394 k := by unfold newelref11_Explains; rw [lock_eq]
def newelref11_Explains_sp : Sp := ⟨[rAgg api_BandC, rAgg api_TimesC, rSl intC, rSl api_SpanC], []⟩
theorem newelref11_Explains_sp_ok : newelref11_Explains_sp.Ok := ⟨(allCons (rAgg_ok api_BandC_ok api_BandC_len) (allCons (rAgg_ok api_TimesC_ok api_TimesC_len) (allCons (rSl_ok intC_ok) (allCons (rSl_ok api_SpanC_ok) allNil)))), eNil⟩
def newelref11_Explains_rs : Sp := ⟨[rTup [rInt .i64, rBool, rInt .i64]], []⟩
theorem newelref11_Explains_rs_ok : newelref11_Explains_rs.Ok := ⟨(allCons (rTup_ok (allCons (rInt_ok .i64) (allCons rBool_ok (allCons (rInt_ok .i64) allNil)))) allNil), eNil⟩
def newelref11_Explains_run {R : Type} (N : Nat) (args : List SV) (T : Tab) (kf : SV × Tab → Option R) : Option R :=
  newelref11_Explains_m N (Cod.dec api_BandC (lget (toCs (lget args 0)))) (Cod.dec api_TimesC (lget (toCs (lget args 1)))) (lstC intC (lget args 2)) (lstC api_SpanC (lget args 3)) (fun q0 q1 q2 => kf (lget [.tup [.int .i64 q0, .bool q1, .int .i64 q2]] 0, []))
def newelref11_Explains_d12 {R : Type} (N : Nat) (S0 : St) (k : Exit → St → Option R) : Option R :=
  newelref11_Explains_l12 N N (lstC intC (lget S0.tmps 2)) (lstC api_SpanC (lget S0.tmps 3)) (toI (lget S0.tmps 12)) (Cod.dec api_BandC (lget (entCs (entAt S0.tab 0)))) (Cod.dec api_TimesC (lget (entCs (entAt S0.tab 1)))) (fun q0 q1 q2 => k .ret (newelref11_Explains_x12_r q0 q1 q2)) (fun (_ : Unit) => k (.exit 2) (newelref11_Explains_x12_2 ))
def newelref11_Explains_d7 {R : Type} (N : Nat) (S0 : St) (k : Exit → St → Option R) : Option R :=
  newelref11_Explains_l7 N N (lstC intC (lget S0.tmps 2)) (lstC api_SpanC (lget S0.tmps 3)) (toI (lget S0.tmps 11)) (Cod.dec api_BandC (lget (entCs (entAt S0.tab 0)))) (Cod.dec api_TimesC (lget (entCs (entAt S0.tab 1)))) (fun q0 q1 q2 => k .ret (newelref11_Explains_x7_r q0 q1 q2)) (fun (_ : Unit) => k (.exit 0) (newelref11_Explains_x7_0 (lstC intC (lget S0.tmps 2)) (lstC api_SpanC (lget S0.tmps 3)) (Cod.dec api_BandC (lget (entCs (entAt S0.tab 0)))) (Cod.dec api_TimesC (lget (entCs (entAt S0.tab 1))))))
def newelref11_Explains_lp {R : Type} (N : Nat) : Lp R := fun body S k => bif (Go.Sx.keyOf body).getD 0 == 7 then newelref11_Explains_L7.head.raw 0 S (fun S0 => newelref11_Explains_d7 N S0 k) else bif (Go.Sx.keyOf body).getD 0 == 12 then newelref11_Explains_L12.head.raw 0 S (fun S0 => newelref11_Explains_d12 N S0 k) else Option.none
theorem newelref11_Explains_l7_eq {R : Type} (N : Nat) (k : Exit → St → Option R) (n : Nat) : ∀ (v0 : Arr Int) (v1 : Arr api_Span) (v2 : Int) (v3 : api_Band) (v4 : api_Times), loopM E.Θ (energy_Explains_cal N) (newelref11_Explains_lp N) (noJn) 0 newelref11_Explains_L7 (bodyAt E 38 7) n (newelref11_Explains_h7 v0 v1 v2 v3 v4) k = newelref11_Explains_l7 N n v0 v1 v2 v3 v4 (fun q0 q1 q2 => k .ret (newelref11_Explains_x7_r q0 q1 q2)) (fun (_ : Unit) => k (.exit 0) (newelref11_Explains_x7_0 v0 v1 v3 v4)) := by
  induction n with
  | zero => intro v0 v1 v2 v3 v4; rfl
  | succ n ih =>
    intro v0 v1 v2 v3 v4
    refine Eq.trans (b := newelref11_Explains_b7 N (fun v0 v1 v2 v3 v4 => loopM E.Θ (energy_Explains_cal N) (newelref11_Explains_lp N) (noJn) 0 newelref11_Explains_L7 (bodyAt E 38 7) n (newelref11_Explains_h7 v0 v1 v2 v3 v4) k) v0 v1 v2 v3 v4 (fun q0 q1 q2 => k .ret (newelref11_Explains_x7_r q0 q1 q2)) (fun (_ : Unit) => k (.exit 0) (newelref11_Explains_x7_0 v0 v1 v3 v4))) (by kernel_rfl) ?_
    have h : (fun (v0 : Arr Int) (v1 : Arr api_Span) (v2 : Int) (v3 : api_Band) (v4 : api_Times) => loopM E.Θ (energy_Explains_cal N) (newelref11_Explains_lp N) (noJn) 0 newelref11_Explains_L7 (bodyAt E 38 7) n (newelref11_Explains_h7 v0 v1 v2 v3 v4) k) = (fun (v0 : Arr Int) (v1 : Arr api_Span) (v2 : Int) (v3 : api_Band) (v4 : api_Times) => newelref11_Explains_l7 N n v0 v1 v2 v3 v4 (fun q0 q1 q2 => k .ret (newelref11_Explains_x7_r q0 q1 q2)) (fun (_ : Unit) => k (.exit 0) (newelref11_Explains_x7_0 v0 v1 v3 v4))) := funext fun v0 => funext fun v1 => funext fun v2 => funext fun v3 => funext fun v4 => ih v0 v1 v2 v3 v4
    rw [h]
    rfl
theorem newelref11_Explains_l12_eq {R : Type} (N : Nat) (k : Exit → St → Option R) (n : Nat) : ∀ (v0 : Arr Int) (v1 : Arr api_Span) (v2 : Int) (v3 : api_Band) (v4 : api_Times), loopM E.Θ (energy_Explains_cal N) (newelref11_Explains_lp N) (noJn) 0 newelref11_Explains_L12 (bodyAt E 38 12) n (newelref11_Explains_h12 v0 v1 v2 v3 v4) k = newelref11_Explains_l12 N n v0 v1 v2 v3 v4 (fun q0 q1 q2 => k .ret (newelref11_Explains_x12_r q0 q1 q2)) (fun (_ : Unit) => k (.exit 2) (newelref11_Explains_x12_2 )) := by
  induction n with
  | zero => intro v0 v1 v2 v3 v4; rfl
  | succ n ih =>
    intro v0 v1 v2 v3 v4
    refine Eq.trans (b := newelref11_Explains_b12 N (fun v0 v1 v2 v3 v4 => loopM E.Θ (energy_Explains_cal N) (newelref11_Explains_lp N) (noJn) 0 newelref11_Explains_L12 (bodyAt E 38 12) n (newelref11_Explains_h12 v0 v1 v2 v3 v4) k) v0 v1 v2 v3 v4 (fun q0 q1 q2 => k .ret (newelref11_Explains_x12_r q0 q1 q2)) (fun (_ : Unit) => k (.exit 2) (newelref11_Explains_x12_2 ))) (by kernel_rfl) ?_
    have h : (fun (v0 : Arr Int) (v1 : Arr api_Span) (v2 : Int) (v3 : api_Band) (v4 : api_Times) => loopM E.Θ (energy_Explains_cal N) (newelref11_Explains_lp N) (noJn) 0 newelref11_Explains_L12 (bodyAt E 38 12) n (newelref11_Explains_h12 v0 v1 v2 v3 v4) k) = (fun (v0 : Arr Int) (v1 : Arr api_Span) (v2 : Int) (v3 : api_Band) (v4 : api_Times) => newelref11_Explains_l12 N n v0 v1 v2 v3 v4 (fun q0 q1 q2 => k .ret (newelref11_Explains_x12_r q0 q1 q2)) (fun (_ : Unit) => k (.exit 2) (newelref11_Explains_x12_2 ))) := funext fun v0 => funext fun v1 => funext fun v2 => funext fun v3 => funext fun v4 => ih v0 v1 v2 v3 v4
    rw [h]
    rfl
theorem newelref11_Explains_k12 {R : Type} (N : Nat) : LpKey (R := R) E 38 0 (newelref11_Explains_lp N) 12 :=
  lpKey_of hE (energy_Explains_cal_ok N) (jn := noJn) newelref11_Explains_L12_ok [] kNil (by kernel_rfl) [] jNil (by kernel_rfl) N fun S k =>
    Eq.trans (b := newelref11_Explains_L12.head.raw 0 S (fun S0 => newelref11_Explains_d12 N S0 k)) (by kernel_rfl) (congrArg (newelref11_Explains_L12.head.raw 0 S) (funext fun S0 => Eq.trans (newelref11_Explains_l12_eq N k N (lstC intC (lget S0.tmps 2)) (lstC api_SpanC (lget S0.tmps 3)) (toI (lget S0.tmps 12)) (Cod.dec api_BandC (lget (entCs (entAt S0.tab 0)))) (Cod.dec api_TimesC (lget (entCs (entAt S0.tab 1))))).symm (by kernel_rfl)))
theorem newelref11_Explains_k7 {R : Type} (N : Nat) : LpKey (R := R) E 38 0 (newelref11_Explains_lp N) 7 :=
  lpKey_of hE (energy_Explains_cal_ok N) (jn := noJn) newelref11_Explains_L7_ok [] kNil (by kernel_rfl) [] jNil (by kernel_rfl) N fun S k =>
    Eq.trans (b := newelref11_Explains_L7.head.raw 0 S (fun S0 => newelref11_Explains_d7 N S0 k)) (by kernel_rfl) (congrArg (newelref11_Explains_L7.head.raw 0 S) (funext fun S0 => Eq.trans (newelref11_Explains_l7_eq N k N (lstC intC (lget S0.tmps 2)) (lstC api_SpanC (lget S0.tmps 3)) (toI (lget S0.tmps 11)) (Cod.dec api_BandC (lget (entCs (entAt S0.tab 0)))) (Cod.dec api_TimesC (lget (entCs (entAt S0.tab 1))))).symm (by kernel_rfl)))
noncomputable def newelref11_Explains_go {R : Type} (N : Nat) (args : List SV) (T : Tab) (kf : SV × Tab → Option R) : Option R :=
  newelref11_Explains N (Cod.dec api_BandC (lget (toCs (lget args 0)))) (Cod.dec api_TimesC (lget (toCs (lget args 1)))) (lstC intC (lget args 2)) (lstC api_SpanC (lget args 3)) (fun q0 q1 q2 => kf (lget [.tup [.int .i64 q0, .bool q1, .int .i64 q2]] 0, []))
noncomputable def newelref11_Explains_cal {R : Type} (N : Nat) : Cal R := callM (energy_Explains_cal N) 38 0 newelref11_Explains_sp (newelref11_Explains_go N)
theorem newelref11_Explains_cal_ok {R : Type} (N : Nat) : CalOk E.P (newelref11_Explains_cal (R := R) N) :=
  callM_ok hE (energy_Explains_cal_ok N) (lp := newelref11_Explains_lp N) (jn := noJn) (keys := [7, 12]) (kCons (newelref11_Explains_k7 N) (kCons (newelref11_Explains_k12 N) kNil)) (by kernel_rfl) (js := []) jNil (by kernel_rfl) newelref11_Explains_sp_ok newelref11_Explains_rs_ok (fun args T kf => Eq.trans (newelref11_Explains_def N (Cod.dec api_BandC (lget (toCs (lget args 0)))) (Cod.dec api_TimesC (lget (toCs (lget args 1)))) (lstC intC (lget args 2)) (lstC api_SpanC (lget args 3)) (fun q0 q1 q2 => kf (lget [.tup [.int .i64 q0, .bool q1, .int .i64 q2]] 0, []))) (by kernel_rfl : newelref11_Explains_run N args T kf = fnM E (energy_Explains_cal N) (newelref11_Explains_lp N) (noJn) 38 (newelref11_Explains_sp.vs args) (newelref11_Explains_sp.tab T) 0 (resK newelref11_Explains_rs kf)))


def newellaw11_Example_m {R : Type} (N : Nat)  (k : Bool → Int → Int → Int → Int → Int → Int → Int → Int → Bool → Arr Int → Bool → Arr api_Period → Option R) : Option R :=
  k true (2 : Int) (100 : Int) (10 : Int) (40 : Int) (400 : Int) (1 : Int) (2 : Int) (20 : Int) false (lst intC (2 : Nat) (litC [SV.int IntKind.i64 (0 : Int)] [[SV.int IntKind.i64 (5 : Int)], [SV.int IntKind.i64 (10 : Int)]])) false (lst api_PeriodC (2 : Nat) (litC [SV.int IntKind.i64 (0 : Int), SV.int IntKind.i64 (0 : Int), SV.int IntKind.i64 (0 : Int), SV.int IntKind.i64 (0 : Int)] [[SV.int IntKind.i64 (10 : Int), SV.int IntKind.i64 (2 : Int), SV.int IntKind.i64 (0 : Int), SV.int IntKind.i64 (3 : Int)], [SV.int IntKind.i64 (5 : Int), SV.int IntKind.i64 (3 : Int), SV.int IntKind.i64 (4 : Int), SV.int IntKind.i64 (6 : Int)]]))
noncomputable def newellaw11_Example {R : Type} : Nat → (Bool → Int → Int → Int → Int → Int → Int → Int → Int → Bool → Arr Int → Bool → Arr api_Period → Option R) → Option R := lock (@newellaw11_Example_m R)
theorem newellaw11_Example_def {R : Type} (N : Nat)  (k : Bool → Int → Int → Int → Int → Int → Int → Int → Int → Bool → Arr Int → Bool → Arr api_Period → Option R) : newellaw11_Example N  k = newellaw11_Example_m N  k := by unfold newellaw11_Example; rw [lock_eq]
def newellaw11_Example_sp : Sp := ⟨[], []⟩
theorem newellaw11_Example_sp_ok : newellaw11_Example_sp.Ok := ⟨allNil, eNil⟩
def newellaw11_Example_rs : Sp := ⟨[rTup [rAggs [rBool, rInt .i64, rInt .i64, rInt .i64, rInt .i64, rInt .i64, rRow 0, rInt .i64, rInt .i64], rAggs [rRow 1, rInt .i64]]], [(0, eRow intC), (1, eRow api_PeriodC)]⟩
theorem newellaw11_Example_rs_ok : newellaw11_Example_rs.Ok := ⟨(allCons (rTup_ok (allCons (rAggs_ok (allCons rBool_ok (allCons (rInt_ok .i64) (allCons (rInt_ok .i64) (allCons (rInt_ok .i64) (allCons (rInt_ok .i64) (allCons (rInt_ok .i64) (allCons (rRow_ok 0) (allCons (rInt_ok .i64) (allCons (rInt_ok .i64) allNil)))))))))) (allCons (rAggs_ok (allCons (rRow_ok 1) (allCons (rInt_ok .i64) allNil))) allNil))) allNil), (eCons (eRow_ok intC_ok) (eCons (eRow_ok api_PeriodC_ok) eNil))⟩
def newellaw11_Example_run {R : Type} (N : Nat) (args : List SV) (T : Tab) (kf : SV × Tab → Option R) : Option R :=
  newellaw11_Example_m N  (fun q0 q1 q2 q3 q4 q5 q6 q7 q8 q9 q10 q11 q12 => kf (lget [.tup [.agg [.bool q0, .int .i64 q1, .int .i64 q2, .int .i64 q3, .int .i64 q4, .int .i64 q5, .row 0, .int .i64 q6, .int .i64 q7], .agg [.row 1, .int .i64 q8]]] 0, [(0, rowE intC q9 q10), (1, rowE api_PeriodC q11 q12)]))
def newellaw11_Example_lp {R : Type} (N : Nat) : Lp R := fun body S k => Option.none
noncomputable def newellaw11_Example_go {R : Type} (N : Nat) (args : List SV) (T : Tab) (kf : SV × Tab → Option R) : Option R :=
  newellaw11_Example N  (fun q0 q1 q2 q3 q4 q5 q6 q7 q8 q9 q10 q11 q12 => kf (lget [.tup [.agg [.bool q0, .int .i64 q1, .int .i64 q2, .int .i64 q3, .int .i64 q4, .int .i64 q5, .row 0, .int .i64 q6, .int .i64 q7], .agg [.row 1, .int .i64 q8]]] 0, [(0, rowE intC q9 q10), (1, rowE api_PeriodC q11 q12)]))
noncomputable def newellaw11_Example_cal {R : Type} (N : Nat) : Cal R := callM (newelref11_Explains_cal N) 39 0 newellaw11_Example_sp (newellaw11_Example_go N)
theorem newellaw11_Example_cal_ok {R : Type} (N : Nat) : CalOk E.P (newellaw11_Example_cal (R := R) N) :=
  callM_ok hE (newelref11_Explains_cal_ok N) (lp := newellaw11_Example_lp N) (jn := noJn) (keys := []) kNil (by kernel_rfl) (js := []) jNil (by kernel_rfl) newellaw11_Example_sp_ok newellaw11_Example_rs_ok (fun args T kf => Eq.trans (newellaw11_Example_def N  (fun q0 q1 q2 q3 q4 q5 q6 q7 q8 q9 q10 q11 q12 => kf (lget [.tup [.agg [.bool q0, .int .i64 q1, .int .i64 q2, .int .i64 q3, .int .i64 q4, .int .i64 q5, .row 0, .int .i64 q6, .int .i64 q7], .agg [.row 1, .int .i64 q8]]] 0, [(0, rowE intC q9 q10), (1, rowE api_PeriodC q11 q12)]))) (by kernel_rfl : newellaw11_Example_run N args T kf = fnM E (newelref11_Explains_cal N) (newellaw11_Example_lp N) (noJn) 39 (newellaw11_Example_sp.vs args) (newellaw11_Example_sp.tab T) 0 (resK newellaw11_Example_rs kf)))

def newellaw11_sameInts_L4 : LoopSp := ⟨⟨[0, 1, 5], ⟨((rSl intC) :: (rSl intC) :: (dr 3 ((rInt .i64) :: (dr 20 [])))), []⟩, 0⟩, [(Option.none, ⟨[4], ⟨(dr 4 ((rBool) :: (dr 21 []))), []⟩, 0⟩), (some 0, ⟨[], ⟨(dr 26 []), []⟩, 0⟩)]⟩
theorem newellaw11_sameInts_L4_ok : newellaw11_sameInts_L4.Ok := ⟨⟨(allCons (rSl_ok intC_ok) (allCons (rSl_ok intC_ok) (drCons 3 (allCons (rInt_ok .i64) (drCons 20 allNil))))), eNil⟩, (xCons ⟨(drCons 4 (allCons rBool_ok (drCons 21 allNil))), eNil⟩ (xCons ⟨(drCons 26 allNil), eNil⟩ xNil))⟩
def newellaw11_sameInts_h4 (v416 : Arr Int) (v417 : Arr Int) (v418 : Int) : St := ⟨((slC intC v416) :: (slC intC v417) :: (un 3 ((.int .i64 v418) :: (un 20 [])))), [], 0⟩
def newellaw11_sameInts_x4_r (q0 : Bool) : St := ⟨(un 4 ((.bool q0) :: (un 21 []))), [], 0⟩
def newellaw11_sameInts_x4_0  : St := ⟨(un 26 []), [], 0⟩
def newellaw11_sameInts_b4 {R : Type} (N : Nat) (rc : Arr Int → Arr Int → Int → Option R) (v416 : Arr Int) (v417 : Arr Int) (v418 : Int) (kr : Bool → Option R) (k0 : Unit → Option R) : Option R :=
  bif decide (v418 < (↑(Arr.n v416) : Int)) then
   bif decide ((0 : Int) ≤ v418) && decide (v418 < (↑(Arr.n v416) : Int)) then
    bif decide ((0 : Int) ≤ v418) && decide (v418 < (↑(Arr.n v417) : Int)) then
     bif Arr.f v416 (Int.toNat v418) != Arr.f v417 (Int.toNat v418) then
      kr false
     else
      rc v416 v417 (w64 (v418 + (1 : Int)))
    else
     Option.none
   else
    Option.none
  else
   k0 ()
def newellaw11_sameInts_l4 {R : Type} (N : Nat) : Nat → Arr Int → Arr Int → Int → (Bool → Option R) → (Unit → Option R) → Option R
  | 0, _, _, _, _, _ => Option.none
  | n + 1, v416, v417, v418, kr, k0 => newellaw11_sameInts_b4 N (fun v416 v417 v418 => newellaw11_sameInts_l4 N n v416 v417 v418 kr k0) v416 v417 v418 kr k0


def newellaw11_sameInts_m {R : Type} (N : Nat) (a414 : Arr Int) (a415 : Arr Int) (k : Bool → Option R) : Option R :=
  bif (↑(Arr.n a414) : Int) != (↑(Arr.n a415) : Int) then
   k false
  else
   newellaw11_sameInts_l4 N N a414 a415 (0 : Int) (fun r419 =>
    k r419) (fun (_ : Unit) =>
    k true)
noncomputable def newellaw11_sameInts {R : Type} : Nat → Arr Int → Arr Int → (Bool → Option R) → Option R := lock (@newellaw11_sameInts_m R)
theorem newellaw11_sameInts_def {R : Type} (N : Nat) (a414 : Arr Int) (a415 : Arr Int) (k : Bool → Option R) : newellaw11_sameInts N a414 a415 k = newellaw11_sameInts_m N a414 a415 k := by unfold newellaw11_sameInts; rw [lock_eq]
def newellaw11_sameInts_sp : Sp := ⟨[rSl intC, rSl intC], []⟩
theorem newellaw11_sameInts_sp_ok : newellaw11_sameInts_sp.Ok := ⟨(allCons (rSl_ok intC_ok) (allCons (rSl_ok intC_ok) allNil)), eNil⟩
def newellaw11_sameInts_rs : Sp := ⟨[rBool], []⟩
theorem newellaw11_sameInts_rs_ok : newellaw11_sameInts_rs.Ok := ⟨(allCons rBool_ok allNil), eNil⟩
def newellaw11_sameInts_run {R : Type} (N : Nat) (args : List SV) (T : Tab) (kf : SV × Tab → Option R) : Option R :=
  newellaw11_sameInts_m N (lstC intC (lget args 0)) (lstC intC (lget args 1)) (fun q0 => kf (lget [.bool q0] 0, []))
def newellaw11_sameInts_d4 {R : Type} (N : Nat) (S0 : St) (k : Exit → St → Option R) : Option R :=
  newellaw11_sameInts_l4 N N (lstC intC (lget S0.tmps 0)) (lstC intC (lget S0.tmps 1)) (toI (lget S0.tmps 5)) (fun q0 => k .ret (newellaw11_sameInts_x4_r q0)) (fun (_ : Unit) => k (.exit 0) (newellaw11_sameInts_x4_0 ))
def newellaw11_sameInts_lp {R : Type} (N : Nat) : Lp R := fun body S k => bif (Go.Sx.keyOf body).getD 0 == 4 then newellaw11_sameInts_L4.head.raw 0 S (fun S0 => newellaw11_sameInts_d4 N S0 k) else Option.none
theorem newellaw11_sameInts_l4_eq {R : Type} (N : Nat) (k : Exit → St → Option R) (n : Nat) : ∀ (v0 : Arr Int) (v1 : Arr Int) (v2 : Int), loopM E.Θ (newellaw11_Example_cal N) (newellaw11_sameInts_lp N) (noJn) 0 newellaw11_sameInts_L4 (bodyAt E 17 4) n (newellaw11_sameInts_h4 v0 v1 v2) k = newellaw11_sameInts_l4 N n v0 v1 v2 (fun q0 => k .ret (newellaw11_sameInts_x4_r q0)) (fun (_ : Unit) => k (.exit 0) (newellaw11_sameInts_x4_0 )) := by
  induction n with
  | zero => intro v0 v1 v2; rfl
  | succ n ih =>
    intro v0 v1 v2
    refine Eq.trans (b := newellaw11_sameInts_b4 N (fun v0 v1 v2 => loopM E.Θ (newellaw11_Example_cal N) (newellaw11_sameInts_lp N) (noJn) 0 newellaw11_sameInts_L4 (bodyAt E 17 4) n (newellaw11_sameInts_h4 v0 v1 v2) k) v0 v1 v2 (fun q0 => k .ret (newellaw11_sameInts_x4_r q0)) (fun (_ : Unit) => k (.exit 0) (newellaw11_sameInts_x4_0 ))) (by kernel_rfl) ?_
    have h : (fun (v0 : Arr Int) (v1 : Arr Int) (v2 : Int) => loopM E.Θ (newellaw11_Example_cal N) (newellaw11_sameInts_lp N) (noJn) 0 newellaw11_sameInts_L4 (bodyAt E 17 4) n (newellaw11_sameInts_h4 v0 v1 v2) k) = (fun (v0 : Arr Int) (v1 : Arr Int) (v2 : Int) => newellaw11_sameInts_l4 N n v0 v1 v2 (fun q0 => k .ret (newellaw11_sameInts_x4_r q0)) (fun (_ : Unit) => k (.exit 0) (newellaw11_sameInts_x4_0 ))) := funext fun v0 => funext fun v1 => funext fun v2 => ih v0 v1 v2
    rw [h]
    rfl
theorem newellaw11_sameInts_k4 {R : Type} (N : Nat) : LpKey (R := R) E 17 0 (newellaw11_sameInts_lp N) 4 :=
  lpKey_of hE (newellaw11_Example_cal_ok N) (jn := noJn) newellaw11_sameInts_L4_ok [] kNil (by kernel_rfl) [] jNil (by kernel_rfl) N fun S k =>
    Eq.trans (b := newellaw11_sameInts_L4.head.raw 0 S (fun S0 => newellaw11_sameInts_d4 N S0 k)) (by kernel_rfl) (congrArg (newellaw11_sameInts_L4.head.raw 0 S) (funext fun S0 => Eq.trans (newellaw11_sameInts_l4_eq N k N (lstC intC (lget S0.tmps 0)) (lstC intC (lget S0.tmps 1)) (toI (lget S0.tmps 5))).symm (by kernel_rfl)))
noncomputable def newellaw11_sameInts_go {R : Type} (N : Nat) (args : List SV) (T : Tab) (kf : SV × Tab → Option R) : Option R :=
  newellaw11_sameInts N (lstC intC (lget args 0)) (lstC intC (lget args 1)) (fun q0 => kf (lget [.bool q0] 0, []))
noncomputable def newellaw11_sameInts_cal {R : Type} (N : Nat) : Cal R := callM (newellaw11_Example_cal N) 17 0 newellaw11_sameInts_sp (newellaw11_sameInts_go N)
theorem newellaw11_sameInts_cal_ok {R : Type} (N : Nat) : CalOk E.P (newellaw11_sameInts_cal (R := R) N) :=
  callM_ok hE (newellaw11_Example_cal_ok N) (lp := newellaw11_sameInts_lp N) (jn := noJn) (keys := [4]) (kCons (newellaw11_sameInts_k4 N) kNil) (by kernel_rfl) (js := []) jNil (by kernel_rfl) newellaw11_sameInts_sp_ok newellaw11_sameInts_rs_ok (fun args T kf => Eq.trans (newellaw11_sameInts_def N (lstC intC (lget args 0)) (lstC intC (lget args 1)) (fun q0 => kf (lget [.bool q0] 0, []))) (by kernel_rfl : newellaw11_sameInts_run N args T kf = fnM E (newellaw11_Example_cal N) (newellaw11_sameInts_lp N) (noJn) 17 (newellaw11_sameInts_sp.vs args) (newellaw11_sameInts_sp.tab T) 0 (resK newellaw11_sameInts_rs kf)))


def slices_Clone___int_int__m {R : Type} (N : Nat) (a443 : Bool) (a444 : Arr Int) (k : Bool → Arr Int → Option R) : Option R :=
  bif a443 then
   k true (lst intC (0 : Nat) (zeroC [SV.int IntKind.i64 (0 : Int)]))
  else
   bif room ((0 : Nat) + Arr.n a444) then
    k (bif Arr.n a444 == (0 : Nat) then false else false) (lst intC ((0 : Nat) + Arr.n a444) (catC (0 : Nat) (litC [SV.int IntKind.i64 (0 : Int)] []) (Cod.cell intC (Arr.f a444))))
   else
    Option.none
noncomputable def slices_Clone___int_int_ {R : Type} : Nat → Bool → Arr Int → (Bool → Arr Int → Option R) → Option R := lock (@slices_Clone___int_int__m R)
theorem slices_Clone___int_int__def {R : Type} (N : Nat) (a443 : Bool) (a444 : Arr Int) (k : Bool → Arr Int → Option R) : slices_Clone___int_int_ N a443 a444 k = slices_Clone___int_int__m N a443 a444 k := by unfold slices_Clone___int_int_; rw [lock_eq]
def slices_Clone___int_int__sp : Sp := ⟨[rRow 0], [(0, eRow intC)]⟩
theorem slices_Clone___int_int__sp_ok : slices_Clone___int_int__sp.Ok := ⟨(allCons (rRow_ok 0) allNil), (eCons (eRow_ok intC_ok) eNil)⟩
def slices_Clone___int_int__rs : Sp := ⟨[rRow 1], [(0, eRow intC), (1, eRow intC)]⟩
theorem slices_Clone___int_int__rs_ok : slices_Clone___int_int__rs.Ok := ⟨(allCons (rRow_ok 1) allNil), (eCons (eRow_ok intC_ok) (eCons (eRow_ok intC_ok) eNil))⟩
def slices_Clone___int_int__run {R : Type} (N : Nat) (args : List SV) (T : Tab) (kf : SV × Tab → Option R) : Option R :=
  slices_Clone___int_int__m N (entNl (entAt T 0)) (lst intC (entN (entAt T 0)) (entC (entAt T 0))) (fun q2 q3 => kf (lget [.row 1] 0, [(0, rowE intC (entNl (entAt T 0)) (lst intC (entN (entAt T 0)) (entC (entAt T 0)))), (1, rowE intC q2 q3)]))
def slices_Clone___int_int__lp {R : Type} (N : Nat) : Lp R := fun body S k => Option.none
noncomputable def slices_Clone___int_int__go {R : Type} (N : Nat) (args : List SV) (T : Tab) (kf : SV × Tab → Option R) : Option R :=
  slices_Clone___int_int_ N (entNl (entAt T 0)) (lst intC (entN (entAt T 0)) (entC (entAt T 0))) (fun q2 q3 => kf (lget [.row 1] 0, [(0, rowE intC (entNl (entAt T 0)) (lst intC (entN (entAt T 0)) (entC (entAt T 0)))), (1, rowE intC q2 q3)]))
noncomputable def slices_Clone___int_int__cal {R : Type} (N : Nat) : Cal R := callM (newellaw11_sameInts_cal N) 60 1 slices_Clone___int_int__sp (slices_Clone___int_int__go N)
theorem slices_Clone___int_int__cal_ok {R : Type} (N : Nat) : CalOk E.P (slices_Clone___int_int__cal (R := R) N) :=
  callM_ok hE (newellaw11_sameInts_cal_ok N) (lp := slices_Clone___int_int__lp N) (jn := noJn) (keys := []) kNil (by kernel_rfl) (js := []) jNil (by kernel_rfl) slices_Clone___int_int__sp_ok slices_Clone___int_int__rs_ok (fun args T kf => Eq.trans (slices_Clone___int_int__def N (entNl (entAt T 0)) (lst intC (entN (entAt T 0)) (entC (entAt T 0))) (fun q2 q3 => kf (lget [.row 1] 0, [(0, rowE intC (entNl (entAt T 0)) (lst intC (entN (entAt T 0)) (entC (entAt T 0)))), (1, rowE intC q2 q3)]))) (by kernel_rfl : slices_Clone___int_int__run N args T kf = fnM E (newellaw11_sameInts_cal N) (slices_Clone___int_int__lp N) (noJn) 60 (slices_Clone___int_int__sp.vs args) (slices_Clone___int_int__sp.tab T) 1 (resK slices_Clone___int_int__rs kf)))

def energy_search_from_L6 : LoopSp := ⟨⟨[0, 1, 5, 62, 63, 64, 1000003], ⟨((rPtr 0 0) :: (rInt .i64) :: (dr 3 ((rPtr 4 0) :: (dr 56 ((rSl intC) :: (rInt .i64) :: (rInt .i64) :: (dr 40 [])))))), [(0, eBlk [rBool, rInt .i64, rInt .i64, rInt .i64, rInt .i64, rInt .i64, rSl intC, rInt .i64, rInt .i64, rSl api_PeriodC, rInt .i64, rRow 1, rRow 2, rRow 5, rInt .i64]), (1, eRow intC), (2, eRow intC), (4, eBlkC api_PeriodC), (5, eRow intC)]⟩, 6⟩, [(some 0, ⟨[1000003], ⟨(dr 105 []), [(0, eBlk [rBool, rInt .i64, rInt .i64, rInt .i64, rInt .i64, rInt .i64, rSl intC, rInt .i64, rInt .i64, rSl api_PeriodC, rInt .i64, rRow 1, rRow 2, rRow 4, rInt .i64]), (1, eRow intC), (2, eRow intC), (4, eRow intC)]⟩, 5⟩)]⟩
theorem energy_search_from_L6_ok : energy_search_from_L6.Ok := ⟨⟨(allCons (rPtr_ok 0 0) (allCons (rInt_ok .i64) (drCons 3 (allCons (rPtr_ok 4 0) (drCons 56 (allCons (rSl_ok intC_ok) (allCons (rInt_ok .i64) (allCons (rInt_ok .i64) (drCons 40 allNil))))))))), (eCons (eBlk_ok (allCons rBool_ok (allCons (rInt_ok .i64) (allCons (rInt_ok .i64) (allCons (rInt_ok .i64) (allCons (rInt_ok .i64) (allCons (rInt_ok .i64) (allCons (rSl_ok intC_ok) (allCons (rInt_ok .i64) (allCons (rInt_ok .i64) (allCons (rSl_ok api_PeriodC_ok) (allCons (rInt_ok .i64) (allCons (rRow_ok 1) (allCons (rRow_ok 2) (allCons (rRow_ok 5) (allCons (rInt_ok .i64) allNil)))))))))))))))) (eCons (eRow_ok intC_ok) (eCons (eRow_ok intC_ok) (eCons (eBlkC_ok api_PeriodC_ok api_PeriodC_len) (eCons (eRow_ok intC_ok) eNil)))))⟩, (xCons ⟨(drCons 105 allNil), (eCons (eBlk_ok (allCons rBool_ok (allCons (rInt_ok .i64) (allCons (rInt_ok .i64) (allCons (rInt_ok .i64) (allCons (rInt_ok .i64) (allCons (rInt_ok .i64) (allCons (rSl_ok intC_ok) (allCons (rInt_ok .i64) (allCons (rInt_ok .i64) (allCons (rSl_ok api_PeriodC_ok) (allCons (rInt_ok .i64) (allCons (rRow_ok 1) (allCons (rRow_ok 2) (allCons (rRow_ok 4) (allCons (rInt_ok .i64) allNil)))))))))))))))) (eCons (eRow_ok intC_ok) (eCons (eRow_ok intC_ok) (eCons (eRow_ok intC_ok) eNil))))⟩ xNil)⟩
def energy_search_from_h6 (v557 : Int) (v558 : Arr Int) (v559 : Int) (v560 : Int) (v561 : Bool) (v562 : Int) (v563 : Int) (v564 : Int) (v565 : Int) (v566 : Int) (v567 : Arr Int) (v568 : Int) (v569 : Int) (v570 : Arr api_Period) (v571 : Int) (v572 : Int) (v573 : Bool) (v574 : Arr Int) (v575 : Bool) (v576 : Arr Int) (v577 : api_Period) (v578 : Bool) (v579 : Arr Int) : St := ⟨((.ptr 0 0) :: (.int .i64 v557) :: (un 3 ((.ptr 4 0) :: (un 56 ((slC intC v558) :: (.int .i64 v559) :: (.int .i64 v560) :: (un 40 [])))))), [(0, .blk [.bool v561, .int .i64 v562, .int .i64 v563, .int .i64 v564, .int .i64 v565, .int .i64 v566, slC intC v567, .int .i64 v568, .int .i64 v569, slC api_PeriodC v570, .int .i64 v571, .row 1, .row 2, .row 5, .int .i64 v572]), (1, rowE intC v573 v574), (2, rowE intC v575 v576), (4, .blk (Cod.enc api_PeriodC v577)), (5, rowE intC v578 v579)], 6⟩
def energy_search_from_x6_0 (v561 : Bool) (v562 : Int) (v563 : Int) (v564 : Int) (v565 : Int) (v566 : Int) (v567 : Arr Int) (v568 : Int) (v569 : Int) (v570 : Arr api_Period) (v571 : Int) (v573 : Bool) (v575 : Bool) (q11 : Int) (q13 : Arr Int) (q15 : Arr Int) (q16 : Bool) (q17 : Arr Int) : St := ⟨(un 105 []), [(0, .blk [.bool v561, .int .i64 v562, .int .i64 v563, .int .i64 v564, .int .i64 v565, .int .i64 v566, slC intC v567, .int .i64 v568, .int .i64 v569, slC api_PeriodC v570, .int .i64 v571, .row 1, .row 2, .row 4, .int .i64 q11]), (1, rowE intC v573 q13), (2, rowE intC v575 q15), (4, rowE intC q16 q17)], 5⟩
def energy_search_from_b6 {R : Type} (N : Nat) (rf : Int → Bool → Int → Int → Int → Int → Int → Arr Int → Int → Int → Arr api_Period → Int → Int → Bool → Arr Int → Bool → Arr Int → Bool → Arr Int → (Int → Arr Int → Arr Int → Bool → Arr Int → Option R) → Option R) (rc : Int → Arr Int → Int → Int → Bool → Int → Int → Int → Int → Int → Arr Int → Int → Int → Arr api_Period → Int → Int → Bool → Arr Int → Bool → Arr Int → api_Period → Bool → Arr Int → Option R) (v557 : Int) (v558 : Arr Int) (v559 : Int) (v560 : Int) (v561 : Bool) (v562 : Int) (v563 : Int) (v564 : Int) (v565 : Int) (v566 : Int) (v567 : Arr Int) (v568 : Int) (v569 : Int) (v570 : Arr api_Period) (v571 : Int) (v572 : Int) (v573 : Bool) (v574 : Arr Int) (v575 : Bool) (v576 : Arr Int) (v577 : api_Period) (v578 : Bool) (v579 : Arr Int) (k0 : Int → Arr Int → Arr Int → Bool → Arr Int → Option R) : Option R :=
  bif decide (v560 < v559) then
   bif decide ((0 : Int) ≤ v560) && decide (v560 < (↑(Arr.n v558) : Int)) then
    energy_serves N (api_Band.mk v561 v562 v563 v564 v565 v566 v567 v568 v569) (api_Span.High (api_Period.Flow v577)) (Arr.f v558 (Int.toNat v560)) (fun r580 =>
    bif r580 then
     bif decide ((0 : Int) ≤ v557) && decide (v557 < (↑(Arr.n v574) : Int)) then
      energy_ends N (api_Band.mk v561 v562 v563 v564 v565 v566 v567 v568 v569) v577 (Arr.f v558 (Int.toNat v560)) (fun r581 r582 =>
      bif decide ((0 : Int) ≤ v557) && decide (v557 < (↑(Arr.n v576) : Int)) then
       rf (w64 (v557 + (1 : Int))) v561 v562 v563 v564 v565 v566 v567 v568 v569 v570 v571 v572 v573 (lst intC (Arr.n v574) (setCs (Int.toNat v557) (0 : Nat) (Cod.cell intC (Arr.f v574)) [SV.int IntKind.i64 (Arr.f v558 (Int.toNat v560))])) v575 (lst intC (Arr.n v576) (setCs (Int.toNat v557) (0 : Nat) (Cod.cell intC (Arr.f v576)) [SV.int IntKind.i64 r582])) v578 v579 (fun r583 r584 r585 r586 r587 =>
       rc v557 v558 v559 (w64 (v560 + (1 : Int))) v561 v562 v563 v564 v565 v566 v567 v568 v569 v570 v571 r583 v573 r584 v575 r585 v577 r586 r587)
      else
       Option.none)
     else
      Option.none
    else
     rc v557 v558 v559 (w64 (v560 + (1 : Int))) v561 v562 v563 v564 v565 v566 v567 v568 v569 v570 v571 v572 v573 v574 v575 v576 v577 v578 v579)
   else
    Option.none
  else
   k0 v572 v574 v576 v578 v579
def energy_search_from_l6 {R : Type} (N : Nat) (rf : Int → Bool → Int → Int → Int → Int → Int → Arr Int → Int → Int → Arr api_Period → Int → Int → Bool → Arr Int → Bool → Arr Int → Bool → Arr Int → (Int → Arr Int → Arr Int → Bool → Arr Int → Option R) → Option R) : Nat → Int → Arr Int → Int → Int → Bool → Int → Int → Int → Int → Int → Arr Int → Int → Int → Arr api_Period → Int → Int → Bool → Arr Int → Bool → Arr Int → api_Period → Bool → Arr Int → (Int → Arr Int → Arr Int → Bool → Arr Int → Option R) → Option R
  | 0, _, _, _, _, _, _, _, _, _, _, _, _, _, _, _, _, _, _, _, _, _, _, _, _ => Option.none
  | n + 1, v557, v558, v559, v560, v561, v562, v563, v564, v565, v566, v567, v568, v569, v570, v571, v572, v573, v574, v575, v576, v577, v578, v579, k0 => energy_search_from_b6 N rf (fun v557 v558 v559 v560 v561 v562 v563 v564 v565 v566 v567 v568 v569 v570 v571 v572 v573 v574 v575 v576 v577 v578 v579 => energy_search_from_l6 N rf n v557 v558 v559 v560 v561 v562 v563 v564 v565 v566 v567 v568 v569 v570 v571 v572 v573 v574 v575 v576 v577 v578 v579 k0) v557 v558 v559 v560 v561 v562 v563 v564 v565 v566 v567 v568 v569 v570 v571 v572 v573 v574 v575 v576 v577 v578 v579 k0


def energy_search_from_t {R : Type} (N : Nat) (rf : Int → Bool → Int → Int → Int → Int → Int → Arr Int → Int → Int → Arr api_Period → Int → Int → Bool → Arr Int → Bool → Arr Int → Bool → Arr Int → (Int → Arr Int → Arr Int → Bool → Arr Int → Option R) → Option R) (a533 : Int) (a534 : Bool) (a535 : Int) (a536 : Int) (a537 : Int) (a538 : Int) (a539 : Int) (a540 : Arr Int) (a541 : Int) (a542 : Int) (a543 : Arr api_Period) (a544 : Int) (a545 : Int) (a546 : Bool) (a547 : Arr Int) (a548 : Bool) (a549 : Arr Int) (a550 : Bool) (a551 : Arr Int) (k : Int → Arr Int → Arr Int → Bool → Arr Int → Option R) : Option R :=
  bif a533 == (↑(Arr.n a543) : Int) then
   energy_bill N (api_Times.mk a543 a544) a549 (fun r552 =>
   bif a550 then
    slices_Clone___int_int_ N a546 a547 (fun r553 r554 =>
    k r552 a547 a549 r553 r554)
   else
    bif decide (r552 < a545) then
     slices_Clone___int_int_ N a546 a547 (fun r555 r556 =>
     k r552 a547 a549 r555 r556)
    else
     k a545 a547 a549 a550 a551)
  else
   bif decide ((0 : Int) ≤ a533) && decide (a533 < (↑(Arr.n a543) : Int)) then
    energy_search_from_l6 N rf N a533 a540 ((↑(Arr.n a540) : Int)) (0 : Int) a534 a535 a536 a537 a538 a539 a540 a541 a542 a543 a544 a545 a546 a547 a548 a549 (Arr.f a543 (Int.toNat a533)) a550 a551 (fun r588 r589 r590 r591 r592 =>
     k r588 r589 r590 r591 r592)
   else
    Option.none
def energy_search_from_r {R : Type} (N : Nat) : Nat → Int → Bool → Int → Int → Int → Int → Int → Arr Int → Int → Int → Arr api_Period → Int → Int → Bool → Arr Int → Bool → Arr Int → Bool → Arr Int → (Int → Arr Int → Arr Int → Bool → Arr Int → Option R) → Option R
  | 0, _, _, _, _, _, _, _, _, _, _, _, _, _, _, _, _, _, _, _, _ => Option.none
  | d + 1, a533, a534, a535, a536, a537, a538, a539, a540, a541, a542, a543, a544, a545, a546, a547, a548, a549, a550, a551, k => energy_search_from_t N (energy_search_from_r N d) a533 a534 a535 a536 a537 a538 a539 a540 a541 a542 a543 a544 a545 a546 a547 a548 a549 a550 a551 k
def energy_search_from_m {R : Type} (N : Nat) (a533 : Int) (a534 : Bool) (a535 : Int) (a536 : Int) (a537 : Int) (a538 : Int) (a539 : Int) (a540 : Arr Int) (a541 : Int) (a542 : Int) (a543 : Arr api_Period) (a544 : Int) (a545 : Int) (a546 : Bool) (a547 : Arr Int) (a548 : Bool) (a549 : Arr Int) (a550 : Bool) (a551 : Arr Int) (k : Int → Arr Int → Arr Int → Bool → Arr Int → Option R) : Option R := energy_search_from_r N N a533 a534 a535 a536 a537 a538 a539 a540 a541 a542 a543 a544 a545 a546 a547 a548 a549 a550 a551 k
noncomputable def energy_search_from {R : Type} : Nat → Int → Bool → Int → Int → Int → Int → Int → Arr Int → Int → Int → Arr api_Period → Int → Int → Bool → Arr Int → Bool → Arr Int → Bool → Arr Int → (Int → Arr Int → Arr Int → Bool → Arr Int → Option R) → Option R := lock (@energy_search_from_m R)
theorem energy_search_from_def {R : Type} (N : Nat) (a533 : Int) (a534 : Bool) (a535 : Int) (a536 : Int) (a537 : Int) (a538 : Int) (a539 : Int) (a540 : Arr Int) (a541 : Int) (a542 : Int) (a543 : Arr api_Period) (a544 : Int) (a545 : Int) (a546 : Bool) (a547 : Arr Int) (a548 : Bool) (a549 : Arr Int) (a550 : Bool) (a551 : Arr Int) (k : Int → Arr Int → Arr Int → Bool → Arr Int → Option R) : energy_search_from N a533 a534 a535 a536 a537 a538 a539 a540 a541 a542 a543 a544 a545 a546 a547 a548 a549 a550 a551 k = energy_search_from_m N a533 a534 a535 a536 a537 a538 a539 a540 a541 a542 a543 a544 a545 a546 a547 a548 a549 a550 a551 k := by unfold energy_search_from; rw [lock_eq]
def energy_search_from_sp : Sp := ⟨[rPtr 0 0, rInt .i64], [(0, eBlk [rBool, rInt .i64, rInt .i64, rInt .i64, rInt .i64, rInt .i64, rSl intC, rInt .i64, rInt .i64, rSl api_PeriodC, rInt .i64, rRow 1, rRow 2, rRow 3, rInt .i64]), (1, eRow intC), (2, eRow intC), (3, eRow intC)]⟩
theorem energy_search_from_sp_ok : energy_search_from_sp.Ok := ⟨(allCons (rPtr_ok 0 0) (allCons (rInt_ok .i64) allNil)), (eCons (eBlk_ok (allCons rBool_ok (allCons (rInt_ok .i64) (allCons (rInt_ok .i64) (allCons (rInt_ok .i64) (allCons (rInt_ok .i64) (allCons (rInt_ok .i64) (allCons (rSl_ok intC_ok) (allCons (rInt_ok .i64) (allCons (rInt_ok .i64) (allCons (rSl_ok api_PeriodC_ok) (allCons (rInt_ok .i64) (allCons (rRow_ok 1) (allCons (rRow_ok 2) (allCons (rRow_ok 3) (allCons (rInt_ok .i64) allNil)))))))))))))))) (eCons (eRow_ok intC_ok) (eCons (eRow_ok intC_ok) (eCons (eRow_ok intC_ok) eNil))))⟩
def energy_search_from_rs : Sp := ⟨[rTup []], [(0, eBlk [rBool, rInt .i64, rInt .i64, rInt .i64, rInt .i64, rInt .i64, rSl intC, rInt .i64, rInt .i64, rSl api_PeriodC, rInt .i64, rRow 1, rRow 2, rRow 4, rInt .i64]), (1, eRow intC), (2, eRow intC), (4, eRow intC)]⟩
theorem energy_search_from_rs_ok : energy_search_from_rs.Ok := ⟨(allCons (rTup_ok allNil) allNil), (eCons (eBlk_ok (allCons rBool_ok (allCons (rInt_ok .i64) (allCons (rInt_ok .i64) (allCons (rInt_ok .i64) (allCons (rInt_ok .i64) (allCons (rInt_ok .i64) (allCons (rSl_ok intC_ok) (allCons (rInt_ok .i64) (allCons (rInt_ok .i64) (allCons (rSl_ok api_PeriodC_ok) (allCons (rInt_ok .i64) (allCons (rRow_ok 1) (allCons (rRow_ok 2) (allCons (rRow_ok 4) (allCons (rInt_ok .i64) allNil)))))))))))))))) (eCons (eRow_ok intC_ok) (eCons (eRow_ok intC_ok) (eCons (eRow_ok intC_ok) eNil))))⟩
def energy_search_from_run {R : Type} (N : Nat) (d : Nat) (args : List SV) (T : Tab) (kf : SV × Tab → Option R) : Option R :=
  energy_search_from_r N d (toI (lget args 1)) (toB (lget (entCs (entAt T 0)) 0)) (toI (lget (entCs (entAt T 0)) 1)) (toI (lget (entCs (entAt T 0)) 2)) (toI (lget (entCs (entAt T 0)) 3)) (toI (lget (entCs (entAt T 0)) 4)) (toI (lget (entCs (entAt T 0)) 5)) (lstC intC (lget (entCs (entAt T 0)) 6)) (toI (lget (entCs (entAt T 0)) 7)) (toI (lget (entCs (entAt T 0)) 8)) (lstC api_PeriodC (lget (entCs (entAt T 0)) 9)) (toI (lget (entCs (entAt T 0)) 10)) (toI (lget (entCs (entAt T 0)) 14)) (entNl (entAt T 1)) (lst intC (entN (entAt T 1)) (entC (entAt T 1))) (entNl (entAt T 2)) (lst intC (entN (entAt T 2)) (entC (entAt T 2))) (entNl (entAt T 3)) (lst intC (entN (entAt T 3)) (entC (entAt T 3))) (fun q11 q13 q15 q16 q17 => kf (lget [.tup []] 0, [(0, .blk [.bool (toB (lget (entCs (entAt T 0)) 0)), .int .i64 (toI (lget (entCs (entAt T 0)) 1)), .int .i64 (toI (lget (entCs (entAt T 0)) 2)), .int .i64 (toI (lget (entCs (entAt T 0)) 3)), .int .i64 (toI (lget (entCs (entAt T 0)) 4)), .int .i64 (toI (lget (entCs (entAt T 0)) 5)), slC intC (lstC intC (lget (entCs (entAt T 0)) 6)), .int .i64 (toI (lget (entCs (entAt T 0)) 7)), .int .i64 (toI (lget (entCs (entAt T 0)) 8)), slC api_PeriodC (lstC api_PeriodC (lget (entCs (entAt T 0)) 9)), .int .i64 (toI (lget (entCs (entAt T 0)) 10)), .row 1, .row 2, .row 4, .int .i64 q11]), (1, rowE intC (entNl (entAt T 1)) q13), (2, rowE intC (entNl (entAt T 2)) q15), (4, rowE intC q16 q17)]))
noncomputable def energy_search_from_cald {R : Type} (N : Nat) (d : Nat) : Cal R := callM (slices_Clone___int_int__cal N) 41 4 energy_search_from_sp (energy_search_from_run N d)
def energy_search_from_d6 {R : Type} (N : Nat) (rf : Int → Bool → Int → Int → Int → Int → Int → Arr Int → Int → Int → Arr api_Period → Int → Int → Bool → Arr Int → Bool → Arr Int → Bool → Arr Int → (Int → Arr Int → Arr Int → Bool → Arr Int → Option R) → Option R) (S0 : St) (k : Exit → St → Option R) : Option R :=
  energy_search_from_l6 N rf N (toI (lget S0.tmps 1)) (lstC intC (lget S0.tmps 62)) (toI (lget S0.tmps 63)) (toI (lget S0.tmps 64)) (toB (lget (entCs (entAt S0.tab 0)) 0)) (toI (lget (entCs (entAt S0.tab 0)) 1)) (toI (lget (entCs (entAt S0.tab 0)) 2)) (toI (lget (entCs (entAt S0.tab 0)) 3)) (toI (lget (entCs (entAt S0.tab 0)) 4)) (toI (lget (entCs (entAt S0.tab 0)) 5)) (lstC intC (lget (entCs (entAt S0.tab 0)) 6)) (toI (lget (entCs (entAt S0.tab 0)) 7)) (toI (lget (entCs (entAt S0.tab 0)) 8)) (lstC api_PeriodC (lget (entCs (entAt S0.tab 0)) 9)) (toI (lget (entCs (entAt S0.tab 0)) 10)) (toI (lget (entCs (entAt S0.tab 0)) 14)) (entNl (entAt S0.tab 1)) (lst intC (entN (entAt S0.tab 1)) (entC (entAt S0.tab 1))) (entNl (entAt S0.tab 2)) (lst intC (entN (entAt S0.tab 2)) (entC (entAt S0.tab 2))) (Cod.dec api_PeriodC (lget (entCs (entAt S0.tab 3)))) (entNl (entAt S0.tab 4)) (lst intC (entN (entAt S0.tab 4)) (entC (entAt S0.tab 4))) (fun q11 q13 q15 q16 q17 => k (.exit 0) (energy_search_from_x6_0 (toB (lget (entCs (entAt S0.tab 0)) 0)) (toI (lget (entCs (entAt S0.tab 0)) 1)) (toI (lget (entCs (entAt S0.tab 0)) 2)) (toI (lget (entCs (entAt S0.tab 0)) 3)) (toI (lget (entCs (entAt S0.tab 0)) 4)) (toI (lget (entCs (entAt S0.tab 0)) 5)) (lstC intC (lget (entCs (entAt S0.tab 0)) 6)) (toI (lget (entCs (entAt S0.tab 0)) 7)) (toI (lget (entCs (entAt S0.tab 0)) 8)) (lstC api_PeriodC (lget (entCs (entAt S0.tab 0)) 9)) (toI (lget (entCs (entAt S0.tab 0)) 10)) (entNl (entAt S0.tab 1)) (entNl (entAt S0.tab 2)) q11 q13 q15 q16 q17))
def energy_search_from_lp {R : Type} (N : Nat) (rf : Int → Bool → Int → Int → Int → Int → Int → Arr Int → Int → Int → Arr api_Period → Int → Int → Bool → Arr Int → Bool → Arr Int → Bool → Arr Int → (Int → Arr Int → Arr Int → Bool → Arr Int → Option R) → Option R) : Lp R := fun body S k => bif (Go.Sx.keyOf body).getD 0 == 6 then energy_search_from_L6.head.raw 4 S (fun S0 => energy_search_from_d6 N rf S0 k) else Option.none
theorem energy_search_from_l6_eq {R : Type} (N : Nat) (d : Nat) (k : Exit → St → Option R) (n : Nat) : ∀ (v0 : Int) (v1 : Arr Int) (v2 : Int) (v3 : Int) (v4 : Bool) (v5 : Int) (v6 : Int) (v7 : Int) (v8 : Int) (v9 : Int) (v10 : Arr Int) (v11 : Int) (v12 : Int) (v13 : Arr api_Period) (v14 : Int) (v15 : Int) (v16 : Bool) (v17 : Arr Int) (v18 : Bool) (v19 : Arr Int) (v20 : api_Period) (v21 : Bool) (v22 : Arr Int), loopM E.Θ (energy_search_from_cald N d) (energy_search_from_lp N (energy_search_from_r N d)) (noJn) 4 energy_search_from_L6 (bodyAt E 41 6) n (energy_search_from_h6 v0 v1 v2 v3 v4 v5 v6 v7 v8 v9 v10 v11 v12 v13 v14 v15 v16 v17 v18 v19 v20 v21 v22) k = energy_search_from_l6 N (energy_search_from_r N d) n v0 v1 v2 v3 v4 v5 v6 v7 v8 v9 v10 v11 v12 v13 v14 v15 v16 v17 v18 v19 v20 v21 v22 (fun q11 q13 q15 q16 q17 => k (.exit 0) (energy_search_from_x6_0 v4 v5 v6 v7 v8 v9 v10 v11 v12 v13 v14 v16 v18 q11 q13 q15 q16 q17)) := by
  induction n with
  | zero => intro v0 v1 v2 v3 v4 v5 v6 v7 v8 v9 v10 v11 v12 v13 v14 v15 v16 v17 v18 v19 v20 v21 v22; rfl
  | succ n ih =>
    intro v0 v1 v2 v3 v4 v5 v6 v7 v8 v9 v10 v11 v12 v13 v14 v15 v16 v17 v18 v19 v20 v21 v22
    refine Eq.trans (b := energy_search_from_b6 N (energy_search_from_r N d) (fun v0 v1 v2 v3 v4 v5 v6 v7 v8 v9 v10 v11 v12 v13 v14 v15 v16 v17 v18 v19 v20 v21 v22 => loopM E.Θ (energy_search_from_cald N d) (energy_search_from_lp N (energy_search_from_r N d)) (noJn) 4 energy_search_from_L6 (bodyAt E 41 6) n (energy_search_from_h6 v0 v1 v2 v3 v4 v5 v6 v7 v8 v9 v10 v11 v12 v13 v14 v15 v16 v17 v18 v19 v20 v21 v22) k) v0 v1 v2 v3 v4 v5 v6 v7 v8 v9 v10 v11 v12 v13 v14 v15 v16 v17 v18 v19 v20 v21 v22 (fun q11 q13 q15 q16 q17 => k (.exit 0) (energy_search_from_x6_0 v4 v5 v6 v7 v8 v9 v10 v11 v12 v13 v14 v16 v18 q11 q13 q15 q16 q17))) (by kernel_rfl) ?_
    have h : (fun (v0 : Int) (v1 : Arr Int) (v2 : Int) (v3 : Int) (v4 : Bool) (v5 : Int) (v6 : Int) (v7 : Int) (v8 : Int) (v9 : Int) (v10 : Arr Int) (v11 : Int) (v12 : Int) (v13 : Arr api_Period) (v14 : Int) (v15 : Int) (v16 : Bool) (v17 : Arr Int) (v18 : Bool) (v19 : Arr Int) (v20 : api_Period) (v21 : Bool) (v22 : Arr Int) => loopM E.Θ (energy_search_from_cald N d) (energy_search_from_lp N (energy_search_from_r N d)) (noJn) 4 energy_search_from_L6 (bodyAt E 41 6) n (energy_search_from_h6 v0 v1 v2 v3 v4 v5 v6 v7 v8 v9 v10 v11 v12 v13 v14 v15 v16 v17 v18 v19 v20 v21 v22) k) = (fun (v0 : Int) (v1 : Arr Int) (v2 : Int) (v3 : Int) (v4 : Bool) (v5 : Int) (v6 : Int) (v7 : Int) (v8 : Int) (v9 : Int) (v10 : Arr Int) (v11 : Int) (v12 : Int) (v13 : Arr api_Period) (v14 : Int) (v15 : Int) (v16 : Bool) (v17 : Arr Int) (v18 : Bool) (v19 : Arr Int) (v20 : api_Period) (v21 : Bool) (v22 : Arr Int) => energy_search_from_l6 N (energy_search_from_r N d) n v0 v1 v2 v3 v4 v5 v6 v7 v8 v9 v10 v11 v12 v13 v14 v15 v16 v17 v18 v19 v20 v21 v22 (fun q11 q13 q15 q16 q17 => k (.exit 0) (energy_search_from_x6_0 v4 v5 v6 v7 v8 v9 v10 v11 v12 v13 v14 v16 v18 q11 q13 q15 q16 q17))) := funext fun v0 => funext fun v1 => funext fun v2 => funext fun v3 => funext fun v4 => funext fun v5 => funext fun v6 => funext fun v7 => funext fun v8 => funext fun v9 => funext fun v10 => funext fun v11 => funext fun v12 => funext fun v13 => funext fun v14 => funext fun v15 => funext fun v16 => funext fun v17 => funext fun v18 => funext fun v19 => funext fun v20 => funext fun v21 => funext fun v22 => ih v0 v1 v2 v3 v4 v5 v6 v7 v8 v9 v10 v11 v12 v13 v14 v15 v16 v17 v18 v19 v20 v21 v22
    rw [h]
    rfl
theorem energy_search_from_k6 {R : Type} (N : Nat) (d : Nat) (hc : CalOk E.P (energy_search_from_cald (R := R) N d)) : LpKey (R := R) E 41 4 (energy_search_from_lp N (energy_search_from_r N d)) 6 :=
  lpKey_of hE hc (jn := noJn) energy_search_from_L6_ok [] kNil (by kernel_rfl) [] jNil (by kernel_rfl) N fun S k =>
    Eq.trans (b := energy_search_from_L6.head.raw 4 S (fun S0 => energy_search_from_d6 N (energy_search_from_r N d) S0 k)) (by kernel_rfl) (congrArg (energy_search_from_L6.head.raw 4 S) (funext fun S0 => Eq.trans (energy_search_from_l6_eq N d k N (toI (lget S0.tmps 1)) (lstC intC (lget S0.tmps 62)) (toI (lget S0.tmps 63)) (toI (lget S0.tmps 64)) (toB (lget (entCs (entAt S0.tab 0)) 0)) (toI (lget (entCs (entAt S0.tab 0)) 1)) (toI (lget (entCs (entAt S0.tab 0)) 2)) (toI (lget (entCs (entAt S0.tab 0)) 3)) (toI (lget (entCs (entAt S0.tab 0)) 4)) (toI (lget (entCs (entAt S0.tab 0)) 5)) (lstC intC (lget (entCs (entAt S0.tab 0)) 6)) (toI (lget (entCs (entAt S0.tab 0)) 7)) (toI (lget (entCs (entAt S0.tab 0)) 8)) (lstC api_PeriodC (lget (entCs (entAt S0.tab 0)) 9)) (toI (lget (entCs (entAt S0.tab 0)) 10)) (toI (lget (entCs (entAt S0.tab 0)) 14)) (entNl (entAt S0.tab 1)) (lst intC (entN (entAt S0.tab 1)) (entC (entAt S0.tab 1))) (entNl (entAt S0.tab 2)) (lst intC (entN (entAt S0.tab 2)) (entC (entAt S0.tab 2))) (Cod.dec api_PeriodC (lget (entCs (entAt S0.tab 3)))) (entNl (entAt S0.tab 4)) (lst intC (entN (entAt S0.tab 4)) (entC (entAt S0.tab 4)))).symm (by kernel_rfl)))
theorem energy_search_from_cald_ok {R : Type} (N : Nat) (d : Nat) : CalOk E.P (energy_search_from_cald (R := R) N d) := by
  induction d with
  | zero => exact callM_none (slices_Clone___int_int__cal_ok N) (fun args T kf => rfl)
  | succ d ih => exact callM_rec hE (slices_Clone___int_int__cal_ok N) ih (lp := energy_search_from_lp N (energy_search_from_r N d)) (jn := noJn) (keys := [6]) (kCons (energy_search_from_k6 N d ih) kNil) (by kernel_rfl) (js := []) jNil (by kernel_rfl) energy_search_from_sp_ok energy_search_from_rs_ok (fun args T kf => by kernel_rfl)
noncomputable def energy_search_from_go {R : Type} (N : Nat) (args : List SV) (T : Tab) (kf : SV × Tab → Option R) : Option R :=
  energy_search_from N (toI (lget args 1)) (toB (lget (entCs (entAt T 0)) 0)) (toI (lget (entCs (entAt T 0)) 1)) (toI (lget (entCs (entAt T 0)) 2)) (toI (lget (entCs (entAt T 0)) 3)) (toI (lget (entCs (entAt T 0)) 4)) (toI (lget (entCs (entAt T 0)) 5)) (lstC intC (lget (entCs (entAt T 0)) 6)) (toI (lget (entCs (entAt T 0)) 7)) (toI (lget (entCs (entAt T 0)) 8)) (lstC api_PeriodC (lget (entCs (entAt T 0)) 9)) (toI (lget (entCs (entAt T 0)) 10)) (toI (lget (entCs (entAt T 0)) 14)) (entNl (entAt T 1)) (lst intC (entN (entAt T 1)) (entC (entAt T 1))) (entNl (entAt T 2)) (lst intC (entN (entAt T 2)) (entC (entAt T 2))) (entNl (entAt T 3)) (lst intC (entN (entAt T 3)) (entC (entAt T 3))) (fun q11 q13 q15 q16 q17 => kf (lget [.tup []] 0, [(0, .blk [.bool (toB (lget (entCs (entAt T 0)) 0)), .int .i64 (toI (lget (entCs (entAt T 0)) 1)), .int .i64 (toI (lget (entCs (entAt T 0)) 2)), .int .i64 (toI (lget (entCs (entAt T 0)) 3)), .int .i64 (toI (lget (entCs (entAt T 0)) 4)), .int .i64 (toI (lget (entCs (entAt T 0)) 5)), slC intC (lstC intC (lget (entCs (entAt T 0)) 6)), .int .i64 (toI (lget (entCs (entAt T 0)) 7)), .int .i64 (toI (lget (entCs (entAt T 0)) 8)), slC api_PeriodC (lstC api_PeriodC (lget (entCs (entAt T 0)) 9)), .int .i64 (toI (lget (entCs (entAt T 0)) 10)), .row 1, .row 2, .row 4, .int .i64 q11]), (1, rowE intC (entNl (entAt T 1)) q13), (2, rowE intC (entNl (entAt T 2)) q15), (4, rowE intC q16 q17)]))
noncomputable def energy_search_from_cal {R : Type} (N : Nat) : Cal R := callM (slices_Clone___int_int__cal N) 41 4 energy_search_from_sp (energy_search_from_go N)
theorem energy_search_from_cal_ok {R : Type} (N : Nat) : CalOk E.P (energy_search_from_cal (R := R) N) :=
  callM_eq (fun args T kf => energy_search_from_def N (toI (lget args 1)) (toB (lget (entCs (entAt T 0)) 0)) (toI (lget (entCs (entAt T 0)) 1)) (toI (lget (entCs (entAt T 0)) 2)) (toI (lget (entCs (entAt T 0)) 3)) (toI (lget (entCs (entAt T 0)) 4)) (toI (lget (entCs (entAt T 0)) 5)) (lstC intC (lget (entCs (entAt T 0)) 6)) (toI (lget (entCs (entAt T 0)) 7)) (toI (lget (entCs (entAt T 0)) 8)) (lstC api_PeriodC (lget (entCs (entAt T 0)) 9)) (toI (lget (entCs (entAt T 0)) 10)) (toI (lget (entCs (entAt T 0)) 14)) (entNl (entAt T 1)) (lst intC (entN (entAt T 1)) (entC (entAt T 1))) (entNl (entAt T 2)) (lst intC (entN (entAt T 2)) (entC (entAt T 2))) (entNl (entAt T 3)) (lst intC (entN (entAt T 3)) (entC (entAt T 3))) (fun q11 q13 q15 q16 q17 => kf (lget [.tup []] 0, [(0, .blk [.bool (toB (lget (entCs (entAt T 0)) 0)), .int .i64 (toI (lget (entCs (entAt T 0)) 1)), .int .i64 (toI (lget (entCs (entAt T 0)) 2)), .int .i64 (toI (lget (entCs (entAt T 0)) 3)), .int .i64 (toI (lget (entCs (entAt T 0)) 4)), .int .i64 (toI (lget (entCs (entAt T 0)) 5)), slC intC (lstC intC (lget (entCs (entAt T 0)) 6)), .int .i64 (toI (lget (entCs (entAt T 0)) 7)), .int .i64 (toI (lget (entCs (entAt T 0)) 8)), slC api_PeriodC (lstC api_PeriodC (lget (entCs (entAt T 0)) 9)), .int .i64 (toI (lget (entCs (entAt T 0)) 10)), .row 1, .row 2, .row 4, .int .i64 q11]), (1, rowE intC (entNl (entAt T 1)) q13), (2, rowE intC (entNl (entAt T 2)) q15), (4, rowE intC q16 q17)]))) (energy_search_from_cald_ok N N)


def energy_Cheapest_m {R : Type} (N : Nat) (a420 : api_Band) (a421 : api_Times) (k : Int → Int → Bool → Arr Int → Option R) : Option R :=
  energy_checkTimes N a420 a421 (fun r422 =>
  bif r422 != (0 : Int) then
   k (0 : Int) r422 true (lst intC (0 : Nat) (zeroC [SV.int IntKind.i64 (0 : Int)]))
  else
   bif decide ((↑(Arr.n (api_Times.Periods a421)) : Int) ≤ (↑(Arr.n (api_Times.Periods a421)) : Int)) && decide ((↑(Arr.n (api_Times.Periods a421)) : Int) ≤ (1073741824 : Int)) then
    bif decide ((↑(Arr.n (api_Times.Periods a421)) : Int) ≤ (↑(Arr.n (api_Times.Periods a421)) : Int)) && decide ((↑(Arr.n (api_Times.Periods a421)) : Int) ≤ (1073741824 : Int)) then
     energy_search_from N (0 : Int) (api_Band.Up a420) (api_Band.Pull a420) (api_Band.Drag a420) (api_Band.Body a420) (api_Band.Ride a420) (api_Band.Most a420) (api_Band.Paces a420) (api_Band.Num a420) (api_Band.Den a420) (api_Times.Periods a421) (api_Times.Peak a421) (0 : Int) false (lst intC (Int.toNat (↑(Arr.n (api_Times.Periods a421)) : Int)) (zeroC [SV.int IntKind.i64 (0 : Int)])) false (lst intC (Int.toNat (↑(Arr.n (api_Times.Periods a421)) : Int)) (zeroC [SV.int IntKind.i64 (0 : Int)])) true (lst intC (0 : Nat) (zeroC [SV.int IntKind.i64 (0 : Int)])) (fun r593 r594 r595 r596 r597 =>
     bif r596 then
      k (0 : Int) (3 : Int) true (lst intC (0 : Nat) (zeroC [SV.int IntKind.i64 (0 : Int)]))
     else
      k r593 (0 : Int) r596 r597)
    else
     Option.none
   else
    Option.none)
noncomputable def energy_Cheapest {R : Type} : Nat → api_Band → api_Times → (Int → Int → Bool → Arr Int → Option R) → Option R := lock (@energy_Cheapest_m R)
theorem energy_Cheapest_def {R : Type} (N : Nat) (a420 : api_Band) (a421 : api_Times) (k : Int → Int → Bool → Arr Int → Option R) : energy_Cheapest N a420 a421 k = energy_Cheapest_m N a420 a421 k := by unfold energy_Cheapest; rw [lock_eq]
def energy_Cheapest_sp : Sp := ⟨[rAgg api_BandC, rAgg api_TimesC], []⟩
theorem energy_Cheapest_sp_ok : energy_Cheapest_sp.Ok := ⟨(allCons (rAgg_ok api_BandC_ok api_BandC_len) (allCons (rAgg_ok api_TimesC_ok api_TimesC_len) allNil)), eNil⟩
def energy_Cheapest_rs : Sp := ⟨[rTup [rRow 0, rInt .i64, rInt .i64]], [(0, eRow intC)]⟩
theorem energy_Cheapest_rs_ok : energy_Cheapest_rs.Ok := ⟨(allCons (rTup_ok (allCons (rRow_ok 0) (allCons (rInt_ok .i64) (allCons (rInt_ok .i64) allNil)))) allNil), (eCons (eRow_ok intC_ok) eNil)⟩
def energy_Cheapest_run {R : Type} (N : Nat) (args : List SV) (T : Tab) (kf : SV × Tab → Option R) : Option R :=
  energy_Cheapest_m N (Cod.dec api_BandC (lget (toCs (lget args 0)))) (Cod.dec api_TimesC (lget (toCs (lget args 1)))) (fun q0 q1 q2 q3 => kf (lget [.tup [.row 0, .int .i64 q0, .int .i64 q1]] 0, [(0, rowE intC q2 q3)]))
def energy_Cheapest_lp {R : Type} (N : Nat) : Lp R := fun body S k => Option.none
noncomputable def energy_Cheapest_go {R : Type} (N : Nat) (args : List SV) (T : Tab) (kf : SV × Tab → Option R) : Option R :=
  energy_Cheapest N (Cod.dec api_BandC (lget (toCs (lget args 0)))) (Cod.dec api_TimesC (lget (toCs (lget args 1)))) (fun q0 q1 q2 q3 => kf (lget [.tup [.row 0, .int .i64 q0, .int .i64 q1]] 0, [(0, rowE intC q2 q3)]))
noncomputable def energy_Cheapest_cal {R : Type} (N : Nat) : Cal R := callM (energy_search_from_cal N) 15 0 energy_Cheapest_sp (energy_Cheapest_go N)
theorem energy_Cheapest_cal_ok {R : Type} (N : Nat) : CalOk E.P (energy_Cheapest_cal (R := R) N) :=
  callM_ok hE (energy_search_from_cal_ok N) (lp := energy_Cheapest_lp N) (jn := noJn) (keys := []) kNil (by kernel_rfl) (js := []) jNil (by kernel_rfl) energy_Cheapest_sp_ok energy_Cheapest_rs_ok (fun args T kf => Eq.trans (energy_Cheapest_def N (Cod.dec api_BandC (lget (toCs (lget args 0)))) (Cod.dec api_TimesC (lget (toCs (lget args 1)))) (fun q0 q1 q2 q3 => kf (lget [.tup [.row 0, .int .i64 q0, .int .i64 q1]] 0, [(0, rowE intC q2 q3)]))) (by kernel_rfl : energy_Cheapest_run N args T kf = fnM E (energy_search_from_cal N) (energy_Cheapest_lp N) (noJn) 15 (energy_Cheapest_sp.vs args) (energy_Cheapest_sp.tab T) 0 (resK energy_Cheapest_rs kf)))

def newelref11_Cheapest_L6 : LoopSp := ⟨⟨[2, 3, 4, 5, 7, 8], ⟨(dr 2 ((rPtr 0 0) :: (rPtr 1 0) :: (rRow 2) :: (rInt .i64) :: (dr 1 ((rInt .i64) :: (rInt .i64) :: (dr 86 []))))), [(0, eBlkC api_BandC), (1, eBlkC api_TimesC), (2, eRow intC)]⟩, 3⟩, [(some 0, ⟨[2, 3, 4, 5, 7], ⟨(dr 2 ((rPtr 0 0) :: (rPtr 1 0) :: (rRow 2) :: (rInt .i64) :: (dr 1 ((rInt .i64) :: (dr 87 []))))), [(0, eBlkC api_BandC), (1, eBlkC api_TimesC), (2, eRow intC)]⟩, 3⟩)]⟩
theorem newelref11_Cheapest_L6_ok : newelref11_Cheapest_L6.Ok := ⟨⟨(drCons 2 (allCons (rPtr_ok 0 0) (allCons (rPtr_ok 1 0) (allCons (rRow_ok 2) (allCons (rInt_ok .i64) (drCons 1 (allCons (rInt_ok .i64) (allCons (rInt_ok .i64) (drCons 86 allNil))))))))), (eCons (eBlkC_ok api_BandC_ok api_BandC_len) (eCons (eBlkC_ok api_TimesC_ok api_TimesC_len) (eCons (eRow_ok intC_ok) eNil)))⟩, (xCons ⟨(drCons 2 (allCons (rPtr_ok 0 0) (allCons (rPtr_ok 1 0) (allCons (rRow_ok 2) (allCons (rInt_ok .i64) (drCons 1 (allCons (rInt_ok .i64) (drCons 87 allNil)))))))), (eCons (eBlkC_ok api_BandC_ok api_BandC_len) (eCons (eBlkC_ok api_TimesC_ok api_TimesC_len) (eCons (eRow_ok intC_ok) eNil)))⟩ xNil)⟩
def newelref11_Cheapest_h6 (v601 : Int) (v602 : Int) (v603 : Int) (v604 : api_Band) (v605 : api_Times) (v606 : Bool) (v607 : Arr Int) : St := ⟨(un 2 ((.ptr 0 0) :: (.ptr 1 0) :: (.row 2) :: (.int .i64 v601) :: (un 1 ((.int .i64 v602) :: (.int .i64 v603) :: (un 86 []))))), [(0, .blk (Cod.enc api_BandC v604)), (1, .blk (Cod.enc api_TimesC v605)), (2, rowE intC v606 v607)], 3⟩
def newelref11_Cheapest_x6_0 (v601 : Int) (v604 : api_Band) (v605 : api_Times) (v606 : Bool) (v607 : Arr Int) (q1 : Int) : St := ⟨(un 2 ((.ptr 0 0) :: (.ptr 1 0) :: (.row 2) :: (.int .i64 v601) :: (un 1 ((.int .i64 q1) :: (un 87 []))))), [(0, .blk (Cod.enc api_BandC v604)), (1, .blk (Cod.enc api_TimesC v605)), (2, rowE intC v606 v607)], 3⟩
def newelref11_Cheapest_b6 {R : Type} (N : Nat) (rc : Int → Int → Int → api_Band → api_Times → Bool → Arr Int → Option R) (v601 : Int) (v602 : Int) (v603 : Int) (v604 : api_Band) (v605 : api_Times) (v606 : Bool) (v607 : Arr Int) (k0 : Int → Option R) : Option R :=
  bif decide (v603 < (↑(Arr.n (api_Times.Periods v605)) : Int)) then
   rc v601 (w64 (v602 * (↑(Arr.n (api_Band.Paces v604)) : Int))) (w64 (v603 + (1 : Int))) v604 v605 v606 v607
  else
   k0 v602
def newelref11_Cheapest_l6 {R : Type} (N : Nat) : Nat → Int → Int → Int → api_Band → api_Times → Bool → Arr Int → (Int → Option R) → Option R
  | 0, _, _, _, _, _, _, _, _ => Option.none
  | n + 1, v601, v602, v603, v604, v605, v606, v607, k0 => newelref11_Cheapest_b6 N (fun v601 v602 v603 v604 v605 v606 v607 => newelref11_Cheapest_l6 N n v601 v602 v603 v604 v605 v606 v607 k0) v601 v602 v603 v604 v605 v606 v607 k0

def newelref11_Cheapest_L16 : LoopSp := ⟨⟨[2, 3, 4, 5, 7, 9, 10, 11, 12, 13], ⟨(dr 2 ((rPtr 0 0) :: (rPtr 1 0) :: (rRow 2) :: (rInt .i64) :: (dr 1 ((rInt .i64) :: (dr 1 ((rRow 3) :: (rRow 4) :: (rInt .i64) :: (rInt .i64) :: (rInt .i64) :: (dr 81 []))))))), [(0, eBlkC api_BandC), (1, eBlkC api_TimesC), (2, eRow intC), (3, eRow intC), (4, eRow intC)]⟩, 5⟩, [(some 4, ⟨[2, 3, 4, 5, 7, 9, 10, 11], ⟨(dr 2 ((rPtr 0 0) :: (rPtr 1 0) :: (rRow 2) :: (rInt .i64) :: (dr 1 ((rInt .i64) :: (dr 1 ((rRow 3) :: (rRow 4) :: (rInt .i64) :: (dr 83 []))))))), [(0, eBlkC api_BandC), (1, eBlkC api_TimesC), (2, eRow intC), (3, eRow intC), (4, eRow intC)]⟩, 5⟩)]⟩
theorem newelref11_Cheapest_L16_ok : newelref11_Cheapest_L16.Ok := ⟨⟨(drCons 2 (allCons (rPtr_ok 0 0) (allCons (rPtr_ok 1 0) (allCons (rRow_ok 2) (allCons (rInt_ok .i64) (drCons 1 (allCons (rInt_ok .i64) (drCons 1 (allCons (rRow_ok 3) (allCons (rRow_ok 4) (allCons (rInt_ok .i64) (allCons (rInt_ok .i64) (allCons (rInt_ok .i64) (drCons 81 allNil)))))))))))))), (eCons (eBlkC_ok api_BandC_ok api_BandC_len) (eCons (eBlkC_ok api_TimesC_ok api_TimesC_len) (eCons (eRow_ok intC_ok) (eCons (eRow_ok intC_ok) (eCons (eRow_ok intC_ok) eNil)))))⟩, (xCons ⟨(drCons 2 (allCons (rPtr_ok 0 0) (allCons (rPtr_ok 1 0) (allCons (rRow_ok 2) (allCons (rInt_ok .i64) (drCons 1 (allCons (rInt_ok .i64) (drCons 1 (allCons (rRow_ok 3) (allCons (rRow_ok 4) (allCons (rInt_ok .i64) (drCons 83 allNil)))))))))))), (eCons (eBlkC_ok api_BandC_ok api_BandC_len) (eCons (eBlkC_ok api_TimesC_ok api_TimesC_len) (eCons (eRow_ok intC_ok) (eCons (eRow_ok intC_ok) (eCons (eRow_ok intC_ok) eNil)))))⟩ xNil)⟩
def newelref11_Cheapest_h16 (v622 : Int) (v623 : Int) (v624 : Int) (v625 : Int) (v626 : Int) (v627 : api_Band) (v628 : api_Times) (v629 : Bool) (v630 : Arr Int) (v631 : Bool) (v632 : Arr Int) (v633 : Bool) (v634 : Arr Int) : St := ⟨(un 2 ((.ptr 0 0) :: (.ptr 1 0) :: (.row 2) :: (.int .i64 v622) :: (un 1 ((.int .i64 v623) :: (un 1 ((.row 3) :: (.row 4) :: (.int .i64 v624) :: (.int .i64 v625) :: (.int .i64 v626) :: (un 81 []))))))), [(0, .blk (Cod.enc api_BandC v627)), (1, .blk (Cod.enc api_TimesC v628)), (2, rowE intC v629 v630), (3, rowE intC v631 v632), (4, rowE intC v633 v634)], 5⟩
def newelref11_Cheapest_x16_4 (v622 : Int) (v623 : Int) (v624 : Int) (v627 : api_Band) (v628 : api_Times) (v629 : Bool) (v630 : Arr Int) (v631 : Bool) (v633 : Bool) (v634 : Arr Int) (q8 : Arr Int) : St := ⟨(un 2 ((.ptr 0 0) :: (.ptr 1 0) :: (.row 2) :: (.int .i64 v622) :: (un 1 ((.int .i64 v623) :: (un 1 ((.row 3) :: (.row 4) :: (.int .i64 v624) :: (un 83 []))))))), [(0, .blk (Cod.enc api_BandC v627)), (1, .blk (Cod.enc api_TimesC v628)), (2, rowE intC v629 v630), (3, rowE intC v631 q8), (4, rowE intC v633 v634)], 5⟩
def newelref11_Cheapest_b16 {R : Type} (N : Nat) (rc : Int → Int → Int → Int → Int → api_Band → api_Times → Bool → Arr Int → Bool → Arr Int → Bool → Arr Int → Option R) (v622 : Int) (v623 : Int) (v624 : Int) (v625 : Int) (v626 : Int) (v627 : api_Band) (v628 : api_Times) (v629 : Bool) (v630 : Arr Int) (v631 : Bool) (v632 : Arr Int) (v633 : Bool) (v634 : Arr Int) (k4 : Arr Int → Option R) : Option R :=
  bif decide (v626 ≥ (0 : Int)) then
   bif (↑(Arr.n (api_Band.Paces v627)) : Int) == (0 : Int) then
    Option.none
   else
    bif decide ((0 : Int) ≤ Int.tmod v625 (↑(Arr.n (api_Band.Paces v627)) : Int)) && decide (Int.tmod v625 (↑(Arr.n (api_Band.Paces v627)) : Int) < (↑(Arr.n (api_Band.Paces v627)) : Int)) then
     bif decide ((0 : Int) ≤ v626) && decide (v626 < (↑(Arr.n v632) : Int)) then
      bif (↑(Arr.n (api_Band.Paces v627)) : Int) == (0 : Int) then
       Option.none
      else
       rc v622 v623 v624 (w64 (Int.tdiv v625 (↑(Arr.n (api_Band.Paces v627)) : Int))) (w64 (v626 - (1 : Int))) v627 v628 v629 v630 v631 (lst intC (Arr.n v632) (setCs (Int.toNat v626) (0 : Nat) (Cod.cell intC (Arr.f v632)) [SV.int IntKind.i64 (Arr.f (api_Band.Paces v627) (Int.toNat (Int.tmod v625 (↑(Arr.n (api_Band.Paces v627)) : Int))))])) v633 v634
     else
      Option.none
    else
     Option.none
  else
   k4 v632
def newelref11_Cheapest_l16 {R : Type} (N : Nat) : Nat → Int → Int → Int → Int → Int → api_Band → api_Times → Bool → Arr Int → Bool → Arr Int → Bool → Arr Int → (Arr Int → Option R) → Option R
  | 0, _, _, _, _, _, _, _, _, _, _, _, _, _, _ => Option.none
  | n + 1, v622, v623, v624, v625, v626, v627, v628, v629, v630, v631, v632, v633, v634, k4 => newelref11_Cheapest_b16 N (fun v622 v623 v624 v625 v626 v627 v628 v629 v630 v631 v632 v633 v634 => newelref11_Cheapest_l16 N n v622 v623 v624 v625 v626 v627 v628 v629 v630 v631 v632 v633 v634 k4) v622 v623 v624 v625 v626 v627 v628 v629 v630 v631 v632 v633 v634 k4

def newelref11_Cheapest_L12 : LoopSp := ⟨⟨[2, 3, 4, 5, 7, 9, 10, 11], ⟨(dr 2 ((rPtr 0 0) :: (rPtr 1 0) :: (rRow 2) :: (rInt .i64) :: (dr 1 ((rInt .i64) :: (dr 1 ((rRow 3) :: (rRow 4) :: (rInt .i64) :: (dr 83 []))))))), [(0, eBlkC api_BandC), (1, eBlkC api_TimesC), (2, eRow intC), (3, eRow intC), (4, eRow intC)]⟩, 5⟩, [(some 2, ⟨[4, 5], ⟨(dr 4 ((rRow 0) :: (rInt .i64) :: (dr 89 []))), [(0, eRow intC)]⟩, 1⟩)]⟩
theorem newelref11_Cheapest_L12_ok : newelref11_Cheapest_L12.Ok := ⟨⟨(drCons 2 (allCons (rPtr_ok 0 0) (allCons (rPtr_ok 1 0) (allCons (rRow_ok 2) (allCons (rInt_ok .i64) (drCons 1 (allCons (rInt_ok .i64) (drCons 1 (allCons (rRow_ok 3) (allCons (rRow_ok 4) (allCons (rInt_ok .i64) (drCons 83 allNil)))))))))))), (eCons (eBlkC_ok api_BandC_ok api_BandC_len) (eCons (eBlkC_ok api_TimesC_ok api_TimesC_len) (eCons (eRow_ok intC_ok) (eCons (eRow_ok intC_ok) (eCons (eRow_ok intC_ok) eNil)))))⟩, (xCons ⟨(drCons 4 (allCons (rRow_ok 0) (allCons (rInt_ok .i64) (drCons 89 allNil)))), (eCons (eRow_ok intC_ok) eNil)⟩ xNil)⟩
def newelref11_Cheapest_h12 (v611 : Int) (v612 : Int) (v613 : Int) (v614 : api_Band) (v615 : api_Times) (v616 : Bool) (v617 : Arr Int) (v618 : Bool) (v619 : Arr Int) (v620 : Bool) (v621 : Arr Int) : St := ⟨(un 2 ((.ptr 0 0) :: (.ptr 1 0) :: (.row 2) :: (.int .i64 v611) :: (un 1 ((.int .i64 v612) :: (un 1 ((.row 3) :: (.row 4) :: (.int .i64 v613) :: (un 83 []))))))), [(0, .blk (Cod.enc api_BandC v614)), (1, .blk (Cod.enc api_TimesC v615)), (2, rowE intC v616 v617), (3, rowE intC v618 v619), (4, rowE intC v620 v621)], 5⟩
def newelref11_Cheapest_x12_2 (q0 : Int) (q1 : Bool) (q2 : Arr Int) : St := ⟨(un 4 ((.row 0) :: (.int .i64 q0) :: (un 89 []))), [(0, rowE intC q1 q2)], 1⟩
def newelref11_Cheapest_b12 {R : Type} (N : Nat) (rc : Int → Int → Int → api_Band → api_Times → Bool → Arr Int → Bool → Arr Int → Bool → Arr Int → Option R) (v611 : Int) (v612 : Int) (v613 : Int) (v614 : api_Band) (v615 : api_Times) (v616 : Bool) (v617 : Arr Int) (v618 : Bool) (v619 : Arr Int) (v620 : Bool) (v621 : Arr Int) (k2 : Int → Bool → Arr Int → Option R) : Option R :=
  bif decide (v613 < v612) then
   newelref11_Cheapest_l16 N N v611 v612 v613 v613 (w64 ((↑(Arr.n v619) : Int) - (1 : Int))) v614 v615 v616 v617 v618 v619 v620 v621 (fun r635 =>
    newelref11_Serves N v614 v615 r635 (fun r636 =>
    bif !r636 then
     rc v611 v612 (w64 (v613 + (1 : Int))) v614 v615 v616 v617 v618 r635 v620 v621
    else
     newelref11_bill N v614 v615 r635 v621 (fun r637 =>
     bif v616 then
      bif room ((0 : Nat) + Arr.n r635) then
       rc r637 v612 (w64 (v613 + (1 : Int))) v614 v615 (bif Arr.n r635 == (0 : Nat) then false else false) (lst intC ((0 : Nat) + Arr.n r635) (catC (0 : Nat) (litC [SV.int IntKind.i64 (0 : Int)] []) (Cod.cell intC (Arr.f r635)))) v618 r635 v620 v621
      else
       Option.none
     else
      bif decide (r637 < v611) then
       bif room ((0 : Nat) + Arr.n r635) then
        rc r637 v612 (w64 (v613 + (1 : Int))) v614 v615 (bif Arr.n r635 == (0 : Nat) then false else false) (lst intC ((0 : Nat) + Arr.n r635) (catC (0 : Nat) (litC [SV.int IntKind.i64 (0 : Int)] []) (Cod.cell intC (Arr.f r635)))) v618 r635 v620 v621
       else
        Option.none
      else
       rc v611 v612 (w64 (v613 + (1 : Int))) v614 v615 v616 v617 v618 r635 v620 v621)))
  else
   k2 v611 v616 v617
def newelref11_Cheapest_l12 {R : Type} (N : Nat) : Nat → Int → Int → Int → api_Band → api_Times → Bool → Arr Int → Bool → Arr Int → Bool → Arr Int → (Int → Bool → Arr Int → Option R) → Option R
  | 0, _, _, _, _, _, _, _, _, _, _, _, _ => Option.none
  | n + 1, v611, v612, v613, v614, v615, v616, v617, v618, v619, v620, v621, k2 => newelref11_Cheapest_b12 N (fun v611 v612 v613 v614 v615 v616 v617 v618 v619 v620 v621 => newelref11_Cheapest_l12 N n v611 v612 v613 v614 v615 v616 v617 v618 v619 v620 v621 k2) v611 v612 v613 v614 v615 v616 v617 v618 v619 v620 v621 k2


def newelref11_Cheapest_m {R : Type} (N : Nat) (a598 : api_Band) (a599 : api_Times) (k : Int → Int → Bool → Arr Int → Option R) : Option R :=
  newelref11_CheckTimes N a598 a599 (fun r600 =>
  bif r600 != (0 : Int) then
   k (0 : Int) r600 true (lst intC (0 : Nat) (zeroC [SV.int IntKind.i64 (0 : Int)]))
  else
   newelref11_Cheapest_l6 N N (0 : Int) (1 : Int) (0 : Int) a598 a599 true (lst intC (0 : Nat) (zeroC [SV.int IntKind.i64 (0 : Int)])) (fun r608 =>
    bif decide ((↑(Arr.n (api_Times.Periods a599)) : Int) ≤ (↑(Arr.n (api_Times.Periods a599)) : Int)) && decide ((↑(Arr.n (api_Times.Periods a599)) : Int) ≤ (1073741824 : Int)) then
     newelref11_ends N a598 a599 true (fun r609 r610 =>
     newelref11_Cheapest_l12 N N (0 : Int) r608 (0 : Int) a598 a599 true (lst intC (0 : Nat) (zeroC [SV.int IntKind.i64 (0 : Int)])) false (lst intC (Int.toNat (↑(Arr.n (api_Times.Periods a599)) : Int)) (zeroC [SV.int IntKind.i64 (0 : Int)])) r609 r610 (fun r638 r639 r640 =>
      bif r639 then
       k (0 : Int) (3 : Int) true (lst intC (0 : Nat) (zeroC [SV.int IntKind.i64 (0 : Int)]))
      else
       k r638 (0 : Int) r639 r640))
    else
     Option.none))
noncomputable def newelref11_Cheapest {R : Type} : Nat → api_Band → api_Times → (Int → Int → Bool → Arr Int → Option R) → Option R := lock (@newelref11_Cheapest_m R)
theorem newelref11_Cheapest_def {R : Type} (N : Nat) (a598 : api_Band) (a599 : api_Times) (k : Int → Int → Bool → Arr Int → Option R) : newelref11_Cheapest N a598 a599 k = newelref11_Cheapest_m N a598 a599 k := by unfold newelref11_Cheapest; rw [lock_eq]
def newelref11_Cheapest_sp : Sp := ⟨[rAgg api_BandC, rAgg api_TimesC], []⟩
theorem newelref11_Cheapest_sp_ok : newelref11_Cheapest_sp.Ok := ⟨(allCons (rAgg_ok api_BandC_ok api_BandC_len) (allCons (rAgg_ok api_TimesC_ok api_TimesC_len) allNil)), eNil⟩
def newelref11_Cheapest_rs : Sp := ⟨[rTup [rRow 0, rInt .i64, rInt .i64]], [(0, eRow intC)]⟩
theorem newelref11_Cheapest_rs_ok : newelref11_Cheapest_rs.Ok := ⟨(allCons (rTup_ok (allCons (rRow_ok 0) (allCons (rInt_ok .i64) (allCons (rInt_ok .i64) allNil)))) allNil), (eCons (eRow_ok intC_ok) eNil)⟩
def newelref11_Cheapest_run {R : Type} (N : Nat) (args : List SV) (T : Tab) (kf : SV × Tab → Option R) : Option R :=
  newelref11_Cheapest_m N (Cod.dec api_BandC (lget (toCs (lget args 0)))) (Cod.dec api_TimesC (lget (toCs (lget args 1)))) (fun q0 q1 q2 q3 => kf (lget [.tup [.row 0, .int .i64 q0, .int .i64 q1]] 0, [(0, rowE intC q2 q3)]))
def newelref11_Cheapest_d16 {R : Type} (N : Nat) (S0 : St) (k : Exit → St → Option R) : Option R :=
  newelref11_Cheapest_l16 N N (toI (lget S0.tmps 5)) (toI (lget S0.tmps 7)) (toI (lget S0.tmps 11)) (toI (lget S0.tmps 12)) (toI (lget S0.tmps 13)) (Cod.dec api_BandC (lget (entCs (entAt S0.tab 0)))) (Cod.dec api_TimesC (lget (entCs (entAt S0.tab 1)))) (entNl (entAt S0.tab 2)) (lst intC (entN (entAt S0.tab 2)) (entC (entAt S0.tab 2))) (entNl (entAt S0.tab 3)) (lst intC (entN (entAt S0.tab 3)) (entC (entAt S0.tab 3))) (entNl (entAt S0.tab 4)) (lst intC (entN (entAt S0.tab 4)) (entC (entAt S0.tab 4))) (fun q8 => k (.exit 4) (newelref11_Cheapest_x16_4 (toI (lget S0.tmps 5)) (toI (lget S0.tmps 7)) (toI (lget S0.tmps 11)) (Cod.dec api_BandC (lget (entCs (entAt S0.tab 0)))) (Cod.dec api_TimesC (lget (entCs (entAt S0.tab 1)))) (entNl (entAt S0.tab 2)) (lst intC (entN (entAt S0.tab 2)) (entC (entAt S0.tab 2))) (entNl (entAt S0.tab 3)) (entNl (entAt S0.tab 4)) (lst intC (entN (entAt S0.tab 4)) (entC (entAt S0.tab 4))) q8))
def newelref11_Cheapest_d12 {R : Type} (N : Nat) (S0 : St) (k : Exit → St → Option R) : Option R :=
  newelref11_Cheapest_l12 N N (toI (lget S0.tmps 5)) (toI (lget S0.tmps 7)) (toI (lget S0.tmps 11)) (Cod.dec api_BandC (lget (entCs (entAt S0.tab 0)))) (Cod.dec api_TimesC (lget (entCs (entAt S0.tab 1)))) (entNl (entAt S0.tab 2)) (lst intC (entN (entAt S0.tab 2)) (entC (entAt S0.tab 2))) (entNl (entAt S0.tab 3)) (lst intC (entN (entAt S0.tab 3)) (entC (entAt S0.tab 3))) (entNl (entAt S0.tab 4)) (lst intC (entN (entAt S0.tab 4)) (entC (entAt S0.tab 4))) (fun q0 q1 q2 => k (.exit 2) (newelref11_Cheapest_x12_2 q0 q1 q2))
def newelref11_Cheapest_d6 {R : Type} (N : Nat) (S0 : St) (k : Exit → St → Option R) : Option R :=
  newelref11_Cheapest_l6 N N (toI (lget S0.tmps 5)) (toI (lget S0.tmps 7)) (toI (lget S0.tmps 8)) (Cod.dec api_BandC (lget (entCs (entAt S0.tab 0)))) (Cod.dec api_TimesC (lget (entCs (entAt S0.tab 1)))) (entNl (entAt S0.tab 2)) (lst intC (entN (entAt S0.tab 2)) (entC (entAt S0.tab 2))) (fun q1 => k (.exit 0) (newelref11_Cheapest_x6_0 (toI (lget S0.tmps 5)) (Cod.dec api_BandC (lget (entCs (entAt S0.tab 0)))) (Cod.dec api_TimesC (lget (entCs (entAt S0.tab 1)))) (entNl (entAt S0.tab 2)) (lst intC (entN (entAt S0.tab 2)) (entC (entAt S0.tab 2))) q1))
def newelref11_Cheapest_lp {R : Type} (N : Nat) : Lp R := fun body S k => bif (Go.Sx.keyOf body).getD 0 == 6 then newelref11_Cheapest_L6.head.raw 0 S (fun S0 => newelref11_Cheapest_d6 N S0 k) else bif (Go.Sx.keyOf body).getD 0 == 12 then newelref11_Cheapest_L12.head.raw 0 S (fun S0 => newelref11_Cheapest_d12 N S0 k) else bif (Go.Sx.keyOf body).getD 0 == 16 then newelref11_Cheapest_L16.head.raw 0 S (fun S0 => newelref11_Cheapest_d16 N S0 k) else Option.none
theorem newelref11_Cheapest_l6_eq {R : Type} (N : Nat) (k : Exit → St → Option R) (n : Nat) : ∀ (v0 : Int) (v1 : Int) (v2 : Int) (v3 : api_Band) (v4 : api_Times) (v5 : Bool) (v6 : Arr Int), loopM E.Θ (energy_Cheapest_cal N) (newelref11_Cheapest_lp N) (noJn) 0 newelref11_Cheapest_L6 (bodyAt E 16 6) n (newelref11_Cheapest_h6 v0 v1 v2 v3 v4 v5 v6) k = newelref11_Cheapest_l6 N n v0 v1 v2 v3 v4 v5 v6 (fun q1 => k (.exit 0) (newelref11_Cheapest_x6_0 v0 v3 v4 v5 v6 q1)) := by
  induction n with
  | zero => intro v0 v1 v2 v3 v4 v5 v6; rfl
  | succ n ih =>
    intro v0 v1 v2 v3 v4 v5 v6
    refine Eq.trans (b := newelref11_Cheapest_b6 N (fun v0 v1 v2 v3 v4 v5 v6 => loopM E.Θ (energy_Cheapest_cal N) (newelref11_Cheapest_lp N) (noJn) 0 newelref11_Cheapest_L6 (bodyAt E 16 6) n (newelref11_Cheapest_h6 v0 v1 v2 v3 v4 v5 v6) k) v0 v1 v2 v3 v4 v5 v6 (fun q1 => k (.exit 0) (newelref11_Cheapest_x6_0 v0 v3 v4 v5 v6 q1))) (by kernel_rfl) ?_
    have h : (fun (v0 : Int) (v1 : Int) (v2 : Int) (v3 : api_Band) (v4 : api_Times) (v5 : Bool) (v6 : Arr Int) => loopM E.Θ (energy_Cheapest_cal N) (newelref11_Cheapest_lp N) (noJn) 0 newelref11_Cheapest_L6 (bodyAt E 16 6) n (newelref11_Cheapest_h6 v0 v1 v2 v3 v4 v5 v6) k) = (fun (v0 : Int) (v1 : Int) (v2 : Int) (v3 : api_Band) (v4 : api_Times) (v5 : Bool) (v6 : Arr Int) => newelref11_Cheapest_l6 N n v0 v1 v2 v3 v4 v5 v6 (fun q1 => k (.exit 0) (newelref11_Cheapest_x6_0 v0 v3 v4 v5 v6 q1))) := funext fun v0 => funext fun v1 => funext fun v2 => funext fun v3 => funext fun v4 => funext fun v5 => funext fun v6 => ih v0 v1 v2 v3 v4 v5 v6
    rw [h]
    rfl
theorem newelref11_Cheapest_l12_eq {R : Type} (N : Nat) (k : Exit → St → Option R) (n : Nat) : ∀ (v0 : Int) (v1 : Int) (v2 : Int) (v3 : api_Band) (v4 : api_Times) (v5 : Bool) (v6 : Arr Int) (v7 : Bool) (v8 : Arr Int) (v9 : Bool) (v10 : Arr Int), loopM E.Θ (energy_Cheapest_cal N) (newelref11_Cheapest_lp N) (noJn) 0 newelref11_Cheapest_L12 (bodyAt E 16 12) n (newelref11_Cheapest_h12 v0 v1 v2 v3 v4 v5 v6 v7 v8 v9 v10) k = newelref11_Cheapest_l12 N n v0 v1 v2 v3 v4 v5 v6 v7 v8 v9 v10 (fun q0 q1 q2 => k (.exit 2) (newelref11_Cheapest_x12_2 q0 q1 q2)) := by
  induction n with
  | zero => intro v0 v1 v2 v3 v4 v5 v6 v7 v8 v9 v10; rfl
  | succ n ih =>
    intro v0 v1 v2 v3 v4 v5 v6 v7 v8 v9 v10
    refine Eq.trans (b := newelref11_Cheapest_b12 N (fun v0 v1 v2 v3 v4 v5 v6 v7 v8 v9 v10 => loopM E.Θ (energy_Cheapest_cal N) (newelref11_Cheapest_lp N) (noJn) 0 newelref11_Cheapest_L12 (bodyAt E 16 12) n (newelref11_Cheapest_h12 v0 v1 v2 v3 v4 v5 v6 v7 v8 v9 v10) k) v0 v1 v2 v3 v4 v5 v6 v7 v8 v9 v10 (fun q0 q1 q2 => k (.exit 2) (newelref11_Cheapest_x12_2 q0 q1 q2))) (by kernel_rfl) ?_
    have h : (fun (v0 : Int) (v1 : Int) (v2 : Int) (v3 : api_Band) (v4 : api_Times) (v5 : Bool) (v6 : Arr Int) (v7 : Bool) (v8 : Arr Int) (v9 : Bool) (v10 : Arr Int) => loopM E.Θ (energy_Cheapest_cal N) (newelref11_Cheapest_lp N) (noJn) 0 newelref11_Cheapest_L12 (bodyAt E 16 12) n (newelref11_Cheapest_h12 v0 v1 v2 v3 v4 v5 v6 v7 v8 v9 v10) k) = (fun (v0 : Int) (v1 : Int) (v2 : Int) (v3 : api_Band) (v4 : api_Times) (v5 : Bool) (v6 : Arr Int) (v7 : Bool) (v8 : Arr Int) (v9 : Bool) (v10 : Arr Int) => newelref11_Cheapest_l12 N n v0 v1 v2 v3 v4 v5 v6 v7 v8 v9 v10 (fun q0 q1 q2 => k (.exit 2) (newelref11_Cheapest_x12_2 q0 q1 q2))) := funext fun v0 => funext fun v1 => funext fun v2 => funext fun v3 => funext fun v4 => funext fun v5 => funext fun v6 => funext fun v7 => funext fun v8 => funext fun v9 => funext fun v10 => ih v0 v1 v2 v3 v4 v5 v6 v7 v8 v9 v10
    rw [h]
    rfl
theorem newelref11_Cheapest_l16_eq {R : Type} (N : Nat) (k : Exit → St → Option R) (n : Nat) : ∀ (v0 : Int) (v1 : Int) (v2 : Int) (v3 : Int) (v4 : Int) (v5 : api_Band) (v6 : api_Times) (v7 : Bool) (v8 : Arr Int) (v9 : Bool) (v10 : Arr Int) (v11 : Bool) (v12 : Arr Int), loopM E.Θ (energy_Cheapest_cal N) (newelref11_Cheapest_lp N) (noJn) 0 newelref11_Cheapest_L16 (bodyAt E 16 16) n (newelref11_Cheapest_h16 v0 v1 v2 v3 v4 v5 v6 v7 v8 v9 v10 v11 v12) k = newelref11_Cheapest_l16 N n v0 v1 v2 v3 v4 v5 v6 v7 v8 v9 v10 v11 v12 (fun q8 => k (.exit 4) (newelref11_Cheapest_x16_4 v0 v1 v2 v5 v6 v7 v8 v9 v11 v12 q8)) := by
  induction n with
  | zero => intro v0 v1 v2 v3 v4 v5 v6 v7 v8 v9 v10 v11 v12; rfl
  | succ n ih =>
    intro v0 v1 v2 v3 v4 v5 v6 v7 v8 v9 v10 v11 v12
    refine Eq.trans (b := newelref11_Cheapest_b16 N (fun v0 v1 v2 v3 v4 v5 v6 v7 v8 v9 v10 v11 v12 => loopM E.Θ (energy_Cheapest_cal N) (newelref11_Cheapest_lp N) (noJn) 0 newelref11_Cheapest_L16 (bodyAt E 16 16) n (newelref11_Cheapest_h16 v0 v1 v2 v3 v4 v5 v6 v7 v8 v9 v10 v11 v12) k) v0 v1 v2 v3 v4 v5 v6 v7 v8 v9 v10 v11 v12 (fun q8 => k (.exit 4) (newelref11_Cheapest_x16_4 v0 v1 v2 v5 v6 v7 v8 v9 v11 v12 q8))) (by kernel_rfl) ?_
    have h : (fun (v0 : Int) (v1 : Int) (v2 : Int) (v3 : Int) (v4 : Int) (v5 : api_Band) (v6 : api_Times) (v7 : Bool) (v8 : Arr Int) (v9 : Bool) (v10 : Arr Int) (v11 : Bool) (v12 : Arr Int) => loopM E.Θ (energy_Cheapest_cal N) (newelref11_Cheapest_lp N) (noJn) 0 newelref11_Cheapest_L16 (bodyAt E 16 16) n (newelref11_Cheapest_h16 v0 v1 v2 v3 v4 v5 v6 v7 v8 v9 v10 v11 v12) k) = (fun (v0 : Int) (v1 : Int) (v2 : Int) (v3 : Int) (v4 : Int) (v5 : api_Band) (v6 : api_Times) (v7 : Bool) (v8 : Arr Int) (v9 : Bool) (v10 : Arr Int) (v11 : Bool) (v12 : Arr Int) => newelref11_Cheapest_l16 N n v0 v1 v2 v3 v4 v5 v6 v7 v8 v9 v10 v11 v12 (fun q8 => k (.exit 4) (newelref11_Cheapest_x16_4 v0 v1 v2 v5 v6 v7 v8 v9 v11 v12 q8))) := funext fun v0 => funext fun v1 => funext fun v2 => funext fun v3 => funext fun v4 => funext fun v5 => funext fun v6 => funext fun v7 => funext fun v8 => funext fun v9 => funext fun v10 => funext fun v11 => funext fun v12 => ih v0 v1 v2 v3 v4 v5 v6 v7 v8 v9 v10 v11 v12
    rw [h]
    rfl
theorem newelref11_Cheapest_k6 {R : Type} (N : Nat) : LpKey (R := R) E 16 0 (newelref11_Cheapest_lp N) 6 :=
  lpKey_of hE (energy_Cheapest_cal_ok N) (jn := noJn) newelref11_Cheapest_L6_ok [] kNil (by kernel_rfl) [] jNil (by kernel_rfl) N fun S k =>
    Eq.trans (b := newelref11_Cheapest_L6.head.raw 0 S (fun S0 => newelref11_Cheapest_d6 N S0 k)) (by kernel_rfl) (congrArg (newelref11_Cheapest_L6.head.raw 0 S) (funext fun S0 => Eq.trans (newelref11_Cheapest_l6_eq N k N (toI (lget S0.tmps 5)) (toI (lget S0.tmps 7)) (toI (lget S0.tmps 8)) (Cod.dec api_BandC (lget (entCs (entAt S0.tab 0)))) (Cod.dec api_TimesC (lget (entCs (entAt S0.tab 1)))) (entNl (entAt S0.tab 2)) (lst intC (entN (entAt S0.tab 2)) (entC (entAt S0.tab 2)))).symm (by kernel_rfl)))
theorem newelref11_Cheapest_k16 {R : Type} (N : Nat) : LpKey (R := R) E 16 0 (newelref11_Cheapest_lp N) 16 :=
  lpKey_of hE (energy_Cheapest_cal_ok N) (jn := noJn) newelref11_Cheapest_L16_ok [] kNil (by kernel_rfl) [] jNil (by kernel_rfl) N fun S k =>
    Eq.trans (b := newelref11_Cheapest_L16.head.raw 0 S (fun S0 => newelref11_Cheapest_d16 N S0 k)) (by kernel_rfl) (congrArg (newelref11_Cheapest_L16.head.raw 0 S) (funext fun S0 => Eq.trans (newelref11_Cheapest_l16_eq N k N (toI (lget S0.tmps 5)) (toI (lget S0.tmps 7)) (toI (lget S0.tmps 11)) (toI (lget S0.tmps 12)) (toI (lget S0.tmps 13)) (Cod.dec api_BandC (lget (entCs (entAt S0.tab 0)))) (Cod.dec api_TimesC (lget (entCs (entAt S0.tab 1)))) (entNl (entAt S0.tab 2)) (lst intC (entN (entAt S0.tab 2)) (entC (entAt S0.tab 2))) (entNl (entAt S0.tab 3)) (lst intC (entN (entAt S0.tab 3)) (entC (entAt S0.tab 3))) (entNl (entAt S0.tab 4)) (lst intC (entN (entAt S0.tab 4)) (entC (entAt S0.tab 4)))).symm (by kernel_rfl)))
theorem newelref11_Cheapest_k12 {R : Type} (N : Nat) : LpKey (R := R) E 16 0 (newelref11_Cheapest_lp N) 12 :=
  lpKey_of hE (energy_Cheapest_cal_ok N) (jn := noJn) newelref11_Cheapest_L12_ok [16] (kCons (newelref11_Cheapest_k16 N) kNil) (by kernel_rfl) [] jNil (by kernel_rfl) N fun S k =>
    Eq.trans (b := newelref11_Cheapest_L12.head.raw 0 S (fun S0 => newelref11_Cheapest_d12 N S0 k)) (by kernel_rfl) (congrArg (newelref11_Cheapest_L12.head.raw 0 S) (funext fun S0 => Eq.trans (newelref11_Cheapest_l12_eq N k N (toI (lget S0.tmps 5)) (toI (lget S0.tmps 7)) (toI (lget S0.tmps 11)) (Cod.dec api_BandC (lget (entCs (entAt S0.tab 0)))) (Cod.dec api_TimesC (lget (entCs (entAt S0.tab 1)))) (entNl (entAt S0.tab 2)) (lst intC (entN (entAt S0.tab 2)) (entC (entAt S0.tab 2))) (entNl (entAt S0.tab 3)) (lst intC (entN (entAt S0.tab 3)) (entC (entAt S0.tab 3))) (entNl (entAt S0.tab 4)) (lst intC (entN (entAt S0.tab 4)) (entC (entAt S0.tab 4)))).symm (by kernel_rfl)))
noncomputable def newelref11_Cheapest_go {R : Type} (N : Nat) (args : List SV) (T : Tab) (kf : SV × Tab → Option R) : Option R :=
  newelref11_Cheapest N (Cod.dec api_BandC (lget (toCs (lget args 0)))) (Cod.dec api_TimesC (lget (toCs (lget args 1)))) (fun q0 q1 q2 q3 => kf (lget [.tup [.row 0, .int .i64 q0, .int .i64 q1]] 0, [(0, rowE intC q2 q3)]))
noncomputable def newelref11_Cheapest_cal {R : Type} (N : Nat) : Cal R := callM (energy_Cheapest_cal N) 16 0 newelref11_Cheapest_sp (newelref11_Cheapest_go N)
theorem newelref11_Cheapest_cal_ok {R : Type} (N : Nat) : CalOk E.P (newelref11_Cheapest_cal (R := R) N) :=
  callM_ok hE (energy_Cheapest_cal_ok N) (lp := newelref11_Cheapest_lp N) (jn := noJn) (keys := [6, 12, 16]) (kCons (newelref11_Cheapest_k6 N) (kCons (newelref11_Cheapest_k12 N) (kCons (newelref11_Cheapest_k16 N) kNil))) (by kernel_rfl) (js := []) jNil (by kernel_rfl) newelref11_Cheapest_sp_ok newelref11_Cheapest_rs_ok (fun args T kf => Eq.trans (newelref11_Cheapest_def N (Cod.dec api_BandC (lget (toCs (lget args 0)))) (Cod.dec api_TimesC (lget (toCs (lget args 1)))) (fun q0 q1 q2 q3 => kf (lget [.tup [.row 0, .int .i64 q0, .int .i64 q1]] 0, [(0, rowE intC q2 q3)]))) (by kernel_rfl : newelref11_Cheapest_run N args T kf = fnM E (energy_Cheapest_cal N) (newelref11_Cheapest_lp N) (noJn) 16 (newelref11_Cheapest_sp.vs args) (newelref11_Cheapest_sp.tab T) 0 (resK newelref11_Cheapest_rs kf)))


def newellaw11_works_m {R : Type} (N : Nat)  (k : Bool → Option R) : Option R :=
  newellaw11_Example N  (fun r641 r642 r643 r644 r645 r646 r647 r648 r649 r650 r651 r652 r653 =>
  energy_Cheapest N (api_Band.mk r641 r642 r643 r644 r645 r646 r651 r647 r648) (api_Times.mk r653 r649) (fun r654 r655 r656 r657 =>
  bif r655 == (0 : Int) then
   newellaw11_sameInts N r657 (lst intC (2 : Nat) (litC [SV.int IntKind.i64 (0 : Int)] [[SV.int IntKind.i64 (5 : Int)], [SV.int IntKind.i64 (10 : Int)]])) (fun r658 =>
   bif r658 then
    k (r654 == (261000 : Int))
   else
    k false)
  else
   k false))
noncomputable def newellaw11_works {R : Type} : Nat → (Bool → Option R) → Option R := lock (@newellaw11_works_m R)
theorem newellaw11_works_def {R : Type} (N : Nat)  (k : Bool → Option R) : newellaw11_works N  k = newellaw11_works_m N  k := by unfold newellaw11_works; rw [lock_eq]
def newellaw11_works_sp : Sp := ⟨[], []⟩
theorem newellaw11_works_sp_ok : newellaw11_works_sp.Ok := ⟨allNil, eNil⟩
def newellaw11_works_rs : Sp := ⟨[rBool], []⟩
theorem newellaw11_works_rs_ok : newellaw11_works_rs.Ok := ⟨(allCons rBool_ok allNil), eNil⟩
def newellaw11_works_run {R : Type} (N : Nat) (args : List SV) (T : Tab) (kf : SV × Tab → Option R) : Option R :=
  newellaw11_works_m N  (fun q0 => kf (lget [.bool q0] 0, []))
def newellaw11_works_lp {R : Type} (N : Nat) : Lp R := fun body S k => Option.none
noncomputable def newellaw11_works_go {R : Type} (N : Nat) (args : List SV) (T : Tab) (kf : SV × Tab → Option R) : Option R :=
  newellaw11_works N  (fun q0 => kf (lget [.bool q0] 0, []))
noncomputable def newellaw11_works_cal {R : Type} (N : Nat) : Cal R := callM (newelref11_Cheapest_cal N) 14 0 newellaw11_works_sp (newellaw11_works_go N)
theorem newellaw11_works_cal_ok {R : Type} (N : Nat) : CalOk E.P (newellaw11_works_cal (R := R) N) :=
  callM_ok hE (newelref11_Cheapest_cal_ok N) (lp := newellaw11_works_lp N) (jn := noJn) (keys := []) kNil (by kernel_rfl) (js := []) jNil (by kernel_rfl) newellaw11_works_sp_ok newellaw11_works_rs_ok (fun args T kf => Eq.trans (newellaw11_works_def N  (fun q0 => kf (lget [.bool q0] 0, []))) (by kernel_rfl : newellaw11_works_run N args T kf = fnM E (newelref11_Cheapest_cal N) (newellaw11_works_lp N) (noJn) 14 (newellaw11_works_sp.vs args) (newellaw11_works_sp.tab T) 0 (resK newellaw11_works_rs kf)))



end
end Go.Proofs.Ytfaefhegfcidpaa
