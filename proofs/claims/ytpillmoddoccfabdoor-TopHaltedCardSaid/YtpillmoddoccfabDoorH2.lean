import Derived.Test.YtpillmoddoccfabDoorH1
set_option maxRecDepth 100000
set_option maxHeartbeats 0
set_option linter.unusedVariables false
namespace Go.Proofs.YtpillmoddoccfabDoor
open Go.Sx
noncomputable section
def circuit_Critical_L6 : LoopSp := ⟨⟨[1, 5, 14, 15], ⟨(dr 1 ((rPtr 0 0) :: (dr 3 ((rRow 1) :: (dr 8 ((rInt .i64) :: (rInt .i64) :: (dr 14 []))))))), [(0, eBlkC api_CircuitC), (1, eRow intC)]⟩, 2⟩, [(some 0, ⟨[5], ⟨(dr 5 ((rRow 0) :: (dr 24 []))), [(0, eRow intC)]⟩, 1⟩)]⟩
theorem circuit_Critical_L6_ok : circuit_Critical_L6.Ok := ⟨⟨(drCons 1 (allCons (rPtr_ok 0 0) (drCons 3 (allCons (rRow_ok 1) (drCons 8 (allCons (rInt_ok .i64) (allCons (rInt_ok .i64) (drCons 14 allNil)))))))), (eCons (eBlkC_ok api_CircuitC_ok api_CircuitC_len) (eCons (eRow_ok intC_ok) eNil))⟩, (xCons ⟨(drCons 5 (allCons (rRow_ok 0) (drCons 24 allNil))), (eCons (eRow_ok intC_ok) eNil)⟩ xNil)⟩
def circuit_Critical_h6 (v232 : Int) (v233 : Int) (v234 : api_Circuit) (v235 : Bool) (v236 : Arr Int) : St := ⟨(un 1 ((.ptr 0 0) :: (un 3 ((.row 1) :: (un 8 ((.int .i64 v232) :: (.int .i64 v233) :: (un 14 []))))))), [(0, .blk (Cod.enc api_CircuitC v234)), (1, rowE intC v235 v236)], 2⟩
def circuit_Critical_x6_0 (q0 : Bool) (q1 : Arr Int) : St := ⟨(un 5 ((.row 0) :: (un 24 []))), [(0, rowE intC q0 q1)], 1⟩
def circuit_Critical_b6 {R : Type} (N : Nat) (rc : Int → Int → api_Circuit → Bool → Arr Int → Option R) (v232 : Int) (v233 : Int) (v234 : api_Circuit) (v235 : Bool) (v236 : Arr Int) (k0 : Bool → Arr Int → Option R) : Option R :=
 bif decide (v233 < v232) then
 bif decide (v233 < (0 : Int)) then
 Option.none
 else
 circuit_weak N v234 (w64 ((1 : Int) * (2 : Int) ^ min (Int.toNat v233) (IntKind.bits IntKind.i64))) (fun r335 r336 =>
 bif decide ((↑(Arr.n r336) : Int) > (0 : Int)) then
 bif room (Arr.n v236 + (1 : Nat)) then
 rc v232 (w64 (v233 + (1 : Int))) v234 false (lst intC (Arr.n v236 + (1 : Nat)) (catC (Arr.n v236) (Cod.cell intC (Arr.f v236)) (litC [SV.int .i64 0] [[SV.int IntKind.i64 v233]])))
 else
 Option.none
 else
 rc v232 (w64 (v233 + (1 : Int))) v234 v235 v236)
 else
 k0 v235 v236
def circuit_Critical_l6 {R : Type} (N : Nat) : Nat → Int → Int → api_Circuit → Bool → Arr Int → (Bool → Arr Int → Option R) → Option R
  | 0, _, _, _, _, _, _ => Option.none
  | n + 1, v232, v233, v234, v235, v236, k0 => circuit_Critical_b6 N (fun v232 v233 v234 v235 v236 => circuit_Critical_l6 N n v232 v233 v234 v235 v236 k0) v232 v233 v234 v235 v236 k0
def circuit_Critical_m {R : Type} (N : Nat) (a125 : api_Circuit) (k : Int → Bool → Arr Int → Option R) : Option R :=
 circuit_Check N a125 (fun r231 =>
 bif r231 != (0 : Int) then
 k r231 true (lst intC (0 : Nat) (zeroC [SV.int .i64 0]))
 else
 circuit_Critical_l6 N N ((↑(Arr.n (api_Circuit.Switches a125)) : Int)) (0 : Int) a125 true (lst intC (0 : Nat) (zeroC [SV.int .i64 0])) (fun r337 r338 =>
 k (0 : Int) r337 r338))
noncomputable def circuit_Critical {R : Type} : Nat → api_Circuit → (Int → Bool → Arr Int → Option R) → Option R := lock (@circuit_Critical_m R)
theorem circuit_Critical_def {R : Type} (N : Nat) (a125 : api_Circuit) (k : Int → Bool → Arr Int → Option R) : circuit_Critical N a125 k = circuit_Critical_m N a125 k := by unfold circuit_Critical; rw [lock_eq]
def circuit_Critical_sp : Sp := ⟨[rAgg api_CircuitC], []⟩
theorem circuit_Critical_sp_ok : circuit_Critical_sp.Ok := ⟨(allCons (rAgg_ok api_CircuitC_ok api_CircuitC_len) allNil), eNil⟩
def circuit_Critical_rs : Sp := ⟨[rTup [rRow 0, rInt .i64]], [(0, eRow intC)]⟩
theorem circuit_Critical_rs_ok : circuit_Critical_rs.Ok := ⟨(allCons (rTup_ok (allCons (rRow_ok 0) (allCons (rInt_ok .i64) allNil))) allNil), (eCons (eRow_ok intC_ok) eNil)⟩
def circuit_Critical_run {R : Type} (N : Nat) (args : List SV) (T : Tab) (kf : SV × Tab → Option R) : Option R :=
  circuit_Critical_m N (Cod.dec api_CircuitC (lget (toCs (lget args 0)))) (fun q0 q1 q2 => kf (lget [.tup [.row 0, .int .i64 q0]] 0, [(0, rowE intC q1 q2)]))
def circuit_Critical_d6 {R : Type} (N : Nat) (S0 : St) (k : Exit → St → Option R) : Option R :=
  circuit_Critical_l6 N N (toI (lget S0.tmps 14)) (toI (lget S0.tmps 15)) (Cod.dec api_CircuitC (lget (entCs (entAt S0.tab 0)))) (entNl (entAt S0.tab 1)) (lst intC (entN (entAt S0.tab 1)) (entC (entAt S0.tab 1))) (fun q0 q1 => k (.exit 0) (circuit_Critical_x6_0 q0 q1))
def circuit_Critical_lp {R : Type} (N : Nat) : Lp R := fun body S k => bif (Go.Sx.keyOf body).getD 0 == 6 then (circuit_Critical_L6.head.raw 0 S (fun S0 => circuit_Critical_d6 N S0 k)) else Option.none
theorem circuit_Critical_l6_eq {R : Type} (N : Nat) (k : Exit → St → Option R) (n : Nat) : ∀ (v0 : Int) (v1 : Int) (v2 : api_Circuit) (v3 : Bool) (v4 : Arr Int), loopM E.Θ (circuit_weak_cal N) (circuit_Critical_lp N) (noJn) 0 circuit_Critical_L6 (bodyAt E 19 6) n (circuit_Critical_h6 v0 v1 v2 v3 v4) k = circuit_Critical_l6 N n v0 v1 v2 v3 v4 (fun q0 q1 => k (.exit 0) (circuit_Critical_x6_0 q0 q1)) := by
  induction n with
  | zero => intro v0 v1 v2 v3 v4; rfl
  | succ n ih =>
    intro v0 v1 v2 v3 v4
    refine Eq.trans (b := circuit_Critical_b6 N (fun v0 v1 v2 v3 v4 => loopM E.Θ (circuit_weak_cal N) (circuit_Critical_lp N) (noJn) 0 circuit_Critical_L6 (bodyAt E 19 6) n (circuit_Critical_h6 v0 v1 v2 v3 v4) k) v0 v1 v2 v3 v4 (fun q0 q1 => k (.exit 0) (circuit_Critical_x6_0 q0 q1))) (by kernel_rfl) ?_
    have h : (fun (v0 : Int) (v1 : Int) (v2 : api_Circuit) (v3 : Bool) (v4 : Arr Int) => loopM E.Θ (circuit_weak_cal N) (circuit_Critical_lp N) (noJn) 0 circuit_Critical_L6 (bodyAt E 19 6) n (circuit_Critical_h6 v0 v1 v2 v3 v4) k) = (fun (v0 : Int) (v1 : Int) (v2 : api_Circuit) (v3 : Bool) (v4 : Arr Int) => circuit_Critical_l6 N n v0 v1 v2 v3 v4 (fun q0 q1 => k (.exit 0) (circuit_Critical_x6_0 q0 q1))) := funext fun v0 => funext fun v1 => funext fun v2 => funext fun v3 => funext fun v4 => ih v0 v1 v2 v3 v4
    rw [h]
    rfl
theorem circuit_Critical_k6 {R : Type} (N : Nat) : LpKey (R := R) E 19 0 (circuit_Critical_lp N) 6 :=
  lpKey_of hE (circuit_weak_cal_ok N) (lp := circuit_Critical_lp N) (jn := noJn) circuit_Critical_L6_ok [] kNil (by kernel_rfl) [] jNil (by kernel_rfl) N fun S k =>
    Eq.trans (b := circuit_Critical_L6.head.raw 0 S (fun S0 => circuit_Critical_d6 N S0 k)) (by kernel_rfl) (congrArg (circuit_Critical_L6.head.raw 0 S) (funext fun S0 => Eq.trans (circuit_Critical_l6_eq N k N (toI (lget S0.tmps 14)) (toI (lget S0.tmps 15)) (Cod.dec api_CircuitC (lget (entCs (entAt S0.tab 0)))) (entNl (entAt S0.tab 1)) (lst intC (entN (entAt S0.tab 1)) (entC (entAt S0.tab 1)))).symm (by kernel_rfl)))
noncomputable def circuit_Critical_go {R : Type} (N : Nat) (args : List SV) (T : Tab) (kf : SV × Tab → Option R) : Option R :=
  circuit_Critical N (Cod.dec api_CircuitC (lget (toCs (lget args 0)))) (fun q0 q1 q2 => kf (lget [.tup [.row 0, .int .i64 q0]] 0, [(0, rowE intC q1 q2)]))
noncomputable def circuit_Critical_cal {R : Type} (N : Nat) : Cal R := callM (circuit_weak_cal N) 19 0 circuit_Critical_sp (circuit_Critical_go N)
theorem circuit_Critical_cal_ok {R : Type} (N : Nat) : CalOk E.P (circuit_Critical_cal (R := R) N) :=
  callM_ok hE (circuit_weak_cal_ok N) (lp := circuit_Critical_lp N) (jn := noJn) (keys := [6]) (kCons (circuit_Critical_k6 N) kNil) (by kernel_rfl) (js := []) jNil (by kernel_rfl) circuit_Critical_sp_ok circuit_Critical_rs_ok (fun args T kf => Eq.trans (circuit_Critical_def N (Cod.dec api_CircuitC (lget (toCs (lget args 0)))) (fun q0 q1 q2 => kf (lget [.tup [.row 0, .int .i64 q0]] 0, [(0, rowE intC q1 q2)]))) (by kernel_rfl : circuit_Critical_run N args T kf = fnM E (circuit_weak_cal N) (circuit_Critical_lp N) (noJn) 19 (circuit_Critical_sp.vs args) (circuit_Critical_sp.tab T) 0 (resK circuit_Critical_rs kf)))
def sT_within_m {R : Type} (N : Nat) (a345 : Int) (a346 : Int) (a347 : Int) (k : Bool → Option R) : Option R :=
 bif decide (a345 ≥ a346) then
 k (decide (a345 ≤ a347))
 else
 k false
noncomputable def sT_within {R : Type} : Nat → Int → Int → Int → (Bool → Option R) → Option R := lock (@sT_within_m R)
theorem sT_within_def {R : Type} (N : Nat) (a345 : Int) (a346 : Int) (a347 : Int) (k : Bool → Option R) : sT_within N a345 a346 a347 k = sT_within_m N a345 a346 a347 k := by unfold sT_within; rw [lock_eq]
def sT_within_sp : Sp := ⟨[rInt .i64, rInt .i64, rInt .i64], []⟩
theorem sT_within_sp_ok : sT_within_sp.Ok := ⟨(allCons (rInt_ok .i64) (allCons (rInt_ok .i64) (allCons (rInt_ok .i64) allNil))), eNil⟩
def sT_within_rs : Sp := ⟨[rBool], []⟩
theorem sT_within_rs_ok : sT_within_rs.Ok := ⟨(allCons rBool_ok allNil), eNil⟩
def sT_within_run {R : Type} (N : Nat) (args : List SV) (T : Tab) (kf : SV × Tab → Option R) : Option R :=
  sT_within_m N (toI (lget args 0)) (toI (lget args 1)) (toI (lget args 2)) (fun q0 => kf (lget [.bool q0] 0, []))
def sT_within_lp {R : Type} (N : Nat) : Lp R := fun body S k => Option.none
noncomputable def sT_within_go {R : Type} (N : Nat) (args : List SV) (T : Tab) (kf : SV × Tab → Option R) : Option R :=
  sT_within N (toI (lget args 0)) (toI (lget args 1)) (toI (lget args 2)) (fun q0 => kf (lget [.bool q0] 0, []))
noncomputable def sT_within_cal {R : Type} (N : Nat) : Cal R := callM (circuit_Critical_cal N) 79 0 sT_within_sp (sT_within_go N)
theorem sT_within_cal_ok {R : Type} (N : Nat) : CalOk E.P (sT_within_cal (R := R) N) :=
  callM_ok hE (circuit_Critical_cal_ok N) (lp := sT_within_lp N) (jn := noJn) (keys := []) kNil (by kernel_rfl) (js := []) jNil (by kernel_rfl) sT_within_sp_ok sT_within_rs_ok (fun args T kf => Eq.trans (sT_within_def N (toI (lget args 0)) (toI (lget args 1)) (toI (lget args 2)) (fun q0 => kf (lget [.bool q0] 0, []))) (by kernel_rfl : sT_within_run N args T kf = fnM E (circuit_Critical_cal N) (sT_within_lp N) (noJn) 79 (sT_within_sp.vs args) (sT_within_sp.tab T) 0 (resK sT_within_rs kf)))
def slices_Grow___string_string__m {R : Type} (N : Nat) (a358 : Int) (k : Bool → Arr ByteArray → Option R) : Option R :=
 bif decide (a358 < (0 : Int)) then
 Option.none
 else
 bif decide (w64 (a358 - w64 ((↑(0 : Nat) : Int) - (↑(0 : Nat) : Int))) > (0 : Int)) then
 bif decide ((0 : Int) < w64 (a358 - w64 ((↑(0 : Nat) : Int) - (↑(0 : Nat) : Int)))) && decide (w64 (a358 - w64 ((↑(0 : Nat) : Int) - (↑(0 : Nat) : Int))) ≤ (1073741824 : Int)) then
 k false (lst strC (0 : Nat) (zeroC [SV.str (ByteArray.mk (Array.mk []))]))
 else
 Option.none
 else
 k true (lst strC (0 : Nat) fun (x x_1 : Nat) ↦ SV.undef)
noncomputable def slices_Grow___string_string_ {R : Type} : Nat → Int → (Bool → Arr ByteArray → Option R) → Option R := lock (@slices_Grow___string_string__m R)
theorem slices_Grow___string_string__def {R : Type} (N : Nat) (a358 : Int) (k : Bool → Arr ByteArray → Option R) : slices_Grow___string_string_ N a358 k = slices_Grow___string_string__m N a358 k := by unfold slices_Grow___string_string_; rw [lock_eq]
def slices_Grow___string_string__sp : Sp := ⟨[rNilS, rInt .i64], []⟩
theorem slices_Grow___string_string__sp_ok : slices_Grow___string_string__sp.Ok := ⟨(allCons rNilS_ok (allCons (rInt_ok .i64) allNil)), eNil⟩
def slices_Grow___string_string__rs : Sp := ⟨[rRow 0], [(0, eRow strC)]⟩
theorem slices_Grow___string_string__rs_ok : slices_Grow___string_string__rs.Ok := ⟨(allCons (rRow_ok 0) allNil), (eCons (eRow_ok strC_ok) eNil)⟩
def slices_Grow___string_string__run {R : Type} (N : Nat) (args : List SV) (T : Tab) (kf : SV × Tab → Option R) : Option R :=
  slices_Grow___string_string__m N (toI (lget args 1)) (fun q0 q1 => kf (lget [.row 0] 0, [(0, rowE strC q0 q1)]))
def slices_Grow___string_string__lp {R : Type} (N : Nat) : Lp R := fun body S k => Option.none
noncomputable def slices_Grow___string_string__go {R : Type} (N : Nat) (args : List SV) (T : Tab) (kf : SV × Tab → Option R) : Option R :=
  slices_Grow___string_string_ N (toI (lget args 1)) (fun q0 q1 => kf (lget [.row 0] 0, [(0, rowE strC q0 q1)]))
noncomputable def slices_Grow___string_string__cal {R : Type} (N : Nat) : Cal R := callM (sT_within_cal N) 110 0 slices_Grow___string_string__sp (slices_Grow___string_string__go N)
theorem slices_Grow___string_string__cal_ok {R : Type} (N : Nat) : CalOk E.P (slices_Grow___string_string__cal (R := R) N) :=
  callM_ok hE (sT_within_cal_ok N) (lp := slices_Grow___string_string__lp N) (jn := noJn) (keys := []) kNil (by kernel_rfl) (js := []) jNil (by kernel_rfl) slices_Grow___string_string__sp_ok slices_Grow___string_string__rs_ok (fun args T kf => Eq.trans (slices_Grow___string_string__def N (toI (lget args 1)) (fun q0 q1 => kf (lget [.row 0] 0, [(0, rowE strC q0 q1)]))) (by kernel_rfl : slices_Grow___string_string__run N args T kf = fnM E (sT_within_cal N) (slices_Grow___string_string__lp N) (noJn) 110 (slices_Grow___string_string__sp.vs args) (slices_Grow___string_string__sp.tab T) 0 (resK slices_Grow___string_string__rs kf)))
def slices_Concat___string_string__L3 : LoopSp := ⟨⟨[0, 3, 9, 10, 11], ⟨((rSl (lsC strC)) :: (dr 2 ((rInt .i64) :: (dr 5 ((rSl (lsC strC)) :: (rInt .i64) :: (rInt .i64) :: (dr 24 [])))))), []⟩, 0⟩, [(some 0, ⟨[0, 3], ⟨((rSl (lsC strC)) :: (dr 2 ((rInt .i64) :: (dr 32 [])))), []⟩, 0⟩)]⟩
theorem slices_Concat___string_string__L3_ok : slices_Concat___string_string__L3.Ok := ⟨⟨(allCons (rSl_ok (lsC_ok strC_ok)) (drCons 2 (allCons (rInt_ok .i64) (drCons 5 (allCons (rSl_ok (lsC_ok strC_ok)) (allCons (rInt_ok .i64) (allCons (rInt_ok .i64) (drCons 24 allNil)))))))), eNil⟩, (xCons ⟨(allCons (rSl_ok (lsC_ok strC_ok)) (drCons 2 (allCons (rInt_ok .i64) (drCons 32 allNil)))), eNil⟩ xNil)⟩
def slices_Concat___string_string__h3 (v352 : Arr (Arr ByteArray)) (v353 : Int) (v354 : Arr (Arr ByteArray)) (v355 : Int) (v356 : Int) : St := ⟨((slC (lsC strC) v352) :: (un 2 ((.int .i64 v353) :: (un 5 ((slC (lsC strC) v354) :: (.int .i64 v355) :: (.int .i64 v356) :: (un 24 [])))))), [], 0⟩
def slices_Concat___string_string__x3_0 (v352 : Arr (Arr ByteArray)) (q1 : Int) : St := ⟨((slC (lsC strC) v352) :: (un 2 ((.int .i64 q1) :: (un 32 [])))), [], 0⟩
def slices_Concat___string_string__b3 {R : Type} (N : Nat) (rc : Arr (Arr ByteArray) → Int → Arr (Arr ByteArray) → Int → Int → Option R) (v352 : Arr (Arr ByteArray)) (v353 : Int) (v354 : Arr (Arr ByteArray)) (v355 : Int) (v356 : Int) (k0 : Int → Option R) : Option R :=
 bif decide (v356 < v355) then
 bif decide ((0 : Int) ≤ v356) && decide (v356 < (↑(Arr.n v354) : Int)) then
 bif decide (w64 (v353 + (↑(Arr.n (Arr.f v354 (Int.toNat v356))) : Int)) < (0 : Int)) then
 Option.none
 else
 rc v352 (w64 (v353 + (↑(Arr.n (Arr.f v354 (Int.toNat v356))) : Int))) v354 v355 (w64 (v356 + (1 : Int)))
 else
 Option.none
 else
 k0 v353
def slices_Concat___string_string__l3 {R : Type} (N : Nat) : Nat → Arr (Arr ByteArray) → Int → Arr (Arr ByteArray) → Int → Int → (Int → Option R) → Option R
  | 0, _, _, _, _, _, _ => Option.none
  | n + 1, v352, v353, v354, v355, v356, k0 => slices_Concat___string_string__b3 N (fun v352 v353 v354 v355 v356 => slices_Concat___string_string__l3 N n v352 v353 v354 v355 v356 k0) v352 v353 v354 v355 v356 k0
def slices_Concat___string_string__L11 : LoopSp := ⟨⟨[6, 25, 26, 27], ⟨(dr 6 ((rRow 0) :: (dr 18 ((rSl (lsC strC)) :: (rInt .i64) :: (rInt .i64) :: (dr 8 []))))), [(0, eRow strC)]⟩, 1⟩, [(some 2, ⟨[6], ⟨(dr 6 ((rRow 0) :: (dr 29 []))), [(0, eRow strC)]⟩, 1⟩)]⟩
theorem slices_Concat___string_string__L11_ok : slices_Concat___string_string__L11.Ok := ⟨⟨(drCons 6 (allCons (rRow_ok 0) (drCons 18 (allCons (rSl_ok (lsC_ok strC_ok)) (allCons (rInt_ok .i64) (allCons (rInt_ok .i64) (drCons 8 allNil))))))), (eCons (eRow_ok strC_ok) eNil)⟩, (xCons ⟨(drCons 6 (allCons (rRow_ok 0) (drCons 29 allNil))), (eCons (eRow_ok strC_ok) eNil)⟩ xNil)⟩
def slices_Concat___string_string__h11 (v361 : Arr (Arr ByteArray)) (v362 : Int) (v363 : Int) (v364 : Bool) (v365 : Arr ByteArray) : St := ⟨(un 6 ((.row 0) :: (un 18 ((slC (lsC strC) v361) :: (.int .i64 v362) :: (.int .i64 v363) :: (un 8 []))))), [(0, rowE strC v364 v365)], 1⟩
def slices_Concat___string_string__x11_2 (q0 : Bool) (q1 : Arr ByteArray) : St := ⟨(un 6 ((.row 0) :: (un 29 []))), [(0, rowE strC q0 q1)], 1⟩
def slices_Concat___string_string__b11 {R : Type} (N : Nat) (rc : Arr (Arr ByteArray) → Int → Int → Bool → Arr ByteArray → Option R) (v361 : Arr (Arr ByteArray)) (v362 : Int) (v363 : Int) (v364 : Bool) (v365 : Arr ByteArray) (k2 : Bool → Arr ByteArray → Option R) : Option R :=
 bif decide (v363 < v362) then
 bif decide ((0 : Int) ≤ v363) && decide (v363 < (↑(Arr.n v361) : Int)) then
 bif room (Arr.n v365 + Arr.n (Arr.f v361 (Int.toNat v363))) then
 rc v361 v362 (w64 (v363 + (1 : Int))) (bif Arr.n (Arr.f v361 (Int.toNat v363)) == (0 : Nat) then v364 else false) (lst strC (Arr.n v365 + Arr.n (Arr.f v361 (Int.toNat v363))) (catC (Arr.n v365) (Cod.cell strC (Arr.f v365)) (Cod.cell strC (Arr.f (Arr.f v361 (Int.toNat v363))))))
 else
 Option.none
 else
 Option.none
 else
 k2 v364 v365
def slices_Concat___string_string__l11 {R : Type} (N : Nat) : Nat → Arr (Arr ByteArray) → Int → Int → Bool → Arr ByteArray → (Bool → Arr ByteArray → Option R) → Option R
  | 0, _, _, _, _, _, _ => Option.none
  | n + 1, v361, v362, v363, v364, v365, k2 => slices_Concat___string_string__b11 N (fun v361 v362 v363 v364 v365 => slices_Concat___string_string__l11 N n v361 v362 v363 v364 v365 k2) v361 v362 v363 v364 v365 k2
def slices_Concat___string_string__m {R : Type} (N : Nat) (a351 : Arr (Arr ByteArray)) (k : Bool → Arr ByteArray → Option R) : Option R :=
 slices_Concat___string_string__l3 N N a351 (0 : Int) a351 ((↑(Arr.n a351) : Int)) (0 : Int) (fun r357 =>
 slices_Grow___string_string_ N r357 (fun r359 r360 =>
 slices_Concat___string_string__l11 N N a351 ((↑(Arr.n a351) : Int)) (0 : Int) r359 r360 (fun r366 r367 =>
 k r366 r367)))
noncomputable def slices_Concat___string_string_ {R : Type} : Nat → Arr (Arr ByteArray) → (Bool → Arr ByteArray → Option R) → Option R := lock (@slices_Concat___string_string__m R)
theorem slices_Concat___string_string__def {R : Type} (N : Nat) (a351 : Arr (Arr ByteArray)) (k : Bool → Arr ByteArray → Option R) : slices_Concat___string_string_ N a351 k = slices_Concat___string_string__m N a351 k := by unfold slices_Concat___string_string_; rw [lock_eq]
def slices_Concat___string_string__sp : Sp := ⟨[rSl (lsC strC)], []⟩
theorem slices_Concat___string_string__sp_ok : slices_Concat___string_string__sp.Ok := ⟨(allCons (rSl_ok (lsC_ok strC_ok)) allNil), eNil⟩
def slices_Concat___string_string__rs : Sp := ⟨[rRow 0], [(0, eRow strC)]⟩
theorem slices_Concat___string_string__rs_ok : slices_Concat___string_string__rs.Ok := ⟨(allCons (rRow_ok 0) allNil), (eCons (eRow_ok strC_ok) eNil)⟩
def slices_Concat___string_string__run {R : Type} (N : Nat) (args : List SV) (T : Tab) (kf : SV × Tab → Option R) : Option R :=
  slices_Concat___string_string__m N (lstC (lsC strC) (lget args 0)) (fun q0 q1 => kf (lget [.row 0] 0, [(0, rowE strC q0 q1)]))
def slices_Concat___string_string__d11 {R : Type} (N : Nat) (S0 : St) (k : Exit → St → Option R) : Option R :=
  slices_Concat___string_string__l11 N N (lstC (lsC strC) (lget S0.tmps 25)) (toI (lget S0.tmps 26)) (toI (lget S0.tmps 27)) (entNl (entAt S0.tab 0)) (lst strC (entN (entAt S0.tab 0)) (entC (entAt S0.tab 0))) (fun q0 q1 => k (.exit 2) (slices_Concat___string_string__x11_2 q0 q1))
def slices_Concat___string_string__d3 {R : Type} (N : Nat) (S0 : St) (k : Exit → St → Option R) : Option R :=
  slices_Concat___string_string__l3 N N (lstC (lsC strC) (lget S0.tmps 0)) (toI (lget S0.tmps 3)) (lstC (lsC strC) (lget S0.tmps 9)) (toI (lget S0.tmps 10)) (toI (lget S0.tmps 11)) (fun q1 => k (.exit 0) (slices_Concat___string_string__x3_0 (lstC (lsC strC) (lget S0.tmps 0)) q1))
def slices_Concat___string_string__lp {R : Type} (N : Nat) : Lp R := fun body S k => bif (Go.Sx.keyOf body).getD 0 == 3 then (slices_Concat___string_string__L3.head.raw 0 S (fun S0 => slices_Concat___string_string__d3 N S0 k)) else bif (Go.Sx.keyOf body).getD 0 == 11 then (slices_Concat___string_string__L11.head.raw 0 S (fun S0 => slices_Concat___string_string__d11 N S0 k)) else Option.none
theorem slices_Concat___string_string__l3_eq {R : Type} (N : Nat) (k : Exit → St → Option R) (n : Nat) : ∀ (v0 : Arr (Arr ByteArray)) (v1 : Int) (v2 : Arr (Arr ByteArray)) (v3 : Int) (v4 : Int), loopM E.Θ (slices_Grow___string_string__cal N) (slices_Concat___string_string__lp N) (noJn) 0 slices_Concat___string_string__L3 (bodyAt E 109 3) n (slices_Concat___string_string__h3 v0 v1 v2 v3 v4) k = slices_Concat___string_string__l3 N n v0 v1 v2 v3 v4 (fun q1 => k (.exit 0) (slices_Concat___string_string__x3_0 v0 q1)) := by
  induction n with
  | zero => intro v0 v1 v2 v3 v4; rfl
  | succ n ih =>
    intro v0 v1 v2 v3 v4
    refine Eq.trans (b := slices_Concat___string_string__b3 N (fun v0 v1 v2 v3 v4 => loopM E.Θ (slices_Grow___string_string__cal N) (slices_Concat___string_string__lp N) (noJn) 0 slices_Concat___string_string__L3 (bodyAt E 109 3) n (slices_Concat___string_string__h3 v0 v1 v2 v3 v4) k) v0 v1 v2 v3 v4 (fun q1 => k (.exit 0) (slices_Concat___string_string__x3_0 v0 q1))) (by kernel_rfl) ?_
    have h : (fun (v0 : Arr (Arr ByteArray)) (v1 : Int) (v2 : Arr (Arr ByteArray)) (v3 : Int) (v4 : Int) => loopM E.Θ (slices_Grow___string_string__cal N) (slices_Concat___string_string__lp N) (noJn) 0 slices_Concat___string_string__L3 (bodyAt E 109 3) n (slices_Concat___string_string__h3 v0 v1 v2 v3 v4) k) = (fun (v0 : Arr (Arr ByteArray)) (v1 : Int) (v2 : Arr (Arr ByteArray)) (v3 : Int) (v4 : Int) => slices_Concat___string_string__l3 N n v0 v1 v2 v3 v4 (fun q1 => k (.exit 0) (slices_Concat___string_string__x3_0 v0 q1))) := funext fun v0 => funext fun v1 => funext fun v2 => funext fun v3 => funext fun v4 => ih v0 v1 v2 v3 v4
    rw [h]
    rfl
theorem slices_Concat___string_string__l11_eq {R : Type} (N : Nat) (k : Exit → St → Option R) (n : Nat) : ∀ (v0 : Arr (Arr ByteArray)) (v1 : Int) (v2 : Int) (v3 : Bool) (v4 : Arr ByteArray), loopM E.Θ (slices_Grow___string_string__cal N) (slices_Concat___string_string__lp N) (noJn) 0 slices_Concat___string_string__L11 (bodyAt E 109 11) n (slices_Concat___string_string__h11 v0 v1 v2 v3 v4) k = slices_Concat___string_string__l11 N n v0 v1 v2 v3 v4 (fun q0 q1 => k (.exit 2) (slices_Concat___string_string__x11_2 q0 q1)) := by
  induction n with
  | zero => intro v0 v1 v2 v3 v4; rfl
  | succ n ih =>
    intro v0 v1 v2 v3 v4
    refine Eq.trans (b := slices_Concat___string_string__b11 N (fun v0 v1 v2 v3 v4 => loopM E.Θ (slices_Grow___string_string__cal N) (slices_Concat___string_string__lp N) (noJn) 0 slices_Concat___string_string__L11 (bodyAt E 109 11) n (slices_Concat___string_string__h11 v0 v1 v2 v3 v4) k) v0 v1 v2 v3 v4 (fun q0 q1 => k (.exit 2) (slices_Concat___string_string__x11_2 q0 q1))) (by kernel_rfl) ?_
    have h : (fun (v0 : Arr (Arr ByteArray)) (v1 : Int) (v2 : Int) (v3 : Bool) (v4 : Arr ByteArray) => loopM E.Θ (slices_Grow___string_string__cal N) (slices_Concat___string_string__lp N) (noJn) 0 slices_Concat___string_string__L11 (bodyAt E 109 11) n (slices_Concat___string_string__h11 v0 v1 v2 v3 v4) k) = (fun (v0 : Arr (Arr ByteArray)) (v1 : Int) (v2 : Int) (v3 : Bool) (v4 : Arr ByteArray) => slices_Concat___string_string__l11 N n v0 v1 v2 v3 v4 (fun q0 q1 => k (.exit 2) (slices_Concat___string_string__x11_2 q0 q1))) := funext fun v0 => funext fun v1 => funext fun v2 => funext fun v3 => funext fun v4 => ih v0 v1 v2 v3 v4
    rw [h]
    rfl
theorem slices_Concat___string_string__k11 {R : Type} (N : Nat) : LpKey (R := R) E 109 0 (slices_Concat___string_string__lp N) 11 :=
  lpKey_of hE (slices_Grow___string_string__cal_ok N) (lp := slices_Concat___string_string__lp N) (jn := noJn) slices_Concat___string_string__L11_ok [] kNil (by kernel_rfl) [] jNil (by kernel_rfl) N fun S k =>
    Eq.trans (b := slices_Concat___string_string__L11.head.raw 0 S (fun S0 => slices_Concat___string_string__d11 N S0 k)) (by kernel_rfl) (congrArg (slices_Concat___string_string__L11.head.raw 0 S) (funext fun S0 => Eq.trans (slices_Concat___string_string__l11_eq N k N (lstC (lsC strC) (lget S0.tmps 25)) (toI (lget S0.tmps 26)) (toI (lget S0.tmps 27)) (entNl (entAt S0.tab 0)) (lst strC (entN (entAt S0.tab 0)) (entC (entAt S0.tab 0)))).symm (by kernel_rfl)))
theorem slices_Concat___string_string__k3 {R : Type} (N : Nat) : LpKey (R := R) E 109 0 (slices_Concat___string_string__lp N) 3 :=
  lpKey_of hE (slices_Grow___string_string__cal_ok N) (lp := slices_Concat___string_string__lp N) (jn := noJn) slices_Concat___string_string__L3_ok [] kNil (by kernel_rfl) [] jNil (by kernel_rfl) N fun S k =>
    Eq.trans (b := slices_Concat___string_string__L3.head.raw 0 S (fun S0 => slices_Concat___string_string__d3 N S0 k)) (by kernel_rfl) (congrArg (slices_Concat___string_string__L3.head.raw 0 S) (funext fun S0 => Eq.trans (slices_Concat___string_string__l3_eq N k N (lstC (lsC strC) (lget S0.tmps 0)) (toI (lget S0.tmps 3)) (lstC (lsC strC) (lget S0.tmps 9)) (toI (lget S0.tmps 10)) (toI (lget S0.tmps 11))).symm (by kernel_rfl)))
noncomputable def slices_Concat___string_string__go {R : Type} (N : Nat) (args : List SV) (T : Tab) (kf : SV × Tab → Option R) : Option R :=
  slices_Concat___string_string_ N (lstC (lsC strC) (lget args 0)) (fun q0 q1 => kf (lget [.row 0] 0, [(0, rowE strC q0 q1)]))
noncomputable def slices_Concat___string_string__cal {R : Type} (N : Nat) : Cal R := callM (slices_Grow___string_string__cal N) 109 0 slices_Concat___string_string__sp (slices_Concat___string_string__go N)
theorem slices_Concat___string_string__cal_ok {R : Type} (N : Nat) : CalOk E.P (slices_Concat___string_string__cal (R := R) N) :=
  callM_ok hE (slices_Grow___string_string__cal_ok N) (lp := slices_Concat___string_string__lp N) (jn := noJn) (keys := [3, 11]) (kCons (slices_Concat___string_string__k3 N) (kCons (slices_Concat___string_string__k11 N) kNil)) (by kernel_rfl) (js := []) jNil (by kernel_rfl) slices_Concat___string_string__sp_ok slices_Concat___string_string__rs_ok (fun args T kf => Eq.trans (slices_Concat___string_string__def N (lstC (lsC strC) (lget args 0)) (fun q0 q1 => kf (lget [.row 0] 0, [(0, rowE strC q0 q1)]))) (by kernel_rfl : slices_Concat___string_string__run N args T kf = fnM E (slices_Grow___string_string__cal N) (slices_Concat___string_string__lp N) (noJn) 109 (slices_Concat___string_string__sp.vs args) (slices_Concat___string_string__sp.tab T) 0 (resK slices_Concat___string_string__rs kf)))
def sT_names_L3 : LoopSp := ⟨⟨[1, 3, 15, 16, 17], ⟨(dr 1 ((rPtr 0 0) :: (dr 1 ((rRow 1) :: (dr 11 ((rSl api_CounterC) :: (rInt .i64) :: (rInt .i64) :: (dr 23 []))))))), [(0, eBlkC api_MachineC), (1, eRow strC)]⟩, 2⟩, [(some 0, ⟨[1, 3], ⟨(dr 1 ((rPtr 0 0) :: (dr 1 ((rRow 1) :: (dr 37 []))))), [(0, eBlkC api_MachineC), (1, eRow strC)]⟩, 2⟩)]⟩
theorem sT_names_L3_ok : sT_names_L3.Ok := ⟨⟨(drCons 1 (allCons (rPtr_ok 0 0) (drCons 1 (allCons (rRow_ok 1) (drCons 11 (allCons (rSl_ok api_CounterC_ok) (allCons (rInt_ok .i64) (allCons (rInt_ok .i64) (drCons 23 allNil))))))))), (eCons (eBlkC_ok api_MachineC_ok api_MachineC_len) (eCons (eRow_ok strC_ok) eNil))⟩, (xCons ⟨(drCons 1 (allCons (rPtr_ok 0 0) (drCons 1 (allCons (rRow_ok 1) (drCons 37 allNil))))), (eCons (eBlkC_ok api_MachineC_ok api_MachineC_len) (eCons (eRow_ok strC_ok) eNil))⟩ xNil)⟩
def sT_names_h3 (v370 : Arr api_Counter) (v371 : Int) (v372 : Int) (v373 : api_Machine) (v374 : Bool) (v375 : Arr ByteArray) : St := ⟨(un 1 ((.ptr 0 0) :: (un 1 ((.row 1) :: (un 11 ((slC api_CounterC v370) :: (.int .i64 v371) :: (.int .i64 v372) :: (un 23 []))))))), [(0, .blk (Cod.enc api_MachineC v373)), (1, rowE strC v374 v375)], 2⟩
def sT_names_x3_0 (v373 : api_Machine) (q1 : Bool) (q2 : Arr ByteArray) : St := ⟨(un 1 ((.ptr 0 0) :: (un 1 ((.row 1) :: (un 37 []))))), [(0, .blk (Cod.enc api_MachineC v373)), (1, rowE strC q1 q2)], 2⟩
def sT_names_b3 {R : Type} (N : Nat) (rc : Arr api_Counter → Int → Int → api_Machine → Bool → Arr ByteArray → Option R) (v370 : Arr api_Counter) (v371 : Int) (v372 : Int) (v373 : api_Machine) (v374 : Bool) (v375 : Arr ByteArray) (k0 : Bool → Arr ByteArray → Option R) : Option R :=
 bif decide (v372 < v371) then
 bif decide ((0 : Int) ≤ v372) && decide (v372 < (↑(Arr.n v370) : Int)) then
 bif room (Arr.n v375 + (1 : Nat)) then
 rc v370 v371 (w64 (v372 + (1 : Int))) v373 false (lst strC (Arr.n v375 + (1 : Nat)) (catC (Arr.n v375) (Cod.cell strC (Arr.f v375)) (litC [SV.str (ByteArray.mk (Array.mk []))] [[SV.str (api_Counter.Name (Arr.f v370 (Int.toNat v372)))]])))
 else
 Option.none
 else
 Option.none
 else
 k0 v374 v375
def sT_names_l3 {R : Type} (N : Nat) : Nat → Arr api_Counter → Int → Int → api_Machine → Bool → Arr ByteArray → (Bool → Arr ByteArray → Option R) → Option R
  | 0, _, _, _, _, _, _, _ => Option.none
  | n + 1, v370, v371, v372, v373, v374, v375, k0 => sT_names_b3 N (fun v370 v371 v372 v373 v374 v375 => sT_names_l3 N n v370 v371 v372 v373 v374 v375 k0) v370 v371 v372 v373 v374 v375 k0
def sT_names_L8 : LoopSp := ⟨⟨[3, 28, 29, 30], ⟨(dr 3 ((rRow 0) :: (dr 24 ((rSl api_StateC) :: (rInt .i64) :: (rInt .i64) :: (dr 10 []))))), [(0, eRow strC)]⟩, 1⟩, [(some 2, ⟨[3], ⟨(dr 3 ((rRow 0) :: (dr 37 []))), [(0, eRow strC)]⟩, 1⟩)]⟩
theorem sT_names_L8_ok : sT_names_L8.Ok := ⟨⟨(drCons 3 (allCons (rRow_ok 0) (drCons 24 (allCons (rSl_ok api_StateC_ok) (allCons (rInt_ok .i64) (allCons (rInt_ok .i64) (drCons 10 allNil))))))), (eCons (eRow_ok strC_ok) eNil)⟩, (xCons ⟨(drCons 3 (allCons (rRow_ok 0) (drCons 37 allNil))), (eCons (eRow_ok strC_ok) eNil)⟩ xNil)⟩
def sT_names_h8 (v378 : Arr api_State) (v379 : Int) (v380 : Int) (v381 : Bool) (v382 : Arr ByteArray) : St := ⟨(un 3 ((.row 0) :: (un 24 ((slC api_StateC v378) :: (.int .i64 v379) :: (.int .i64 v380) :: (un 10 []))))), [(0, rowE strC v381 v382)], 1⟩
def sT_names_x8_2 (q0 : Bool) (q1 : Arr ByteArray) : St := ⟨(un 3 ((.row 0) :: (un 37 []))), [(0, rowE strC q0 q1)], 1⟩
def sT_names_b8 {R : Type} (N : Nat) (rc : Arr api_State → Int → Int → Bool → Arr ByteArray → Option R) (v378 : Arr api_State) (v379 : Int) (v380 : Int) (v381 : Bool) (v382 : Arr ByteArray) (k2 : Bool → Arr ByteArray → Option R) : Option R :=
 bif decide (v380 < v379) then
 bif decide ((0 : Int) ≤ v380) && decide (v380 < (↑(Arr.n v378) : Int)) then
 bif room (Arr.n v382 + (1 : Nat)) then
 rc v378 v379 (w64 (v380 + (1 : Int))) false (lst strC (Arr.n v382 + (1 : Nat)) (catC (Arr.n v382) (Cod.cell strC (Arr.f v382)) (litC [SV.str (ByteArray.mk (Array.mk []))] [[SV.str (api_State.Name (Arr.f v378 (Int.toNat v380)))]])))
 else
 Option.none
 else
 Option.none
 else
 k2 v381 v382
def sT_names_l8 {R : Type} (N : Nat) : Nat → Arr api_State → Int → Int → Bool → Arr ByteArray → (Bool → Arr ByteArray → Option R) → Option R
  | 0, _, _, _, _, _, _ => Option.none
  | n + 1, v378, v379, v380, v381, v382, k2 => sT_names_b8 N (fun v378 v379 v380 v381 v382 => sT_names_l8 N n v378 v379 v380 v381 v382 k2) v378 v379 v380 v381 v382 k2
def sT_names_m {R : Type} (N : Nat) (a350 : api_Machine) (k : Bool → Arr ByteArray → Option R) : Option R :=
 slices_Concat___string_string_ N (lst (lsC strC) (2 : Nat) (litC [SV.sl SK.nil (CK.cons CK.str CK.nil) (1 : Nat) (0 : Nat) (zeroC [SV.str (ByteArray.mk (Array.mk []))])] [[slC strC (api_Machine.Inputs a350)], [slC strC (api_Machine.Outputs a350)]])) (fun r368 r369 =>
 sT_names_l3 N N (api_Machine.Counters a350) ((↑(Arr.n (api_Machine.Counters a350)) : Int)) (0 : Int) a350 r368 r369 (fun r376 r377 =>
 sT_names_l8 N N (api_Machine.States a350) ((↑(Arr.n (api_Machine.States a350)) : Int)) (0 : Int) r376 r377 (fun r383 r384 =>
 k r383 r384)))
noncomputable def sT_names {R : Type} : Nat → api_Machine → (Bool → Arr ByteArray → Option R) → Option R := lock (@sT_names_m R)
theorem sT_names_def {R : Type} (N : Nat) (a350 : api_Machine) (k : Bool → Arr ByteArray → Option R) : sT_names N a350 k = sT_names_m N a350 k := by unfold sT_names; rw [lock_eq]
def sT_names_sp : Sp := ⟨[rAgg api_MachineC], []⟩
theorem sT_names_sp_ok : sT_names_sp.Ok := ⟨(allCons (rAgg_ok api_MachineC_ok api_MachineC_len) allNil), eNil⟩
def sT_names_rs : Sp := ⟨[rRow 0], [(0, eRow strC)]⟩
theorem sT_names_rs_ok : sT_names_rs.Ok := ⟨(allCons (rRow_ok 0) allNil), (eCons (eRow_ok strC_ok) eNil)⟩
def sT_names_run {R : Type} (N : Nat) (args : List SV) (T : Tab) (kf : SV × Tab → Option R) : Option R :=
  sT_names_m N (Cod.dec api_MachineC (lget (toCs (lget args 0)))) (fun q0 q1 => kf (lget [.row 0] 0, [(0, rowE strC q0 q1)]))
def sT_names_d8 {R : Type} (N : Nat) (S0 : St) (k : Exit → St → Option R) : Option R :=
  sT_names_l8 N N (lstC api_StateC (lget S0.tmps 28)) (toI (lget S0.tmps 29)) (toI (lget S0.tmps 30)) (entNl (entAt S0.tab 0)) (lst strC (entN (entAt S0.tab 0)) (entC (entAt S0.tab 0))) (fun q0 q1 => k (.exit 2) (sT_names_x8_2 q0 q1))
def sT_names_d3 {R : Type} (N : Nat) (S0 : St) (k : Exit → St → Option R) : Option R :=
  sT_names_l3 N N (lstC api_CounterC (lget S0.tmps 15)) (toI (lget S0.tmps 16)) (toI (lget S0.tmps 17)) (Cod.dec api_MachineC (lget (entCs (entAt S0.tab 0)))) (entNl (entAt S0.tab 1)) (lst strC (entN (entAt S0.tab 1)) (entC (entAt S0.tab 1))) (fun q1 q2 => k (.exit 0) (sT_names_x3_0 (Cod.dec api_MachineC (lget (entCs (entAt S0.tab 0)))) q1 q2))
def sT_names_lp {R : Type} (N : Nat) : Lp R := fun body S k => bif (Go.Sx.keyOf body).getD 0 == 3 then (sT_names_L3.head.raw 0 S (fun S0 => sT_names_d3 N S0 k)) else bif (Go.Sx.keyOf body).getD 0 == 8 then (sT_names_L8.head.raw 0 S (fun S0 => sT_names_d8 N S0 k)) else Option.none
theorem sT_names_l3_eq {R : Type} (N : Nat) (k : Exit → St → Option R) (n : Nat) : ∀ (v0 : Arr api_Counter) (v1 : Int) (v2 : Int) (v3 : api_Machine) (v4 : Bool) (v5 : Arr ByteArray), loopM E.Θ (slices_Concat___string_string__cal N) (sT_names_lp N) (noJn) 0 sT_names_L3 (bodyAt E 105 3) n (sT_names_h3 v0 v1 v2 v3 v4 v5) k = sT_names_l3 N n v0 v1 v2 v3 v4 v5 (fun q1 q2 => k (.exit 0) (sT_names_x3_0 v3 q1 q2)) := by
  induction n with
  | zero => intro v0 v1 v2 v3 v4 v5; rfl
  | succ n ih =>
    intro v0 v1 v2 v3 v4 v5
    refine Eq.trans (b := sT_names_b3 N (fun v0 v1 v2 v3 v4 v5 => loopM E.Θ (slices_Concat___string_string__cal N) (sT_names_lp N) (noJn) 0 sT_names_L3 (bodyAt E 105 3) n (sT_names_h3 v0 v1 v2 v3 v4 v5) k) v0 v1 v2 v3 v4 v5 (fun q1 q2 => k (.exit 0) (sT_names_x3_0 v3 q1 q2))) (by kernel_rfl) ?_
    have h : (fun (v0 : Arr api_Counter) (v1 : Int) (v2 : Int) (v3 : api_Machine) (v4 : Bool) (v5 : Arr ByteArray) => loopM E.Θ (slices_Concat___string_string__cal N) (sT_names_lp N) (noJn) 0 sT_names_L3 (bodyAt E 105 3) n (sT_names_h3 v0 v1 v2 v3 v4 v5) k) = (fun (v0 : Arr api_Counter) (v1 : Int) (v2 : Int) (v3 : api_Machine) (v4 : Bool) (v5 : Arr ByteArray) => sT_names_l3 N n v0 v1 v2 v3 v4 v5 (fun q1 q2 => k (.exit 0) (sT_names_x3_0 v3 q1 q2))) := funext fun v0 => funext fun v1 => funext fun v2 => funext fun v3 => funext fun v4 => funext fun v5 => ih v0 v1 v2 v3 v4 v5
    rw [h]
    rfl
theorem sT_names_l8_eq {R : Type} (N : Nat) (k : Exit → St → Option R) (n : Nat) : ∀ (v0 : Arr api_State) (v1 : Int) (v2 : Int) (v3 : Bool) (v4 : Arr ByteArray), loopM E.Θ (slices_Concat___string_string__cal N) (sT_names_lp N) (noJn) 0 sT_names_L8 (bodyAt E 105 8) n (sT_names_h8 v0 v1 v2 v3 v4) k = sT_names_l8 N n v0 v1 v2 v3 v4 (fun q0 q1 => k (.exit 2) (sT_names_x8_2 q0 q1)) := by
  induction n with
  | zero => intro v0 v1 v2 v3 v4; rfl
  | succ n ih =>
    intro v0 v1 v2 v3 v4
    refine Eq.trans (b := sT_names_b8 N (fun v0 v1 v2 v3 v4 => loopM E.Θ (slices_Concat___string_string__cal N) (sT_names_lp N) (noJn) 0 sT_names_L8 (bodyAt E 105 8) n (sT_names_h8 v0 v1 v2 v3 v4) k) v0 v1 v2 v3 v4 (fun q0 q1 => k (.exit 2) (sT_names_x8_2 q0 q1))) (by kernel_rfl) ?_
    have h : (fun (v0 : Arr api_State) (v1 : Int) (v2 : Int) (v3 : Bool) (v4 : Arr ByteArray) => loopM E.Θ (slices_Concat___string_string__cal N) (sT_names_lp N) (noJn) 0 sT_names_L8 (bodyAt E 105 8) n (sT_names_h8 v0 v1 v2 v3 v4) k) = (fun (v0 : Arr api_State) (v1 : Int) (v2 : Int) (v3 : Bool) (v4 : Arr ByteArray) => sT_names_l8 N n v0 v1 v2 v3 v4 (fun q0 q1 => k (.exit 2) (sT_names_x8_2 q0 q1))) := funext fun v0 => funext fun v1 => funext fun v2 => funext fun v3 => funext fun v4 => ih v0 v1 v2 v3 v4
    rw [h]
    rfl
theorem sT_names_k8 {R : Type} (N : Nat) : LpKey (R := R) E 105 0 (sT_names_lp N) 8 :=
  lpKey_of hE (slices_Concat___string_string__cal_ok N) (lp := sT_names_lp N) (jn := noJn) sT_names_L8_ok [] kNil (by kernel_rfl) [] jNil (by kernel_rfl) N fun S k =>
    Eq.trans (b := sT_names_L8.head.raw 0 S (fun S0 => sT_names_d8 N S0 k)) (by kernel_rfl) (congrArg (sT_names_L8.head.raw 0 S) (funext fun S0 => Eq.trans (sT_names_l8_eq N k N (lstC api_StateC (lget S0.tmps 28)) (toI (lget S0.tmps 29)) (toI (lget S0.tmps 30)) (entNl (entAt S0.tab 0)) (lst strC (entN (entAt S0.tab 0)) (entC (entAt S0.tab 0)))).symm (by kernel_rfl)))
theorem sT_names_k3 {R : Type} (N : Nat) : LpKey (R := R) E 105 0 (sT_names_lp N) 3 :=
  lpKey_of hE (slices_Concat___string_string__cal_ok N) (lp := sT_names_lp N) (jn := noJn) sT_names_L3_ok [] kNil (by kernel_rfl) [] jNil (by kernel_rfl) N fun S k =>
    Eq.trans (b := sT_names_L3.head.raw 0 S (fun S0 => sT_names_d3 N S0 k)) (by kernel_rfl) (congrArg (sT_names_L3.head.raw 0 S) (funext fun S0 => Eq.trans (sT_names_l3_eq N k N (lstC api_CounterC (lget S0.tmps 15)) (toI (lget S0.tmps 16)) (toI (lget S0.tmps 17)) (Cod.dec api_MachineC (lget (entCs (entAt S0.tab 0)))) (entNl (entAt S0.tab 1)) (lst strC (entN (entAt S0.tab 1)) (entC (entAt S0.tab 1)))).symm (by kernel_rfl)))
noncomputable def sT_names_go {R : Type} (N : Nat) (args : List SV) (T : Tab) (kf : SV × Tab → Option R) : Option R :=
  sT_names N (Cod.dec api_MachineC (lget (toCs (lget args 0)))) (fun q0 q1 => kf (lget [.row 0] 0, [(0, rowE strC q0 q1)]))
noncomputable def sT_names_cal {R : Type} (N : Nat) : Cal R := callM (slices_Concat___string_string__cal N) 105 0 sT_names_sp (sT_names_go N)
theorem sT_names_cal_ok {R : Type} (N : Nat) : CalOk E.P (sT_names_cal (R := R) N) :=
  callM_ok hE (slices_Concat___string_string__cal_ok N) (lp := sT_names_lp N) (jn := noJn) (keys := [3, 8]) (kCons (sT_names_k3 N) (kCons (sT_names_k8 N) kNil)) (by kernel_rfl) (js := []) jNil (by kernel_rfl) sT_names_sp_ok sT_names_rs_ok (fun args T kf => Eq.trans (sT_names_def N (Cod.dec api_MachineC (lget (toCs (lget args 0)))) (fun q0 q1 => kf (lget [.row 0] 0, [(0, rowE strC q0 q1)]))) (by kernel_rfl : sT_names_run N args T kf = fnM E (slices_Concat___string_string__cal N) (sT_names_lp N) (noJn) 105 (sT_names_sp.vs args) (sT_names_sp.tab T) 0 (resK sT_names_rs kf)))
def sT_Plain_L2 : LoopSp := ⟨⟨[0, 6, 7, 8], ⟨((rStr) :: (dr 5 ((rSl (kC .u8)) :: (rInt .i64) :: (rInt .i64) :: (dr 12 [])))), []⟩, 0⟩, [(Option.none, ⟨[2], ⟨(dr 2 ((rBool) :: (dr 18 []))), []⟩, 0⟩), (some 0, ⟨[0], ⟨((rStr) :: (dr 20 [])), []⟩, 0⟩)]⟩
theorem sT_Plain_L2_ok : sT_Plain_L2.Ok := ⟨⟨(allCons rStr_ok (drCons 5 (allCons (rSl_ok (kC_ok .u8)) (allCons (rInt_ok .i64) (allCons (rInt_ok .i64) (drCons 12 allNil)))))), eNil⟩, (xCons ⟨(drCons 2 (allCons rBool_ok (drCons 18 allNil))), eNil⟩ (xCons ⟨(allCons rStr_ok (drCons 20 allNil)), eNil⟩ xNil))⟩
def sT_Plain_h2 (v393 : ByteArray) (v394 : Arr Int) (v395 : Int) (v396 : Int) : St := ⟨((.str v393) :: (un 5 ((slC (kC .u8) v394) :: (.int .i64 v395) :: (.int .i64 v396) :: (un 12 [])))), [], 0⟩
def sT_Plain_x2_r (q0 : Bool) : St := ⟨(un 2 ((.bool q0) :: (un 18 []))), [], 0⟩
def sT_Plain_x2_0 (v393 : ByteArray) : St := ⟨((.str v393) :: (un 20 [])), [], 0⟩
def sT_Plain_b2 {R : Type} (N : Nat) (rc : ByteArray → Arr Int → Int → Int → Option R) (v393 : ByteArray) (v394 : Arr Int) (v395 : Int) (v396 : Int) (kr : Bool → Option R) (k0 : Unit → Option R) : Option R :=
 bif decide (v396 < v395) then
 bif decide ((0 : Int) ≤ v396) && decide (v396 < (↑(Arr.n v394) : Int)) then
 bif decide (Arr.f v394 (Int.toNat v396) < (97 : Int)) then
 kr false
 else
 bif decide (Arr.f v394 (Int.toNat v396) > (122 : Int)) then
 kr false
 else
 rc v393 v394 v395 (w64 (v396 + (1 : Int)))
 else
 Option.none
 else
 k0 ()
def sT_Plain_l2 {R : Type} (N : Nat) : Nat → ByteArray → Arr Int → Int → Int → (Bool → Option R) → (Unit → Option R) → Option R
  | 0, _, _, _, _, _, _ => Option.none
  | n + 1, v393, v394, v395, v396, kr, k0 => sT_Plain_b2 N (fun v393 v394 v395 v396 => sT_Plain_l2 N n v393 v394 v395 v396 kr k0) v393 v394 v395 v396 kr k0
def sT_Plain_m {R : Type} (N : Nat) (a392 : ByteArray) (k : Bool → Option R) : Option R :=
 sT_Plain_l2 N N a392 (lst (kC IntKind.u8) (ByteArray.size a392) (byteC a392)) ((↑(ByteArray.size a392) : Int)) (0 : Int) (fun r397 =>
 k r397) (fun (_ : Unit) =>
 k (!ByteArray.toList a392 == ByteArray.toList (ByteArray.mk #[])))
noncomputable def sT_Plain {R : Type} : Nat → ByteArray → (Bool → Option R) → Option R := lock (@sT_Plain_m R)
theorem sT_Plain_def {R : Type} (N : Nat) (a392 : ByteArray) (k : Bool → Option R) : sT_Plain N a392 k = sT_Plain_m N a392 k := by unfold sT_Plain; rw [lock_eq]
def sT_Plain_sp : Sp := ⟨[rStr], []⟩
theorem sT_Plain_sp_ok : sT_Plain_sp.Ok := ⟨(allCons rStr_ok allNil), eNil⟩
def sT_Plain_rs : Sp := ⟨[rBool], []⟩
theorem sT_Plain_rs_ok : sT_Plain_rs.Ok := ⟨(allCons rBool_ok allNil), eNil⟩
def sT_Plain_run {R : Type} (N : Nat) (args : List SV) (T : Tab) (kf : SV × Tab → Option R) : Option R :=
  sT_Plain_m N (toS (lget args 0)) (fun q0 => kf (lget [.bool q0] 0, []))
def sT_Plain_d2 {R : Type} (N : Nat) (S0 : St) (k : Exit → St → Option R) : Option R :=
  sT_Plain_l2 N N (toS (lget S0.tmps 0)) (lstC (kC .u8) (lget S0.tmps 6)) (toI (lget S0.tmps 7)) (toI (lget S0.tmps 8)) (fun q0 => k .ret (sT_Plain_x2_r q0)) (fun (_ : Unit) => k (.exit 0) (sT_Plain_x2_0 (toS (lget S0.tmps 0))))
def sT_Plain_lp {R : Type} (N : Nat) : Lp R := fun body S k => bif (Go.Sx.keyOf body).getD 0 == 2 then (sT_Plain_L2.head.raw 0 S (fun S0 => sT_Plain_d2 N S0 k)) else Option.none
theorem sT_Plain_l2_eq {R : Type} (N : Nat) (k : Exit → St → Option R) (n : Nat) : ∀ (v0 : ByteArray) (v1 : Arr Int) (v2 : Int) (v3 : Int), loopM E.Θ (sT_names_cal N) (sT_Plain_lp N) (noJn) 0 sT_Plain_L2 (bodyAt E 106 2) n (sT_Plain_h2 v0 v1 v2 v3) k = sT_Plain_l2 N n v0 v1 v2 v3 (fun q0 => k .ret (sT_Plain_x2_r q0)) (fun (_ : Unit) => k (.exit 0) (sT_Plain_x2_0 v0)) := by
  induction n with
  | zero => intro v0 v1 v2 v3; rfl
  | succ n ih =>
    intro v0 v1 v2 v3
    refine Eq.trans (b := sT_Plain_b2 N (fun v0 v1 v2 v3 => loopM E.Θ (sT_names_cal N) (sT_Plain_lp N) (noJn) 0 sT_Plain_L2 (bodyAt E 106 2) n (sT_Plain_h2 v0 v1 v2 v3) k) v0 v1 v2 v3 (fun q0 => k .ret (sT_Plain_x2_r q0)) (fun (_ : Unit) => k (.exit 0) (sT_Plain_x2_0 v0))) (by kernel_rfl) ?_
    have h : (fun (v0 : ByteArray) (v1 : Arr Int) (v2 : Int) (v3 : Int) => loopM E.Θ (sT_names_cal N) (sT_Plain_lp N) (noJn) 0 sT_Plain_L2 (bodyAt E 106 2) n (sT_Plain_h2 v0 v1 v2 v3) k) = (fun (v0 : ByteArray) (v1 : Arr Int) (v2 : Int) (v3 : Int) => sT_Plain_l2 N n v0 v1 v2 v3 (fun q0 => k .ret (sT_Plain_x2_r q0)) (fun (_ : Unit) => k (.exit 0) (sT_Plain_x2_0 v0))) := funext fun v0 => funext fun v1 => funext fun v2 => funext fun v3 => ih v0 v1 v2 v3
    rw [h]
    rfl
theorem sT_Plain_k2 {R : Type} (N : Nat) : LpKey (R := R) E 106 0 (sT_Plain_lp N) 2 :=
  lpKey_of hE (sT_names_cal_ok N) (lp := sT_Plain_lp N) (jn := noJn) sT_Plain_L2_ok [] kNil (by kernel_rfl) [] jNil (by kernel_rfl) N fun S k =>
    Eq.trans (b := sT_Plain_L2.head.raw 0 S (fun S0 => sT_Plain_d2 N S0 k)) (by kernel_rfl) (congrArg (sT_Plain_L2.head.raw 0 S) (funext fun S0 => Eq.trans (sT_Plain_l2_eq N k N (toS (lget S0.tmps 0)) (lstC (kC .u8) (lget S0.tmps 6)) (toI (lget S0.tmps 7)) (toI (lget S0.tmps 8))).symm (by kernel_rfl)))
noncomputable def sT_Plain_go {R : Type} (N : Nat) (args : List SV) (T : Tab) (kf : SV × Tab → Option R) : Option R :=
  sT_Plain N (toS (lget args 0)) (fun q0 => kf (lget [.bool q0] 0, []))
noncomputable def sT_Plain_cal {R : Type} (N : Nat) : Cal R := callM (sT_names_cal N) 106 0 sT_Plain_sp (sT_Plain_go N)
theorem sT_Plain_cal_ok {R : Type} (N : Nat) : CalOk E.P (sT_Plain_cal (R := R) N) :=
  callM_ok hE (sT_names_cal_ok N) (lp := sT_Plain_lp N) (jn := noJn) (keys := [2]) (kCons (sT_Plain_k2 N) kNil) (by kernel_rfl) (js := []) jNil (by kernel_rfl) sT_Plain_sp_ok sT_Plain_rs_ok (fun args T kf => Eq.trans (sT_Plain_def N (toS (lget args 0)) (fun q0 => kf (lget [.bool q0] 0, []))) (by kernel_rfl : sT_Plain_run N args T kf = fnM E (sT_names_cal N) (sT_Plain_lp N) (noJn) 106 (sT_Plain_sp.vs args) (sT_Plain_sp.tab T) 0 (resK sT_Plain_rs kf)))
def sT_Reserved_m {R : Type} (N : Nat) (a399 : ByteArray) (k : Bool → Option R) : Option R :=
 bif ByteArray.toList a399 == ByteArray.toList (ByteArray.mk #[(97 : UInt8), (110 : UInt8), (121 : UInt8)]) then
 k true
 else
 bif ByteArray.toList a399 == ByteArray.toList (ByteArray.mk #[(116 : UInt8), (111 : UInt8)]) then
 k true
 else
 bif ByteArray.toList a399 == ByteArray.toList (ByteArray.mk #[(122 : UInt8), (101 : UInt8), (114 : UInt8), (111 : UInt8)]) then
 k true
 else
 bif ByteArray.toList a399 == ByteArray.toList (ByteArray.mk #[(109 : UInt8), (111 : UInt8), (114 : UInt8), (101 : UInt8)]) then
 k true
 else
 bif ByteArray.toList a399 == ByteArray.toList (ByteArray.mk #[(108 : UInt8), (101 : UInt8), (115 : UInt8), (115 : UInt8)]) then
 k true
 else
 bif ByteArray.toList a399 == ByteArray.toList (ByteArray.mk #[(105 : UInt8), (102 : UInt8)]) then
 k true
 else
 bif ByteArray.toList a399 == ByteArray.toList (ByteArray.mk #[(121 : UInt8), (101 : UInt8), (115 : UInt8)]) then
 k true
 else
 bif ByteArray.toList a399 == ByteArray.toList (ByteArray.mk #[(110 : UInt8), (111 : UInt8)]) then
 k true
 else
 k false
noncomputable def sT_Reserved {R : Type} : Nat → ByteArray → (Bool → Option R) → Option R := lock (@sT_Reserved_m R)
theorem sT_Reserved_def {R : Type} (N : Nat) (a399 : ByteArray) (k : Bool → Option R) : sT_Reserved N a399 k = sT_Reserved_m N a399 k := by unfold sT_Reserved; rw [lock_eq]
def sT_Reserved_sp : Sp := ⟨[rStr], []⟩
theorem sT_Reserved_sp_ok : sT_Reserved_sp.Ok := ⟨(allCons rStr_ok allNil), eNil⟩
def sT_Reserved_rs : Sp := ⟨[rBool], []⟩
theorem sT_Reserved_rs_ok : sT_Reserved_rs.Ok := ⟨(allCons rBool_ok allNil), eNil⟩
def sT_Reserved_run {R : Type} (N : Nat) (args : List SV) (T : Tab) (kf : SV × Tab → Option R) : Option R :=
  sT_Reserved_m N (toS (lget args 0)) (fun q0 => kf (lget [.bool q0] 0, []))
def sT_Reserved_lp {R : Type} (N : Nat) : Lp R := fun body S k => Option.none
noncomputable def sT_Reserved_go {R : Type} (N : Nat) (args : List SV) (T : Tab) (kf : SV × Tab → Option R) : Option R :=
  sT_Reserved N (toS (lget args 0)) (fun q0 => kf (lget [.bool q0] 0, []))
noncomputable def sT_Reserved_cal {R : Type} (N : Nat) : Cal R := callM (sT_Plain_cal N) 107 0 sT_Reserved_sp (sT_Reserved_go N)
theorem sT_Reserved_cal_ok {R : Type} (N : Nat) : CalOk E.P (sT_Reserved_cal (R := R) N) :=
  callM_ok hE (sT_Plain_cal_ok N) (lp := sT_Reserved_lp N) (jn := noJn) (keys := []) kNil (by kernel_rfl) (js := []) jNil (by kernel_rfl) sT_Reserved_sp_ok sT_Reserved_rs_ok (fun args T kf => Eq.trans (sT_Reserved_def N (toS (lget args 0)) (fun q0 => kf (lget [.bool q0] 0, []))) (by kernel_rfl : sT_Reserved_run N args T kf = fnM E (sT_Plain_cal N) (sT_Reserved_lp N) (noJn) 107 (sT_Reserved_sp.vs args) (sT_Reserved_sp.tab T) 0 (resK sT_Reserved_rs kf)))
def sT_named_L3 : LoopSp := ⟨⟨[3, 8, 9, 10], ⟨(dr 3 ((rRow 0) :: (dr 4 ((rRow 1) :: (rInt .i64) :: (rInt .i64) :: (dr 26 []))))), [(0, eMp false false strC intC), (1, eRow strC)]⟩, 2⟩, [(Option.none, ⟨[2], ⟨(dr 2 ((rBool) :: (dr 34 []))), []⟩, 0⟩), (some 0, ⟨[], ⟨(dr 37 []), []⟩, 0⟩)]⟩
theorem sT_named_L3_ok : sT_named_L3.Ok := ⟨⟨(drCons 3 (allCons (rRow_ok 0) (drCons 4 (allCons (rRow_ok 1) (allCons (rInt_ok .i64) (allCons (rInt_ok .i64) (drCons 26 allNil))))))), (eCons (eMp_ok strC_flat intC_flat) (eCons (eRow_ok strC_ok) eNil))⟩, (xCons ⟨(drCons 2 (allCons rBool_ok (drCons 34 allNil))), eNil⟩ (xCons ⟨(drCons 37 allNil), eNil⟩ xNil))⟩
def sT_named_h3 (v387 : Int) (v388 : Int) (v389 : Mp ByteArray Int) (v390 : Bool) (v391 : Arr ByteArray) : St := ⟨(un 3 ((.row 0) :: (un 4 ((.row 1) :: (.int .i64 v387) :: (.int .i64 v388) :: (un 26 []))))), [(0, mpE false false strC intC v389), (1, rowE strC v390 v391)], 2⟩
def sT_named_x3_r (q0 : Bool) : St := ⟨(un 2 ((.bool q0) :: (un 34 []))), [], 0⟩
def sT_named_x3_0  : St := ⟨(un 37 []), [], 0⟩
def sT_named_b3 {R : Type} (N : Nat) (rc : Int → Int → Mp ByteArray Int → Bool → Arr ByteArray → Option R) (v387 : Int) (v388 : Int) (v389 : Mp ByteArray Int) (v390 : Bool) (v391 : Arr ByteArray) (kr : Bool → Option R) (k0 : Unit → Option R) : Option R :=
 bif decide (v388 < v387) then
 bif decide ((0 : Int) ≤ v388) && decide (v388 < (↑(Arr.n v391) : Int)) then
 sT_Plain N (Arr.f v391 (Int.toNat v388)) (fun r398 =>
 bif !r398 then
 kr false
 else
 bif decide ((↑(ByteArray.size (Arr.f v391 (Int.toNat v388))) : Int) > (8 : Int)) then
 kr false
 else
 sT_Reserved N (Arr.f v391 (Int.toNat v388)) (fun r400 =>
 bif r400 then
 kr false
 else
 bif decide (toI (putG [SV.str (Arr.f v391 (Int.toNat v388))] [SV.int IntKind.i64 (w64 (Mp.get v389 (Arr.f v391 (Int.toNat v388)) + (1 : Int)))] (mpG strC intC v389) [SV.str (Arr.f v391 (Int.toNat v388))] (0 : Nat)) > (1 : Int)) then
 kr false
 else
 rc v387 (w64 (v388 + (1 : Int))) (mpD strC intC (putH [SV.str (Arr.f v391 (Int.toNat v388))] (mpH strC v389)) (putG [SV.str (Arr.f v391 (Int.toNat v388))] [SV.int IntKind.i64 (w64 (Mp.get v389 (Arr.f v391 (Int.toNat v388)) + (1 : Int)))] (mpG strC intC v389))) v390 v391))
 else
 Option.none
 else
 k0 ()
def sT_named_l3 {R : Type} (N : Nat) : Nat → Int → Int → Mp ByteArray Int → Bool → Arr ByteArray → (Bool → Option R) → (Unit → Option R) → Option R
  | 0, _, _, _, _, _, _, _ => Option.none
  | n + 1, v387, v388, v389, v390, v391, kr, k0 => sT_named_b3 N (fun v387 v388 v389 v390 v391 => sT_named_l3 N n v387 v388 v389 v390 v391 kr k0) v387 v388 v389 v390 v391 kr k0
def sT_named_m {R : Type} (N : Nat) (a349 : api_Machine) (k : Bool → Option R) : Option R :=
 sT_names N a349 (fun r385 r386 =>
 sT_named_l3 N N ((↑(Arr.n r386) : Int)) (0 : Int) (mpD strC intC noH (noG (CK.cons (CK.int IntKind.i64) CK.nil))) r385 r386 (fun r401 =>
 k r401) (fun (_ : Unit) =>
 k true))
noncomputable def sT_named {R : Type} : Nat → api_Machine → (Bool → Option R) → Option R := lock (@sT_named_m R)
theorem sT_named_def {R : Type} (N : Nat) (a349 : api_Machine) (k : Bool → Option R) : sT_named N a349 k = sT_named_m N a349 k := by unfold sT_named; rw [lock_eq]
def sT_named_sp : Sp := ⟨[rAgg api_MachineC], []⟩
theorem sT_named_sp_ok : sT_named_sp.Ok := ⟨(allCons (rAgg_ok api_MachineC_ok api_MachineC_len) allNil), eNil⟩
def sT_named_rs : Sp := ⟨[rBool], []⟩
theorem sT_named_rs_ok : sT_named_rs.Ok := ⟨(allCons rBool_ok allNil), eNil⟩
def sT_named_run {R : Type} (N : Nat) (args : List SV) (T : Tab) (kf : SV × Tab → Option R) : Option R :=
  sT_named_m N (Cod.dec api_MachineC (lget (toCs (lget args 0)))) (fun q0 => kf (lget [.bool q0] 0, []))
def sT_named_d3 {R : Type} (N : Nat) (S0 : St) (k : Exit → St → Option R) : Option R :=
  sT_named_l3 N N (toI (lget S0.tmps 9)) (toI (lget S0.tmps 10)) (mpD strC intC (entHs (entAt S0.tab 0)) (entGt (entAt S0.tab 0))) (entNl (entAt S0.tab 1)) (lst strC (entN (entAt S0.tab 1)) (entC (entAt S0.tab 1))) (fun q0 => k .ret (sT_named_x3_r q0)) (fun (_ : Unit) => k (.exit 0) (sT_named_x3_0 ))
def sT_named_lp {R : Type} (N : Nat) : Lp R := fun body S k => bif (Go.Sx.keyOf body).getD 0 == 3 then (sT_named_L3.head.raw 0 S (fun S0 => sT_named_d3 N S0 k)) else Option.none
theorem sT_named_l3_eq {R : Type} (N : Nat) (k : Exit → St → Option R) (n : Nat) : ∀ (v0 : Int) (v1 : Int) (v2 : Mp ByteArray Int) (v3 : Bool) (v4 : Arr ByteArray), loopM E.Θ (sT_Reserved_cal N) (sT_named_lp N) (noJn) 0 sT_named_L3 (bodyAt E 96 3) n (sT_named_h3 v0 v1 v2 v3 v4) k = sT_named_l3 N n v0 v1 v2 v3 v4 (fun q0 => k .ret (sT_named_x3_r q0)) (fun (_ : Unit) => k (.exit 0) (sT_named_x3_0 )) := by
  induction n with
  | zero => intro v0 v1 v2 v3 v4; rfl
  | succ n ih =>
    intro v0 v1 v2 v3 v4
    refine Eq.trans (b := sT_named_b3 N (fun v0 v1 v2 v3 v4 => loopM E.Θ (sT_Reserved_cal N) (sT_named_lp N) (noJn) 0 sT_named_L3 (bodyAt E 96 3) n (sT_named_h3 v0 v1 v2 v3 v4) k) v0 v1 v2 v3 v4 (fun q0 => k .ret (sT_named_x3_r q0)) (fun (_ : Unit) => k (.exit 0) (sT_named_x3_0 ))) (by kernel_rfl) ?_
    have h : (fun (v0 : Int) (v1 : Int) (v2 : Mp ByteArray Int) (v3 : Bool) (v4 : Arr ByteArray) => loopM E.Θ (sT_Reserved_cal N) (sT_named_lp N) (noJn) 0 sT_named_L3 (bodyAt E 96 3) n (sT_named_h3 v0 v1 v2 v3 v4) k) = (fun (v0 : Int) (v1 : Int) (v2 : Mp ByteArray Int) (v3 : Bool) (v4 : Arr ByteArray) => sT_named_l3 N n v0 v1 v2 v3 v4 (fun q0 => k .ret (sT_named_x3_r q0)) (fun (_ : Unit) => k (.exit 0) (sT_named_x3_0 ))) := funext fun v0 => funext fun v1 => funext fun v2 => funext fun v3 => funext fun v4 => ih v0 v1 v2 v3 v4
    rw [h]
    rfl
theorem sT_named_k3 {R : Type} (N : Nat) : LpKey (R := R) E 96 0 (sT_named_lp N) 3 :=
  lpKey_of hE (sT_Reserved_cal_ok N) (lp := sT_named_lp N) (jn := noJn) sT_named_L3_ok [] kNil (by kernel_rfl) [] jNil (by kernel_rfl) N fun S k =>
    Eq.trans (b := sT_named_L3.head.raw 0 S (fun S0 => sT_named_d3 N S0 k)) (by kernel_rfl) (congrArg (sT_named_L3.head.raw 0 S) (funext fun S0 => Eq.trans (sT_named_l3_eq N k N (toI (lget S0.tmps 9)) (toI (lget S0.tmps 10)) (mpD strC intC (entHs (entAt S0.tab 0)) (entGt (entAt S0.tab 0))) (entNl (entAt S0.tab 1)) (lst strC (entN (entAt S0.tab 1)) (entC (entAt S0.tab 1)))).symm (by kernel_rfl)))
noncomputable def sT_named_go {R : Type} (N : Nat) (args : List SV) (T : Tab) (kf : SV × Tab → Option R) : Option R :=
  sT_named N (Cod.dec api_MachineC (lget (toCs (lget args 0)))) (fun q0 => kf (lget [.bool q0] 0, []))
noncomputable def sT_named_cal {R : Type} (N : Nat) : Cal R := callM (sT_Reserved_cal N) 96 0 sT_named_sp (sT_named_go N)
theorem sT_named_cal_ok {R : Type} (N : Nat) : CalOk E.P (sT_named_cal (R := R) N) :=
  callM_ok hE (sT_Reserved_cal_ok N) (lp := sT_named_lp N) (jn := noJn) (keys := [3]) (kCons (sT_named_k3 N) kNil) (by kernel_rfl) (js := []) jNil (by kernel_rfl) sT_named_sp_ok sT_named_rs_ok (fun args T kf => Eq.trans (sT_named_def N (Cod.dec api_MachineC (lget (toCs (lget args 0)))) (fun q0 => kf (lget [.bool q0] 0, []))) (by kernel_rfl : sT_named_run N args T kf = fnM E (sT_Reserved_cal N) (sT_named_lp N) (noJn) 96 (sT_named_sp.vs args) (sT_named_sp.tab T) 0 (resK sT_named_rs kf)))
def sT_asks_m {R : Type} (N : Nat) (a437 : api_Machine) (a438 : api_Literal) (k : Bool → Option R) : Option R :=
 bif api_Literal.Kind a438 == (1 : Int) then
 sT_within N (api_Literal.Number a438) (0 : Int) (w64 ((↑(Arr.n (api_Machine.Inputs a437)) : Int) - (1 : Int))) (fun r439 =>
 bif r439 then
 k (api_Literal.Value a438 == (0 : Int))
 else
 k false)
 else
 bif api_Literal.Kind a438 == (2 : Int) then
 sT_within N (api_Literal.Number a438) (0 : Int) (w64 ((↑(Arr.n (api_Machine.Counters a437)) : Int) - (1 : Int))) (fun r440 =>
 bif r440 then
 bif decide ((0 : Int) ≤ api_Literal.Number a438) && decide (api_Literal.Number a438 < (↑(Arr.n (api_Machine.Counters a437)) : Int)) then
 sT_within N (api_Literal.Value a438) (0 : Int) (api_Counter.Max (Arr.f (api_Machine.Counters a437) (Int.toNat (api_Literal.Number a438)))) (fun r441 =>
 k r441)
 else
 Option.none
 else
 k false)
 else
 bif api_Literal.Kind a438 == (3 : Int) then
 sT_within N (api_Literal.Number a438) (0 : Int) (w64 ((↑(Arr.n (api_Machine.States a437)) : Int) - (1 : Int))) (fun r442 =>
 bif r442 then
 k (api_Literal.Value a438 == (0 : Int))
 else
 k false)
 else
 bif api_Literal.Kind a438 == (4 : Int) then
 sT_within N (api_Literal.Number a438) (0 : Int) (w64 ((↑(Arr.n (api_Machine.Outputs a437)) : Int) - (1 : Int))) (fun r443 =>
 bif r443 then
 k (api_Literal.Value a438 == (0 : Int))
 else
 k false)
 else
 k false
noncomputable def sT_asks {R : Type} : Nat → api_Machine → api_Literal → (Bool → Option R) → Option R := lock (@sT_asks_m R)
theorem sT_asks_def {R : Type} (N : Nat) (a437 : api_Machine) (a438 : api_Literal) (k : Bool → Option R) : sT_asks N a437 a438 k = sT_asks_m N a437 a438 k := by unfold sT_asks; rw [lock_eq]
def sT_asks_sp : Sp := ⟨[rAgg api_MachineC, rAgg api_LiteralC], []⟩
theorem sT_asks_sp_ok : sT_asks_sp.Ok := ⟨(allCons (rAgg_ok api_MachineC_ok api_MachineC_len) (allCons (rAgg_ok api_LiteralC_ok api_LiteralC_len) allNil)), eNil⟩
def sT_asks_rs : Sp := ⟨[rBool], []⟩
theorem sT_asks_rs_ok : sT_asks_rs.Ok := ⟨(allCons rBool_ok allNil), eNil⟩
def sT_asks_run {R : Type} (N : Nat) (args : List SV) (T : Tab) (kf : SV × Tab → Option R) : Option R :=
  sT_asks_m N (Cod.dec api_MachineC (lget (toCs (lget args 0)))) (Cod.dec api_LiteralC (lget (toCs (lget args 1)))) (fun q0 => kf (lget [.bool q0] 0, []))
def sT_asks_lp {R : Type} (N : Nat) : Lp R := fun body S k => Option.none
noncomputable def sT_asks_go {R : Type} (N : Nat) (args : List SV) (T : Tab) (kf : SV × Tab → Option R) : Option R :=
  sT_asks N (Cod.dec api_MachineC (lget (toCs (lget args 0)))) (Cod.dec api_LiteralC (lget (toCs (lget args 1)))) (fun q0 => kf (lget [.bool q0] 0, []))
noncomputable def sT_asks_cal {R : Type} (N : Nat) : Cal R := callM (sT_named_cal N) 95 0 sT_asks_sp (sT_asks_go N)
theorem sT_asks_cal_ok {R : Type} (N : Nat) : CalOk E.P (sT_asks_cal (R := R) N) :=
  callM_ok hE (sT_named_cal_ok N) (lp := sT_asks_lp N) (jn := noJn) (keys := []) kNil (by kernel_rfl) (js := []) jNil (by kernel_rfl) sT_asks_sp_ok sT_asks_rs_ok (fun args T kf => Eq.trans (sT_asks_def N (Cod.dec api_MachineC (lget (toCs (lget args 0)))) (Cod.dec api_LiteralC (lget (toCs (lget args 1)))) (fun q0 => kf (lget [.bool q0] 0, []))) (by kernel_rfl : sT_asks_run N args T kf = fnM E (sT_named_cal N) (sT_asks_lp N) (noJn) 95 (sT_asks_sp.vs args) (sT_asks_sp.tab T) 0 (resK sT_asks_rs kf)))
def sT_Asked_1_m {R : Type} (N : Nat) (a435 : api_Literal) (a436 : api_Machine) (k : Bool → Option R) : Option R :=
 sT_asks N a436 a435 (fun r444 =>
 k (!r444))
noncomputable def sT_Asked_1 {R : Type} : Nat → api_Literal → api_Machine → (Bool → Option R) → Option R := lock (@sT_Asked_1_m R)
theorem sT_Asked_1_def {R : Type} (N : Nat) (a435 : api_Literal) (a436 : api_Machine) (k : Bool → Option R) : sT_Asked_1 N a435 a436 k = sT_Asked_1_m N a435 a436 k := by unfold sT_Asked_1; rw [lock_eq]
def sT_Asked_1_sp : Sp := ⟨[rAgg api_LiteralC, rPtr 0 0], [(0, eBlkC api_MachineC)]⟩
theorem sT_Asked_1_sp_ok : sT_Asked_1_sp.Ok := ⟨(allCons (rAgg_ok api_LiteralC_ok api_LiteralC_len) (allCons (rPtr_ok 0 0) allNil)), (eCons (eBlkC_ok api_MachineC_ok api_MachineC_len) eNil)⟩
def sT_Asked_1_rs : Sp := ⟨[rBool], [(0, eBlkC api_MachineC)]⟩
theorem sT_Asked_1_rs_ok : sT_Asked_1_rs.Ok := ⟨(allCons rBool_ok allNil), (eCons (eBlkC_ok api_MachineC_ok api_MachineC_len) eNil)⟩
def sT_Asked_1_run {R : Type} (N : Nat) (args : List SV) (T : Tab) (kf : SV × Tab → Option R) : Option R :=
  sT_Asked_1_m N (Cod.dec api_LiteralC (lget (toCs (lget args 0)))) (Cod.dec api_MachineC (lget (entCs (entAt T 0)))) (fun q0 => kf (lget [.bool q0] 0, [(0, .blk (Cod.enc api_MachineC (Cod.dec api_MachineC (lget (entCs (entAt T 0))))))]))
def sT_Asked_1_lp {R : Type} (N : Nat) : Lp R := fun body S k => Option.none
noncomputable def sT_Asked_1_go {R : Type} (N : Nat) (args : List SV) (T : Tab) (kf : SV × Tab → Option R) : Option R :=
  sT_Asked_1 N (Cod.dec api_LiteralC (lget (toCs (lget args 0)))) (Cod.dec api_MachineC (lget (entCs (entAt T 0)))) (fun q0 => kf (lget [.bool q0] 0, [(0, .blk (Cod.enc api_MachineC (Cod.dec api_MachineC (lget (entCs (entAt T 0))))))]))
noncomputable def sT_Asked_1_cal {R : Type} (N : Nat) : Cal R := callM (sT_asks_cal N) 94 1 sT_Asked_1_sp (sT_Asked_1_go N)
theorem sT_Asked_1_cal_ok {R : Type} (N : Nat) : CalOk E.P (sT_Asked_1_cal (R := R) N) :=
  callM_ok hE (sT_asks_cal_ok N) (lp := sT_Asked_1_lp N) (jn := noJn) (keys := []) kNil (by kernel_rfl) (js := []) jNil (by kernel_rfl) sT_Asked_1_sp_ok sT_Asked_1_rs_ok (fun args T kf => Eq.trans (sT_Asked_1_def N (Cod.dec api_LiteralC (lget (toCs (lget args 0)))) (Cod.dec api_MachineC (lget (entCs (entAt T 0)))) (fun q0 => kf (lget [.bool q0] 0, [(0, .blk (Cod.enc api_MachineC (Cod.dec api_MachineC (lget (entCs (entAt T 0))))))]))) (by kernel_rfl : sT_Asked_1_run N args T kf = fnM E (sT_asks_cal N) (sT_Asked_1_lp N) (noJn) 94 (sT_Asked_1_sp.vs args) (sT_Asked_1_sp.tab T) 1 (resK sT_Asked_1_rs kf)))
def ixL_L2 : LoopSp := ⟨⟨[0, 1, 7, 8], ⟨((rSl api_LiteralC) :: (rFunc 94 0 [rPtr 0 0]) :: (dr 5 ((rInt .i64) :: (rInt .i64) :: (dr 10 [])))), [(0, eBlkC api_MachineC)]⟩, 1⟩, [(Option.none, ⟨[4], ⟨(dr 4 ((rInt .i64) :: (dr 14 []))), [(0, eBlkC api_MachineC)]⟩, 1⟩), (some 0, ⟨[], ⟨(dr 19 []), [(0, eBlkC api_MachineC)]⟩, 1⟩)]⟩
theorem ixL_L2_ok : ixL_L2.Ok := ⟨⟨(allCons (rSl_ok api_LiteralC_ok) (allCons (rFunc_ok 94 0 (allCons (rPtr_ok 0 0) allNil)) (drCons 5 (allCons (rInt_ok .i64) (allCons (rInt_ok .i64) (drCons 10 allNil)))))), (eCons (eBlkC_ok api_MachineC_ok api_MachineC_len) eNil)⟩, (xCons ⟨(drCons 4 (allCons (rInt_ok .i64) (drCons 14 allNil))), (eCons (eBlkC_ok api_MachineC_ok api_MachineC_len) eNil)⟩ (xCons ⟨(drCons 19 allNil), (eCons (eBlkC_ok api_MachineC_ok api_MachineC_len) eNil)⟩ xNil))⟩
def ixL_h2 (v431 : Arr api_Literal) (v432 : Int) (v433 : Int) (v434 : api_Machine) : St := ⟨((slC api_LiteralC v431) :: (.func 94 0 [.ptr 0 0]) :: (un 5 ((.int .i64 v432) :: (.int .i64 v433) :: (un 10 [])))), [(0, .blk (Cod.enc api_MachineC v434))], 1⟩
def ixL_x2_r (v434 : api_Machine) (q0 : Int) : St := ⟨(un 4 ((.int .i64 q0) :: (un 14 []))), [(0, .blk (Cod.enc api_MachineC v434))], 1⟩
def ixL_x2_0 (v434 : api_Machine) : St := ⟨(un 19 []), [(0, .blk (Cod.enc api_MachineC v434))], 1⟩
def ixL_b2 {R : Type} (N : Nat) (rc : Arr api_Literal → Int → Int → api_Machine → Option R) (v431 : Arr api_Literal) (v432 : Int) (v433 : Int) (v434 : api_Machine) (kr : Int → Option R) (k0 : Unit → Option R) : Option R :=
 bif decide (v433 < v432) then
 bif decide ((0 : Int) ≤ v433) && decide (v433 < (↑(Arr.n v431) : Int)) then
 sT_Asked_1 N (Arr.f v431 (Int.toNat v433)) v434 (fun r445 =>
 bif r445 then
 kr v433
 else
 rc v431 v432 (w64 (v433 + (1 : Int))) v434)
 else
 Option.none
 else
 k0 ()
def ixL_l2 {R : Type} (N : Nat) : Nat → Arr api_Literal → Int → Int → api_Machine → (Int → Option R) → (Unit → Option R) → Option R
  | 0, _, _, _, _, _, _ => Option.none
  | n + 1, v431, v432, v433, v434, kr, k0 => ixL_b2 N (fun v431 v432 v433 v434 => ixL_l2 N n v431 v432 v433 v434 kr k0) v431 v432 v433 v434 kr k0
def ixL_m {R : Type} (N : Nat) (a429 : Arr api_Literal) (a430 : api_Machine) (k : Int → Option R) : Option R :=
 ixL_l2 N N a429 ((↑(Arr.n a429) : Int)) (0 : Int) a430 (fun r446 =>
 k r446) (fun (_ : Unit) =>
 k (-1 : Int))
noncomputable def ixL {R : Type} : Nat → Arr api_Literal → api_Machine → (Int → Option R) → Option R := lock (@ixL_m R)
theorem ixL_def {R : Type} (N : Nat) (a429 : Arr api_Literal) (a430 : api_Machine) (k : Int → Option R) : ixL N a429 a430 k = ixL_m N a429 a430 k := by unfold ixL; rw [lock_eq]
def ixL_sp : Sp := ⟨[rSl api_LiteralC, rFunc 94 0 [rPtr 0 0]], [(0, eBlkC api_MachineC)]⟩
theorem ixL_sp_ok : ixL_sp.Ok := ⟨(allCons (rSl_ok api_LiteralC_ok) (allCons (rFunc_ok 94 0 (allCons (rPtr_ok 0 0) allNil)) allNil)), (eCons (eBlkC_ok api_MachineC_ok api_MachineC_len) eNil)⟩
def ixL_rs : Sp := ⟨[rInt .i64], [(0, eBlkC api_MachineC)]⟩
theorem ixL_rs_ok : ixL_rs.Ok := ⟨(allCons (rInt_ok .i64) allNil), (eCons (eBlkC_ok api_MachineC_ok api_MachineC_len) eNil)⟩
def ixL_run {R : Type} (N : Nat) (args : List SV) (T : Tab) (kf : SV × Tab → Option R) : Option R :=
  ixL_m N (lstC api_LiteralC (lget args 0)) (Cod.dec api_MachineC (lget (entCs (entAt T 0)))) (fun q0 => kf (lget [.int .i64 q0] 0, [(0, .blk (Cod.enc api_MachineC (Cod.dec api_MachineC (lget (entCs (entAt T 0))))))]))
def ixL_d2 {R : Type} (N : Nat) (S0 : St) (k : Exit → St → Option R) : Option R :=
  ixL_l2 N N (lstC api_LiteralC (lget S0.tmps 0)) (toI (lget S0.tmps 7)) (toI (lget S0.tmps 8)) (Cod.dec api_MachineC (lget (entCs (entAt S0.tab 0)))) (fun q0 => k .ret (ixL_x2_r (Cod.dec api_MachineC (lget (entCs (entAt S0.tab 0)))) q0)) (fun (_ : Unit) => k (.exit 0) (ixL_x2_0 (Cod.dec api_MachineC (lget (entCs (entAt S0.tab 0))))))
def ixL_lp {R : Type} (N : Nat) : Lp R := fun body S k => bif (Go.Sx.keyOf body).getD 0 == 2 then (ixL_L2.head.raw 1 S (fun S0 => ixL_d2 N S0 k)) else Option.none
theorem ixL_l2_eq {R : Type} (N : Nat) (k : Exit → St → Option R) (n : Nat) : ∀ (v0 : Arr api_Literal) (v1 : Int) (v2 : Int) (v3 : api_Machine), loopM E.Θ (sT_Asked_1_cal N) (ixL_lp N) (noJn) 1 ixL_L2 (bodyAt E 104 2) n (ixL_h2 v0 v1 v2 v3) k = ixL_l2 N n v0 v1 v2 v3 (fun q0 => k .ret (ixL_x2_r v3 q0)) (fun (_ : Unit) => k (.exit 0) (ixL_x2_0 v3)) := by
  induction n with
  | zero => intro v0 v1 v2 v3; rfl
  | succ n ih =>
    intro v0 v1 v2 v3
    refine Eq.trans (b := ixL_b2 N (fun v0 v1 v2 v3 => loopM E.Θ (sT_Asked_1_cal N) (ixL_lp N) (noJn) 1 ixL_L2 (bodyAt E 104 2) n (ixL_h2 v0 v1 v2 v3) k) v0 v1 v2 v3 (fun q0 => k .ret (ixL_x2_r v3 q0)) (fun (_ : Unit) => k (.exit 0) (ixL_x2_0 v3))) (by kernel_rfl) ?_
    have h : (fun (v0 : Arr api_Literal) (v1 : Int) (v2 : Int) (v3 : api_Machine) => loopM E.Θ (sT_Asked_1_cal N) (ixL_lp N) (noJn) 1 ixL_L2 (bodyAt E 104 2) n (ixL_h2 v0 v1 v2 v3) k) = (fun (v0 : Arr api_Literal) (v1 : Int) (v2 : Int) (v3 : api_Machine) => ixL_l2 N n v0 v1 v2 v3 (fun q0 => k .ret (ixL_x2_r v3 q0)) (fun (_ : Unit) => k (.exit 0) (ixL_x2_0 v3))) := funext fun v0 => funext fun v1 => funext fun v2 => funext fun v3 => ih v0 v1 v2 v3
    rw [h]
    rfl
theorem ixL_k2 {R : Type} (N : Nat) : LpKey (R := R) E 104 1 (ixL_lp N) 2 :=
  lpKey_of hE (sT_Asked_1_cal_ok N) (lp := ixL_lp N) (jn := noJn) ixL_L2_ok [] kNil (by kernel_rfl) [] jNil (by kernel_rfl) N fun S k =>
    Eq.trans (b := ixL_L2.head.raw 1 S (fun S0 => ixL_d2 N S0 k)) (by kernel_rfl) (congrArg (ixL_L2.head.raw 1 S) (funext fun S0 => Eq.trans (ixL_l2_eq N k N (lstC api_LiteralC (lget S0.tmps 0)) (toI (lget S0.tmps 7)) (toI (lget S0.tmps 8)) (Cod.dec api_MachineC (lget (entCs (entAt S0.tab 0))))).symm (by kernel_rfl)))
noncomputable def ixL_go {R : Type} (N : Nat) (args : List SV) (T : Tab) (kf : SV × Tab → Option R) : Option R :=
  ixL N (lstC api_LiteralC (lget args 0)) (Cod.dec api_MachineC (lget (entCs (entAt T 0)))) (fun q0 => kf (lget [.int .i64 q0] 0, [(0, .blk (Cod.enc api_MachineC (Cod.dec api_MachineC (lget (entCs (entAt T 0))))))]))
noncomputable def ixL_cal {R : Type} (N : Nat) : Cal R := callM (sT_Asked_1_cal N) 104 1 ixL_sp (ixL_go N)
theorem ixL_cal_ok {R : Type} (N : Nat) : CalOk E.P (ixL_cal (R := R) N) :=
  callM_ok hE (sT_Asked_1_cal_ok N) (lp := ixL_lp N) (jn := noJn) (keys := [2]) (kCons (ixL_k2 N) kNil) (by kernel_rfl) (js := []) jNil (by kernel_rfl) ixL_sp_ok ixL_rs_ok (fun args T kf => Eq.trans (ixL_def N (lstC api_LiteralC (lget args 0)) (Cod.dec api_MachineC (lget (entCs (entAt T 0)))) (fun q0 => kf (lget [.int .i64 q0] 0, [(0, .blk (Cod.enc api_MachineC (Cod.dec api_MachineC (lget (entCs (entAt T 0))))))]))) (by kernel_rfl : ixL_run N args T kf = fnM E (sT_Asked_1_cal N) (ixL_lp N) (noJn) 104 (ixL_sp.vs args) (ixL_sp.tab T) 1 (resK ixL_rs kf)))
def coL_m {R : Type} (N : Nat) (a427 : Arr api_Literal) (a428 : api_Machine) (k : Bool → Option R) : Option R :=
 ixL N a427 a428 (fun r447 =>
 k (decide (r447 ≥ (0 : Int))))
noncomputable def coL {R : Type} : Nat → Arr api_Literal → api_Machine → (Bool → Option R) → Option R := lock (@coL_m R)
theorem coL_def {R : Type} (N : Nat) (a427 : Arr api_Literal) (a428 : api_Machine) (k : Bool → Option R) : coL N a427 a428 k = coL_m N a427 a428 k := by unfold coL; rw [lock_eq]
def coL_sp : Sp := ⟨[rSl api_LiteralC, rFunc 94 0 [rPtr 0 0]], [(0, eBlkC api_MachineC)]⟩
theorem coL_sp_ok : coL_sp.Ok := ⟨(allCons (rSl_ok api_LiteralC_ok) (allCons (rFunc_ok 94 0 (allCons (rPtr_ok 0 0) allNil)) allNil)), (eCons (eBlkC_ok api_MachineC_ok api_MachineC_len) eNil)⟩
def coL_rs : Sp := ⟨[rBool], [(0, eBlkC api_MachineC)]⟩
theorem coL_rs_ok : coL_rs.Ok := ⟨(allCons rBool_ok allNil), (eCons (eBlkC_ok api_MachineC_ok api_MachineC_len) eNil)⟩
def coL_run {R : Type} (N : Nat) (args : List SV) (T : Tab) (kf : SV × Tab → Option R) : Option R :=
  coL_m N (lstC api_LiteralC (lget args 0)) (Cod.dec api_MachineC (lget (entCs (entAt T 0)))) (fun q0 => kf (lget [.bool q0] 0, [(0, .blk (Cod.enc api_MachineC (Cod.dec api_MachineC (lget (entCs (entAt T 0))))))]))
def coL_lp {R : Type} (N : Nat) : Lp R := fun body S k => Option.none
noncomputable def coL_go {R : Type} (N : Nat) (args : List SV) (T : Tab) (kf : SV × Tab → Option R) : Option R :=
  coL N (lstC api_LiteralC (lget args 0)) (Cod.dec api_MachineC (lget (entCs (entAt T 0)))) (fun q0 => kf (lget [.bool q0] 0, [(0, .blk (Cod.enc api_MachineC (Cod.dec api_MachineC (lget (entCs (entAt T 0))))))]))
noncomputable def coL_cal {R : Type} (N : Nat) : Cal R := callM (ixL_cal N) 93 1 coL_sp (coL_go N)
theorem coL_cal_ok {R : Type} (N : Nat) : CalOk E.P (coL_cal (R := R) N) :=
  callM_ok hE (ixL_cal_ok N) (lp := coL_lp N) (jn := noJn) (keys := []) kNil (by kernel_rfl) (js := []) jNil (by kernel_rfl) coL_sp_ok coL_rs_ok (fun args T kf => Eq.trans (coL_def N (lstC api_LiteralC (lget args 0)) (Cod.dec api_MachineC (lget (entCs (entAt T 0)))) (fun q0 => kf (lget [.bool q0] 0, [(0, .blk (Cod.enc api_MachineC (Cod.dec api_MachineC (lget (entCs (entAt T 0))))))]))) (by kernel_rfl : coL_run N args T kf = fnM E (ixL_cal N) (coL_lp N) (noJn) 93 (coL_sp.vs args) (coL_sp.tab T) 1 (resK coL_rs kf)))
def sT_Asked_L4 : LoopSp := ⟨⟨[2, 10, 11, 12], ⟨(dr 2 ((rPtr 0 0) :: (dr 7 ((rSl (lsC api_LiteralC)) :: (rInt .i64) :: (rInt .i64) :: (dr 12 []))))), [(0, eBlkC api_MachineC)]⟩, 1⟩, [(Option.none, ⟨[4], ⟨(dr 4 ((rBool) :: (dr 20 []))), []⟩, 0⟩), (some 0, ⟨[], ⟨(dr 25 []), []⟩, 0⟩)]⟩
theorem sT_Asked_L4_ok : sT_Asked_L4.Ok := ⟨⟨(drCons 2 (allCons (rPtr_ok 0 0) (drCons 7 (allCons (rSl_ok (lsC_ok api_LiteralC_ok)) (allCons (rInt_ok .i64) (allCons (rInt_ok .i64) (drCons 12 allNil))))))), (eCons (eBlkC_ok api_MachineC_ok api_MachineC_len) eNil)⟩, (xCons ⟨(drCons 4 (allCons rBool_ok (drCons 20 allNil))), eNil⟩ (xCons ⟨(drCons 25 allNil), eNil⟩ xNil))⟩
def sT_Asked_h4 (v423 : Arr (Arr api_Literal)) (v424 : Int) (v425 : Int) (v426 : api_Machine) : St := ⟨(un 2 ((.ptr 0 0) :: (un 7 ((slC (lsC api_LiteralC) v423) :: (.int .i64 v424) :: (.int .i64 v425) :: (un 12 []))))), [(0, .blk (Cod.enc api_MachineC v426))], 1⟩
def sT_Asked_x4_r (q0 : Bool) : St := ⟨(un 4 ((.bool q0) :: (un 20 []))), [], 0⟩
def sT_Asked_x4_0  : St := ⟨(un 25 []), [], 0⟩
def sT_Asked_b4 {R : Type} (N : Nat) (rc : Arr (Arr api_Literal) → Int → Int → api_Machine → Option R) (v423 : Arr (Arr api_Literal)) (v424 : Int) (v425 : Int) (v426 : api_Machine) (kr : Bool → Option R) (k0 : Unit → Option R) : Option R :=
 bif decide (v425 < v424) then
 bif decide ((0 : Int) ≤ v425) && decide (v425 < (↑(Arr.n v423) : Int)) then
 bif decide ((↑(Arr.n (Arr.f v423 (Int.toNat v425))) : Int) > (6 : Int)) then
 kr false
 else
 coL N (Arr.f v423 (Int.toNat v425)) v426 (fun r448 =>
 bif r448 then
 kr false
 else
 rc v423 v424 (w64 (v425 + (1 : Int))) v426)
 else
 Option.none
 else
 k0 ()
def sT_Asked_l4 {R : Type} (N : Nat) : Nat → Arr (Arr api_Literal) → Int → Int → api_Machine → (Bool → Option R) → (Unit → Option R) → Option R
  | 0, _, _, _, _, _, _ => Option.none
  | n + 1, v423, v424, v425, v426, kr, k0 => sT_Asked_b4 N (fun v423 v424 v425 v426 => sT_Asked_l4 N n v423 v424 v425 v426 kr k0) v423 v424 v425 v426 kr k0
def sT_Asked_m {R : Type} (N : Nat) (a421 : api_Machine) (a422 : Arr (Arr api_Literal)) (k : Bool → Option R) : Option R :=
 bif decide ((↑(Arr.n a422) : Int) > (6 : Int)) then
 k false
 else
 sT_Asked_l4 N N a422 ((↑(Arr.n a422) : Int)) (0 : Int) a421 (fun r449 =>
 k r449) (fun (_ : Unit) =>
 k true)
noncomputable def sT_Asked {R : Type} : Nat → api_Machine → Arr (Arr api_Literal) → (Bool → Option R) → Option R := lock (@sT_Asked_m R)
theorem sT_Asked_def {R : Type} (N : Nat) (a421 : api_Machine) (a422 : Arr (Arr api_Literal)) (k : Bool → Option R) : sT_Asked N a421 a422 k = sT_Asked_m N a421 a422 k := by unfold sT_Asked; rw [lock_eq]
def sT_Asked_sp : Sp := ⟨[rAgg api_MachineC, rSl (lsC api_LiteralC)], []⟩
theorem sT_Asked_sp_ok : sT_Asked_sp.Ok := ⟨(allCons (rAgg_ok api_MachineC_ok api_MachineC_len) (allCons (rSl_ok (lsC_ok api_LiteralC_ok)) allNil)), eNil⟩
def sT_Asked_rs : Sp := ⟨[rBool], []⟩
theorem sT_Asked_rs_ok : sT_Asked_rs.Ok := ⟨(allCons rBool_ok allNil), eNil⟩
def sT_Asked_run {R : Type} (N : Nat) (args : List SV) (T : Tab) (kf : SV × Tab → Option R) : Option R :=
  sT_Asked_m N (Cod.dec api_MachineC (lget (toCs (lget args 0)))) (lstC (lsC api_LiteralC) (lget args 1)) (fun q0 => kf (lget [.bool q0] 0, []))
def sT_Asked_d4 {R : Type} (N : Nat) (S0 : St) (k : Exit → St → Option R) : Option R :=
  sT_Asked_l4 N N (lstC (lsC api_LiteralC) (lget S0.tmps 10)) (toI (lget S0.tmps 11)) (toI (lget S0.tmps 12)) (Cod.dec api_MachineC (lget (entCs (entAt S0.tab 0)))) (fun q0 => k .ret (sT_Asked_x4_r q0)) (fun (_ : Unit) => k (.exit 0) (sT_Asked_x4_0 ))
def sT_Asked_lp {R : Type} (N : Nat) : Lp R := fun body S k => bif (Go.Sx.keyOf body).getD 0 == 4 then (sT_Asked_L4.head.raw 0 S (fun S0 => sT_Asked_d4 N S0 k)) else Option.none
theorem sT_Asked_l4_eq {R : Type} (N : Nat) (k : Exit → St → Option R) (n : Nat) : ∀ (v0 : Arr (Arr api_Literal)) (v1 : Int) (v2 : Int) (v3 : api_Machine), loopM E.Θ (coL_cal N) (sT_Asked_lp N) (noJn) 0 sT_Asked_L4 (bodyAt E 75 4) n (sT_Asked_h4 v0 v1 v2 v3) k = sT_Asked_l4 N n v0 v1 v2 v3 (fun q0 => k .ret (sT_Asked_x4_r q0)) (fun (_ : Unit) => k (.exit 0) (sT_Asked_x4_0 )) := by
  induction n with
  | zero => intro v0 v1 v2 v3; rfl
  | succ n ih =>
    intro v0 v1 v2 v3
    refine Eq.trans (b := sT_Asked_b4 N (fun v0 v1 v2 v3 => loopM E.Θ (coL_cal N) (sT_Asked_lp N) (noJn) 0 sT_Asked_L4 (bodyAt E 75 4) n (sT_Asked_h4 v0 v1 v2 v3) k) v0 v1 v2 v3 (fun q0 => k .ret (sT_Asked_x4_r q0)) (fun (_ : Unit) => k (.exit 0) (sT_Asked_x4_0 ))) (by kernel_rfl) ?_
    have h : (fun (v0 : Arr (Arr api_Literal)) (v1 : Int) (v2 : Int) (v3 : api_Machine) => loopM E.Θ (coL_cal N) (sT_Asked_lp N) (noJn) 0 sT_Asked_L4 (bodyAt E 75 4) n (sT_Asked_h4 v0 v1 v2 v3) k) = (fun (v0 : Arr (Arr api_Literal)) (v1 : Int) (v2 : Int) (v3 : api_Machine) => sT_Asked_l4 N n v0 v1 v2 v3 (fun q0 => k .ret (sT_Asked_x4_r q0)) (fun (_ : Unit) => k (.exit 0) (sT_Asked_x4_0 ))) := funext fun v0 => funext fun v1 => funext fun v2 => funext fun v3 => ih v0 v1 v2 v3
    rw [h]
    rfl
theorem sT_Asked_k4 {R : Type} (N : Nat) : LpKey (R := R) E 75 0 (sT_Asked_lp N) 4 :=
  lpKey_of hE (coL_cal_ok N) (lp := sT_Asked_lp N) (jn := noJn) sT_Asked_L4_ok [] kNil (by kernel_rfl) [] jNil (by kernel_rfl) N fun S k =>
    Eq.trans (b := sT_Asked_L4.head.raw 0 S (fun S0 => sT_Asked_d4 N S0 k)) (by kernel_rfl) (congrArg (sT_Asked_L4.head.raw 0 S) (funext fun S0 => Eq.trans (sT_Asked_l4_eq N k N (lstC (lsC api_LiteralC) (lget S0.tmps 10)) (toI (lget S0.tmps 11)) (toI (lget S0.tmps 12)) (Cod.dec api_MachineC (lget (entCs (entAt S0.tab 0))))).symm (by kernel_rfl)))
noncomputable def sT_Asked_go {R : Type} (N : Nat) (args : List SV) (T : Tab) (kf : SV × Tab → Option R) : Option R :=
  sT_Asked N (Cod.dec api_MachineC (lget (toCs (lget args 0)))) (lstC (lsC api_LiteralC) (lget args 1)) (fun q0 => kf (lget [.bool q0] 0, []))
noncomputable def sT_Asked_cal {R : Type} (N : Nat) : Cal R := callM (coL_cal N) 75 0 sT_Asked_sp (sT_Asked_go N)
theorem sT_Asked_cal_ok {R : Type} (N : Nat) : CalOk E.P (sT_Asked_cal (R := R) N) :=
  callM_ok hE (coL_cal_ok N) (lp := sT_Asked_lp N) (jn := noJn) (keys := [4]) (kCons (sT_Asked_k4 N) kNil) (by kernel_rfl) (js := []) jNil (by kernel_rfl) sT_Asked_sp_ok sT_Asked_rs_ok (fun args T kf => Eq.trans (sT_Asked_def N (Cod.dec api_MachineC (lget (toCs (lget args 0)))) (lstC (lsC api_LiteralC) (lget args 1)) (fun q0 => kf (lget [.bool q0] 0, []))) (by kernel_rfl : sT_Asked_run N args T kf = fnM E (coL_cal N) (sT_Asked_lp N) (noJn) 75 (sT_Asked_sp.vs args) (sT_Asked_sp.tab T) 0 (resK sT_Asked_rs kf)))
def sT_Check_1_m {R : Type} (N : Nat) (a464 : api_Literal) (k : Bool → Option R) : Option R :=
 k (api_Literal.Kind a464 == (3 : Int))
noncomputable def sT_Check_1 {R : Type} : Nat → api_Literal → (Bool → Option R) → Option R := lock (@sT_Check_1_m R)
theorem sT_Check_1_def {R : Type} (N : Nat) (a464 : api_Literal) (k : Bool → Option R) : sT_Check_1 N a464 k = sT_Check_1_m N a464 k := by unfold sT_Check_1; rw [lock_eq]
def sT_Check_1_sp : Sp := ⟨[rAgg api_LiteralC], []⟩
theorem sT_Check_1_sp_ok : sT_Check_1_sp.Ok := ⟨(allCons (rAgg_ok api_LiteralC_ok api_LiteralC_len) allNil), eNil⟩
def sT_Check_1_rs : Sp := ⟨[rBool], []⟩
theorem sT_Check_1_rs_ok : sT_Check_1_rs.Ok := ⟨(allCons rBool_ok allNil), eNil⟩
def sT_Check_1_run {R : Type} (N : Nat) (args : List SV) (T : Tab) (kf : SV × Tab → Option R) : Option R :=
  sT_Check_1_m N (Cod.dec api_LiteralC (lget (toCs (lget args 0)))) (fun q0 => kf (lget [.bool q0] 0, []))
def sT_Check_1_lp {R : Type} (N : Nat) : Lp R := fun body S k => Option.none
noncomputable def sT_Check_1_go {R : Type} (N : Nat) (args : List SV) (T : Tab) (kf : SV × Tab → Option R) : Option R :=
  sT_Check_1 N (Cod.dec api_LiteralC (lget (toCs (lget args 0)))) (fun q0 => kf (lget [.bool q0] 0, []))
noncomputable def sT_Check_1_cal {R : Type} (N : Nat) : Cal R := callM (sT_Asked_cal N) 97 0 sT_Check_1_sp (sT_Check_1_go N)
theorem sT_Check_1_cal_ok {R : Type} (N : Nat) : CalOk E.P (sT_Check_1_cal (R := R) N) :=
  callM_ok hE (sT_Asked_cal_ok N) (lp := sT_Check_1_lp N) (jn := noJn) (keys := []) kNil (by kernel_rfl) (js := []) jNil (by kernel_rfl) sT_Check_1_sp_ok sT_Check_1_rs_ok (fun args T kf => Eq.trans (sT_Check_1_def N (Cod.dec api_LiteralC (lget (toCs (lget args 0)))) (fun q0 => kf (lget [.bool q0] 0, []))) (by kernel_rfl : sT_Check_1_run N args T kf = fnM E (sT_Asked_cal N) (sT_Check_1_lp N) (noJn) 97 (sT_Check_1_sp.vs args) (sT_Check_1_sp.tab T) 0 (resK sT_Check_1_rs kf)))
def ixL_v2_L2 : LoopSp := ⟨⟨[0, 1, 7, 8], ⟨((rSl api_LiteralC) :: (rFunc 97 0 []) :: (dr 5 ((rInt .i64) :: (rInt .i64) :: (dr 10 [])))), []⟩, 0⟩, [(Option.none, ⟨[4], ⟨(dr 4 ((rInt .i64) :: (dr 14 []))), []⟩, 0⟩), (some 0, ⟨[], ⟨(dr 19 []), []⟩, 0⟩)]⟩
theorem ixL_v2_L2_ok : ixL_v2_L2.Ok := ⟨⟨(allCons (rSl_ok api_LiteralC_ok) (allCons (rFunc_ok 97 0 allNil) (drCons 5 (allCons (rInt_ok .i64) (allCons (rInt_ok .i64) (drCons 10 allNil)))))), eNil⟩, (xCons ⟨(drCons 4 (allCons (rInt_ok .i64) (drCons 14 allNil))), eNil⟩ (xCons ⟨(drCons 19 allNil), eNil⟩ xNil))⟩
def ixL_v2_h2 (v461 : Arr api_Literal) (v462 : Int) (v463 : Int) : St := ⟨((slC api_LiteralC v461) :: (.func 97 0 []) :: (un 5 ((.int .i64 v462) :: (.int .i64 v463) :: (un 10 [])))), [], 0⟩
def ixL_v2_x2_r (q0 : Int) : St := ⟨(un 4 ((.int .i64 q0) :: (un 14 []))), [], 0⟩
def ixL_v2_x2_0  : St := ⟨(un 19 []), [], 0⟩
def ixL_v2_b2 {R : Type} (N : Nat) (rc : Arr api_Literal → Int → Int → Option R) (v461 : Arr api_Literal) (v462 : Int) (v463 : Int) (kr : Int → Option R) (k0 : Unit → Option R) : Option R :=
 bif decide (v463 < v462) then
 bif decide ((0 : Int) ≤ v463) && decide (v463 < (↑(Arr.n v461) : Int)) then
 sT_Check_1 N (Arr.f v461 (Int.toNat v463)) (fun r465 =>
 bif r465 then
 kr v463
 else
 rc v461 v462 (w64 (v463 + (1 : Int))))
 else
 Option.none
 else
 k0 ()
def ixL_v2_l2 {R : Type} (N : Nat) : Nat → Arr api_Literal → Int → Int → (Int → Option R) → (Unit → Option R) → Option R
  | 0, _, _, _, _, _ => Option.none
  | n + 1, v461, v462, v463, kr, k0 => ixL_v2_b2 N (fun v461 v462 v463 => ixL_v2_l2 N n v461 v462 v463 kr k0) v461 v462 v463 kr k0
def ixL_v2_m {R : Type} (N : Nat) (a460 : Arr api_Literal) (k : Int → Option R) : Option R :=
 ixL_v2_l2 N N a460 ((↑(Arr.n a460) : Int)) (0 : Int) (fun r466 =>
 k r466) (fun (_ : Unit) =>
 k (-1 : Int))
noncomputable def ixL_v2 {R : Type} : Nat → Arr api_Literal → (Int → Option R) → Option R := lock (@ixL_v2_m R)
theorem ixL_v2_def {R : Type} (N : Nat) (a460 : Arr api_Literal) (k : Int → Option R) : ixL_v2 N a460 k = ixL_v2_m N a460 k := by unfold ixL_v2; rw [lock_eq]
def ixL_v2_sp : Sp := ⟨[rSl api_LiteralC, rFunc 97 0 []], []⟩
theorem ixL_v2_sp_ok : ixL_v2_sp.Ok := ⟨(allCons (rSl_ok api_LiteralC_ok) (allCons (rFunc_ok 97 0 allNil) allNil)), eNil⟩
def ixL_v2_rs : Sp := ⟨[rInt .i64], []⟩
theorem ixL_v2_rs_ok : ixL_v2_rs.Ok := ⟨(allCons (rInt_ok .i64) allNil), eNil⟩
def ixL_v2_run {R : Type} (N : Nat) (args : List SV) (T : Tab) (kf : SV × Tab → Option R) : Option R :=
  ixL_v2_m N (lstC api_LiteralC (lget args 0)) (fun q0 => kf (lget [.int .i64 q0] 0, []))
def ixL_v2_d2 {R : Type} (N : Nat) (S0 : St) (k : Exit → St → Option R) : Option R :=
  ixL_v2_l2 N N (lstC api_LiteralC (lget S0.tmps 0)) (toI (lget S0.tmps 7)) (toI (lget S0.tmps 8)) (fun q0 => k .ret (ixL_v2_x2_r q0)) (fun (_ : Unit) => k (.exit 0) (ixL_v2_x2_0 ))
def ixL_v2_lp {R : Type} (N : Nat) : Lp R := fun body S k => bif (Go.Sx.keyOf body).getD 0 == 2 then (ixL_v2_L2.head.raw 0 S (fun S0 => ixL_v2_d2 N S0 k)) else Option.none
theorem ixL_v2_l2_eq {R : Type} (N : Nat) (k : Exit → St → Option R) (n : Nat) : ∀ (v0 : Arr api_Literal) (v1 : Int) (v2 : Int), loopM E.Θ (sT_Check_1_cal N) (ixL_v2_lp N) (noJn) 0 ixL_v2_L2 (bodyAt E 104 2) n (ixL_v2_h2 v0 v1 v2) k = ixL_v2_l2 N n v0 v1 v2 (fun q0 => k .ret (ixL_v2_x2_r q0)) (fun (_ : Unit) => k (.exit 0) (ixL_v2_x2_0 )) := by
  induction n with
  | zero => intro v0 v1 v2; rfl
  | succ n ih =>
    intro v0 v1 v2
    refine Eq.trans (b := ixL_v2_b2 N (fun v0 v1 v2 => loopM E.Θ (sT_Check_1_cal N) (ixL_v2_lp N) (noJn) 0 ixL_v2_L2 (bodyAt E 104 2) n (ixL_v2_h2 v0 v1 v2) k) v0 v1 v2 (fun q0 => k .ret (ixL_v2_x2_r q0)) (fun (_ : Unit) => k (.exit 0) (ixL_v2_x2_0 ))) (by kernel_rfl) ?_
    have h : (fun (v0 : Arr api_Literal) (v1 : Int) (v2 : Int) => loopM E.Θ (sT_Check_1_cal N) (ixL_v2_lp N) (noJn) 0 ixL_v2_L2 (bodyAt E 104 2) n (ixL_v2_h2 v0 v1 v2) k) = (fun (v0 : Arr api_Literal) (v1 : Int) (v2 : Int) => ixL_v2_l2 N n v0 v1 v2 (fun q0 => k .ret (ixL_v2_x2_r q0)) (fun (_ : Unit) => k (.exit 0) (ixL_v2_x2_0 ))) := funext fun v0 => funext fun v1 => funext fun v2 => ih v0 v1 v2
    rw [h]
    rfl
theorem ixL_v2_k2 {R : Type} (N : Nat) : LpKey (R := R) E 104 0 (ixL_v2_lp N) 2 :=
  lpKey_of hE (sT_Check_1_cal_ok N) (lp := ixL_v2_lp N) (jn := noJn) ixL_v2_L2_ok [] kNil (by kernel_rfl) [] jNil (by kernel_rfl) N fun S k =>
    Eq.trans (b := ixL_v2_L2.head.raw 0 S (fun S0 => ixL_v2_d2 N S0 k)) (by kernel_rfl) (congrArg (ixL_v2_L2.head.raw 0 S) (funext fun S0 => Eq.trans (ixL_v2_l2_eq N k N (lstC api_LiteralC (lget S0.tmps 0)) (toI (lget S0.tmps 7)) (toI (lget S0.tmps 8))).symm (by kernel_rfl)))
noncomputable def ixL_v2_go {R : Type} (N : Nat) (args : List SV) (T : Tab) (kf : SV × Tab → Option R) : Option R :=
  ixL_v2 N (lstC api_LiteralC (lget args 0)) (fun q0 => kf (lget [.int .i64 q0] 0, []))
noncomputable def ixL_v2_cal {R : Type} (N : Nat) : Cal R := callM (sT_Check_1_cal N) 104 0 ixL_v2_sp (ixL_v2_go N)
theorem ixL_v2_cal_ok {R : Type} (N : Nat) : CalOk E.P (ixL_v2_cal (R := R) N) :=
  callM_ok hE (sT_Check_1_cal_ok N) (lp := ixL_v2_lp N) (jn := noJn) (keys := [2]) (kCons (ixL_v2_k2 N) kNil) (by kernel_rfl) (js := []) jNil (by kernel_rfl) ixL_v2_sp_ok ixL_v2_rs_ok (fun args T kf => Eq.trans (ixL_v2_def N (lstC api_LiteralC (lget args 0)) (fun q0 => kf (lget [.int .i64 q0] 0, []))) (by kernel_rfl : ixL_v2_run N args T kf = fnM E (sT_Check_1_cal N) (ixL_v2_lp N) (noJn) 104 (ixL_v2_sp.vs args) (ixL_v2_sp.tab T) 0 (resK ixL_v2_rs kf)))
def coL_v2_m {R : Type} (N : Nat) (a459 : Arr api_Literal) (k : Bool → Option R) : Option R :=
 ixL_v2 N a459 (fun r467 =>
 k (decide (r467 ≥ (0 : Int))))
noncomputable def coL_v2 {R : Type} : Nat → Arr api_Literal → (Bool → Option R) → Option R := lock (@coL_v2_m R)
theorem coL_v2_def {R : Type} (N : Nat) (a459 : Arr api_Literal) (k : Bool → Option R) : coL_v2 N a459 k = coL_v2_m N a459 k := by unfold coL_v2; rw [lock_eq]
def coL_v2_sp : Sp := ⟨[rSl api_LiteralC, rFunc 97 0 []], []⟩
theorem coL_v2_sp_ok : coL_v2_sp.Ok := ⟨(allCons (rSl_ok api_LiteralC_ok) (allCons (rFunc_ok 97 0 allNil) allNil)), eNil⟩
def coL_v2_rs : Sp := ⟨[rBool], []⟩
theorem coL_v2_rs_ok : coL_v2_rs.Ok := ⟨(allCons rBool_ok allNil), eNil⟩
def coL_v2_run {R : Type} (N : Nat) (args : List SV) (T : Tab) (kf : SV × Tab → Option R) : Option R :=
  coL_v2_m N (lstC api_LiteralC (lget args 0)) (fun q0 => kf (lget [.bool q0] 0, []))
def coL_v2_lp {R : Type} (N : Nat) : Lp R := fun body S k => Option.none
noncomputable def coL_v2_go {R : Type} (N : Nat) (args : List SV) (T : Tab) (kf : SV × Tab → Option R) : Option R :=
  coL_v2 N (lstC api_LiteralC (lget args 0)) (fun q0 => kf (lget [.bool q0] 0, []))
noncomputable def coL_v2_cal {R : Type} (N : Nat) : Cal R := callM (ixL_v2_cal N) 93 0 coL_v2_sp (coL_v2_go N)
theorem coL_v2_cal_ok {R : Type} (N : Nat) : CalOk E.P (coL_v2_cal (R := R) N) :=
  callM_ok hE (ixL_v2_cal_ok N) (lp := coL_v2_lp N) (jn := noJn) (keys := []) kNil (by kernel_rfl) (js := []) jNil (by kernel_rfl) coL_v2_sp_ok coL_v2_rs_ok (fun args T kf => Eq.trans (coL_v2_def N (lstC api_LiteralC (lget args 0)) (fun q0 => kf (lget [.bool q0] 0, []))) (by kernel_rfl : coL_v2_run N args T kf = fnM E (ixL_v2_cal N) (coL_v2_lp N) (noJn) 93 (coL_v2_sp.vs args) (coL_v2_sp.tab T) 0 (resK coL_v2_rs kf)))
def sT_Check_L4 : LoopSp := ⟨⟨[1, 48, 49, 50], ⟨(dr 1 ((rPtr 0 0) :: (dr 46 ((rSl api_CounterC) :: (rInt .i64) :: (rInt .i64) :: (dr 96 []))))), [(0, eBlkC api_MachineC)]⟩, 1⟩, [(Option.none, ⟨[2], ⟨(dr 2 ((rInt .i64) :: (dr 144 []))), []⟩, 0⟩), (some 0, ⟨[1], ⟨(dr 1 ((rPtr 0 0) :: (dr 145 []))), [(0, eBlkC api_MachineC)]⟩, 1⟩)]⟩
theorem sT_Check_L4_ok : sT_Check_L4.Ok := ⟨⟨(drCons 1 (allCons (rPtr_ok 0 0) (drCons 46 (allCons (rSl_ok api_CounterC_ok) (allCons (rInt_ok .i64) (allCons (rInt_ok .i64) (drCons 96 allNil))))))), (eCons (eBlkC_ok api_MachineC_ok api_MachineC_len) eNil)⟩, (xCons ⟨(drCons 2 (allCons (rInt_ok .i64) (drCons 144 allNil))), eNil⟩ (xCons ⟨(drCons 1 (allCons (rPtr_ok 0 0) (drCons 145 allNil))), (eCons (eBlkC_ok api_MachineC_ok api_MachineC_len) eNil)⟩ xNil))⟩
def sT_Check_h4 (v403 : Arr api_Counter) (v404 : Int) (v405 : Int) (v406 : api_Machine) : St := ⟨(un 1 ((.ptr 0 0) :: (un 46 ((slC api_CounterC v403) :: (.int .i64 v404) :: (.int .i64 v405) :: (un 96 []))))), [(0, .blk (Cod.enc api_MachineC v406))], 1⟩
def sT_Check_x4_r (q0 : Int) : St := ⟨(un 2 ((.int .i64 q0) :: (un 144 []))), [], 0⟩
def sT_Check_x4_0 (v406 : api_Machine) : St := ⟨(un 1 ((.ptr 0 0) :: (un 145 []))), [(0, .blk (Cod.enc api_MachineC v406))], 1⟩
def sT_Check_b4 {R : Type} (N : Nat) (rc : Arr api_Counter → Int → Int → api_Machine → Option R) (v403 : Arr api_Counter) (v404 : Int) (v405 : Int) (v406 : api_Machine) (kr : Int → Option R) (k0 : Unit → Option R) : Option R :=
 bif decide (v405 < v404) then
 bif decide ((0 : Int) ≤ v405) && decide (v405 < (↑(Arr.n v403) : Int)) then
 sT_within N (api_Counter.Max (Arr.f v403 (Int.toNat v405))) (1 : Int) (7 : Int) (fun r407 =>
 bif !r407 then
 kr (41 : Int)
 else
 rc v403 v404 (w64 (v405 + (1 : Int))) v406)
 else
 Option.none
 else
 k0 ()
def sT_Check_l4 {R : Type} (N : Nat) : Nat → Arr api_Counter → Int → Int → api_Machine → (Int → Option R) → (Unit → Option R) → Option R
  | 0, _, _, _, _, _, _ => Option.none
  | n + 1, v403, v404, v405, v406, kr, k0 => sT_Check_b4 N (fun v403 v404 v405 v406 => sT_Check_l4 N n v403 v404 v405 v406 kr k0) v403 v404 v405 v406 kr k0
def sT_Check_L10 : LoopSp := ⟨⟨[1, 60, 61, 62], ⟨(dr 1 ((rPtr 0 0) :: (dr 58 ((rSl api_StateC) :: (rInt .i64) :: (rInt .i64) :: (dr 84 []))))), [(0, eBlkC api_MachineC)]⟩, 1⟩, [(Option.none, ⟨[2], ⟨(dr 2 ((rInt .i64) :: (dr 144 []))), []⟩, 0⟩), (some 2, ⟨[1], ⟨(dr 1 ((rPtr 0 0) :: (dr 145 []))), [(0, eBlkC api_MachineC)]⟩, 1⟩)]⟩
theorem sT_Check_L10_ok : sT_Check_L10.Ok := ⟨⟨(drCons 1 (allCons (rPtr_ok 0 0) (drCons 58 (allCons (rSl_ok api_StateC_ok) (allCons (rInt_ok .i64) (allCons (rInt_ok .i64) (drCons 84 allNil))))))), (eCons (eBlkC_ok api_MachineC_ok api_MachineC_len) eNil)⟩, (xCons ⟨(drCons 2 (allCons (rInt_ok .i64) (drCons 144 allNil))), eNil⟩ (xCons ⟨(drCons 1 (allCons (rPtr_ok 0 0) (drCons 145 allNil))), (eCons (eBlkC_ok api_MachineC_ok api_MachineC_len) eNil)⟩ xNil))⟩
def sT_Check_h10 (v409 : Arr api_State) (v410 : Int) (v411 : Int) (v412 : api_Machine) : St := ⟨(un 1 ((.ptr 0 0) :: (un 58 ((slC api_StateC v409) :: (.int .i64 v410) :: (.int .i64 v411) :: (un 84 []))))), [(0, .blk (Cod.enc api_MachineC v412))], 1⟩
def sT_Check_x10_r (q0 : Int) : St := ⟨(un 2 ((.int .i64 q0) :: (un 144 []))), [], 0⟩
def sT_Check_x10_2 (v412 : api_Machine) : St := ⟨(un 1 ((.ptr 0 0) :: (un 145 []))), [(0, .blk (Cod.enc api_MachineC v412))], 1⟩
def sT_Check_b10 {R : Type} (N : Nat) (rc : Arr api_State → Int → Int → api_Machine → Option R) (v409 : Arr api_State) (v410 : Int) (v411 : Int) (v412 : api_Machine) (kr : Int → Option R) (k2 : Unit → Option R) : Option R :=
 bif decide (v411 < v410) then
 bif decide ((0 : Int) ≤ v411) && decide (v411 < (↑(Arr.n v409) : Int)) then
 sT_within N (api_State.Shows (Arr.f v409 (Int.toNat v411))) (0 : Int) (w64 (w64 ((1 : Int) * (2 : Int) ^ min (Int.toNat (↑(Arr.n (api_Machine.Outputs v412)) : Int)) (IntKind.bits IntKind.i64)) - (1 : Int))) (fun r413 =>
 bif !r413 then
 kr (41 : Int)
 else
 rc v409 v410 (w64 (v411 + (1 : Int))) v412)
 else
 Option.none
 else
 k2 ()
def sT_Check_l10 {R : Type} (N : Nat) : Nat → Arr api_State → Int → Int → api_Machine → (Int → Option R) → (Unit → Option R) → Option R
  | 0, _, _, _, _, _, _ => Option.none
  | n + 1, v409, v410, v411, v412, kr, k2 => sT_Check_b10 N (fun v409 v410 v411 v412 => sT_Check_l10 N n v409 v410 v411 v412 kr k2) v409 v410 v411 v412 kr k2
def sT_Check_L21 : LoopSp := ⟨⟨[1, 8, 77, 78, 79, 115, 116, 117], ⟨(dr 1 ((rPtr 0 0) :: (dr 6 ((rPtr 1 0) :: (dr 68 ((rSl api_RuleC) :: (rInt .i64) :: (rInt .i64) :: (dr 35 ((rSl (lsC api_LiteralC)) :: (rInt .i64) :: (rInt .i64) :: (dr 29 []))))))))), [(0, eBlkC api_MachineC), (1, eBlkC api_RuleC)]⟩, 2⟩, [(Option.none, ⟨[2], ⟨(dr 2 ((rInt .i64) :: (dr 144 []))), []⟩, 0⟩), (some 6, ⟨[1, 8, 77, 78, 79], ⟨(dr 1 ((rPtr 0 0) :: (dr 6 ((rPtr 1 0) :: (dr 68 ((rSl api_RuleC) :: (rInt .i64) :: (rInt .i64) :: (dr 67 []))))))), [(0, eBlkC api_MachineC), (1, eBlkC api_RuleC)]⟩, 2⟩)]⟩
theorem sT_Check_L21_ok : sT_Check_L21.Ok := ⟨⟨(drCons 1 (allCons (rPtr_ok 0 0) (drCons 6 (allCons (rPtr_ok 1 0) (drCons 68 (allCons (rSl_ok api_RuleC_ok) (allCons (rInt_ok .i64) (allCons (rInt_ok .i64) (drCons 35 (allCons (rSl_ok (lsC_ok api_LiteralC_ok)) (allCons (rInt_ok .i64) (allCons (rInt_ok .i64) (drCons 29 allNil))))))))))))), (eCons (eBlkC_ok api_MachineC_ok api_MachineC_len) (eCons (eBlkC_ok api_RuleC_ok api_RuleC_len) eNil))⟩, (xCons ⟨(drCons 2 (allCons (rInt_ok .i64) (drCons 144 allNil))), eNil⟩ (xCons ⟨(drCons 1 (allCons (rPtr_ok 0 0) (drCons 6 (allCons (rPtr_ok 1 0) (drCons 68 (allCons (rSl_ok api_RuleC_ok) (allCons (rInt_ok .i64) (allCons (rInt_ok .i64) (drCons 67 allNil))))))))), (eCons (eBlkC_ok api_MachineC_ok api_MachineC_len) (eCons (eBlkC_ok api_RuleC_ok api_RuleC_len) eNil))⟩ xNil))⟩
def sT_Check_h21 (v451 : Arr api_Rule) (v452 : Int) (v453 : Int) (v454 : Arr (Arr api_Literal)) (v455 : Int) (v456 : Int) (v457 : api_Machine) (v458 : api_Rule) : St := ⟨(un 1 ((.ptr 0 0) :: (un 6 ((.ptr 1 0) :: (un 68 ((slC api_RuleC v451) :: (.int .i64 v452) :: (.int .i64 v453) :: (un 35 ((slC (lsC api_LiteralC) v454) :: (.int .i64 v455) :: (.int .i64 v456) :: (un 29 []))))))))), [(0, .blk (Cod.enc api_MachineC v457)), (1, .blk (Cod.enc api_RuleC v458))], 2⟩
def sT_Check_x21_r (q0 : Int) : St := ⟨(un 2 ((.int .i64 q0) :: (un 144 []))), [], 0⟩
def sT_Check_x21_6 (v451 : Arr api_Rule) (v452 : Int) (v453 : Int) (v457 : api_Machine) (v458 : api_Rule) : St := ⟨(un 1 ((.ptr 0 0) :: (un 6 ((.ptr 1 0) :: (un 68 ((slC api_RuleC v451) :: (.int .i64 v452) :: (.int .i64 v453) :: (un 67 []))))))), [(0, .blk (Cod.enc api_MachineC v457)), (1, .blk (Cod.enc api_RuleC v458))], 2⟩
def sT_Check_b21 {R : Type} (N : Nat) (rc : Arr api_Rule → Int → Int → Arr (Arr api_Literal) → Int → Int → api_Machine → api_Rule → Option R) (v451 : Arr api_Rule) (v452 : Int) (v453 : Int) (v454 : Arr (Arr api_Literal)) (v455 : Int) (v456 : Int) (v457 : api_Machine) (v458 : api_Rule) (kr : Int → Option R) (k6 : Unit → Option R) : Option R :=
 bif decide (v456 < v455) then
 bif decide ((0 : Int) ≤ v456) && decide (v456 < (↑(Arr.n v454) : Int)) then
 coL_v2 N (Arr.f v454 (Int.toNat v456)) (fun r468 =>
 bif r468 then
 kr (41 : Int)
 else
 rc v451 v452 v453 v454 v455 (w64 (v456 + (1 : Int))) v457 v458)
 else
 Option.none
 else
 k6 ()
def sT_Check_l21 {R : Type} (N : Nat) : Nat → Arr api_Rule → Int → Int → Arr (Arr api_Literal) → Int → Int → api_Machine → api_Rule → (Int → Option R) → (Unit → Option R) → Option R
  | 0, _, _, _, _, _, _, _, _, _, _ => Option.none
  | n + 1, v451, v452, v453, v454, v455, v456, v457, v458, kr, k6 => sT_Check_b21 N (fun v451 v452 v453 v454 v455 v456 v457 v458 => sT_Check_l21 N n v451 v452 v453 v454 v455 v456 v457 v458 kr k6) v451 v452 v453 v454 v455 v456 v457 v458 kr k6
def sT_Check_L27 : LoopSp := ⟨⟨[1, 77, 78, 79, 125, 126, 127], ⟨(dr 1 ((rPtr 0 0) :: (dr 75 ((rSl api_RuleC) :: (rInt .i64) :: (rInt .i64) :: (dr 45 ((rSl api_SetC) :: (rInt .i64) :: (rInt .i64) :: (dr 19 []))))))), [(0, eBlkC api_MachineC)]⟩, 1⟩, [(Option.none, ⟨[2], ⟨(dr 2 ((rInt .i64) :: (dr 144 []))), []⟩, 0⟩), (some 8, ⟨[1, 77, 78, 79], ⟨(dr 1 ((rPtr 0 0) :: (dr 75 ((rSl api_RuleC) :: (rInt .i64) :: (rInt .i64) :: (dr 67 []))))), [(0, eBlkC api_MachineC)]⟩, 1⟩)]⟩
theorem sT_Check_L27_ok : sT_Check_L27.Ok := ⟨⟨(drCons 1 (allCons (rPtr_ok 0 0) (drCons 75 (allCons (rSl_ok api_RuleC_ok) (allCons (rInt_ok .i64) (allCons (rInt_ok .i64) (drCons 45 (allCons (rSl_ok api_SetC_ok) (allCons (rInt_ok .i64) (allCons (rInt_ok .i64) (drCons 19 allNil))))))))))), (eCons (eBlkC_ok api_MachineC_ok api_MachineC_len) eNil)⟩, (xCons ⟨(drCons 2 (allCons (rInt_ok .i64) (drCons 144 allNil))), eNil⟩ (xCons ⟨(drCons 1 (allCons (rPtr_ok 0 0) (drCons 75 (allCons (rSl_ok api_RuleC_ok) (allCons (rInt_ok .i64) (allCons (rInt_ok .i64) (drCons 67 allNil))))))), (eCons (eBlkC_ok api_MachineC_ok api_MachineC_len) eNil)⟩ xNil))⟩
def sT_Check_h27 (v470 : Arr api_Rule) (v471 : Int) (v472 : Int) (v473 : Arr api_Set) (v474 : Int) (v475 : Int) (v476 : api_Machine) : St := ⟨(un 1 ((.ptr 0 0) :: (un 75 ((slC api_RuleC v470) :: (.int .i64 v471) :: (.int .i64 v472) :: (un 45 ((slC api_SetC v473) :: (.int .i64 v474) :: (.int .i64 v475) :: (un 19 []))))))), [(0, .blk (Cod.enc api_MachineC v476))], 1⟩
def sT_Check_x27_r (q0 : Int) : St := ⟨(un 2 ((.int .i64 q0) :: (un 144 []))), [], 0⟩
def sT_Check_x27_8 (v470 : Arr api_Rule) (v471 : Int) (v472 : Int) (v476 : api_Machine) : St := ⟨(un 1 ((.ptr 0 0) :: (un 75 ((slC api_RuleC v470) :: (.int .i64 v471) :: (.int .i64 v472) :: (un 67 []))))), [(0, .blk (Cod.enc api_MachineC v476))], 1⟩
def sT_Check_b27 {R : Type} (N : Nat) (rc : Arr api_Rule → Int → Int → Arr api_Set → Int → Int → api_Machine → Option R) (v470 : Arr api_Rule) (v471 : Int) (v472 : Int) (v473 : Arr api_Set) (v474 : Int) (v475 : Int) (v476 : api_Machine) (kr : Int → Option R) (k8 : Unit → Option R) : Option R :=
 bif decide (v475 < v474) then
 bif decide ((0 : Int) ≤ v475) && decide (v475 < (↑(Arr.n v473) : Int)) then
 sT_within N (api_Set.Kind (Arr.f v473 (Int.toNat v475))) (1 : Int) (3 : Int) (fun r477 =>
 bif !r477 then
 kr (41 : Int)
 else
 sT_within N (api_Set.Counter (Arr.f v473 (Int.toNat v475))) (0 : Int) (w64 ((↑(Arr.n (api_Machine.Counters v476)) : Int) - (1 : Int))) (fun r478 =>
 bif !r478 then
 kr (41 : Int)
 else
 rc v470 v471 v472 v473 v474 (w64 (v475 + (1 : Int))) v476))
 else
 Option.none
 else
 k8 ()
def sT_Check_l27 {R : Type} (N : Nat) : Nat → Arr api_Rule → Int → Int → Arr api_Set → Int → Int → api_Machine → (Int → Option R) → (Unit → Option R) → Option R
  | 0, _, _, _, _, _, _, _, _, _ => Option.none
  | n + 1, v470, v471, v472, v473, v474, v475, v476, kr, k8 => sT_Check_b27 N (fun v470 v471 v472 v473 v474 v475 v476 => sT_Check_l27 N n v470 v471 v472 v473 v474 v475 v476 kr k8) v470 v471 v472 v473 v474 v475 v476 kr k8
def sT_Check_L16 : LoopSp := ⟨⟨[1, 77, 78, 79], ⟨(dr 1 ((rPtr 0 0) :: (dr 75 ((rSl api_RuleC) :: (rInt .i64) :: (rInt .i64) :: (dr 67 []))))), [(0, eBlkC api_MachineC)]⟩, 1⟩, [(Option.none, ⟨[2], ⟨(dr 2 ((rInt .i64) :: (dr 144 []))), []⟩, 0⟩), (some 4, ⟨[], ⟨(dr 147 []), []⟩, 0⟩)]⟩
theorem sT_Check_L16_ok : sT_Check_L16.Ok := ⟨⟨(drCons 1 (allCons (rPtr_ok 0 0) (drCons 75 (allCons (rSl_ok api_RuleC_ok) (allCons (rInt_ok .i64) (allCons (rInt_ok .i64) (drCons 67 allNil))))))), (eCons (eBlkC_ok api_MachineC_ok api_MachineC_len) eNil)⟩, (xCons ⟨(drCons 2 (allCons (rInt_ok .i64) (drCons 144 allNil))), eNil⟩ (xCons ⟨(drCons 147 allNil), eNil⟩ xNil))⟩
def sT_Check_h16 (v415 : Arr api_Rule) (v416 : Int) (v417 : Int) (v418 : api_Machine) : St := ⟨(un 1 ((.ptr 0 0) :: (un 75 ((slC api_RuleC v415) :: (.int .i64 v416) :: (.int .i64 v417) :: (un 67 []))))), [(0, .blk (Cod.enc api_MachineC v418))], 1⟩
def sT_Check_x16_r (q0 : Int) : St := ⟨(un 2 ((.int .i64 q0) :: (un 144 []))), [], 0⟩
def sT_Check_x16_4  : St := ⟨(un 147 []), [], 0⟩
def sT_Check_b16 {R : Type} (N : Nat) (rc : Arr api_Rule → Int → Int → api_Machine → Option R) (v415 : Arr api_Rule) (v416 : Int) (v417 : Int) (v418 : api_Machine) (kr : Int → Option R) (k4 : Unit → Option R) : Option R :=
 bif decide (v417 < v416) then
 bif decide ((0 : Int) ≤ v417) && decide (v417 < (↑(Arr.n v415) : Int)) then
 sT_within N (api_Rule.From (Arr.f v415 (Int.toNat v417))) (-1 : Int) (w64 ((↑(Arr.n (api_Machine.States v418)) : Int) - (1 : Int))) (fun r419 =>
 bif !r419 then
 kr (41 : Int)
 else
 sT_within N (api_Rule.To (Arr.f v415 (Int.toNat v417))) (0 : Int) (w64 ((↑(Arr.n (api_Machine.States v418)) : Int) - (1 : Int))) (fun r420 =>
 bif !r420 then
 kr (41 : Int)
 else
 sT_Asked N v418 (api_Rule.When (Arr.f v415 (Int.toNat v417))) (fun r450 =>
 bif !r450 then
 kr (41 : Int)
 else
 bif decide ((↑(Arr.n (api_Rule.Sets (Arr.f v415 (Int.toNat v417)))) : Int) > (4 : Int)) then
 kr (41 : Int)
 else
 sT_Check_l21 N N v415 v416 v417 (api_Rule.When (Arr.f v415 (Int.toNat v417))) ((↑(Arr.n (api_Rule.When (Arr.f v415 (Int.toNat v417)))) : Int)) (0 : Int) v418 (Arr.f v415 (Int.toNat v417)) (fun r469 =>
 kr r469) (fun (_ : Unit) =>
 sT_Check_l27 N N v415 v416 v417 (api_Rule.Sets (Arr.f v415 (Int.toNat v417))) ((↑(Arr.n (api_Rule.Sets (Arr.f v415 (Int.toNat v417)))) : Int)) (0 : Int) v418 (fun r479 =>
 kr r479) (fun (_ : Unit) =>
 rc v415 v416 (w64 (v417 + (1 : Int))) v418)))))
 else
 Option.none
 else
 k4 ()
def sT_Check_l16 {R : Type} (N : Nat) : Nat → Arr api_Rule → Int → Int → api_Machine → (Int → Option R) → (Unit → Option R) → Option R
  | 0, _, _, _, _, _, _ => Option.none
  | n + 1, v415, v416, v417, v418, kr, k4 => sT_Check_b16 N (fun v415 v416 v417 v418 => sT_Check_l16 N n v415 v416 v417 v418 kr k4) v415 v416 v417 v418 kr k4
def sT_Check_m {R : Type} (N : Nat) (a344 : api_Machine) (k : Int → Option R) : Option R :=
 bif decide ((↑(Arr.n (api_Machine.Inputs a344)) : Int) > (4 : Int)) then
 k (41 : Int)
 else
 bif decide ((↑(Arr.n (api_Machine.Outputs a344)) : Int) > (6 : Int)) then
 k (41 : Int)
 else
 bif decide ((↑(Arr.n (api_Machine.Counters a344)) : Int) > (2 : Int)) then
 k (41 : Int)
 else
 sT_within N ((↑(Arr.n (api_Machine.States a344)) : Int)) (1 : Int) (12 : Int) (fun r348 =>
 bif !r348 then
 k (41 : Int)
 else
 bif decide ((↑(Arr.n (api_Machine.Rules a344)) : Int) > (40 : Int)) then
 k (41 : Int)
 else
 sT_named N a344 (fun r402 =>
 bif !r402 then
 k (41 : Int)
 else
 sT_Check_l4 N N (api_Machine.Counters a344) ((↑(Arr.n (api_Machine.Counters a344)) : Int)) (0 : Int) a344 (fun r408 =>
 k r408) (fun (_ : Unit) =>
 sT_Check_l10 N N (api_Machine.States a344) ((↑(Arr.n (api_Machine.States a344)) : Int)) (0 : Int) a344 (fun r414 =>
 k r414) (fun (_ : Unit) =>
 sT_Check_l16 N N (api_Machine.Rules a344) ((↑(Arr.n (api_Machine.Rules a344)) : Int)) (0 : Int) a344 (fun r480 =>
 k r480) (fun (_ : Unit) =>
 k (0 : Int))))))
noncomputable def sT_Check {R : Type} : Nat → api_Machine → (Int → Option R) → Option R := lock (@sT_Check_m R)
theorem sT_Check_def {R : Type} (N : Nat) (a344 : api_Machine) (k : Int → Option R) : sT_Check N a344 k = sT_Check_m N a344 k := by unfold sT_Check; rw [lock_eq]
def sT_Check_sp : Sp := ⟨[rAgg api_MachineC], []⟩
theorem sT_Check_sp_ok : sT_Check_sp.Ok := ⟨(allCons (rAgg_ok api_MachineC_ok api_MachineC_len) allNil), eNil⟩
def sT_Check_rs : Sp := ⟨[rInt .i64], []⟩
theorem sT_Check_rs_ok : sT_Check_rs.Ok := ⟨(allCons (rInt_ok .i64) allNil), eNil⟩
def sT_Check_run {R : Type} (N : Nat) (args : List SV) (T : Tab) (kf : SV × Tab → Option R) : Option R :=
  sT_Check_m N (Cod.dec api_MachineC (lget (toCs (lget args 0)))) (fun q0 => kf (lget [.int .i64 q0] 0, []))
def sT_Check_d27 {R : Type} (N : Nat) (S0 : St) (k : Exit → St → Option R) : Option R :=
  sT_Check_l27 N N (lstC api_RuleC (lget S0.tmps 77)) (toI (lget S0.tmps 78)) (toI (lget S0.tmps 79)) (lstC api_SetC (lget S0.tmps 125)) (toI (lget S0.tmps 126)) (toI (lget S0.tmps 127)) (Cod.dec api_MachineC (lget (entCs (entAt S0.tab 0)))) (fun q0 => k .ret (sT_Check_x27_r q0)) (fun (_ : Unit) => k (.exit 8) (sT_Check_x27_8 (lstC api_RuleC (lget S0.tmps 77)) (toI (lget S0.tmps 78)) (toI (lget S0.tmps 79)) (Cod.dec api_MachineC (lget (entCs (entAt S0.tab 0))))))
def sT_Check_d21 {R : Type} (N : Nat) (S0 : St) (k : Exit → St → Option R) : Option R :=
  sT_Check_l21 N N (lstC api_RuleC (lget S0.tmps 77)) (toI (lget S0.tmps 78)) (toI (lget S0.tmps 79)) (lstC (lsC api_LiteralC) (lget S0.tmps 115)) (toI (lget S0.tmps 116)) (toI (lget S0.tmps 117)) (Cod.dec api_MachineC (lget (entCs (entAt S0.tab 0)))) (Cod.dec api_RuleC (lget (entCs (entAt S0.tab 1)))) (fun q0 => k .ret (sT_Check_x21_r q0)) (fun (_ : Unit) => k (.exit 6) (sT_Check_x21_6 (lstC api_RuleC (lget S0.tmps 77)) (toI (lget S0.tmps 78)) (toI (lget S0.tmps 79)) (Cod.dec api_MachineC (lget (entCs (entAt S0.tab 0)))) (Cod.dec api_RuleC (lget (entCs (entAt S0.tab 1))))))
def sT_Check_d16 {R : Type} (N : Nat) (S0 : St) (k : Exit → St → Option R) : Option R :=
  sT_Check_l16 N N (lstC api_RuleC (lget S0.tmps 77)) (toI (lget S0.tmps 78)) (toI (lget S0.tmps 79)) (Cod.dec api_MachineC (lget (entCs (entAt S0.tab 0)))) (fun q0 => k .ret (sT_Check_x16_r q0)) (fun (_ : Unit) => k (.exit 4) (sT_Check_x16_4 ))
def sT_Check_d10 {R : Type} (N : Nat) (S0 : St) (k : Exit → St → Option R) : Option R :=
  sT_Check_l10 N N (lstC api_StateC (lget S0.tmps 60)) (toI (lget S0.tmps 61)) (toI (lget S0.tmps 62)) (Cod.dec api_MachineC (lget (entCs (entAt S0.tab 0)))) (fun q0 => k .ret (sT_Check_x10_r q0)) (fun (_ : Unit) => k (.exit 2) (sT_Check_x10_2 (Cod.dec api_MachineC (lget (entCs (entAt S0.tab 0))))))
def sT_Check_d4 {R : Type} (N : Nat) (S0 : St) (k : Exit → St → Option R) : Option R :=
  sT_Check_l4 N N (lstC api_CounterC (lget S0.tmps 48)) (toI (lget S0.tmps 49)) (toI (lget S0.tmps 50)) (Cod.dec api_MachineC (lget (entCs (entAt S0.tab 0)))) (fun q0 => k .ret (sT_Check_x4_r q0)) (fun (_ : Unit) => k (.exit 0) (sT_Check_x4_0 (Cod.dec api_MachineC (lget (entCs (entAt S0.tab 0))))))
def sT_Check_lp {R : Type} (N : Nat) : Lp R := fun body S k => bif (Go.Sx.keyOf body).getD 0 == 4 then (sT_Check_L4.head.raw 0 S (fun S0 => sT_Check_d4 N S0 k)) else bif (Go.Sx.keyOf body).getD 0 == 10 then (sT_Check_L10.head.raw 0 S (fun S0 => sT_Check_d10 N S0 k)) else bif (Go.Sx.keyOf body).getD 0 == 16 then (sT_Check_L16.head.raw 0 S (fun S0 => sT_Check_d16 N S0 k)) else bif (Go.Sx.keyOf body).getD 0 == 21 then (sT_Check_L21.head.raw 0 S (fun S0 => sT_Check_d21 N S0 k)) else bif (Go.Sx.keyOf body).getD 0 == 27 then (sT_Check_L27.head.raw 0 S (fun S0 => sT_Check_d27 N S0 k)) else Option.none
theorem sT_Check_l4_eq {R : Type} (N : Nat) (k : Exit → St → Option R) (n : Nat) : ∀ (v0 : Arr api_Counter) (v1 : Int) (v2 : Int) (v3 : api_Machine), loopM E.Θ (coL_v2_cal N) (sT_Check_lp N) (noJn) 0 sT_Check_L4 (bodyAt E 78 4) n (sT_Check_h4 v0 v1 v2 v3) k = sT_Check_l4 N n v0 v1 v2 v3 (fun q0 => k .ret (sT_Check_x4_r q0)) (fun (_ : Unit) => k (.exit 0) (sT_Check_x4_0 v3)) := by
  induction n with
  | zero => intro v0 v1 v2 v3; rfl
  | succ n ih =>
    intro v0 v1 v2 v3
    refine Eq.trans (b := sT_Check_b4 N (fun v0 v1 v2 v3 => loopM E.Θ (coL_v2_cal N) (sT_Check_lp N) (noJn) 0 sT_Check_L4 (bodyAt E 78 4) n (sT_Check_h4 v0 v1 v2 v3) k) v0 v1 v2 v3 (fun q0 => k .ret (sT_Check_x4_r q0)) (fun (_ : Unit) => k (.exit 0) (sT_Check_x4_0 v3))) (by kernel_rfl) ?_
    have h : (fun (v0 : Arr api_Counter) (v1 : Int) (v2 : Int) (v3 : api_Machine) => loopM E.Θ (coL_v2_cal N) (sT_Check_lp N) (noJn) 0 sT_Check_L4 (bodyAt E 78 4) n (sT_Check_h4 v0 v1 v2 v3) k) = (fun (v0 : Arr api_Counter) (v1 : Int) (v2 : Int) (v3 : api_Machine) => sT_Check_l4 N n v0 v1 v2 v3 (fun q0 => k .ret (sT_Check_x4_r q0)) (fun (_ : Unit) => k (.exit 0) (sT_Check_x4_0 v3))) := funext fun v0 => funext fun v1 => funext fun v2 => funext fun v3 => ih v0 v1 v2 v3
    rw [h]
    rfl
theorem sT_Check_l10_eq {R : Type} (N : Nat) (k : Exit → St → Option R) (n : Nat) : ∀ (v0 : Arr api_State) (v1 : Int) (v2 : Int) (v3 : api_Machine), loopM E.Θ (coL_v2_cal N) (sT_Check_lp N) (noJn) 0 sT_Check_L10 (bodyAt E 78 10) n (sT_Check_h10 v0 v1 v2 v3) k = sT_Check_l10 N n v0 v1 v2 v3 (fun q0 => k .ret (sT_Check_x10_r q0)) (fun (_ : Unit) => k (.exit 2) (sT_Check_x10_2 v3)) := by
  induction n with
  | zero => intro v0 v1 v2 v3; rfl
  | succ n ih =>
    intro v0 v1 v2 v3
    refine Eq.trans (b := sT_Check_b10 N (fun v0 v1 v2 v3 => loopM E.Θ (coL_v2_cal N) (sT_Check_lp N) (noJn) 0 sT_Check_L10 (bodyAt E 78 10) n (sT_Check_h10 v0 v1 v2 v3) k) v0 v1 v2 v3 (fun q0 => k .ret (sT_Check_x10_r q0)) (fun (_ : Unit) => k (.exit 2) (sT_Check_x10_2 v3))) (by kernel_rfl) ?_
    have h : (fun (v0 : Arr api_State) (v1 : Int) (v2 : Int) (v3 : api_Machine) => loopM E.Θ (coL_v2_cal N) (sT_Check_lp N) (noJn) 0 sT_Check_L10 (bodyAt E 78 10) n (sT_Check_h10 v0 v1 v2 v3) k) = (fun (v0 : Arr api_State) (v1 : Int) (v2 : Int) (v3 : api_Machine) => sT_Check_l10 N n v0 v1 v2 v3 (fun q0 => k .ret (sT_Check_x10_r q0)) (fun (_ : Unit) => k (.exit 2) (sT_Check_x10_2 v3))) := funext fun v0 => funext fun v1 => funext fun v2 => funext fun v3 => ih v0 v1 v2 v3
    rw [h]
    rfl
theorem sT_Check_l16_eq {R : Type} (N : Nat) (k : Exit → St → Option R) (n : Nat) : ∀ (v0 : Arr api_Rule) (v1 : Int) (v2 : Int) (v3 : api_Machine), loopM E.Θ (coL_v2_cal N) (sT_Check_lp N) (noJn) 0 sT_Check_L16 (bodyAt E 78 16) n (sT_Check_h16 v0 v1 v2 v3) k = sT_Check_l16 N n v0 v1 v2 v3 (fun q0 => k .ret (sT_Check_x16_r q0)) (fun (_ : Unit) => k (.exit 4) (sT_Check_x16_4 )) := by
  induction n with
  | zero => intro v0 v1 v2 v3; rfl
  | succ n ih =>
    intro v0 v1 v2 v3
    refine Eq.trans (b := sT_Check_b16 N (fun v0 v1 v2 v3 => loopM E.Θ (coL_v2_cal N) (sT_Check_lp N) (noJn) 0 sT_Check_L16 (bodyAt E 78 16) n (sT_Check_h16 v0 v1 v2 v3) k) v0 v1 v2 v3 (fun q0 => k .ret (sT_Check_x16_r q0)) (fun (_ : Unit) => k (.exit 4) (sT_Check_x16_4 ))) (by kernel_rfl) ?_
    have h : (fun (v0 : Arr api_Rule) (v1 : Int) (v2 : Int) (v3 : api_Machine) => loopM E.Θ (coL_v2_cal N) (sT_Check_lp N) (noJn) 0 sT_Check_L16 (bodyAt E 78 16) n (sT_Check_h16 v0 v1 v2 v3) k) = (fun (v0 : Arr api_Rule) (v1 : Int) (v2 : Int) (v3 : api_Machine) => sT_Check_l16 N n v0 v1 v2 v3 (fun q0 => k .ret (sT_Check_x16_r q0)) (fun (_ : Unit) => k (.exit 4) (sT_Check_x16_4 ))) := funext fun v0 => funext fun v1 => funext fun v2 => funext fun v3 => ih v0 v1 v2 v3
    rw [h]
    rfl
theorem sT_Check_l21_eq {R : Type} (N : Nat) (k : Exit → St → Option R) (n : Nat) : ∀ (v0 : Arr api_Rule) (v1 : Int) (v2 : Int) (v3 : Arr (Arr api_Literal)) (v4 : Int) (v5 : Int) (v6 : api_Machine) (v7 : api_Rule), loopM E.Θ (coL_v2_cal N) (sT_Check_lp N) (noJn) 0 sT_Check_L21 (bodyAt E 78 21) n (sT_Check_h21 v0 v1 v2 v3 v4 v5 v6 v7) k = sT_Check_l21 N n v0 v1 v2 v3 v4 v5 v6 v7 (fun q0 => k .ret (sT_Check_x21_r q0)) (fun (_ : Unit) => k (.exit 6) (sT_Check_x21_6 v0 v1 v2 v6 v7)) := by
  induction n with
  | zero => intro v0 v1 v2 v3 v4 v5 v6 v7; rfl
  | succ n ih =>
    intro v0 v1 v2 v3 v4 v5 v6 v7
    refine Eq.trans (b := sT_Check_b21 N (fun v0 v1 v2 v3 v4 v5 v6 v7 => loopM E.Θ (coL_v2_cal N) (sT_Check_lp N) (noJn) 0 sT_Check_L21 (bodyAt E 78 21) n (sT_Check_h21 v0 v1 v2 v3 v4 v5 v6 v7) k) v0 v1 v2 v3 v4 v5 v6 v7 (fun q0 => k .ret (sT_Check_x21_r q0)) (fun (_ : Unit) => k (.exit 6) (sT_Check_x21_6 v0 v1 v2 v6 v7))) (by kernel_rfl) ?_
    have h : (fun (v0 : Arr api_Rule) (v1 : Int) (v2 : Int) (v3 : Arr (Arr api_Literal)) (v4 : Int) (v5 : Int) (v6 : api_Machine) (v7 : api_Rule) => loopM E.Θ (coL_v2_cal N) (sT_Check_lp N) (noJn) 0 sT_Check_L21 (bodyAt E 78 21) n (sT_Check_h21 v0 v1 v2 v3 v4 v5 v6 v7) k) = (fun (v0 : Arr api_Rule) (v1 : Int) (v2 : Int) (v3 : Arr (Arr api_Literal)) (v4 : Int) (v5 : Int) (v6 : api_Machine) (v7 : api_Rule) => sT_Check_l21 N n v0 v1 v2 v3 v4 v5 v6 v7 (fun q0 => k .ret (sT_Check_x21_r q0)) (fun (_ : Unit) => k (.exit 6) (sT_Check_x21_6 v0 v1 v2 v6 v7))) := funext fun v0 => funext fun v1 => funext fun v2 => funext fun v3 => funext fun v4 => funext fun v5 => funext fun v6 => funext fun v7 => ih v0 v1 v2 v3 v4 v5 v6 v7
    rw [h]
    rfl
theorem sT_Check_l27_eq {R : Type} (N : Nat) (k : Exit → St → Option R) (n : Nat) : ∀ (v0 : Arr api_Rule) (v1 : Int) (v2 : Int) (v3 : Arr api_Set) (v4 : Int) (v5 : Int) (v6 : api_Machine), loopM E.Θ (coL_v2_cal N) (sT_Check_lp N) (noJn) 0 sT_Check_L27 (bodyAt E 78 27) n (sT_Check_h27 v0 v1 v2 v3 v4 v5 v6) k = sT_Check_l27 N n v0 v1 v2 v3 v4 v5 v6 (fun q0 => k .ret (sT_Check_x27_r q0)) (fun (_ : Unit) => k (.exit 8) (sT_Check_x27_8 v0 v1 v2 v6)) := by
  induction n with
  | zero => intro v0 v1 v2 v3 v4 v5 v6; rfl
  | succ n ih =>
    intro v0 v1 v2 v3 v4 v5 v6
    refine Eq.trans (b := sT_Check_b27 N (fun v0 v1 v2 v3 v4 v5 v6 => loopM E.Θ (coL_v2_cal N) (sT_Check_lp N) (noJn) 0 sT_Check_L27 (bodyAt E 78 27) n (sT_Check_h27 v0 v1 v2 v3 v4 v5 v6) k) v0 v1 v2 v3 v4 v5 v6 (fun q0 => k .ret (sT_Check_x27_r q0)) (fun (_ : Unit) => k (.exit 8) (sT_Check_x27_8 v0 v1 v2 v6))) (by kernel_rfl) ?_
    have h : (fun (v0 : Arr api_Rule) (v1 : Int) (v2 : Int) (v3 : Arr api_Set) (v4 : Int) (v5 : Int) (v6 : api_Machine) => loopM E.Θ (coL_v2_cal N) (sT_Check_lp N) (noJn) 0 sT_Check_L27 (bodyAt E 78 27) n (sT_Check_h27 v0 v1 v2 v3 v4 v5 v6) k) = (fun (v0 : Arr api_Rule) (v1 : Int) (v2 : Int) (v3 : Arr api_Set) (v4 : Int) (v5 : Int) (v6 : api_Machine) => sT_Check_l27 N n v0 v1 v2 v3 v4 v5 v6 (fun q0 => k .ret (sT_Check_x27_r q0)) (fun (_ : Unit) => k (.exit 8) (sT_Check_x27_8 v0 v1 v2 v6))) := funext fun v0 => funext fun v1 => funext fun v2 => funext fun v3 => funext fun v4 => funext fun v5 => funext fun v6 => ih v0 v1 v2 v3 v4 v5 v6
    rw [h]
    rfl
theorem sT_Check_k27 {R : Type} (N : Nat) : LpKey (R := R) E 78 0 (sT_Check_lp N) 27 :=
  lpKey_of hE (coL_v2_cal_ok N) (lp := sT_Check_lp N) (jn := noJn) sT_Check_L27_ok [] kNil (by kernel_rfl) [] jNil (by kernel_rfl) N fun S k =>
    Eq.trans (b := sT_Check_L27.head.raw 0 S (fun S0 => sT_Check_d27 N S0 k)) (by kernel_rfl) (congrArg (sT_Check_L27.head.raw 0 S) (funext fun S0 => Eq.trans (sT_Check_l27_eq N k N (lstC api_RuleC (lget S0.tmps 77)) (toI (lget S0.tmps 78)) (toI (lget S0.tmps 79)) (lstC api_SetC (lget S0.tmps 125)) (toI (lget S0.tmps 126)) (toI (lget S0.tmps 127)) (Cod.dec api_MachineC (lget (entCs (entAt S0.tab 0))))).symm (by kernel_rfl)))
theorem sT_Check_k4 {R : Type} (N : Nat) : LpKey (R := R) E 78 0 (sT_Check_lp N) 4 :=
  lpKey_of hE (coL_v2_cal_ok N) (lp := sT_Check_lp N) (jn := noJn) sT_Check_L4_ok [] kNil (by kernel_rfl) [] jNil (by kernel_rfl) N fun S k =>
    Eq.trans (b := sT_Check_L4.head.raw 0 S (fun S0 => sT_Check_d4 N S0 k)) (by kernel_rfl) (congrArg (sT_Check_L4.head.raw 0 S) (funext fun S0 => Eq.trans (sT_Check_l4_eq N k N (lstC api_CounterC (lget S0.tmps 48)) (toI (lget S0.tmps 49)) (toI (lget S0.tmps 50)) (Cod.dec api_MachineC (lget (entCs (entAt S0.tab 0))))).symm (by kernel_rfl)))
theorem sT_Check_k10 {R : Type} (N : Nat) : LpKey (R := R) E 78 0 (sT_Check_lp N) 10 :=
  lpKey_of hE (coL_v2_cal_ok N) (lp := sT_Check_lp N) (jn := noJn) sT_Check_L10_ok [] kNil (by kernel_rfl) [] jNil (by kernel_rfl) N fun S k =>
    Eq.trans (b := sT_Check_L10.head.raw 0 S (fun S0 => sT_Check_d10 N S0 k)) (by kernel_rfl) (congrArg (sT_Check_L10.head.raw 0 S) (funext fun S0 => Eq.trans (sT_Check_l10_eq N k N (lstC api_StateC (lget S0.tmps 60)) (toI (lget S0.tmps 61)) (toI (lget S0.tmps 62)) (Cod.dec api_MachineC (lget (entCs (entAt S0.tab 0))))).symm (by kernel_rfl)))
theorem sT_Check_k21 {R : Type} (N : Nat) : LpKey (R := R) E 78 0 (sT_Check_lp N) 21 :=
  lpKey_of hE (coL_v2_cal_ok N) (lp := sT_Check_lp N) (jn := noJn) sT_Check_L21_ok [] kNil (by kernel_rfl) [] jNil (by kernel_rfl) N fun S k =>
    Eq.trans (b := sT_Check_L21.head.raw 0 S (fun S0 => sT_Check_d21 N S0 k)) (by kernel_rfl) (congrArg (sT_Check_L21.head.raw 0 S) (funext fun S0 => Eq.trans (sT_Check_l21_eq N k N (lstC api_RuleC (lget S0.tmps 77)) (toI (lget S0.tmps 78)) (toI (lget S0.tmps 79)) (lstC (lsC api_LiteralC) (lget S0.tmps 115)) (toI (lget S0.tmps 116)) (toI (lget S0.tmps 117)) (Cod.dec api_MachineC (lget (entCs (entAt S0.tab 0)))) (Cod.dec api_RuleC (lget (entCs (entAt S0.tab 1))))).symm (by kernel_rfl)))
theorem sT_Check_k16 {R : Type} (N : Nat) : LpKey (R := R) E 78 0 (sT_Check_lp N) 16 :=
  lpKey_of hE (coL_v2_cal_ok N) (lp := sT_Check_lp N) (jn := noJn) sT_Check_L16_ok [21, 27] (kCons (sT_Check_k21 N) (kCons (sT_Check_k27 N) kNil)) (by kernel_rfl) [] jNil (by kernel_rfl) N fun S k =>
    Eq.trans (b := sT_Check_L16.head.raw 0 S (fun S0 => sT_Check_d16 N S0 k)) (by kernel_rfl) (congrArg (sT_Check_L16.head.raw 0 S) (funext fun S0 => Eq.trans (sT_Check_l16_eq N k N (lstC api_RuleC (lget S0.tmps 77)) (toI (lget S0.tmps 78)) (toI (lget S0.tmps 79)) (Cod.dec api_MachineC (lget (entCs (entAt S0.tab 0))))).symm (by kernel_rfl)))
noncomputable def sT_Check_go {R : Type} (N : Nat) (args : List SV) (T : Tab) (kf : SV × Tab → Option R) : Option R :=
  sT_Check N (Cod.dec api_MachineC (lget (toCs (lget args 0)))) (fun q0 => kf (lget [.int .i64 q0] 0, []))
noncomputable def sT_Check_cal {R : Type} (N : Nat) : Cal R := callM (coL_v2_cal N) 78 0 sT_Check_sp (sT_Check_go N)
theorem sT_Check_cal_ok {R : Type} (N : Nat) : CalOk E.P (sT_Check_cal (R := R) N) :=
  callM_ok hE (coL_v2_cal_ok N) (lp := sT_Check_lp N) (jn := noJn) (keys := [4, 10, 16, 21, 27]) (kCons (sT_Check_k4 N) (kCons (sT_Check_k10 N) (kCons (sT_Check_k16 N) (kCons (sT_Check_k21 N) (kCons (sT_Check_k27 N) kNil))))) (by kernel_rfl) (js := []) jNil (by kernel_rfl) sT_Check_sp_ok sT_Check_rs_ok (fun args T kf => Eq.trans (sT_Check_def N (Cod.dec api_MachineC (lget (toCs (lget args 0)))) (fun q0 => kf (lget [.int .i64 q0] 0, []))) (by kernel_rfl : sT_Check_run N args T kf = fnM E (coL_v2_cal N) (sT_Check_lp N) (noJn) 78 (sT_Check_sp.vs args) (sT_Check_sp.tab T) 0 (resK sT_Check_rs kf)))
def control_Check_m {R : Type} (N : Nat) (a343 : api_Machine) (k : Int → Option R) : Option R :=
 sT_Check N a343 (fun r481 =>
 k r481)
noncomputable def control_Check {R : Type} : Nat → api_Machine → (Int → Option R) → Option R := lock (@control_Check_m R)
theorem control_Check_def {R : Type} (N : Nat) (a343 : api_Machine) (k : Int → Option R) : control_Check N a343 k = control_Check_m N a343 k := by unfold control_Check; rw [lock_eq]
def control_Check_sp : Sp := ⟨[rAgg api_MachineC], []⟩
theorem control_Check_sp_ok : control_Check_sp.Ok := ⟨(allCons (rAgg_ok api_MachineC_ok api_MachineC_len) allNil), eNil⟩
def control_Check_rs : Sp := ⟨[rInt .i64], []⟩
theorem control_Check_rs_ok : control_Check_rs.Ok := ⟨(allCons (rInt_ok .i64) allNil), eNil⟩
def control_Check_run {R : Type} (N : Nat) (args : List SV) (T : Tab) (kf : SV × Tab → Option R) : Option R :=
  control_Check_m N (Cod.dec api_MachineC (lget (toCs (lget args 0)))) (fun q0 => kf (lget [.int .i64 q0] 0, []))
def control_Check_lp {R : Type} (N : Nat) : Lp R := fun body S k => Option.none
noncomputable def control_Check_go {R : Type} (N : Nat) (args : List SV) (T : Tab) (kf : SV × Tab → Option R) : Option R :=
  control_Check N (Cod.dec api_MachineC (lget (toCs (lget args 0)))) (fun q0 => kf (lget [.int .i64 q0] 0, []))
noncomputable def control_Check_cal {R : Type} (N : Nat) : Cal R := callM (sT_Check_cal N) 53 0 control_Check_sp (control_Check_go N)
theorem control_Check_cal_ok {R : Type} (N : Nat) : CalOk E.P (control_Check_cal (R := R) N) :=
  callM_ok hE (sT_Check_cal_ok N) (lp := control_Check_lp N) (jn := noJn) (keys := []) kNil (by kernel_rfl) (js := []) jNil (by kernel_rfl) control_Check_sp_ok control_Check_rs_ok (fun args T kf => Eq.trans (control_Check_def N (Cod.dec api_MachineC (lget (toCs (lget args 0)))) (fun q0 => kf (lget [.int .i64 q0] 0, []))) (by kernel_rfl : control_Check_run N args T kf = fnM E (sT_Check_cal N) (control_Check_lp N) (noJn) 53 (control_Check_sp.vs args) (control_Check_sp.tab T) 0 (resK control_Check_rs kf)))
def control_check_L5 : LoopSp := ⟨⟨[2, 13, 14, 15], ⟨(dr 2 ((rPtr 0 0) :: (dr 10 ((rSl (lsC (lsC api_LiteralC))) :: (rInt .i64) :: (rInt .i64) :: (dr 8 []))))), [(0, eBlkC api_MachineC)]⟩, 1⟩, [(Option.none, ⟨[4], ⟨(dr 4 ((rInt .i64) :: (dr 19 []))), []⟩, 0⟩), (some 0, ⟨[], ⟨(dr 24 []), []⟩, 0⟩)]⟩
theorem control_check_L5_ok : control_check_L5.Ok := ⟨⟨(drCons 2 (allCons (rPtr_ok 0 0) (drCons 10 (allCons (rSl_ok (lsC_ok (lsC_ok api_LiteralC_ok))) (allCons (rInt_ok .i64) (allCons (rInt_ok .i64) (drCons 8 allNil))))))), (eCons (eBlkC_ok api_MachineC_ok api_MachineC_len) eNil)⟩, (xCons ⟨(drCons 4 (allCons (rInt_ok .i64) (drCons 19 allNil))), eNil⟩ (xCons ⟨(drCons 24 allNil), eNil⟩ xNil))⟩
def control_check_h5 (v483 : Arr (Arr (Arr api_Literal))) (v484 : Int) (v485 : Int) (v486 : api_Machine) : St := ⟨(un 2 ((.ptr 0 0) :: (un 10 ((slC (lsC (lsC api_LiteralC)) v483) :: (.int .i64 v484) :: (.int .i64 v485) :: (un 8 []))))), [(0, .blk (Cod.enc api_MachineC v486))], 1⟩
def control_check_x5_r (q0 : Int) : St := ⟨(un 4 ((.int .i64 q0) :: (un 19 []))), [], 0⟩
def control_check_x5_0  : St := ⟨(un 24 []), [], 0⟩
def control_check_b5 {R : Type} (N : Nat) (rc : Arr (Arr (Arr api_Literal)) → Int → Int → api_Machine → Option R) (v483 : Arr (Arr (Arr api_Literal))) (v484 : Int) (v485 : Int) (v486 : api_Machine) (kr : Int → Option R) (k0 : Unit → Option R) : Option R :=
 bif decide (v485 < v484) then
 bif decide ((0 : Int) ≤ v485) && decide (v485 < (↑(Arr.n v483) : Int)) then
 sT_Asked N v486 (Arr.f v483 (Int.toNat v485)) (fun r487 =>
 bif !r487 then
 kr (42 : Int)
 else
 rc v483 v484 (w64 (v485 + (1 : Int))) v486)
 else
 Option.none
 else
 k0 ()
def control_check_l5 {R : Type} (N : Nat) : Nat → Arr (Arr (Arr api_Literal)) → Int → Int → api_Machine → (Int → Option R) → (Unit → Option R) → Option R
  | 0, _, _, _, _, _, _ => Option.none
  | n + 1, v483, v484, v485, v486, kr, k0 => control_check_b5 N (fun v483 v484 v485 v486 => control_check_l5 N n v483 v484 v485 v486 kr k0) v483 v484 v485 v486 kr k0
def control_check_m {R : Type} (N : Nat) (a341 : api_Machine) (a342 : Arr (Arr (Arr api_Literal))) (k : Int → Option R) : Option R :=
 control_Check N a341 (fun r482 =>
 bif r482 != (0 : Int) then
 k r482
 else
 control_check_l5 N N a342 ((↑(Arr.n a342) : Int)) (0 : Int) a341 (fun r488 =>
 k r488) (fun (_ : Unit) =>
 k (0 : Int)))
noncomputable def control_check {R : Type} : Nat → api_Machine → Arr (Arr (Arr api_Literal)) → (Int → Option R) → Option R := lock (@control_check_m R)
theorem control_check_def {R : Type} (N : Nat) (a341 : api_Machine) (a342 : Arr (Arr (Arr api_Literal))) (k : Int → Option R) : control_check N a341 a342 k = control_check_m N a341 a342 k := by unfold control_check; rw [lock_eq]
def control_check_sp : Sp := ⟨[rAgg api_MachineC, rSl (lsC (lsC api_LiteralC))], []⟩
theorem control_check_sp_ok : control_check_sp.Ok := ⟨(allCons (rAgg_ok api_MachineC_ok api_MachineC_len) (allCons (rSl_ok (lsC_ok (lsC_ok api_LiteralC_ok))) allNil)), eNil⟩
def control_check_rs : Sp := ⟨[rInt .i64], []⟩
theorem control_check_rs_ok : control_check_rs.Ok := ⟨(allCons (rInt_ok .i64) allNil), eNil⟩
def control_check_run {R : Type} (N : Nat) (args : List SV) (T : Tab) (kf : SV × Tab → Option R) : Option R :=
  control_check_m N (Cod.dec api_MachineC (lget (toCs (lget args 0)))) (lstC (lsC (lsC api_LiteralC)) (lget args 1)) (fun q0 => kf (lget [.int .i64 q0] 0, []))
def control_check_d5 {R : Type} (N : Nat) (S0 : St) (k : Exit → St → Option R) : Option R :=
  control_check_l5 N N (lstC (lsC (lsC api_LiteralC)) (lget S0.tmps 13)) (toI (lget S0.tmps 14)) (toI (lget S0.tmps 15)) (Cod.dec api_MachineC (lget (entCs (entAt S0.tab 0)))) (fun q0 => k .ret (control_check_x5_r q0)) (fun (_ : Unit) => k (.exit 0) (control_check_x5_0 ))
def control_check_lp {R : Type} (N : Nat) : Lp R := fun body S k => bif (Go.Sx.keyOf body).getD 0 == 5 then (control_check_L5.head.raw 0 S (fun S0 => control_check_d5 N S0 k)) else Option.none
theorem control_check_l5_eq {R : Type} (N : Nat) (k : Exit → St → Option R) (n : Nat) : ∀ (v0 : Arr (Arr (Arr api_Literal))) (v1 : Int) (v2 : Int) (v3 : api_Machine), loopM E.Θ (control_Check_cal N) (control_check_lp N) (noJn) 0 control_check_L5 (bodyAt E 49 5) n (control_check_h5 v0 v1 v2 v3) k = control_check_l5 N n v0 v1 v2 v3 (fun q0 => k .ret (control_check_x5_r q0)) (fun (_ : Unit) => k (.exit 0) (control_check_x5_0 )) := by
  induction n with
  | zero => intro v0 v1 v2 v3; rfl
  | succ n ih =>
    intro v0 v1 v2 v3
    refine Eq.trans (b := control_check_b5 N (fun v0 v1 v2 v3 => loopM E.Θ (control_Check_cal N) (control_check_lp N) (noJn) 0 control_check_L5 (bodyAt E 49 5) n (control_check_h5 v0 v1 v2 v3) k) v0 v1 v2 v3 (fun q0 => k .ret (control_check_x5_r q0)) (fun (_ : Unit) => k (.exit 0) (control_check_x5_0 ))) (by kernel_rfl) ?_
    have h : (fun (v0 : Arr (Arr (Arr api_Literal))) (v1 : Int) (v2 : Int) (v3 : api_Machine) => loopM E.Θ (control_Check_cal N) (control_check_lp N) (noJn) 0 control_check_L5 (bodyAt E 49 5) n (control_check_h5 v0 v1 v2 v3) k) = (fun (v0 : Arr (Arr (Arr api_Literal))) (v1 : Int) (v2 : Int) (v3 : api_Machine) => control_check_l5 N n v0 v1 v2 v3 (fun q0 => k .ret (control_check_x5_r q0)) (fun (_ : Unit) => k (.exit 0) (control_check_x5_0 ))) := funext fun v0 => funext fun v1 => funext fun v2 => funext fun v3 => ih v0 v1 v2 v3
    rw [h]
    rfl
theorem control_check_k5 {R : Type} (N : Nat) : LpKey (R := R) E 49 0 (control_check_lp N) 5 :=
  lpKey_of hE (control_Check_cal_ok N) (lp := control_check_lp N) (jn := noJn) control_check_L5_ok [] kNil (by kernel_rfl) [] jNil (by kernel_rfl) N fun S k =>
    Eq.trans (b := control_check_L5.head.raw 0 S (fun S0 => control_check_d5 N S0 k)) (by kernel_rfl) (congrArg (control_check_L5.head.raw 0 S) (funext fun S0 => Eq.trans (control_check_l5_eq N k N (lstC (lsC (lsC api_LiteralC)) (lget S0.tmps 13)) (toI (lget S0.tmps 14)) (toI (lget S0.tmps 15)) (Cod.dec api_MachineC (lget (entCs (entAt S0.tab 0))))).symm (by kernel_rfl)))
noncomputable def control_check_go {R : Type} (N : Nat) (args : List SV) (T : Tab) (kf : SV × Tab → Option R) : Option R :=
  control_check N (Cod.dec api_MachineC (lget (toCs (lget args 0)))) (lstC (lsC (lsC api_LiteralC)) (lget args 1)) (fun q0 => kf (lget [.int .i64 q0] 0, []))
noncomputable def control_check_cal {R : Type} (N : Nat) : Cal R := callM (control_Check_cal N) 49 0 control_check_sp (control_check_go N)
theorem control_check_cal_ok {R : Type} (N : Nat) : CalOk E.P (control_check_cal (R := R) N) :=
  callM_ok hE (control_Check_cal_ok N) (lp := control_check_lp N) (jn := noJn) (keys := [5]) (kCons (control_check_k5 N) kNil) (by kernel_rfl) (js := []) jNil (by kernel_rfl) control_check_sp_ok control_check_rs_ok (fun args T kf => Eq.trans (control_check_def N (Cod.dec api_MachineC (lget (toCs (lget args 0)))) (lstC (lsC (lsC api_LiteralC)) (lget args 1)) (fun q0 => kf (lget [.int .i64 q0] 0, []))) (by kernel_rfl : control_check_run N args T kf = fnM E (control_Check_cal N) (control_check_lp N) (noJn) 49 (control_check_sp.vs args) (control_check_sp.tab T) 0 (resK control_check_rs kf)))
def control_of_m {R : Type} (N : Nat) (a490 : api_Machine) (k : Arr ByteArray → Arr ByteArray → Arr api_Counter → Arr api_State → Arr api_Rule → Option R) : Option R :=
 k (api_Machine.Inputs a490) (api_Machine.Outputs a490) (api_Machine.Counters a490) (api_Machine.States a490) (api_Machine.Rules a490)
noncomputable def control_of {R : Type} : Nat → api_Machine → (Arr ByteArray → Arr ByteArray → Arr api_Counter → Arr api_State → Arr api_Rule → Option R) → Option R := lock (@control_of_m R)
theorem control_of_def {R : Type} (N : Nat) (a490 : api_Machine) (k : Arr ByteArray → Arr ByteArray → Arr api_Counter → Arr api_State → Arr api_Rule → Option R) : control_of N a490 k = control_of_m N a490 k := by unfold control_of; rw [lock_eq]
def control_of_sp : Sp := ⟨[rAgg api_MachineC], []⟩
theorem control_of_sp_ok : control_of_sp.Ok := ⟨(allCons (rAgg_ok api_MachineC_ok api_MachineC_len) allNil), eNil⟩
def control_of_rs : Sp := ⟨[rAggs [rSl strC, rSl strC, rSl api_CounterC, rSl api_StateC, rSl api_RuleC]], []⟩
theorem control_of_rs_ok : control_of_rs.Ok := ⟨(allCons (rAggs_ok (allCons (rSl_ok strC_ok) (allCons (rSl_ok strC_ok) (allCons (rSl_ok api_CounterC_ok) (allCons (rSl_ok api_StateC_ok) (allCons (rSl_ok api_RuleC_ok) allNil)))))) allNil), eNil⟩
def control_of_run {R : Type} (N : Nat) (args : List SV) (T : Tab) (kf : SV × Tab → Option R) : Option R :=
  control_of_m N (Cod.dec api_MachineC (lget (toCs (lget args 0)))) (fun q0 q1 q2 q3 q4 => kf (lget [.agg [slC strC q0, slC strC q1, slC api_CounterC q2, slC api_StateC q3, slC api_RuleC q4]] 0, []))
def control_of_lp {R : Type} (N : Nat) : Lp R := fun body S k => Option.none
noncomputable def control_of_go {R : Type} (N : Nat) (args : List SV) (T : Tab) (kf : SV × Tab → Option R) : Option R :=
  control_of N (Cod.dec api_MachineC (lget (toCs (lget args 0)))) (fun q0 q1 q2 q3 q4 => kf (lget [.agg [slC strC q0, slC strC q1, slC api_CounterC q2, slC api_StateC q3, slC api_RuleC q4]] 0, []))
noncomputable def control_of_cal {R : Type} (N : Nat) : Cal R := callM (control_check_cal N) 50 0 control_of_sp (control_of_go N)
theorem control_of_cal_ok {R : Type} (N : Nat) : CalOk E.P (control_of_cal (R := R) N) :=
  callM_ok hE (control_check_cal_ok N) (lp := control_of_lp N) (jn := noJn) (keys := []) kNil (by kernel_rfl) (js := []) jNil (by kernel_rfl) control_of_sp_ok control_of_rs_ok (fun args T kf => Eq.trans (control_of_def N (Cod.dec api_MachineC (lget (toCs (lget args 0)))) (fun q0 q1 q2 q3 q4 => kf (lget [.agg [slC strC q0, slC strC q1, slC api_CounterC q2, slC api_StateC q3, slC api_RuleC q4]] 0, []))) (by kernel_rfl : control_of_run N args T kf = fnM E (control_check_cal N) (control_of_lp N) (noJn) 50 (control_of_sp.vs args) (control_of_sp.tab T) 0 (resK control_of_rs kf)))
def sP_All_m {R : Type} (N : Nat) (a518 : Arr ByteArray) (a519 : Arr ByteArray) (a520 : Arr api_Counter) (a521 : Arr api_State) (a522 : Arr api_Rule) (k : Int → Option R) : Option R :=
 k (w64 ((1 : Int) * (2 : Int) ^ min (Int.toNat (↑(Arr.n a518) : Int)) (IntKind.bits IntKind.i64)))
noncomputable def sP_All {R : Type} : Nat → Arr ByteArray → Arr ByteArray → Arr api_Counter → Arr api_State → Arr api_Rule → (Int → Option R) → Option R := lock (@sP_All_m R)
theorem sP_All_def {R : Type} (N : Nat) (a518 : Arr ByteArray) (a519 : Arr ByteArray) (a520 : Arr api_Counter) (a521 : Arr api_State) (a522 : Arr api_Rule) (k : Int → Option R) : sP_All N a518 a519 a520 a521 a522 k = sP_All_m N a518 a519 a520 a521 a522 k := by unfold sP_All; rw [lock_eq]
def sP_All_sp : Sp := ⟨[rAggs [rSl strC, rSl strC, rSl api_CounterC, rSl api_StateC, rSl api_RuleC]], []⟩
theorem sP_All_sp_ok : sP_All_sp.Ok := ⟨(allCons (rAggs_ok (allCons (rSl_ok strC_ok) (allCons (rSl_ok strC_ok) (allCons (rSl_ok api_CounterC_ok) (allCons (rSl_ok api_StateC_ok) (allCons (rSl_ok api_RuleC_ok) allNil)))))) allNil), eNil⟩
def sP_All_rs : Sp := ⟨[rInt .i64], []⟩
theorem sP_All_rs_ok : sP_All_rs.Ok := ⟨(allCons (rInt_ok .i64) allNil), eNil⟩
def sP_All_run {R : Type} (N : Nat) (args : List SV) (T : Tab) (kf : SV × Tab → Option R) : Option R :=
  sP_All_m N (lstC strC (lget (toCs (lget args 0)) 0)) (lstC strC (lget (toCs (lget args 0)) 1)) (lstC api_CounterC (lget (toCs (lget args 0)) 2)) (lstC api_StateC (lget (toCs (lget args 0)) 3)) (lstC api_RuleC (lget (toCs (lget args 0)) 4)) (fun q0 => kf (lget [.int .i64 q0] 0, []))
def sP_All_lp {R : Type} (N : Nat) : Lp R := fun body S k => Option.none
noncomputable def sP_All_go {R : Type} (N : Nat) (args : List SV) (T : Tab) (kf : SV × Tab → Option R) : Option R :=
  sP_All N (lstC strC (lget (toCs (lget args 0)) 0)) (lstC strC (lget (toCs (lget args 0)) 1)) (lstC api_CounterC (lget (toCs (lget args 0)) 2)) (lstC api_StateC (lget (toCs (lget args 0)) 3)) (lstC api_RuleC (lget (toCs (lget args 0)) 4)) (fun q0 => kf (lget [.int .i64 q0] 0, []))
noncomputable def sP_All_cal {R : Type} (N : Nat) : Cal R := callM (control_of_cal N) 76 0 sP_All_sp (sP_All_go N)
theorem sP_All_cal_ok {R : Type} (N : Nat) : CalOk E.P (sP_All_cal (R := R) N) :=
  callM_ok hE (control_of_cal_ok N) (lp := sP_All_lp N) (jn := noJn) (keys := []) kNil (by kernel_rfl) (js := []) jNil (by kernel_rfl) sP_All_sp_ok sP_All_rs_ok (fun args T kf => Eq.trans (sP_All_def N (lstC strC (lget (toCs (lget args 0)) 0)) (lstC strC (lget (toCs (lget args 0)) 1)) (lstC api_CounterC (lget (toCs (lget args 0)) 2)) (lstC api_StateC (lget (toCs (lget args 0)) 3)) (lstC api_RuleC (lget (toCs (lget args 0)) 4)) (fun q0 => kf (lget [.int .i64 q0] 0, []))) (by kernel_rfl : sP_All_run N args T kf = fnM E (control_of_cal N) (sP_All_lp N) (noJn) 76 (sP_All_sp.vs args) (sP_All_sp.tab T) 0 (resK sP_All_rs kf)))
def sP_literal_m {R : Type} (N : Nat) (a637 : Arr ByteArray) (a638 : Arr ByteArray) (a639 : Arr api_Counter) (a640 : Arr api_State) (a641 : Arr api_Rule) (a642 : api_Literal) (a643 : api_Place) (a644 : Int) (k : Bool → Option R) : Option R :=
 bif api_Literal.Kind a642 == (1 : Int) then
 bif decide (api_Literal.Number a642 < (0 : Int)) then
 Option.none
 else
 k (!(w64 (↑(BitVec.toNat (BitVec.ofInt (IntKind.bits IntKind.i64) (Int.fdiv a644 ((2 : Int) ^ min (Int.toNat (api_Literal.Number a642)) (IntKind.bits IntKind.i64))) &&& BitVec.ofInt (IntKind.bits IntKind.i64) (1 : Int))) : Int) == (1 : Int)) == api_Literal.Not a642)
 else
 bif api_Literal.Kind a642 == (2 : Int) then
 bif decide ((0 : Int) ≤ api_Literal.Number a642) && decide (api_Literal.Number a642 < (↑(2 : Nat) : Int)) then
 k (!decide (pickI (api_Literal.Number a642) (0 : Nat) [Arr2_int.a0 (api_Place.Values a643), Arr2_int.a1 (api_Place.Values a643)] ≥ api_Literal.Value a642) == api_Literal.Not a642)
 else
 Option.none
 else
 bif api_Literal.Kind a642 == (3 : Int) then
 k (!(api_Place.State a643 == api_Literal.Number a642) == api_Literal.Not a642)
 else
 bif api_Literal.Kind a642 == (4 : Int) then
 bif decide ((0 : Int) ≤ api_Place.State a643) && decide (api_Place.State a643 < (↑(Arr.n a640) : Int)) then
 bif decide (api_Literal.Number a642 < (0 : Int)) then
 Option.none
 else
 k (!(w64 (↑(BitVec.toNat (BitVec.ofInt (IntKind.bits IntKind.i64) (Int.fdiv (api_State.Shows (Arr.f a640 (Int.toNat (api_Place.State a643)))) ((2 : Int) ^ min (Int.toNat (api_Literal.Number a642)) (IntKind.bits IntKind.i64))) &&& BitVec.ofInt (IntKind.bits IntKind.i64) (1 : Int))) : Int) == (1 : Int)) == api_Literal.Not a642)
 else
 Option.none
 else
 k (!false == api_Literal.Not a642)
noncomputable def sP_literal {R : Type} : Nat → Arr ByteArray → Arr ByteArray → Arr api_Counter → Arr api_State → Arr api_Rule → api_Literal → api_Place → Int → (Bool → Option R) → Option R := lock (@sP_literal_m R)
theorem sP_literal_def {R : Type} (N : Nat) (a637 : Arr ByteArray) (a638 : Arr ByteArray) (a639 : Arr api_Counter) (a640 : Arr api_State) (a641 : Arr api_Rule) (a642 : api_Literal) (a643 : api_Place) (a644 : Int) (k : Bool → Option R) : sP_literal N a637 a638 a639 a640 a641 a642 a643 a644 k = sP_literal_m N a637 a638 a639 a640 a641 a642 a643 a644 k := by unfold sP_literal; rw [lock_eq]
def sP_literal_sp : Sp := ⟨[rAggs [rSl strC, rSl strC, rSl api_CounterC, rSl api_StateC, rSl api_RuleC], rAgg api_LiteralC, rAgg api_PlaceC, rInt .i64], []⟩
theorem sP_literal_sp_ok : sP_literal_sp.Ok := ⟨(allCons (rAggs_ok (allCons (rSl_ok strC_ok) (allCons (rSl_ok strC_ok) (allCons (rSl_ok api_CounterC_ok) (allCons (rSl_ok api_StateC_ok) (allCons (rSl_ok api_RuleC_ok) allNil)))))) (allCons (rAgg_ok api_LiteralC_ok api_LiteralC_len) (allCons (rAgg_ok api_PlaceC_ok api_PlaceC_len) (allCons (rInt_ok .i64) allNil)))), eNil⟩
def sP_literal_rs : Sp := ⟨[rBool], []⟩
theorem sP_literal_rs_ok : sP_literal_rs.Ok := ⟨(allCons rBool_ok allNil), eNil⟩
def sP_literal_run {R : Type} (N : Nat) (args : List SV) (T : Tab) (kf : SV × Tab → Option R) : Option R :=
  sP_literal_m N (lstC strC (lget (toCs (lget args 0)) 0)) (lstC strC (lget (toCs (lget args 0)) 1)) (lstC api_CounterC (lget (toCs (lget args 0)) 2)) (lstC api_StateC (lget (toCs (lget args 0)) 3)) (lstC api_RuleC (lget (toCs (lget args 0)) 4)) (Cod.dec api_LiteralC (lget (toCs (lget args 1)))) (Cod.dec api_PlaceC (lget (toCs (lget args 2)))) (toI (lget args 3)) (fun q0 => kf (lget [.bool q0] 0, []))
def sP_literal_lp {R : Type} (N : Nat) : Lp R := fun body S k => Option.none
noncomputable def sP_literal_go {R : Type} (N : Nat) (args : List SV) (T : Tab) (kf : SV × Tab → Option R) : Option R :=
  sP_literal N (lstC strC (lget (toCs (lget args 0)) 0)) (lstC strC (lget (toCs (lget args 0)) 1)) (lstC api_CounterC (lget (toCs (lget args 0)) 2)) (lstC api_StateC (lget (toCs (lget args 0)) 3)) (lstC api_RuleC (lget (toCs (lget args 0)) 4)) (Cod.dec api_LiteralC (lget (toCs (lget args 1)))) (Cod.dec api_PlaceC (lget (toCs (lget args 2)))) (toI (lget args 3)) (fun q0 => kf (lget [.bool q0] 0, []))
noncomputable def sP_literal_cal {R : Type} (N : Nat) : Cal R := callM (sP_All_cal N) 101 0 sP_literal_sp (sP_literal_go N)
theorem sP_literal_cal_ok {R : Type} (N : Nat) : CalOk E.P (sP_literal_cal (R := R) N) :=
  callM_ok hE (sP_All_cal_ok N) (lp := sP_literal_lp N) (jn := noJn) (keys := []) kNil (by kernel_rfl) (js := []) jNil (by kernel_rfl) sP_literal_sp_ok sP_literal_rs_ok (fun args T kf => Eq.trans (sP_literal_def N (lstC strC (lget (toCs (lget args 0)) 0)) (lstC strC (lget (toCs (lget args 0)) 1)) (lstC api_CounterC (lget (toCs (lget args 0)) 2)) (lstC api_StateC (lget (toCs (lget args 0)) 3)) (lstC api_RuleC (lget (toCs (lget args 0)) 4)) (Cod.dec api_LiteralC (lget (toCs (lget args 1)))) (Cod.dec api_PlaceC (lget (toCs (lget args 2)))) (toI (lget args 3)) (fun q0 => kf (lget [.bool q0] 0, []))) (by kernel_rfl : sP_literal_run N args T kf = fnM E (sP_All_cal N) (sP_literal_lp N) (noJn) 101 (sP_literal_sp.vs args) (sP_literal_sp.tab T) 0 (resK sP_literal_rs kf)))
def sP_Holds_1_1_m {R : Type} (N : Nat) (a629 : api_Literal) (a630 : Arr ByteArray) (a631 : Arr ByteArray) (a632 : Arr api_Counter) (a633 : Arr api_State) (a634 : Arr api_Rule) (a635 : api_Place) (a636 : Int) (k : Bool → Option R) : Option R :=
 sP_literal N a630 a631 a632 a633 a634 a629 a635 a636 (fun r645 =>
 k (!r645))
noncomputable def sP_Holds_1_1 {R : Type} : Nat → api_Literal → Arr ByteArray → Arr ByteArray → Arr api_Counter → Arr api_State → Arr api_Rule → api_Place → Int → (Bool → Option R) → Option R := lock (@sP_Holds_1_1_m R)
theorem sP_Holds_1_1_def {R : Type} (N : Nat) (a629 : api_Literal) (a630 : Arr ByteArray) (a631 : Arr ByteArray) (a632 : Arr api_Counter) (a633 : Arr api_State) (a634 : Arr api_Rule) (a635 : api_Place) (a636 : Int) (k : Bool → Option R) : sP_Holds_1_1 N a629 a630 a631 a632 a633 a634 a635 a636 k = sP_Holds_1_1_m N a629 a630 a631 a632 a633 a634 a635 a636 k := by unfold sP_Holds_1_1; rw [lock_eq]
def sP_Holds_1_1_sp : Sp := ⟨[rAgg api_LiteralC, rPtr 0 0, rPtr 1 0, rPtr 2 0], [(0, eBlk [rSl strC, rSl strC, rSl api_CounterC, rSl api_StateC, rSl api_RuleC]), (1, eBlkC api_PlaceC), (2, eBlk [rInt .i64])]⟩
theorem sP_Holds_1_1_sp_ok : sP_Holds_1_1_sp.Ok := ⟨(allCons (rAgg_ok api_LiteralC_ok api_LiteralC_len) (allCons (rPtr_ok 0 0) (allCons (rPtr_ok 1 0) (allCons (rPtr_ok 2 0) allNil)))), (eCons (eBlk_ok (allCons (rSl_ok strC_ok) (allCons (rSl_ok strC_ok) (allCons (rSl_ok api_CounterC_ok) (allCons (rSl_ok api_StateC_ok) (allCons (rSl_ok api_RuleC_ok) allNil)))))) (eCons (eBlkC_ok api_PlaceC_ok api_PlaceC_len) (eCons (eBlk_ok (allCons (rInt_ok .i64) allNil)) eNil)))⟩
def sP_Holds_1_1_rs : Sp := ⟨[rBool], [(0, eBlk [rSl strC, rSl strC, rSl api_CounterC, rSl api_StateC, rSl api_RuleC]), (1, eBlkC api_PlaceC), (2, eBlk [rInt .i64])]⟩
theorem sP_Holds_1_1_rs_ok : sP_Holds_1_1_rs.Ok := ⟨(allCons rBool_ok allNil), (eCons (eBlk_ok (allCons (rSl_ok strC_ok) (allCons (rSl_ok strC_ok) (allCons (rSl_ok api_CounterC_ok) (allCons (rSl_ok api_StateC_ok) (allCons (rSl_ok api_RuleC_ok) allNil)))))) (eCons (eBlkC_ok api_PlaceC_ok api_PlaceC_len) (eCons (eBlk_ok (allCons (rInt_ok .i64) allNil)) eNil)))⟩
def sP_Holds_1_1_run {R : Type} (N : Nat) (args : List SV) (T : Tab) (kf : SV × Tab → Option R) : Option R :=
  sP_Holds_1_1_m N (Cod.dec api_LiteralC (lget (toCs (lget args 0)))) (lstC strC (lget (entCs (entAt T 0)) 0)) (lstC strC (lget (entCs (entAt T 0)) 1)) (lstC api_CounterC (lget (entCs (entAt T 0)) 2)) (lstC api_StateC (lget (entCs (entAt T 0)) 3)) (lstC api_RuleC (lget (entCs (entAt T 0)) 4)) (Cod.dec api_PlaceC (lget (entCs (entAt T 1)))) (toI (lget (entCs (entAt T 2)) 0)) (fun q0 => kf (lget [.bool q0] 0, [(0, .blk [slC strC (lstC strC (lget (entCs (entAt T 0)) 0)), slC strC (lstC strC (lget (entCs (entAt T 0)) 1)), slC api_CounterC (lstC api_CounterC (lget (entCs (entAt T 0)) 2)), slC api_StateC (lstC api_StateC (lget (entCs (entAt T 0)) 3)), slC api_RuleC (lstC api_RuleC (lget (entCs (entAt T 0)) 4))]), (1, .blk (Cod.enc api_PlaceC (Cod.dec api_PlaceC (lget (entCs (entAt T 1)))))), (2, .blk [.int .i64 (toI (lget (entCs (entAt T 2)) 0))])]))
def sP_Holds_1_1_lp {R : Type} (N : Nat) : Lp R := fun body S k => Option.none
noncomputable def sP_Holds_1_1_go {R : Type} (N : Nat) (args : List SV) (T : Tab) (kf : SV × Tab → Option R) : Option R :=
  sP_Holds_1_1 N (Cod.dec api_LiteralC (lget (toCs (lget args 0)))) (lstC strC (lget (entCs (entAt T 0)) 0)) (lstC strC (lget (entCs (entAt T 0)) 1)) (lstC api_CounterC (lget (entCs (entAt T 0)) 2)) (lstC api_StateC (lget (entCs (entAt T 0)) 3)) (lstC api_RuleC (lget (entCs (entAt T 0)) 4)) (Cod.dec api_PlaceC (lget (entCs (entAt T 1)))) (toI (lget (entCs (entAt T 2)) 0)) (fun q0 => kf (lget [.bool q0] 0, [(0, .blk [slC strC (lstC strC (lget (entCs (entAt T 0)) 0)), slC strC (lstC strC (lget (entCs (entAt T 0)) 1)), slC api_CounterC (lstC api_CounterC (lget (entCs (entAt T 0)) 2)), slC api_StateC (lstC api_StateC (lget (entCs (entAt T 0)) 3)), slC api_RuleC (lstC api_RuleC (lget (entCs (entAt T 0)) 4))]), (1, .blk (Cod.enc api_PlaceC (Cod.dec api_PlaceC (lget (entCs (entAt T 1)))))), (2, .blk [.int .i64 (toI (lget (entCs (entAt T 2)) 0))])]))
noncomputable def sP_Holds_1_1_cal {R : Type} (N : Nat) : Cal R := callM (sP_literal_cal N) 100 3 sP_Holds_1_1_sp (sP_Holds_1_1_go N)
theorem sP_Holds_1_1_cal_ok {R : Type} (N : Nat) : CalOk E.P (sP_Holds_1_1_cal (R := R) N) :=
  callM_ok hE (sP_literal_cal_ok N) (lp := sP_Holds_1_1_lp N) (jn := noJn) (keys := []) kNil (by kernel_rfl) (js := []) jNil (by kernel_rfl) sP_Holds_1_1_sp_ok sP_Holds_1_1_rs_ok (fun args T kf => Eq.trans (sP_Holds_1_1_def N (Cod.dec api_LiteralC (lget (toCs (lget args 0)))) (lstC strC (lget (entCs (entAt T 0)) 0)) (lstC strC (lget (entCs (entAt T 0)) 1)) (lstC api_CounterC (lget (entCs (entAt T 0)) 2)) (lstC api_StateC (lget (entCs (entAt T 0)) 3)) (lstC api_RuleC (lget (entCs (entAt T 0)) 4)) (Cod.dec api_PlaceC (lget (entCs (entAt T 1)))) (toI (lget (entCs (entAt T 2)) 0)) (fun q0 => kf (lget [.bool q0] 0, [(0, .blk [slC strC (lstC strC (lget (entCs (entAt T 0)) 0)), slC strC (lstC strC (lget (entCs (entAt T 0)) 1)), slC api_CounterC (lstC api_CounterC (lget (entCs (entAt T 0)) 2)), slC api_StateC (lstC api_StateC (lget (entCs (entAt T 0)) 3)), slC api_RuleC (lstC api_RuleC (lget (entCs (entAt T 0)) 4))]), (1, .blk (Cod.enc api_PlaceC (Cod.dec api_PlaceC (lget (entCs (entAt T 1)))))), (2, .blk [.int .i64 (toI (lget (entCs (entAt T 2)) 0))])]))) (by kernel_rfl : sP_Holds_1_1_run N args T kf = fnM E (sP_literal_cal N) (sP_Holds_1_1_lp N) (noJn) 100 (sP_Holds_1_1_sp.vs args) (sP_Holds_1_1_sp.tab T) 3 (resK sP_Holds_1_1_rs kf)))
def ixL_v3_L2 : LoopSp := ⟨⟨[0, 1, 7, 8], ⟨((rSl api_LiteralC) :: (rFunc 100 0 [rPtr 0 0, rPtr 1 0, rPtr 2 0]) :: (dr 5 ((rInt .i64) :: (rInt .i64) :: (dr 10 [])))), [(0, eBlk [rSl strC, rSl strC, rSl api_CounterC, rSl api_StateC, rSl api_RuleC]), (1, eBlkC api_PlaceC), (2, eBlk [rInt .i64])]⟩, 3⟩, [(Option.none, ⟨[4], ⟨(dr 4 ((rInt .i64) :: (dr 14 []))), [(0, eBlk [rSl strC, rSl strC, rSl api_CounterC, rSl api_StateC, rSl api_RuleC]), (1, eBlkC api_PlaceC), (2, eBlk [rInt .i64])]⟩, 3⟩), (some 0, ⟨[], ⟨(dr 19 []), [(0, eBlk [rSl strC, rSl strC, rSl api_CounterC, rSl api_StateC, rSl api_RuleC]), (1, eBlkC api_PlaceC), (2, eBlk [rInt .i64])]⟩, 3⟩)]⟩
theorem ixL_v3_L2_ok : ixL_v3_L2.Ok := ⟨⟨(allCons (rSl_ok api_LiteralC_ok) (allCons (rFunc_ok 100 0 (allCons (rPtr_ok 0 0) (allCons (rPtr_ok 1 0) (allCons (rPtr_ok 2 0) allNil)))) (drCons 5 (allCons (rInt_ok .i64) (allCons (rInt_ok .i64) (drCons 10 allNil)))))), (eCons (eBlk_ok (allCons (rSl_ok strC_ok) (allCons (rSl_ok strC_ok) (allCons (rSl_ok api_CounterC_ok) (allCons (rSl_ok api_StateC_ok) (allCons (rSl_ok api_RuleC_ok) allNil)))))) (eCons (eBlkC_ok api_PlaceC_ok api_PlaceC_len) (eCons (eBlk_ok (allCons (rInt_ok .i64) allNil)) eNil)))⟩, (xCons ⟨(drCons 4 (allCons (rInt_ok .i64) (drCons 14 allNil))), (eCons (eBlk_ok (allCons (rSl_ok strC_ok) (allCons (rSl_ok strC_ok) (allCons (rSl_ok api_CounterC_ok) (allCons (rSl_ok api_StateC_ok) (allCons (rSl_ok api_RuleC_ok) allNil)))))) (eCons (eBlkC_ok api_PlaceC_ok api_PlaceC_len) (eCons (eBlk_ok (allCons (rInt_ok .i64) allNil)) eNil)))⟩ (xCons ⟨(drCons 19 allNil), (eCons (eBlk_ok (allCons (rSl_ok strC_ok) (allCons (rSl_ok strC_ok) (allCons (rSl_ok api_CounterC_ok) (allCons (rSl_ok api_StateC_ok) (allCons (rSl_ok api_RuleC_ok) allNil)))))) (eCons (eBlkC_ok api_PlaceC_ok api_PlaceC_len) (eCons (eBlk_ok (allCons (rInt_ok .i64) allNil)) eNil)))⟩ xNil))⟩
def ixL_v3_h2 (v619 : Arr api_Literal) (v620 : Int) (v621 : Int) (v622 : Arr ByteArray) (v623 : Arr ByteArray) (v624 : Arr api_Counter) (v625 : Arr api_State) (v626 : Arr api_Rule) (v627 : api_Place) (v628 : Int) : St := ⟨((slC api_LiteralC v619) :: (.func 100 0 [.ptr 0 0, .ptr 1 0, .ptr 2 0]) :: (un 5 ((.int .i64 v620) :: (.int .i64 v621) :: (un 10 [])))), [(0, .blk [slC strC v622, slC strC v623, slC api_CounterC v624, slC api_StateC v625, slC api_RuleC v626]), (1, .blk (Cod.enc api_PlaceC v627)), (2, .blk [.int .i64 v628])], 3⟩
def ixL_v3_x2_r (v622 : Arr ByteArray) (v623 : Arr ByteArray) (v624 : Arr api_Counter) (v625 : Arr api_State) (v626 : Arr api_Rule) (v627 : api_Place) (v628 : Int) (q0 : Int) : St := ⟨(un 4 ((.int .i64 q0) :: (un 14 []))), [(0, .blk [slC strC v622, slC strC v623, slC api_CounterC v624, slC api_StateC v625, slC api_RuleC v626]), (1, .blk (Cod.enc api_PlaceC v627)), (2, .blk [.int .i64 v628])], 3⟩
def ixL_v3_x2_0 (v622 : Arr ByteArray) (v623 : Arr ByteArray) (v624 : Arr api_Counter) (v625 : Arr api_State) (v626 : Arr api_Rule) (v627 : api_Place) (v628 : Int) : St := ⟨(un 19 []), [(0, .blk [slC strC v622, slC strC v623, slC api_CounterC v624, slC api_StateC v625, slC api_RuleC v626]), (1, .blk (Cod.enc api_PlaceC v627)), (2, .blk [.int .i64 v628])], 3⟩
def ixL_v3_b2 {R : Type} (N : Nat) (rc : Arr api_Literal → Int → Int → Arr ByteArray → Arr ByteArray → Arr api_Counter → Arr api_State → Arr api_Rule → api_Place → Int → Option R) (v619 : Arr api_Literal) (v620 : Int) (v621 : Int) (v622 : Arr ByteArray) (v623 : Arr ByteArray) (v624 : Arr api_Counter) (v625 : Arr api_State) (v626 : Arr api_Rule) (v627 : api_Place) (v628 : Int) (kr : Int → Option R) (k0 : Unit → Option R) : Option R :=
 bif decide (v621 < v620) then
 bif decide ((0 : Int) ≤ v621) && decide (v621 < (↑(Arr.n v619) : Int)) then
 sP_Holds_1_1 N (Arr.f v619 (Int.toNat v621)) v622 v623 v624 v625 v626 v627 v628 (fun r646 =>
 bif r646 then
 kr v621
 else
 rc v619 v620 (w64 (v621 + (1 : Int))) v622 v623 v624 v625 v626 v627 v628)
 else
 Option.none
 else
 k0 ()
def ixL_v3_l2 {R : Type} (N : Nat) : Nat → Arr api_Literal → Int → Int → Arr ByteArray → Arr ByteArray → Arr api_Counter → Arr api_State → Arr api_Rule → api_Place → Int → (Int → Option R) → (Unit → Option R) → Option R
  | 0, _, _, _, _, _, _, _, _, _, _, _, _ => Option.none
  | n + 1, v619, v620, v621, v622, v623, v624, v625, v626, v627, v628, kr, k0 => ixL_v3_b2 N (fun v619 v620 v621 v622 v623 v624 v625 v626 v627 v628 => ixL_v3_l2 N n v619 v620 v621 v622 v623 v624 v625 v626 v627 v628 kr k0) v619 v620 v621 v622 v623 v624 v625 v626 v627 v628 kr k0
def ixL_v3_m {R : Type} (N : Nat) (a611 : Arr api_Literal) (a612 : Arr ByteArray) (a613 : Arr ByteArray) (a614 : Arr api_Counter) (a615 : Arr api_State) (a616 : Arr api_Rule) (a617 : api_Place) (a618 : Int) (k : Int → Option R) : Option R :=
 ixL_v3_l2 N N a611 ((↑(Arr.n a611) : Int)) (0 : Int) a612 a613 a614 a615 a616 a617 a618 (fun r647 =>
 k r647) (fun (_ : Unit) =>
 k (-1 : Int))
noncomputable def ixL_v3 {R : Type} : Nat → Arr api_Literal → Arr ByteArray → Arr ByteArray → Arr api_Counter → Arr api_State → Arr api_Rule → api_Place → Int → (Int → Option R) → Option R := lock (@ixL_v3_m R)
theorem ixL_v3_def {R : Type} (N : Nat) (a611 : Arr api_Literal) (a612 : Arr ByteArray) (a613 : Arr ByteArray) (a614 : Arr api_Counter) (a615 : Arr api_State) (a616 : Arr api_Rule) (a617 : api_Place) (a618 : Int) (k : Int → Option R) : ixL_v3 N a611 a612 a613 a614 a615 a616 a617 a618 k = ixL_v3_m N a611 a612 a613 a614 a615 a616 a617 a618 k := by unfold ixL_v3; rw [lock_eq]
def ixL_v3_sp : Sp := ⟨[rSl api_LiteralC, rFunc 100 0 [rPtr 0 0, rPtr 1 0, rPtr 2 0]], [(0, eBlk [rSl strC, rSl strC, rSl api_CounterC, rSl api_StateC, rSl api_RuleC]), (1, eBlkC api_PlaceC), (2, eBlk [rInt .i64])]⟩
theorem ixL_v3_sp_ok : ixL_v3_sp.Ok := ⟨(allCons (rSl_ok api_LiteralC_ok) (allCons (rFunc_ok 100 0 (allCons (rPtr_ok 0 0) (allCons (rPtr_ok 1 0) (allCons (rPtr_ok 2 0) allNil)))) allNil)), (eCons (eBlk_ok (allCons (rSl_ok strC_ok) (allCons (rSl_ok strC_ok) (allCons (rSl_ok api_CounterC_ok) (allCons (rSl_ok api_StateC_ok) (allCons (rSl_ok api_RuleC_ok) allNil)))))) (eCons (eBlkC_ok api_PlaceC_ok api_PlaceC_len) (eCons (eBlk_ok (allCons (rInt_ok .i64) allNil)) eNil)))⟩
def ixL_v3_rs : Sp := ⟨[rInt .i64], [(0, eBlk [rSl strC, rSl strC, rSl api_CounterC, rSl api_StateC, rSl api_RuleC]), (1, eBlkC api_PlaceC), (2, eBlk [rInt .i64])]⟩
theorem ixL_v3_rs_ok : ixL_v3_rs.Ok := ⟨(allCons (rInt_ok .i64) allNil), (eCons (eBlk_ok (allCons (rSl_ok strC_ok) (allCons (rSl_ok strC_ok) (allCons (rSl_ok api_CounterC_ok) (allCons (rSl_ok api_StateC_ok) (allCons (rSl_ok api_RuleC_ok) allNil)))))) (eCons (eBlkC_ok api_PlaceC_ok api_PlaceC_len) (eCons (eBlk_ok (allCons (rInt_ok .i64) allNil)) eNil)))⟩
def ixL_v3_run {R : Type} (N : Nat) (args : List SV) (T : Tab) (kf : SV × Tab → Option R) : Option R :=
  ixL_v3_m N (lstC api_LiteralC (lget args 0)) (lstC strC (lget (entCs (entAt T 0)) 0)) (lstC strC (lget (entCs (entAt T 0)) 1)) (lstC api_CounterC (lget (entCs (entAt T 0)) 2)) (lstC api_StateC (lget (entCs (entAt T 0)) 3)) (lstC api_RuleC (lget (entCs (entAt T 0)) 4)) (Cod.dec api_PlaceC (lget (entCs (entAt T 1)))) (toI (lget (entCs (entAt T 2)) 0)) (fun q0 => kf (lget [.int .i64 q0] 0, [(0, .blk [slC strC (lstC strC (lget (entCs (entAt T 0)) 0)), slC strC (lstC strC (lget (entCs (entAt T 0)) 1)), slC api_CounterC (lstC api_CounterC (lget (entCs (entAt T 0)) 2)), slC api_StateC (lstC api_StateC (lget (entCs (entAt T 0)) 3)), slC api_RuleC (lstC api_RuleC (lget (entCs (entAt T 0)) 4))]), (1, .blk (Cod.enc api_PlaceC (Cod.dec api_PlaceC (lget (entCs (entAt T 1)))))), (2, .blk [.int .i64 (toI (lget (entCs (entAt T 2)) 0))])]))
def ixL_v3_d2 {R : Type} (N : Nat) (S0 : St) (k : Exit → St → Option R) : Option R :=
  ixL_v3_l2 N N (lstC api_LiteralC (lget S0.tmps 0)) (toI (lget S0.tmps 7)) (toI (lget S0.tmps 8)) (lstC strC (lget (entCs (entAt S0.tab 0)) 0)) (lstC strC (lget (entCs (entAt S0.tab 0)) 1)) (lstC api_CounterC (lget (entCs (entAt S0.tab 0)) 2)) (lstC api_StateC (lget (entCs (entAt S0.tab 0)) 3)) (lstC api_RuleC (lget (entCs (entAt S0.tab 0)) 4)) (Cod.dec api_PlaceC (lget (entCs (entAt S0.tab 1)))) (toI (lget (entCs (entAt S0.tab 2)) 0)) (fun q0 => k .ret (ixL_v3_x2_r (lstC strC (lget (entCs (entAt S0.tab 0)) 0)) (lstC strC (lget (entCs (entAt S0.tab 0)) 1)) (lstC api_CounterC (lget (entCs (entAt S0.tab 0)) 2)) (lstC api_StateC (lget (entCs (entAt S0.tab 0)) 3)) (lstC api_RuleC (lget (entCs (entAt S0.tab 0)) 4)) (Cod.dec api_PlaceC (lget (entCs (entAt S0.tab 1)))) (toI (lget (entCs (entAt S0.tab 2)) 0)) q0)) (fun (_ : Unit) => k (.exit 0) (ixL_v3_x2_0 (lstC strC (lget (entCs (entAt S0.tab 0)) 0)) (lstC strC (lget (entCs (entAt S0.tab 0)) 1)) (lstC api_CounterC (lget (entCs (entAt S0.tab 0)) 2)) (lstC api_StateC (lget (entCs (entAt S0.tab 0)) 3)) (lstC api_RuleC (lget (entCs (entAt S0.tab 0)) 4)) (Cod.dec api_PlaceC (lget (entCs (entAt S0.tab 1)))) (toI (lget (entCs (entAt S0.tab 2)) 0))))
def ixL_v3_lp {R : Type} (N : Nat) : Lp R := fun body S k => bif (Go.Sx.keyOf body).getD 0 == 2 then (ixL_v3_L2.head.raw 3 S (fun S0 => ixL_v3_d2 N S0 k)) else Option.none
theorem ixL_v3_l2_eq {R : Type} (N : Nat) (k : Exit → St → Option R) (n : Nat) : ∀ (v0 : Arr api_Literal) (v1 : Int) (v2 : Int) (v3 : Arr ByteArray) (v4 : Arr ByteArray) (v5 : Arr api_Counter) (v6 : Arr api_State) (v7 : Arr api_Rule) (v8 : api_Place) (v9 : Int), loopM E.Θ (sP_Holds_1_1_cal N) (ixL_v3_lp N) (noJn) 3 ixL_v3_L2 (bodyAt E 104 2) n (ixL_v3_h2 v0 v1 v2 v3 v4 v5 v6 v7 v8 v9) k = ixL_v3_l2 N n v0 v1 v2 v3 v4 v5 v6 v7 v8 v9 (fun q0 => k .ret (ixL_v3_x2_r v3 v4 v5 v6 v7 v8 v9 q0)) (fun (_ : Unit) => k (.exit 0) (ixL_v3_x2_0 v3 v4 v5 v6 v7 v8 v9)) := by
  induction n with
  | zero => intro v0 v1 v2 v3 v4 v5 v6 v7 v8 v9; rfl
  | succ n ih =>
    intro v0 v1 v2 v3 v4 v5 v6 v7 v8 v9
    refine Eq.trans (b := ixL_v3_b2 N (fun v0 v1 v2 v3 v4 v5 v6 v7 v8 v9 => loopM E.Θ (sP_Holds_1_1_cal N) (ixL_v3_lp N) (noJn) 3 ixL_v3_L2 (bodyAt E 104 2) n (ixL_v3_h2 v0 v1 v2 v3 v4 v5 v6 v7 v8 v9) k) v0 v1 v2 v3 v4 v5 v6 v7 v8 v9 (fun q0 => k .ret (ixL_v3_x2_r v3 v4 v5 v6 v7 v8 v9 q0)) (fun (_ : Unit) => k (.exit 0) (ixL_v3_x2_0 v3 v4 v5 v6 v7 v8 v9))) (by kernel_rfl) ?_
    have h : (fun (v0 : Arr api_Literal) (v1 : Int) (v2 : Int) (v3 : Arr ByteArray) (v4 : Arr ByteArray) (v5 : Arr api_Counter) (v6 : Arr api_State) (v7 : Arr api_Rule) (v8 : api_Place) (v9 : Int) => loopM E.Θ (sP_Holds_1_1_cal N) (ixL_v3_lp N) (noJn) 3 ixL_v3_L2 (bodyAt E 104 2) n (ixL_v3_h2 v0 v1 v2 v3 v4 v5 v6 v7 v8 v9) k) = (fun (v0 : Arr api_Literal) (v1 : Int) (v2 : Int) (v3 : Arr ByteArray) (v4 : Arr ByteArray) (v5 : Arr api_Counter) (v6 : Arr api_State) (v7 : Arr api_Rule) (v8 : api_Place) (v9 : Int) => ixL_v3_l2 N n v0 v1 v2 v3 v4 v5 v6 v7 v8 v9 (fun q0 => k .ret (ixL_v3_x2_r v3 v4 v5 v6 v7 v8 v9 q0)) (fun (_ : Unit) => k (.exit 0) (ixL_v3_x2_0 v3 v4 v5 v6 v7 v8 v9))) := funext fun v0 => funext fun v1 => funext fun v2 => funext fun v3 => funext fun v4 => funext fun v5 => funext fun v6 => funext fun v7 => funext fun v8 => funext fun v9 => ih v0 v1 v2 v3 v4 v5 v6 v7 v8 v9
    rw [h]
    rfl
theorem ixL_v3_k2 {R : Type} (N : Nat) : LpKey (R := R) E 104 3 (ixL_v3_lp N) 2 :=
  lpKey_of hE (sP_Holds_1_1_cal_ok N) (lp := ixL_v3_lp N) (jn := noJn) ixL_v3_L2_ok [] kNil (by kernel_rfl) [] jNil (by kernel_rfl) N fun S k =>
    Eq.trans (b := ixL_v3_L2.head.raw 3 S (fun S0 => ixL_v3_d2 N S0 k)) (by kernel_rfl) (congrArg (ixL_v3_L2.head.raw 3 S) (funext fun S0 => Eq.trans (ixL_v3_l2_eq N k N (lstC api_LiteralC (lget S0.tmps 0)) (toI (lget S0.tmps 7)) (toI (lget S0.tmps 8)) (lstC strC (lget (entCs (entAt S0.tab 0)) 0)) (lstC strC (lget (entCs (entAt S0.tab 0)) 1)) (lstC api_CounterC (lget (entCs (entAt S0.tab 0)) 2)) (lstC api_StateC (lget (entCs (entAt S0.tab 0)) 3)) (lstC api_RuleC (lget (entCs (entAt S0.tab 0)) 4)) (Cod.dec api_PlaceC (lget (entCs (entAt S0.tab 1)))) (toI (lget (entCs (entAt S0.tab 2)) 0))).symm (by kernel_rfl)))
noncomputable def ixL_v3_go {R : Type} (N : Nat) (args : List SV) (T : Tab) (kf : SV × Tab → Option R) : Option R :=
  ixL_v3 N (lstC api_LiteralC (lget args 0)) (lstC strC (lget (entCs (entAt T 0)) 0)) (lstC strC (lget (entCs (entAt T 0)) 1)) (lstC api_CounterC (lget (entCs (entAt T 0)) 2)) (lstC api_StateC (lget (entCs (entAt T 0)) 3)) (lstC api_RuleC (lget (entCs (entAt T 0)) 4)) (Cod.dec api_PlaceC (lget (entCs (entAt T 1)))) (toI (lget (entCs (entAt T 2)) 0)) (fun q0 => kf (lget [.int .i64 q0] 0, [(0, .blk [slC strC (lstC strC (lget (entCs (entAt T 0)) 0)), slC strC (lstC strC (lget (entCs (entAt T 0)) 1)), slC api_CounterC (lstC api_CounterC (lget (entCs (entAt T 0)) 2)), slC api_StateC (lstC api_StateC (lget (entCs (entAt T 0)) 3)), slC api_RuleC (lstC api_RuleC (lget (entCs (entAt T 0)) 4))]), (1, .blk (Cod.enc api_PlaceC (Cod.dec api_PlaceC (lget (entCs (entAt T 1)))))), (2, .blk [.int .i64 (toI (lget (entCs (entAt T 2)) 0))])]))
noncomputable def ixL_v3_cal {R : Type} (N : Nat) : Cal R := callM (sP_Holds_1_1_cal N) 104 3 ixL_v3_sp (ixL_v3_go N)
theorem ixL_v3_cal_ok {R : Type} (N : Nat) : CalOk E.P (ixL_v3_cal (R := R) N) :=
  callM_ok hE (sP_Holds_1_1_cal_ok N) (lp := ixL_v3_lp N) (jn := noJn) (keys := [2]) (kCons (ixL_v3_k2 N) kNil) (by kernel_rfl) (js := []) jNil (by kernel_rfl) ixL_v3_sp_ok ixL_v3_rs_ok (fun args T kf => Eq.trans (ixL_v3_def N (lstC api_LiteralC (lget args 0)) (lstC strC (lget (entCs (entAt T 0)) 0)) (lstC strC (lget (entCs (entAt T 0)) 1)) (lstC api_CounterC (lget (entCs (entAt T 0)) 2)) (lstC api_StateC (lget (entCs (entAt T 0)) 3)) (lstC api_RuleC (lget (entCs (entAt T 0)) 4)) (Cod.dec api_PlaceC (lget (entCs (entAt T 1)))) (toI (lget (entCs (entAt T 2)) 0)) (fun q0 => kf (lget [.int .i64 q0] 0, [(0, .blk [slC strC (lstC strC (lget (entCs (entAt T 0)) 0)), slC strC (lstC strC (lget (entCs (entAt T 0)) 1)), slC api_CounterC (lstC api_CounterC (lget (entCs (entAt T 0)) 2)), slC api_StateC (lstC api_StateC (lget (entCs (entAt T 0)) 3)), slC api_RuleC (lstC api_RuleC (lget (entCs (entAt T 0)) 4))]), (1, .blk (Cod.enc api_PlaceC (Cod.dec api_PlaceC (lget (entCs (entAt T 1)))))), (2, .blk [.int .i64 (toI (lget (entCs (entAt T 2)) 0))])]))) (by kernel_rfl : ixL_v3_run N args T kf = fnM E (sP_Holds_1_1_cal N) (ixL_v3_lp N) (noJn) 104 (ixL_v3_sp.vs args) (ixL_v3_sp.tab T) 3 (resK ixL_v3_rs kf)))
def coL_v3_m {R : Type} (N : Nat) (a603 : Arr api_Literal) (a604 : Arr ByteArray) (a605 : Arr ByteArray) (a606 : Arr api_Counter) (a607 : Arr api_State) (a608 : Arr api_Rule) (a609 : api_Place) (a610 : Int) (k : Bool → Option R) : Option R :=
 ixL_v3 N a603 a604 a605 a606 a607 a608 a609 a610 (fun r648 =>
 k (decide (r648 ≥ (0 : Int))))
noncomputable def coL_v3 {R : Type} : Nat → Arr api_Literal → Arr ByteArray → Arr ByteArray → Arr api_Counter → Arr api_State → Arr api_Rule → api_Place → Int → (Bool → Option R) → Option R := lock (@coL_v3_m R)
theorem coL_v3_def {R : Type} (N : Nat) (a603 : Arr api_Literal) (a604 : Arr ByteArray) (a605 : Arr ByteArray) (a606 : Arr api_Counter) (a607 : Arr api_State) (a608 : Arr api_Rule) (a609 : api_Place) (a610 : Int) (k : Bool → Option R) : coL_v3 N a603 a604 a605 a606 a607 a608 a609 a610 k = coL_v3_m N a603 a604 a605 a606 a607 a608 a609 a610 k := by unfold coL_v3; rw [lock_eq]
def coL_v3_sp : Sp := ⟨[rSl api_LiteralC, rFunc 100 0 [rPtr 0 0, rPtr 1 0, rPtr 2 0]], [(0, eBlk [rSl strC, rSl strC, rSl api_CounterC, rSl api_StateC, rSl api_RuleC]), (1, eBlkC api_PlaceC), (2, eBlk [rInt .i64])]⟩
theorem coL_v3_sp_ok : coL_v3_sp.Ok := ⟨(allCons (rSl_ok api_LiteralC_ok) (allCons (rFunc_ok 100 0 (allCons (rPtr_ok 0 0) (allCons (rPtr_ok 1 0) (allCons (rPtr_ok 2 0) allNil)))) allNil)), (eCons (eBlk_ok (allCons (rSl_ok strC_ok) (allCons (rSl_ok strC_ok) (allCons (rSl_ok api_CounterC_ok) (allCons (rSl_ok api_StateC_ok) (allCons (rSl_ok api_RuleC_ok) allNil)))))) (eCons (eBlkC_ok api_PlaceC_ok api_PlaceC_len) (eCons (eBlk_ok (allCons (rInt_ok .i64) allNil)) eNil)))⟩
def coL_v3_rs : Sp := ⟨[rBool], [(0, eBlk [rSl strC, rSl strC, rSl api_CounterC, rSl api_StateC, rSl api_RuleC]), (1, eBlkC api_PlaceC), (2, eBlk [rInt .i64])]⟩
theorem coL_v3_rs_ok : coL_v3_rs.Ok := ⟨(allCons rBool_ok allNil), (eCons (eBlk_ok (allCons (rSl_ok strC_ok) (allCons (rSl_ok strC_ok) (allCons (rSl_ok api_CounterC_ok) (allCons (rSl_ok api_StateC_ok) (allCons (rSl_ok api_RuleC_ok) allNil)))))) (eCons (eBlkC_ok api_PlaceC_ok api_PlaceC_len) (eCons (eBlk_ok (allCons (rInt_ok .i64) allNil)) eNil)))⟩
def coL_v3_run {R : Type} (N : Nat) (args : List SV) (T : Tab) (kf : SV × Tab → Option R) : Option R :=
  coL_v3_m N (lstC api_LiteralC (lget args 0)) (lstC strC (lget (entCs (entAt T 0)) 0)) (lstC strC (lget (entCs (entAt T 0)) 1)) (lstC api_CounterC (lget (entCs (entAt T 0)) 2)) (lstC api_StateC (lget (entCs (entAt T 0)) 3)) (lstC api_RuleC (lget (entCs (entAt T 0)) 4)) (Cod.dec api_PlaceC (lget (entCs (entAt T 1)))) (toI (lget (entCs (entAt T 2)) 0)) (fun q0 => kf (lget [.bool q0] 0, [(0, .blk [slC strC (lstC strC (lget (entCs (entAt T 0)) 0)), slC strC (lstC strC (lget (entCs (entAt T 0)) 1)), slC api_CounterC (lstC api_CounterC (lget (entCs (entAt T 0)) 2)), slC api_StateC (lstC api_StateC (lget (entCs (entAt T 0)) 3)), slC api_RuleC (lstC api_RuleC (lget (entCs (entAt T 0)) 4))]), (1, .blk (Cod.enc api_PlaceC (Cod.dec api_PlaceC (lget (entCs (entAt T 1)))))), (2, .blk [.int .i64 (toI (lget (entCs (entAt T 2)) 0))])]))
def coL_v3_lp {R : Type} (N : Nat) : Lp R := fun body S k => Option.none
noncomputable def coL_v3_go {R : Type} (N : Nat) (args : List SV) (T : Tab) (kf : SV × Tab → Option R) : Option R :=
  coL_v3 N (lstC api_LiteralC (lget args 0)) (lstC strC (lget (entCs (entAt T 0)) 0)) (lstC strC (lget (entCs (entAt T 0)) 1)) (lstC api_CounterC (lget (entCs (entAt T 0)) 2)) (lstC api_StateC (lget (entCs (entAt T 0)) 3)) (lstC api_RuleC (lget (entCs (entAt T 0)) 4)) (Cod.dec api_PlaceC (lget (entCs (entAt T 1)))) (toI (lget (entCs (entAt T 2)) 0)) (fun q0 => kf (lget [.bool q0] 0, [(0, .blk [slC strC (lstC strC (lget (entCs (entAt T 0)) 0)), slC strC (lstC strC (lget (entCs (entAt T 0)) 1)), slC api_CounterC (lstC api_CounterC (lget (entCs (entAt T 0)) 2)), slC api_StateC (lstC api_StateC (lget (entCs (entAt T 0)) 3)), slC api_RuleC (lstC api_RuleC (lget (entCs (entAt T 0)) 4))]), (1, .blk (Cod.enc api_PlaceC (Cod.dec api_PlaceC (lget (entCs (entAt T 1)))))), (2, .blk [.int .i64 (toI (lget (entCs (entAt T 2)) 0))])]))
noncomputable def coL_v3_cal {R : Type} (N : Nat) : Cal R := callM (ixL_v3_cal N) 93 3 coL_v3_sp (coL_v3_go N)
theorem coL_v3_cal_ok {R : Type} (N : Nat) : CalOk E.P (coL_v3_cal (R := R) N) :=
  callM_ok hE (ixL_v3_cal_ok N) (lp := coL_v3_lp N) (jn := noJn) (keys := []) kNil (by kernel_rfl) (js := []) jNil (by kernel_rfl) coL_v3_sp_ok coL_v3_rs_ok (fun args T kf => Eq.trans (coL_v3_def N (lstC api_LiteralC (lget args 0)) (lstC strC (lget (entCs (entAt T 0)) 0)) (lstC strC (lget (entCs (entAt T 0)) 1)) (lstC api_CounterC (lget (entCs (entAt T 0)) 2)) (lstC api_StateC (lget (entCs (entAt T 0)) 3)) (lstC api_RuleC (lget (entCs (entAt T 0)) 4)) (Cod.dec api_PlaceC (lget (entCs (entAt T 1)))) (toI (lget (entCs (entAt T 2)) 0)) (fun q0 => kf (lget [.bool q0] 0, [(0, .blk [slC strC (lstC strC (lget (entCs (entAt T 0)) 0)), slC strC (lstC strC (lget (entCs (entAt T 0)) 1)), slC api_CounterC (lstC api_CounterC (lget (entCs (entAt T 0)) 2)), slC api_StateC (lstC api_StateC (lget (entCs (entAt T 0)) 3)), slC api_RuleC (lstC api_RuleC (lget (entCs (entAt T 0)) 4))]), (1, .blk (Cod.enc api_PlaceC (Cod.dec api_PlaceC (lget (entCs (entAt T 1)))))), (2, .blk [.int .i64 (toI (lget (entCs (entAt T 2)) 0))])]))) (by kernel_rfl : coL_v3_run N args T kf = fnM E (ixL_v3_cal N) (coL_v3_lp N) (noJn) 93 (coL_v3_sp.vs args) (coL_v3_sp.tab T) 3 (resK coL_v3_rs kf)))
def sP_Holds_1_m {R : Type} (N : Nat) (a593 : Arr api_Literal) (a594 : Arr ByteArray) (a595 : Arr ByteArray) (a596 : Arr api_Counter) (a597 : Arr api_State) (a598 : Arr api_Rule) (a599 : Int) (a600 : Int) (a601 : Int) (a602 : Int) (k : Bool → Int → Int → Int → Option R) : Option R :=
 coL_v3 N a593 a594 a595 a596 a597 a598 (api_Place.mk a599 (Arr2_int.mk a600 a601)) a602 (fun r649 =>
 k (!r649) (api_Place.State (api_Place.mk a599 (Arr2_int.mk a600 a601))) (Arr2_int.a0 (api_Place.Values (api_Place.mk a599 (Arr2_int.mk a600 a601)))) (Arr2_int.a1 (api_Place.Values (api_Place.mk a599 (Arr2_int.mk a600 a601)))))
noncomputable def sP_Holds_1 {R : Type} : Nat → Arr api_Literal → Arr ByteArray → Arr ByteArray → Arr api_Counter → Arr api_State → Arr api_Rule → Int → Int → Int → Int → (Bool → Int → Int → Int → Option R) → Option R := lock (@sP_Holds_1_m R)
theorem sP_Holds_1_def {R : Type} (N : Nat) (a593 : Arr api_Literal) (a594 : Arr ByteArray) (a595 : Arr ByteArray) (a596 : Arr api_Counter) (a597 : Arr api_State) (a598 : Arr api_Rule) (a599 : Int) (a600 : Int) (a601 : Int) (a602 : Int) (k : Bool → Int → Int → Int → Option R) : sP_Holds_1 N a593 a594 a595 a596 a597 a598 a599 a600 a601 a602 k = sP_Holds_1_m N a593 a594 a595 a596 a597 a598 a599 a600 a601 a602 k := by unfold sP_Holds_1; rw [lock_eq]
def sP_Holds_1_sp : Sp := ⟨[rSl api_LiteralC, rPtr 0 0, rPtr 1 0, rPtr 2 0], [(0, eBlk [rSl strC, rSl strC, rSl api_CounterC, rSl api_StateC, rSl api_RuleC]), (1, eBlk [rInt .i64, rInt .i64, rInt .i64]), (2, eBlk [rInt .i64])]⟩
theorem sP_Holds_1_sp_ok : sP_Holds_1_sp.Ok := ⟨(allCons (rSl_ok api_LiteralC_ok) (allCons (rPtr_ok 0 0) (allCons (rPtr_ok 1 0) (allCons (rPtr_ok 2 0) allNil)))), (eCons (eBlk_ok (allCons (rSl_ok strC_ok) (allCons (rSl_ok strC_ok) (allCons (rSl_ok api_CounterC_ok) (allCons (rSl_ok api_StateC_ok) (allCons (rSl_ok api_RuleC_ok) allNil)))))) (eCons (eBlk_ok (allCons (rInt_ok .i64) (allCons (rInt_ok .i64) (allCons (rInt_ok .i64) allNil)))) (eCons (eBlk_ok (allCons (rInt_ok .i64) allNil)) eNil)))⟩
def sP_Holds_1_rs : Sp := ⟨[rBool], [(0, eBlk [rSl strC, rSl strC, rSl api_CounterC, rSl api_StateC, rSl api_RuleC]), (1, eBlk [rInt .i64, rInt .i64, rInt .i64]), (2, eBlk [rInt .i64])]⟩
theorem sP_Holds_1_rs_ok : sP_Holds_1_rs.Ok := ⟨(allCons rBool_ok allNil), (eCons (eBlk_ok (allCons (rSl_ok strC_ok) (allCons (rSl_ok strC_ok) (allCons (rSl_ok api_CounterC_ok) (allCons (rSl_ok api_StateC_ok) (allCons (rSl_ok api_RuleC_ok) allNil)))))) (eCons (eBlk_ok (allCons (rInt_ok .i64) (allCons (rInt_ok .i64) (allCons (rInt_ok .i64) allNil)))) (eCons (eBlk_ok (allCons (rInt_ok .i64) allNil)) eNil)))⟩
def sP_Holds_1_run {R : Type} (N : Nat) (args : List SV) (T : Tab) (kf : SV × Tab → Option R) : Option R :=
  sP_Holds_1_m N (lstC api_LiteralC (lget args 0)) (lstC strC (lget (entCs (entAt T 0)) 0)) (lstC strC (lget (entCs (entAt T 0)) 1)) (lstC api_CounterC (lget (entCs (entAt T 0)) 2)) (lstC api_StateC (lget (entCs (entAt T 0)) 3)) (lstC api_RuleC (lget (entCs (entAt T 0)) 4)) (toI (lget (entCs (entAt T 1)) 0)) (toI (lget (entCs (entAt T 1)) 1)) (toI (lget (entCs (entAt T 1)) 2)) (toI (lget (entCs (entAt T 2)) 0)) (fun q0 q6 q7 q8 => kf (lget [.bool q0] 0, [(0, .blk [slC strC (lstC strC (lget (entCs (entAt T 0)) 0)), slC strC (lstC strC (lget (entCs (entAt T 0)) 1)), slC api_CounterC (lstC api_CounterC (lget (entCs (entAt T 0)) 2)), slC api_StateC (lstC api_StateC (lget (entCs (entAt T 0)) 3)), slC api_RuleC (lstC api_RuleC (lget (entCs (entAt T 0)) 4))]), (1, .blk [.int .i64 q6, .int .i64 q7, .int .i64 q8]), (2, .blk [.int .i64 (toI (lget (entCs (entAt T 2)) 0))])]))
def sP_Holds_1_lp {R : Type} (N : Nat) : Lp R := fun body S k => Option.none
noncomputable def sP_Holds_1_go {R : Type} (N : Nat) (args : List SV) (T : Tab) (kf : SV × Tab → Option R) : Option R :=
  sP_Holds_1 N (lstC api_LiteralC (lget args 0)) (lstC strC (lget (entCs (entAt T 0)) 0)) (lstC strC (lget (entCs (entAt T 0)) 1)) (lstC api_CounterC (lget (entCs (entAt T 0)) 2)) (lstC api_StateC (lget (entCs (entAt T 0)) 3)) (lstC api_RuleC (lget (entCs (entAt T 0)) 4)) (toI (lget (entCs (entAt T 1)) 0)) (toI (lget (entCs (entAt T 1)) 1)) (toI (lget (entCs (entAt T 1)) 2)) (toI (lget (entCs (entAt T 2)) 0)) (fun q0 q6 q7 q8 => kf (lget [.bool q0] 0, [(0, .blk [slC strC (lstC strC (lget (entCs (entAt T 0)) 0)), slC strC (lstC strC (lget (entCs (entAt T 0)) 1)), slC api_CounterC (lstC api_CounterC (lget (entCs (entAt T 0)) 2)), slC api_StateC (lstC api_StateC (lget (entCs (entAt T 0)) 3)), slC api_RuleC (lstC api_RuleC (lget (entCs (entAt T 0)) 4))]), (1, .blk [.int .i64 q6, .int .i64 q7, .int .i64 q8]), (2, .blk [.int .i64 (toI (lget (entCs (entAt T 2)) 0))])]))
noncomputable def sP_Holds_1_cal {R : Type} (N : Nat) : Cal R := callM (coL_v3_cal N) 99 3 sP_Holds_1_sp (sP_Holds_1_go N)
theorem sP_Holds_1_cal_ok {R : Type} (N : Nat) : CalOk E.P (sP_Holds_1_cal (R := R) N) :=
  callM_ok hE (coL_v3_cal_ok N) (lp := sP_Holds_1_lp N) (jn := noJn) (keys := []) kNil (by kernel_rfl) (js := []) jNil (by kernel_rfl) sP_Holds_1_sp_ok sP_Holds_1_rs_ok (fun args T kf => Eq.trans (sP_Holds_1_def N (lstC api_LiteralC (lget args 0)) (lstC strC (lget (entCs (entAt T 0)) 0)) (lstC strC (lget (entCs (entAt T 0)) 1)) (lstC api_CounterC (lget (entCs (entAt T 0)) 2)) (lstC api_StateC (lget (entCs (entAt T 0)) 3)) (lstC api_RuleC (lget (entCs (entAt T 0)) 4)) (toI (lget (entCs (entAt T 1)) 0)) (toI (lget (entCs (entAt T 1)) 1)) (toI (lget (entCs (entAt T 1)) 2)) (toI (lget (entCs (entAt T 2)) 0)) (fun q0 q6 q7 q8 => kf (lget [.bool q0] 0, [(0, .blk [slC strC (lstC strC (lget (entCs (entAt T 0)) 0)), slC strC (lstC strC (lget (entCs (entAt T 0)) 1)), slC api_CounterC (lstC api_CounterC (lget (entCs (entAt T 0)) 2)), slC api_StateC (lstC api_StateC (lget (entCs (entAt T 0)) 3)), slC api_RuleC (lstC api_RuleC (lget (entCs (entAt T 0)) 4))]), (1, .blk [.int .i64 q6, .int .i64 q7, .int .i64 q8]), (2, .blk [.int .i64 (toI (lget (entCs (entAt T 2)) 0))])]))) (by kernel_rfl : sP_Holds_1_run N args T kf = fnM E (coL_v3_cal N) (sP_Holds_1_lp N) (noJn) 99 (sP_Holds_1_sp.vs args) (sP_Holds_1_sp.tab T) 3 (resK sP_Holds_1_rs kf)))
def ixT_L2 : LoopSp := ⟨⟨[0, 1, 7, 8], ⟨((rSl (lsC api_LiteralC)) :: (rFunc 99 0 [rPtr 0 0, rPtr 1 0, rPtr 2 0]) :: (dr 5 ((rInt .i64) :: (rInt .i64) :: (dr 10 [])))), [(0, eBlk [rSl strC, rSl strC, rSl api_CounterC, rSl api_StateC, rSl api_RuleC]), (1, eBlk [rInt .i64, rInt .i64, rInt .i64]), (2, eBlk [rInt .i64])]⟩, 3⟩, [(Option.none, ⟨[4], ⟨(dr 4 ((rInt .i64) :: (dr 14 []))), [(0, eBlk [rSl strC, rSl strC, rSl api_CounterC, rSl api_StateC, rSl api_RuleC]), (1, eBlk [rInt .i64, rInt .i64, rInt .i64]), (2, eBlk [rInt .i64])]⟩, 3⟩), (some 0, ⟨[], ⟨(dr 19 []), [(0, eBlk [rSl strC, rSl strC, rSl api_CounterC, rSl api_StateC, rSl api_RuleC]), (1, eBlk [rInt .i64, rInt .i64, rInt .i64]), (2, eBlk [rInt .i64])]⟩, 3⟩)]⟩
theorem ixT_L2_ok : ixT_L2.Ok := ⟨⟨(allCons (rSl_ok (lsC_ok api_LiteralC_ok)) (allCons (rFunc_ok 99 0 (allCons (rPtr_ok 0 0) (allCons (rPtr_ok 1 0) (allCons (rPtr_ok 2 0) allNil)))) (drCons 5 (allCons (rInt_ok .i64) (allCons (rInt_ok .i64) (drCons 10 allNil)))))), (eCons (eBlk_ok (allCons (rSl_ok strC_ok) (allCons (rSl_ok strC_ok) (allCons (rSl_ok api_CounterC_ok) (allCons (rSl_ok api_StateC_ok) (allCons (rSl_ok api_RuleC_ok) allNil)))))) (eCons (eBlk_ok (allCons (rInt_ok .i64) (allCons (rInt_ok .i64) (allCons (rInt_ok .i64) allNil)))) (eCons (eBlk_ok (allCons (rInt_ok .i64) allNil)) eNil)))⟩, (xCons ⟨(drCons 4 (allCons (rInt_ok .i64) (drCons 14 allNil))), (eCons (eBlk_ok (allCons (rSl_ok strC_ok) (allCons (rSl_ok strC_ok) (allCons (rSl_ok api_CounterC_ok) (allCons (rSl_ok api_StateC_ok) (allCons (rSl_ok api_RuleC_ok) allNil)))))) (eCons (eBlk_ok (allCons (rInt_ok .i64) (allCons (rInt_ok .i64) (allCons (rInt_ok .i64) allNil)))) (eCons (eBlk_ok (allCons (rInt_ok .i64) allNil)) eNil)))⟩ (xCons ⟨(drCons 19 allNil), (eCons (eBlk_ok (allCons (rSl_ok strC_ok) (allCons (rSl_ok strC_ok) (allCons (rSl_ok api_CounterC_ok) (allCons (rSl_ok api_StateC_ok) (allCons (rSl_ok api_RuleC_ok) allNil)))))) (eCons (eBlk_ok (allCons (rInt_ok .i64) (allCons (rInt_ok .i64) (allCons (rInt_ok .i64) allNil)))) (eCons (eBlk_ok (allCons (rInt_ok .i64) allNil)) eNil)))⟩ xNil))⟩
def ixT_h2 (v581 : Arr (Arr api_Literal)) (v582 : Int) (v583 : Int) (v584 : Arr ByteArray) (v585 : Arr ByteArray) (v586 : Arr api_Counter) (v587 : Arr api_State) (v588 : Arr api_Rule) (v589 : Int) (v590 : Int) (v591 : Int) (v592 : Int) : St := ⟨((slC (lsC api_LiteralC) v581) :: (.func 99 0 [.ptr 0 0, .ptr 1 0, .ptr 2 0]) :: (un 5 ((.int .i64 v582) :: (.int .i64 v583) :: (un 10 [])))), [(0, .blk [slC strC v584, slC strC v585, slC api_CounterC v586, slC api_StateC v587, slC api_RuleC v588]), (1, .blk [.int .i64 v589, .int .i64 v590, .int .i64 v591]), (2, .blk [.int .i64 v592])], 3⟩
def ixT_x2_r (v584 : Arr ByteArray) (v585 : Arr ByteArray) (v586 : Arr api_Counter) (v587 : Arr api_State) (v588 : Arr api_Rule) (v592 : Int) (q0 : Int) (q6 : Int) (q7 : Int) (q8 : Int) : St := ⟨(un 4 ((.int .i64 q0) :: (un 14 []))), [(0, .blk [slC strC v584, slC strC v585, slC api_CounterC v586, slC api_StateC v587, slC api_RuleC v588]), (1, .blk [.int .i64 q6, .int .i64 q7, .int .i64 q8]), (2, .blk [.int .i64 v592])], 3⟩
def ixT_x2_0 (v584 : Arr ByteArray) (v585 : Arr ByteArray) (v586 : Arr api_Counter) (v587 : Arr api_State) (v588 : Arr api_Rule) (v592 : Int) (q5 : Int) (q6 : Int) (q7 : Int) : St := ⟨(un 19 []), [(0, .blk [slC strC v584, slC strC v585, slC api_CounterC v586, slC api_StateC v587, slC api_RuleC v588]), (1, .blk [.int .i64 q5, .int .i64 q6, .int .i64 q7]), (2, .blk [.int .i64 v592])], 3⟩
def ixT_b2 {R : Type} (N : Nat) (rc : Arr (Arr api_Literal) → Int → Int → Arr ByteArray → Arr ByteArray → Arr api_Counter → Arr api_State → Arr api_Rule → Int → Int → Int → Int → Option R) (v581 : Arr (Arr api_Literal)) (v582 : Int) (v583 : Int) (v584 : Arr ByteArray) (v585 : Arr ByteArray) (v586 : Arr api_Counter) (v587 : Arr api_State) (v588 : Arr api_Rule) (v589 : Int) (v590 : Int) (v591 : Int) (v592 : Int) (kr : Int → Int → Int → Int → Option R) (k0 : Int → Int → Int → Option R) : Option R :=
 bif decide (v583 < v582) then
 bif decide ((0 : Int) ≤ v583) && decide (v583 < (↑(Arr.n v581) : Int)) then
 sP_Holds_1 N (Arr.f v581 (Int.toNat v583)) v584 v585 v586 v587 v588 v589 v590 v591 v592 (fun r650 r651 r652 r653 =>
 bif r650 then
 kr v583 r651 r652 r653
 else
 rc v581 v582 (w64 (v583 + (1 : Int))) v584 v585 v586 v587 v588 r651 r652 r653 v592)
 else
 Option.none
 else
 k0 v589 v590 v591
def ixT_l2 {R : Type} (N : Nat) : Nat → Arr (Arr api_Literal) → Int → Int → Arr ByteArray → Arr ByteArray → Arr api_Counter → Arr api_State → Arr api_Rule → Int → Int → Int → Int → (Int → Int → Int → Int → Option R) → (Int → Int → Int → Option R) → Option R
  | 0, _, _, _, _, _, _, _, _, _, _, _, _, _, _ => Option.none
  | n + 1, v581, v582, v583, v584, v585, v586, v587, v588, v589, v590, v591, v592, kr, k0 => ixT_b2 N (fun v581 v582 v583 v584 v585 v586 v587 v588 v589 v590 v591 v592 => ixT_l2 N n v581 v582 v583 v584 v585 v586 v587 v588 v589 v590 v591 v592 kr k0) v581 v582 v583 v584 v585 v586 v587 v588 v589 v590 v591 v592 kr k0
def ixT_m {R : Type} (N : Nat) (a571 : Arr (Arr api_Literal)) (a572 : Arr ByteArray) (a573 : Arr ByteArray) (a574 : Arr api_Counter) (a575 : Arr api_State) (a576 : Arr api_Rule) (a577 : Int) (a578 : Int) (a579 : Int) (a580 : Int) (k : Int → Int → Int → Int → Option R) : Option R :=
 ixT_l2 N N a571 ((↑(Arr.n a571) : Int)) (0 : Int) a572 a573 a574 a575 a576 a577 a578 a579 a580 (fun r654 r655 r656 r657 =>
 k r654 r655 r656 r657) (fun r658 r659 r660 =>
 k (-1 : Int) r658 r659 r660)
noncomputable def ixT {R : Type} : Nat → Arr (Arr api_Literal) → Arr ByteArray → Arr ByteArray → Arr api_Counter → Arr api_State → Arr api_Rule → Int → Int → Int → Int → (Int → Int → Int → Int → Option R) → Option R := lock (@ixT_m R)
theorem ixT_def {R : Type} (N : Nat) (a571 : Arr (Arr api_Literal)) (a572 : Arr ByteArray) (a573 : Arr ByteArray) (a574 : Arr api_Counter) (a575 : Arr api_State) (a576 : Arr api_Rule) (a577 : Int) (a578 : Int) (a579 : Int) (a580 : Int) (k : Int → Int → Int → Int → Option R) : ixT N a571 a572 a573 a574 a575 a576 a577 a578 a579 a580 k = ixT_m N a571 a572 a573 a574 a575 a576 a577 a578 a579 a580 k := by unfold ixT; rw [lock_eq]
def ixT_sp : Sp := ⟨[rSl (lsC api_LiteralC), rFunc 99 0 [rPtr 0 0, rPtr 1 0, rPtr 2 0]], [(0, eBlk [rSl strC, rSl strC, rSl api_CounterC, rSl api_StateC, rSl api_RuleC]), (1, eBlk [rInt .i64, rInt .i64, rInt .i64]), (2, eBlk [rInt .i64])]⟩
theorem ixT_sp_ok : ixT_sp.Ok := ⟨(allCons (rSl_ok (lsC_ok api_LiteralC_ok)) (allCons (rFunc_ok 99 0 (allCons (rPtr_ok 0 0) (allCons (rPtr_ok 1 0) (allCons (rPtr_ok 2 0) allNil)))) allNil)), (eCons (eBlk_ok (allCons (rSl_ok strC_ok) (allCons (rSl_ok strC_ok) (allCons (rSl_ok api_CounterC_ok) (allCons (rSl_ok api_StateC_ok) (allCons (rSl_ok api_RuleC_ok) allNil)))))) (eCons (eBlk_ok (allCons (rInt_ok .i64) (allCons (rInt_ok .i64) (allCons (rInt_ok .i64) allNil)))) (eCons (eBlk_ok (allCons (rInt_ok .i64) allNil)) eNil)))⟩
def ixT_rs : Sp := ⟨[rInt .i64], [(0, eBlk [rSl strC, rSl strC, rSl api_CounterC, rSl api_StateC, rSl api_RuleC]), (1, eBlk [rInt .i64, rInt .i64, rInt .i64]), (2, eBlk [rInt .i64])]⟩
theorem ixT_rs_ok : ixT_rs.Ok := ⟨(allCons (rInt_ok .i64) allNil), (eCons (eBlk_ok (allCons (rSl_ok strC_ok) (allCons (rSl_ok strC_ok) (allCons (rSl_ok api_CounterC_ok) (allCons (rSl_ok api_StateC_ok) (allCons (rSl_ok api_RuleC_ok) allNil)))))) (eCons (eBlk_ok (allCons (rInt_ok .i64) (allCons (rInt_ok .i64) (allCons (rInt_ok .i64) allNil)))) (eCons (eBlk_ok (allCons (rInt_ok .i64) allNil)) eNil)))⟩
def ixT_run {R : Type} (N : Nat) (args : List SV) (T : Tab) (kf : SV × Tab → Option R) : Option R :=
  ixT_m N (lstC (lsC api_LiteralC) (lget args 0)) (lstC strC (lget (entCs (entAt T 0)) 0)) (lstC strC (lget (entCs (entAt T 0)) 1)) (lstC api_CounterC (lget (entCs (entAt T 0)) 2)) (lstC api_StateC (lget (entCs (entAt T 0)) 3)) (lstC api_RuleC (lget (entCs (entAt T 0)) 4)) (toI (lget (entCs (entAt T 1)) 0)) (toI (lget (entCs (entAt T 1)) 1)) (toI (lget (entCs (entAt T 1)) 2)) (toI (lget (entCs (entAt T 2)) 0)) (fun q0 q6 q7 q8 => kf (lget [.int .i64 q0] 0, [(0, .blk [slC strC (lstC strC (lget (entCs (entAt T 0)) 0)), slC strC (lstC strC (lget (entCs (entAt T 0)) 1)), slC api_CounterC (lstC api_CounterC (lget (entCs (entAt T 0)) 2)), slC api_StateC (lstC api_StateC (lget (entCs (entAt T 0)) 3)), slC api_RuleC (lstC api_RuleC (lget (entCs (entAt T 0)) 4))]), (1, .blk [.int .i64 q6, .int .i64 q7, .int .i64 q8]), (2, .blk [.int .i64 (toI (lget (entCs (entAt T 2)) 0))])]))
def ixT_d2 {R : Type} (N : Nat) (S0 : St) (k : Exit → St → Option R) : Option R :=
  ixT_l2 N N (lstC (lsC api_LiteralC) (lget S0.tmps 0)) (toI (lget S0.tmps 7)) (toI (lget S0.tmps 8)) (lstC strC (lget (entCs (entAt S0.tab 0)) 0)) (lstC strC (lget (entCs (entAt S0.tab 0)) 1)) (lstC api_CounterC (lget (entCs (entAt S0.tab 0)) 2)) (lstC api_StateC (lget (entCs (entAt S0.tab 0)) 3)) (lstC api_RuleC (lget (entCs (entAt S0.tab 0)) 4)) (toI (lget (entCs (entAt S0.tab 1)) 0)) (toI (lget (entCs (entAt S0.tab 1)) 1)) (toI (lget (entCs (entAt S0.tab 1)) 2)) (toI (lget (entCs (entAt S0.tab 2)) 0)) (fun q0 q6 q7 q8 => k .ret (ixT_x2_r (lstC strC (lget (entCs (entAt S0.tab 0)) 0)) (lstC strC (lget (entCs (entAt S0.tab 0)) 1)) (lstC api_CounterC (lget (entCs (entAt S0.tab 0)) 2)) (lstC api_StateC (lget (entCs (entAt S0.tab 0)) 3)) (lstC api_RuleC (lget (entCs (entAt S0.tab 0)) 4)) (toI (lget (entCs (entAt S0.tab 2)) 0)) q0 q6 q7 q8)) (fun q5 q6 q7 => k (.exit 0) (ixT_x2_0 (lstC strC (lget (entCs (entAt S0.tab 0)) 0)) (lstC strC (lget (entCs (entAt S0.tab 0)) 1)) (lstC api_CounterC (lget (entCs (entAt S0.tab 0)) 2)) (lstC api_StateC (lget (entCs (entAt S0.tab 0)) 3)) (lstC api_RuleC (lget (entCs (entAt S0.tab 0)) 4)) (toI (lget (entCs (entAt S0.tab 2)) 0)) q5 q6 q7))
def ixT_lp {R : Type} (N : Nat) : Lp R := fun body S k => bif (Go.Sx.keyOf body).getD 0 == 2 then (ixT_L2.head.raw 3 S (fun S0 => ixT_d2 N S0 k)) else Option.none
theorem ixT_l2_eq {R : Type} (N : Nat) (k : Exit → St → Option R) (n : Nat) : ∀ (v0 : Arr (Arr api_Literal)) (v1 : Int) (v2 : Int) (v3 : Arr ByteArray) (v4 : Arr ByteArray) (v5 : Arr api_Counter) (v6 : Arr api_State) (v7 : Arr api_Rule) (v8 : Int) (v9 : Int) (v10 : Int) (v11 : Int), loopM E.Θ (sP_Holds_1_cal N) (ixT_lp N) (noJn) 3 ixT_L2 (bodyAt E 108 2) n (ixT_h2 v0 v1 v2 v3 v4 v5 v6 v7 v8 v9 v10 v11) k = ixT_l2 N n v0 v1 v2 v3 v4 v5 v6 v7 v8 v9 v10 v11 (fun q0 q6 q7 q8 => k .ret (ixT_x2_r v3 v4 v5 v6 v7 v11 q0 q6 q7 q8)) (fun q5 q6 q7 => k (.exit 0) (ixT_x2_0 v3 v4 v5 v6 v7 v11 q5 q6 q7)) := by
  induction n with
  | zero => intro v0 v1 v2 v3 v4 v5 v6 v7 v8 v9 v10 v11; rfl
  | succ n ih =>
    intro v0 v1 v2 v3 v4 v5 v6 v7 v8 v9 v10 v11
    refine Eq.trans (b := ixT_b2 N (fun v0 v1 v2 v3 v4 v5 v6 v7 v8 v9 v10 v11 => loopM E.Θ (sP_Holds_1_cal N) (ixT_lp N) (noJn) 3 ixT_L2 (bodyAt E 108 2) n (ixT_h2 v0 v1 v2 v3 v4 v5 v6 v7 v8 v9 v10 v11) k) v0 v1 v2 v3 v4 v5 v6 v7 v8 v9 v10 v11 (fun q0 q6 q7 q8 => k .ret (ixT_x2_r v3 v4 v5 v6 v7 v11 q0 q6 q7 q8)) (fun q5 q6 q7 => k (.exit 0) (ixT_x2_0 v3 v4 v5 v6 v7 v11 q5 q6 q7))) (by kernel_rfl) ?_
    have h : (fun (v0 : Arr (Arr api_Literal)) (v1 : Int) (v2 : Int) (v3 : Arr ByteArray) (v4 : Arr ByteArray) (v5 : Arr api_Counter) (v6 : Arr api_State) (v7 : Arr api_Rule) (v8 : Int) (v9 : Int) (v10 : Int) (v11 : Int) => loopM E.Θ (sP_Holds_1_cal N) (ixT_lp N) (noJn) 3 ixT_L2 (bodyAt E 108 2) n (ixT_h2 v0 v1 v2 v3 v4 v5 v6 v7 v8 v9 v10 v11) k) = (fun (v0 : Arr (Arr api_Literal)) (v1 : Int) (v2 : Int) (v3 : Arr ByteArray) (v4 : Arr ByteArray) (v5 : Arr api_Counter) (v6 : Arr api_State) (v7 : Arr api_Rule) (v8 : Int) (v9 : Int) (v10 : Int) (v11 : Int) => ixT_l2 N n v0 v1 v2 v3 v4 v5 v6 v7 v8 v9 v10 v11 (fun q0 q6 q7 q8 => k .ret (ixT_x2_r v3 v4 v5 v6 v7 v11 q0 q6 q7 q8)) (fun q5 q6 q7 => k (.exit 0) (ixT_x2_0 v3 v4 v5 v6 v7 v11 q5 q6 q7))) := funext fun v0 => funext fun v1 => funext fun v2 => funext fun v3 => funext fun v4 => funext fun v5 => funext fun v6 => funext fun v7 => funext fun v8 => funext fun v9 => funext fun v10 => funext fun v11 => ih v0 v1 v2 v3 v4 v5 v6 v7 v8 v9 v10 v11
    rw [h]
    rfl
theorem ixT_k2 {R : Type} (N : Nat) : LpKey (R := R) E 108 3 (ixT_lp N) 2 :=
  lpKey_of hE (sP_Holds_1_cal_ok N) (lp := ixT_lp N) (jn := noJn) ixT_L2_ok [] kNil (by kernel_rfl) [] jNil (by kernel_rfl) N fun S k =>
    Eq.trans (b := ixT_L2.head.raw 3 S (fun S0 => ixT_d2 N S0 k)) (by kernel_rfl) (congrArg (ixT_L2.head.raw 3 S) (funext fun S0 => Eq.trans (ixT_l2_eq N k N (lstC (lsC api_LiteralC) (lget S0.tmps 0)) (toI (lget S0.tmps 7)) (toI (lget S0.tmps 8)) (lstC strC (lget (entCs (entAt S0.tab 0)) 0)) (lstC strC (lget (entCs (entAt S0.tab 0)) 1)) (lstC api_CounterC (lget (entCs (entAt S0.tab 0)) 2)) (lstC api_StateC (lget (entCs (entAt S0.tab 0)) 3)) (lstC api_RuleC (lget (entCs (entAt S0.tab 0)) 4)) (toI (lget (entCs (entAt S0.tab 1)) 0)) (toI (lget (entCs (entAt S0.tab 1)) 1)) (toI (lget (entCs (entAt S0.tab 1)) 2)) (toI (lget (entCs (entAt S0.tab 2)) 0))).symm (by kernel_rfl)))
noncomputable def ixT_go {R : Type} (N : Nat) (args : List SV) (T : Tab) (kf : SV × Tab → Option R) : Option R :=
  ixT N (lstC (lsC api_LiteralC) (lget args 0)) (lstC strC (lget (entCs (entAt T 0)) 0)) (lstC strC (lget (entCs (entAt T 0)) 1)) (lstC api_CounterC (lget (entCs (entAt T 0)) 2)) (lstC api_StateC (lget (entCs (entAt T 0)) 3)) (lstC api_RuleC (lget (entCs (entAt T 0)) 4)) (toI (lget (entCs (entAt T 1)) 0)) (toI (lget (entCs (entAt T 1)) 1)) (toI (lget (entCs (entAt T 1)) 2)) (toI (lget (entCs (entAt T 2)) 0)) (fun q0 q6 q7 q8 => kf (lget [.int .i64 q0] 0, [(0, .blk [slC strC (lstC strC (lget (entCs (entAt T 0)) 0)), slC strC (lstC strC (lget (entCs (entAt T 0)) 1)), slC api_CounterC (lstC api_CounterC (lget (entCs (entAt T 0)) 2)), slC api_StateC (lstC api_StateC (lget (entCs (entAt T 0)) 3)), slC api_RuleC (lstC api_RuleC (lget (entCs (entAt T 0)) 4))]), (1, .blk [.int .i64 q6, .int .i64 q7, .int .i64 q8]), (2, .blk [.int .i64 (toI (lget (entCs (entAt T 2)) 0))])]))
noncomputable def ixT_cal {R : Type} (N : Nat) : Cal R := callM (sP_Holds_1_cal N) 108 3 ixT_sp (ixT_go N)
theorem ixT_cal_ok {R : Type} (N : Nat) : CalOk E.P (ixT_cal (R := R) N) :=
  callM_ok hE (sP_Holds_1_cal_ok N) (lp := ixT_lp N) (jn := noJn) (keys := [2]) (kCons (ixT_k2 N) kNil) (by kernel_rfl) (js := []) jNil (by kernel_rfl) ixT_sp_ok ixT_rs_ok (fun args T kf => Eq.trans (ixT_def N (lstC (lsC api_LiteralC) (lget args 0)) (lstC strC (lget (entCs (entAt T 0)) 0)) (lstC strC (lget (entCs (entAt T 0)) 1)) (lstC api_CounterC (lget (entCs (entAt T 0)) 2)) (lstC api_StateC (lget (entCs (entAt T 0)) 3)) (lstC api_RuleC (lget (entCs (entAt T 0)) 4)) (toI (lget (entCs (entAt T 1)) 0)) (toI (lget (entCs (entAt T 1)) 1)) (toI (lget (entCs (entAt T 1)) 2)) (toI (lget (entCs (entAt T 2)) 0)) (fun q0 q6 q7 q8 => kf (lget [.int .i64 q0] 0, [(0, .blk [slC strC (lstC strC (lget (entCs (entAt T 0)) 0)), slC strC (lstC strC (lget (entCs (entAt T 0)) 1)), slC api_CounterC (lstC api_CounterC (lget (entCs (entAt T 0)) 2)), slC api_StateC (lstC api_StateC (lget (entCs (entAt T 0)) 3)), slC api_RuleC (lstC api_RuleC (lget (entCs (entAt T 0)) 4))]), (1, .blk [.int .i64 q6, .int .i64 q7, .int .i64 q8]), (2, .blk [.int .i64 (toI (lget (entCs (entAt T 2)) 0))])]))) (by kernel_rfl : ixT_run N args T kf = fnM E (sP_Holds_1_cal N) (ixT_lp N) (noJn) 108 (ixT_sp.vs args) (ixT_sp.tab T) 3 (resK ixT_rs kf)))
def coT_m {R : Type} (N : Nat) (a561 : Arr (Arr api_Literal)) (a562 : Arr ByteArray) (a563 : Arr ByteArray) (a564 : Arr api_Counter) (a565 : Arr api_State) (a566 : Arr api_Rule) (a567 : Int) (a568 : Int) (a569 : Int) (a570 : Int) (k : Bool → Int → Int → Int → Option R) : Option R :=
 ixT N a561 a562 a563 a564 a565 a566 a567 a568 a569 a570 (fun r661 r662 r663 r664 =>
 k (decide (r661 ≥ (0 : Int))) r662 r663 r664)
noncomputable def coT {R : Type} : Nat → Arr (Arr api_Literal) → Arr ByteArray → Arr ByteArray → Arr api_Counter → Arr api_State → Arr api_Rule → Int → Int → Int → Int → (Bool → Int → Int → Int → Option R) → Option R := lock (@coT_m R)
theorem coT_def {R : Type} (N : Nat) (a561 : Arr (Arr api_Literal)) (a562 : Arr ByteArray) (a563 : Arr ByteArray) (a564 : Arr api_Counter) (a565 : Arr api_State) (a566 : Arr api_Rule) (a567 : Int) (a568 : Int) (a569 : Int) (a570 : Int) (k : Bool → Int → Int → Int → Option R) : coT N a561 a562 a563 a564 a565 a566 a567 a568 a569 a570 k = coT_m N a561 a562 a563 a564 a565 a566 a567 a568 a569 a570 k := by unfold coT; rw [lock_eq]
def coT_sp : Sp := ⟨[rSl (lsC api_LiteralC), rFunc 99 0 [rPtr 0 0, rPtr 1 0, rPtr 2 0]], [(0, eBlk [rSl strC, rSl strC, rSl api_CounterC, rSl api_StateC, rSl api_RuleC]), (1, eBlk [rInt .i64, rInt .i64, rInt .i64]), (2, eBlk [rInt .i64])]⟩
theorem coT_sp_ok : coT_sp.Ok := ⟨(allCons (rSl_ok (lsC_ok api_LiteralC_ok)) (allCons (rFunc_ok 99 0 (allCons (rPtr_ok 0 0) (allCons (rPtr_ok 1 0) (allCons (rPtr_ok 2 0) allNil)))) allNil)), (eCons (eBlk_ok (allCons (rSl_ok strC_ok) (allCons (rSl_ok strC_ok) (allCons (rSl_ok api_CounterC_ok) (allCons (rSl_ok api_StateC_ok) (allCons (rSl_ok api_RuleC_ok) allNil)))))) (eCons (eBlk_ok (allCons (rInt_ok .i64) (allCons (rInt_ok .i64) (allCons (rInt_ok .i64) allNil)))) (eCons (eBlk_ok (allCons (rInt_ok .i64) allNil)) eNil)))⟩
def coT_rs : Sp := ⟨[rBool], [(0, eBlk [rSl strC, rSl strC, rSl api_CounterC, rSl api_StateC, rSl api_RuleC]), (1, eBlk [rInt .i64, rInt .i64, rInt .i64]), (2, eBlk [rInt .i64])]⟩
theorem coT_rs_ok : coT_rs.Ok := ⟨(allCons rBool_ok allNil), (eCons (eBlk_ok (allCons (rSl_ok strC_ok) (allCons (rSl_ok strC_ok) (allCons (rSl_ok api_CounterC_ok) (allCons (rSl_ok api_StateC_ok) (allCons (rSl_ok api_RuleC_ok) allNil)))))) (eCons (eBlk_ok (allCons (rInt_ok .i64) (allCons (rInt_ok .i64) (allCons (rInt_ok .i64) allNil)))) (eCons (eBlk_ok (allCons (rInt_ok .i64) allNil)) eNil)))⟩
def coT_run {R : Type} (N : Nat) (args : List SV) (T : Tab) (kf : SV × Tab → Option R) : Option R :=
  coT_m N (lstC (lsC api_LiteralC) (lget args 0)) (lstC strC (lget (entCs (entAt T 0)) 0)) (lstC strC (lget (entCs (entAt T 0)) 1)) (lstC api_CounterC (lget (entCs (entAt T 0)) 2)) (lstC api_StateC (lget (entCs (entAt T 0)) 3)) (lstC api_RuleC (lget (entCs (entAt T 0)) 4)) (toI (lget (entCs (entAt T 1)) 0)) (toI (lget (entCs (entAt T 1)) 1)) (toI (lget (entCs (entAt T 1)) 2)) (toI (lget (entCs (entAt T 2)) 0)) (fun q0 q6 q7 q8 => kf (lget [.bool q0] 0, [(0, .blk [slC strC (lstC strC (lget (entCs (entAt T 0)) 0)), slC strC (lstC strC (lget (entCs (entAt T 0)) 1)), slC api_CounterC (lstC api_CounterC (lget (entCs (entAt T 0)) 2)), slC api_StateC (lstC api_StateC (lget (entCs (entAt T 0)) 3)), slC api_RuleC (lstC api_RuleC (lget (entCs (entAt T 0)) 4))]), (1, .blk [.int .i64 q6, .int .i64 q7, .int .i64 q8]), (2, .blk [.int .i64 (toI (lget (entCs (entAt T 2)) 0))])]))
def coT_lp {R : Type} (N : Nat) : Lp R := fun body S k => Option.none
noncomputable def coT_go {R : Type} (N : Nat) (args : List SV) (T : Tab) (kf : SV × Tab → Option R) : Option R :=
  coT N (lstC (lsC api_LiteralC) (lget args 0)) (lstC strC (lget (entCs (entAt T 0)) 0)) (lstC strC (lget (entCs (entAt T 0)) 1)) (lstC api_CounterC (lget (entCs (entAt T 0)) 2)) (lstC api_StateC (lget (entCs (entAt T 0)) 3)) (lstC api_RuleC (lget (entCs (entAt T 0)) 4)) (toI (lget (entCs (entAt T 1)) 0)) (toI (lget (entCs (entAt T 1)) 1)) (toI (lget (entCs (entAt T 1)) 2)) (toI (lget (entCs (entAt T 2)) 0)) (fun q0 q6 q7 q8 => kf (lget [.bool q0] 0, [(0, .blk [slC strC (lstC strC (lget (entCs (entAt T 0)) 0)), slC strC (lstC strC (lget (entCs (entAt T 0)) 1)), slC api_CounterC (lstC api_CounterC (lget (entCs (entAt T 0)) 2)), slC api_StateC (lstC api_StateC (lget (entCs (entAt T 0)) 3)), slC api_RuleC (lstC api_RuleC (lget (entCs (entAt T 0)) 4))]), (1, .blk [.int .i64 q6, .int .i64 q7, .int .i64 q8]), (2, .blk [.int .i64 (toI (lget (entCs (entAt T 2)) 0))])]))
noncomputable def coT_cal {R : Type} (N : Nat) : Cal R := callM (ixT_cal N) 98 3 coT_sp (coT_go N)
theorem coT_cal_ok {R : Type} (N : Nat) : CalOk E.P (coT_cal (R := R) N) :=
  callM_ok hE (ixT_cal_ok N) (lp := coT_lp N) (jn := noJn) (keys := []) kNil (by kernel_rfl) (js := []) jNil (by kernel_rfl) coT_sp_ok coT_rs_ok (fun args T kf => Eq.trans (coT_def N (lstC (lsC api_LiteralC) (lget args 0)) (lstC strC (lget (entCs (entAt T 0)) 0)) (lstC strC (lget (entCs (entAt T 0)) 1)) (lstC api_CounterC (lget (entCs (entAt T 0)) 2)) (lstC api_StateC (lget (entCs (entAt T 0)) 3)) (lstC api_RuleC (lget (entCs (entAt T 0)) 4)) (toI (lget (entCs (entAt T 1)) 0)) (toI (lget (entCs (entAt T 1)) 1)) (toI (lget (entCs (entAt T 1)) 2)) (toI (lget (entCs (entAt T 2)) 0)) (fun q0 q6 q7 q8 => kf (lget [.bool q0] 0, [(0, .blk [slC strC (lstC strC (lget (entCs (entAt T 0)) 0)), slC strC (lstC strC (lget (entCs (entAt T 0)) 1)), slC api_CounterC (lstC api_CounterC (lget (entCs (entAt T 0)) 2)), slC api_StateC (lstC api_StateC (lget (entCs (entAt T 0)) 3)), slC api_RuleC (lstC api_RuleC (lget (entCs (entAt T 0)) 4))]), (1, .blk [.int .i64 q6, .int .i64 q7, .int .i64 q8]), (2, .blk [.int .i64 (toI (lget (entCs (entAt T 2)) 0))])]))) (by kernel_rfl : coT_run N args T kf = fnM E (ixT_cal N) (coT_lp N) (noJn) 98 (coT_sp.vs args) (coT_sp.tab T) 3 (resK coT_rs kf)))
def sP_Holds_m {R : Type} (N : Nat) (a553 : Arr ByteArray) (a554 : Arr ByteArray) (a555 : Arr api_Counter) (a556 : Arr api_State) (a557 : Arr api_Rule) (a558 : Arr (Arr api_Literal)) (a559 : api_Place) (a560 : Int) (k : Bool → Option R) : Option R :=
 coT N a558 a553 a554 a555 a556 a557 (api_Place.State a559) (Arr2_int.a0 (api_Place.Values a559)) (Arr2_int.a1 (api_Place.Values a559)) a560 (fun r665 r666 r667 r668 =>
 k r665)
noncomputable def sP_Holds {R : Type} : Nat → Arr ByteArray → Arr ByteArray → Arr api_Counter → Arr api_State → Arr api_Rule → Arr (Arr api_Literal) → api_Place → Int → (Bool → Option R) → Option R := lock (@sP_Holds_m R)
theorem sP_Holds_def {R : Type} (N : Nat) (a553 : Arr ByteArray) (a554 : Arr ByteArray) (a555 : Arr api_Counter) (a556 : Arr api_State) (a557 : Arr api_Rule) (a558 : Arr (Arr api_Literal)) (a559 : api_Place) (a560 : Int) (k : Bool → Option R) : sP_Holds N a553 a554 a555 a556 a557 a558 a559 a560 k = sP_Holds_m N a553 a554 a555 a556 a557 a558 a559 a560 k := by unfold sP_Holds; rw [lock_eq]
def sP_Holds_sp : Sp := ⟨[rAggs [rSl strC, rSl strC, rSl api_CounterC, rSl api_StateC, rSl api_RuleC], rSl (lsC api_LiteralC), rAgg api_PlaceC, rInt .i64], []⟩
theorem sP_Holds_sp_ok : sP_Holds_sp.Ok := ⟨(allCons (rAggs_ok (allCons (rSl_ok strC_ok) (allCons (rSl_ok strC_ok) (allCons (rSl_ok api_CounterC_ok) (allCons (rSl_ok api_StateC_ok) (allCons (rSl_ok api_RuleC_ok) allNil)))))) (allCons (rSl_ok (lsC_ok api_LiteralC_ok)) (allCons (rAgg_ok api_PlaceC_ok api_PlaceC_len) (allCons (rInt_ok .i64) allNil)))), eNil⟩
def sP_Holds_rs : Sp := ⟨[rBool], []⟩
theorem sP_Holds_rs_ok : sP_Holds_rs.Ok := ⟨(allCons rBool_ok allNil), eNil⟩
def sP_Holds_run {R : Type} (N : Nat) (args : List SV) (T : Tab) (kf : SV × Tab → Option R) : Option R :=
  sP_Holds_m N (lstC strC (lget (toCs (lget args 0)) 0)) (lstC strC (lget (toCs (lget args 0)) 1)) (lstC api_CounterC (lget (toCs (lget args 0)) 2)) (lstC api_StateC (lget (toCs (lget args 0)) 3)) (lstC api_RuleC (lget (toCs (lget args 0)) 4)) (lstC (lsC api_LiteralC) (lget args 1)) (Cod.dec api_PlaceC (lget (toCs (lget args 2)))) (toI (lget args 3)) (fun q0 => kf (lget [.bool q0] 0, []))
def sP_Holds_lp {R : Type} (N : Nat) : Lp R := fun body S k => Option.none
noncomputable def sP_Holds_go {R : Type} (N : Nat) (args : List SV) (T : Tab) (kf : SV × Tab → Option R) : Option R :=
  sP_Holds N (lstC strC (lget (toCs (lget args 0)) 0)) (lstC strC (lget (toCs (lget args 0)) 1)) (lstC api_CounterC (lget (toCs (lget args 0)) 2)) (lstC api_StateC (lget (toCs (lget args 0)) 3)) (lstC api_RuleC (lget (toCs (lget args 0)) 4)) (lstC (lsC api_LiteralC) (lget args 1)) (Cod.dec api_PlaceC (lget (toCs (lget args 2)))) (toI (lget args 3)) (fun q0 => kf (lget [.bool q0] 0, []))
noncomputable def sP_Holds_cal {R : Type} (N : Nat) : Cal R := callM (coT_cal N) 80 0 sP_Holds_sp (sP_Holds_go N)
theorem sP_Holds_cal_ok {R : Type} (N : Nat) : CalOk E.P (sP_Holds_cal (R := R) N) :=
  callM_ok hE (coT_cal_ok N) (lp := sP_Holds_lp N) (jn := noJn) (keys := []) kNil (by kernel_rfl) (js := []) jNil (by kernel_rfl) sP_Holds_sp_ok sP_Holds_rs_ok (fun args T kf => Eq.trans (sP_Holds_def N (lstC strC (lget (toCs (lget args 0)) 0)) (lstC strC (lget (toCs (lget args 0)) 1)) (lstC api_CounterC (lget (toCs (lget args 0)) 2)) (lstC api_StateC (lget (toCs (lget args 0)) 3)) (lstC api_RuleC (lget (toCs (lget args 0)) 4)) (lstC (lsC api_LiteralC) (lget args 1)) (Cod.dec api_PlaceC (lget (toCs (lget args 2)))) (toI (lget args 3)) (fun q0 => kf (lget [.bool q0] 0, []))) (by kernel_rfl : sP_Holds_run N args T kf = fnM E (coT_cal N) (sP_Holds_lp N) (noJn) 80 (sP_Holds_sp.vs args) (sP_Holds_sp.tab T) 0 (resK sP_Holds_rs kf)))
def sP_Allowed_m {R : Type} (N : Nat) (a545 : Arr ByteArray) (a546 : Arr ByteArray) (a547 : Arr api_Counter) (a548 : Arr api_State) (a549 : Arr api_Rule) (a550 : Arr (Arr api_Literal)) (a551 : api_Place) (a552 : Int) (k : Bool → Option R) : Option R :=
 bif (↑(Arr.n a550) : Int) == (0 : Int) then
 k true
 else
 sP_Holds N a545 a546 a547 a548 a549 a550 a551 a552 (fun r669 =>
 k r669)
noncomputable def sP_Allowed {R : Type} : Nat → Arr ByteArray → Arr ByteArray → Arr api_Counter → Arr api_State → Arr api_Rule → Arr (Arr api_Literal) → api_Place → Int → (Bool → Option R) → Option R := lock (@sP_Allowed_m R)
theorem sP_Allowed_def {R : Type} (N : Nat) (a545 : Arr ByteArray) (a546 : Arr ByteArray) (a547 : Arr api_Counter) (a548 : Arr api_State) (a549 : Arr api_Rule) (a550 : Arr (Arr api_Literal)) (a551 : api_Place) (a552 : Int) (k : Bool → Option R) : sP_Allowed N a545 a546 a547 a548 a549 a550 a551 a552 k = sP_Allowed_m N a545 a546 a547 a548 a549 a550 a551 a552 k := by unfold sP_Allowed; rw [lock_eq]
def sP_Allowed_sp : Sp := ⟨[rAggs [rSl strC, rSl strC, rSl api_CounterC, rSl api_StateC, rSl api_RuleC], rSl (lsC api_LiteralC), rAgg api_PlaceC, rInt .i64], []⟩
theorem sP_Allowed_sp_ok : sP_Allowed_sp.Ok := ⟨(allCons (rAggs_ok (allCons (rSl_ok strC_ok) (allCons (rSl_ok strC_ok) (allCons (rSl_ok api_CounterC_ok) (allCons (rSl_ok api_StateC_ok) (allCons (rSl_ok api_RuleC_ok) allNil)))))) (allCons (rSl_ok (lsC_ok api_LiteralC_ok)) (allCons (rAgg_ok api_PlaceC_ok api_PlaceC_len) (allCons (rInt_ok .i64) allNil)))), eNil⟩
def sP_Allowed_rs : Sp := ⟨[rBool], []⟩
theorem sP_Allowed_rs_ok : sP_Allowed_rs.Ok := ⟨(allCons rBool_ok allNil), eNil⟩
def sP_Allowed_run {R : Type} (N : Nat) (args : List SV) (T : Tab) (kf : SV × Tab → Option R) : Option R :=
  sP_Allowed_m N (lstC strC (lget (toCs (lget args 0)) 0)) (lstC strC (lget (toCs (lget args 0)) 1)) (lstC api_CounterC (lget (toCs (lget args 0)) 2)) (lstC api_StateC (lget (toCs (lget args 0)) 3)) (lstC api_RuleC (lget (toCs (lget args 0)) 4)) (lstC (lsC api_LiteralC) (lget args 1)) (Cod.dec api_PlaceC (lget (toCs (lget args 2)))) (toI (lget args 3)) (fun q0 => kf (lget [.bool q0] 0, []))
def sP_Allowed_lp {R : Type} (N : Nat) : Lp R := fun body S k => Option.none
noncomputable def sP_Allowed_go {R : Type} (N : Nat) (args : List SV) (T : Tab) (kf : SV × Tab → Option R) : Option R :=
  sP_Allowed N (lstC strC (lget (toCs (lget args 0)) 0)) (lstC strC (lget (toCs (lget args 0)) 1)) (lstC api_CounterC (lget (toCs (lget args 0)) 2)) (lstC api_StateC (lget (toCs (lget args 0)) 3)) (lstC api_RuleC (lget (toCs (lget args 0)) 4)) (lstC (lsC api_LiteralC) (lget args 1)) (Cod.dec api_PlaceC (lget (toCs (lget args 2)))) (toI (lget args 3)) (fun q0 => kf (lget [.bool q0] 0, []))
noncomputable def sP_Allowed_cal {R : Type} (N : Nat) : Cal R := callM (sP_Holds_cal N) 77 0 sP_Allowed_sp (sP_Allowed_go N)
theorem sP_Allowed_cal_ok {R : Type} (N : Nat) : CalOk E.P (sP_Allowed_cal (R := R) N) :=
  callM_ok hE (sP_Holds_cal_ok N) (lp := sP_Allowed_lp N) (jn := noJn) (keys := []) kNil (by kernel_rfl) (js := []) jNil (by kernel_rfl) sP_Allowed_sp_ok sP_Allowed_rs_ok (fun args T kf => Eq.trans (sP_Allowed_def N (lstC strC (lget (toCs (lget args 0)) 0)) (lstC strC (lget (toCs (lget args 0)) 1)) (lstC api_CounterC (lget (toCs (lget args 0)) 2)) (lstC api_StateC (lget (toCs (lget args 0)) 3)) (lstC api_RuleC (lget (toCs (lget args 0)) 4)) (lstC (lsC api_LiteralC) (lget args 1)) (Cod.dec api_PlaceC (lget (toCs (lget args 2)))) (toI (lget args 3)) (fun q0 => kf (lget [.bool q0] 0, []))) (by kernel_rfl : sP_Allowed_run N args T kf = fnM E (sP_Holds_cal N) (sP_Allowed_lp N) (noJn) 77 (sP_Allowed_sp.vs args) (sP_Allowed_sp.tab T) 0 (resK sP_Allowed_rs kf)))
def control_same_m {R : Type} (N : Nat) (a671 : Int) (k : Unit → Option R) : Option R :=
 k ()
noncomputable def control_same {R : Type} : Nat → Int → (Unit → Option R) → Option R := lock (@control_same_m R)
theorem control_same_def {R : Type} (N : Nat) (a671 : Int) (k : Unit → Option R) : control_same N a671 k = control_same_m N a671 k := by unfold control_same; rw [lock_eq]
def control_same_sp : Sp := ⟨[rInt .i64], []⟩
theorem control_same_sp_ok : control_same_sp.Ok := ⟨(allCons (rInt_ok .i64) allNil), eNil⟩
def control_same_rs : Sp := ⟨[rInt .i64], []⟩
theorem control_same_rs_ok : control_same_rs.Ok := ⟨(allCons (rInt_ok .i64) allNil), eNil⟩
def control_same_run {R : Type} (N : Nat) (args : List SV) (T : Tab) (kf : SV × Tab → Option R) : Option R :=
  control_same_m N (toI (lget args 0)) (fun (_ : Unit) => kf (lget [.int .i64 (toI (lget args 0))] 0, []))
def control_same_lp {R : Type} (N : Nat) : Lp R := fun body S k => Option.none
noncomputable def control_same_go {R : Type} (N : Nat) (args : List SV) (T : Tab) (kf : SV × Tab → Option R) : Option R :=
  control_same N (toI (lget args 0)) (fun (_ : Unit) => kf (lget [.int .i64 (toI (lget args 0))] 0, []))
noncomputable def control_same_cal {R : Type} (N : Nat) : Cal R := callM (sP_Allowed_cal N) 52 0 control_same_sp (control_same_go N)
theorem control_same_cal_ok {R : Type} (N : Nat) : CalOk E.P (control_same_cal (R := R) N) :=
  callM_ok hE (sP_Allowed_cal_ok N) (lp := control_same_lp N) (jn := noJn) (keys := []) kNil (by kernel_rfl) (js := []) jNil (by kernel_rfl) control_same_sp_ok control_same_rs_ok (fun args T kf => Eq.trans (control_same_def N (toI (lget args 0)) (fun (_ : Unit) => kf (lget [.int .i64 (toI (lget args 0))] 0, []))) (by kernel_rfl : control_same_run N args T kf = fnM E (sP_Allowed_cal N) (control_same_lp N) (noJn) 52 (control_same_sp.vs args) (control_same_sp.tab T) 0 (resK control_same_rs kf)))
def sP_set_m {R : Type} (N : Nat) (a702 : Arr ByteArray) (a703 : Arr ByteArray) (a704 : Arr api_Counter) (a705 : Arr api_State) (a706 : Arr api_Rule) (a707 : api_Set) (a708 : api_Place) (k : api_Place → Option R) : Option R :=
 bif decide ((0 : Int) ≤ api_Set.Counter a707) && decide (api_Set.Counter a707 < (↑(2 : Nat) : Int)) then
 bif api_Set.Kind a707 == (1 : Int) then
 k (api_Place.mk (api_Place.State a708) (Arr2_int.mk (bif api_Set.Counter a707 == (↑(0 : Nat) : Int) then (0 : Int) else Arr2_int.a0 (api_Place.Values a708)) (bif api_Set.Counter a707 == (↑((0 : Nat) + (1 : Nat)) : Int) then (0 : Int) else Arr2_int.a1 (api_Place.Values a708))))
 else
 bif api_Set.Kind a707 == (2 : Int) then
 bif decide ((0 : Int) ≤ api_Set.Counter a707) && decide (api_Set.Counter a707 < (↑(Arr.n a704) : Int)) then
 k (api_Place.mk (api_Place.State a708) (Arr2_int.mk (bif api_Set.Counter a707 == (↑(0 : Nat) : Int) then mnI (w64 (pickI (api_Set.Counter a707) (0 : Nat) [Arr2_int.a0 (api_Place.Values a708), Arr2_int.a1 (api_Place.Values a708)] + (1 : Int))) (api_Counter.Max (Arr.f a704 (Int.toNat (api_Set.Counter a707)))) else Arr2_int.a0 (api_Place.Values a708)) (bif api_Set.Counter a707 == (↑((0 : Nat) + (1 : Nat)) : Int) then mnI (w64 (pickI (api_Set.Counter a707) (0 : Nat) [Arr2_int.a0 (api_Place.Values a708), Arr2_int.a1 (api_Place.Values a708)] + (1 : Int))) (api_Counter.Max (Arr.f a704 (Int.toNat (api_Set.Counter a707)))) else Arr2_int.a1 (api_Place.Values a708))))
 else
 Option.none
 else
 bif api_Set.Kind a707 == (3 : Int) then
 k (api_Place.mk (api_Place.State a708) (Arr2_int.mk (bif api_Set.Counter a707 == (↑(0 : Nat) : Int) then mxI (w64 (pickI (api_Set.Counter a707) (0 : Nat) [Arr2_int.a0 (api_Place.Values a708), Arr2_int.a1 (api_Place.Values a708)] - (1 : Int))) (0 : Int) else Arr2_int.a0 (api_Place.Values a708)) (bif api_Set.Counter a707 == (↑((0 : Nat) + (1 : Nat)) : Int) then mxI (w64 (pickI (api_Set.Counter a707) (0 : Nat) [Arr2_int.a0 (api_Place.Values a708), Arr2_int.a1 (api_Place.Values a708)] - (1 : Int))) (0 : Int) else Arr2_int.a1 (api_Place.Values a708))))
 else
 k a708
 else
 Option.none
noncomputable def sP_set {R : Type} : Nat → Arr ByteArray → Arr ByteArray → Arr api_Counter → Arr api_State → Arr api_Rule → api_Set → api_Place → (api_Place → Option R) → Option R := lock (@sP_set_m R)
theorem sP_set_def {R : Type} (N : Nat) (a702 : Arr ByteArray) (a703 : Arr ByteArray) (a704 : Arr api_Counter) (a705 : Arr api_State) (a706 : Arr api_Rule) (a707 : api_Set) (a708 : api_Place) (k : api_Place → Option R) : sP_set N a702 a703 a704 a705 a706 a707 a708 k = sP_set_m N a702 a703 a704 a705 a706 a707 a708 k := by unfold sP_set; rw [lock_eq]
def sP_set_sp : Sp := ⟨[rAggs [rSl strC, rSl strC, rSl api_CounterC, rSl api_StateC, rSl api_RuleC], rAgg api_SetC, rPtr 0 0], [(0, eBlkC api_PlaceC)]⟩
theorem sP_set_sp_ok : sP_set_sp.Ok := ⟨(allCons (rAggs_ok (allCons (rSl_ok strC_ok) (allCons (rSl_ok strC_ok) (allCons (rSl_ok api_CounterC_ok) (allCons (rSl_ok api_StateC_ok) (allCons (rSl_ok api_RuleC_ok) allNil)))))) (allCons (rAgg_ok api_SetC_ok api_SetC_len) (allCons (rPtr_ok 0 0) allNil))), (eCons (eBlkC_ok api_PlaceC_ok api_PlaceC_len) eNil)⟩
def sP_set_rs : Sp := ⟨[rTup []], [(0, eBlkC api_PlaceC)]⟩
theorem sP_set_rs_ok : sP_set_rs.Ok := ⟨(allCons (rTup_ok allNil) allNil), (eCons (eBlkC_ok api_PlaceC_ok api_PlaceC_len) eNil)⟩
def sP_set_run {R : Type} (N : Nat) (args : List SV) (T : Tab) (kf : SV × Tab → Option R) : Option R :=
  sP_set_m N (lstC strC (lget (toCs (lget args 0)) 0)) (lstC strC (lget (toCs (lget args 0)) 1)) (lstC api_CounterC (lget (toCs (lget args 0)) 2)) (lstC api_StateC (lget (toCs (lget args 0)) 3)) (lstC api_RuleC (lget (toCs (lget args 0)) 4)) (Cod.dec api_SetC (lget (toCs (lget args 1)))) (Cod.dec api_PlaceC (lget (entCs (entAt T 0)))) (fun q0 => kf (lget [.tup []] 0, [(0, .blk (Cod.enc api_PlaceC q0))]))
def sP_set_lp {R : Type} (N : Nat) : Lp R := fun body S k => Option.none
noncomputable def sP_set_go {R : Type} (N : Nat) (args : List SV) (T : Tab) (kf : SV × Tab → Option R) : Option R :=
  sP_set N (lstC strC (lget (toCs (lget args 0)) 0)) (lstC strC (lget (toCs (lget args 0)) 1)) (lstC api_CounterC (lget (toCs (lget args 0)) 2)) (lstC api_StateC (lget (toCs (lget args 0)) 3)) (lstC api_RuleC (lget (toCs (lget args 0)) 4)) (Cod.dec api_SetC (lget (toCs (lget args 1)))) (Cod.dec api_PlaceC (lget (entCs (entAt T 0)))) (fun q0 => kf (lget [.tup []] 0, [(0, .blk (Cod.enc api_PlaceC q0))]))
noncomputable def sP_set_cal {R : Type} (N : Nat) : Cal R := callM (control_same_cal N) 81 1 sP_set_sp (sP_set_go N)
theorem sP_set_cal_ok {R : Type} (N : Nat) : CalOk E.P (sP_set_cal (R := R) N) :=
  callM_ok hE (control_same_cal_ok N) (lp := sP_set_lp N) (jn := noJn) (keys := []) kNil (by kernel_rfl) (js := []) jNil (by kernel_rfl) sP_set_sp_ok sP_set_rs_ok (fun args T kf => Eq.trans (sP_set_def N (lstC strC (lget (toCs (lget args 0)) 0)) (lstC strC (lget (toCs (lget args 0)) 1)) (lstC api_CounterC (lget (toCs (lget args 0)) 2)) (lstC api_StateC (lget (toCs (lget args 0)) 3)) (lstC api_RuleC (lget (toCs (lget args 0)) 4)) (Cod.dec api_SetC (lget (toCs (lget args 1)))) (Cod.dec api_PlaceC (lget (entCs (entAt T 0)))) (fun q0 => kf (lget [.tup []] 0, [(0, .blk (Cod.enc api_PlaceC q0))]))) (by kernel_rfl : sP_set_run N args T kf = fnM E (control_same_cal N) (sP_set_lp N) (noJn) 81 (sP_set_sp.vs args) (sP_set_sp.tab T) 1 (resK sP_set_rs kf)))
end
end Go.Proofs.YtpillmoddoccfabDoor
