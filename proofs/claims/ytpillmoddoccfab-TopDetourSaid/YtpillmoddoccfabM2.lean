/-
  Models of the functions, and that they are what the code does. Written by a program.
-/
import Derived.Test.YtpillmoddoccfabM1
set_option maxRecDepth 100000
set_option maxHeartbeats 0
set_option linter.unusedVariables false
namespace Go.Proofs.Ytpillmoddoccfab
open Go.Sx
noncomputable section
def shaft_night_L2 : LoopSp := ⟨⟨[1, 2, 6, 7, 8, 12, 13, 14], ⟨(dr 1 ((rSl intC) :: (rInt .i64) :: (dr 3 ((rInt .i64) :: (rInt .i64) :: (rBool) :: (dr 3 ((rSl api_JobC) :: (rInt .i64) :: (rInt .i64) :: (dr 41 []))))))), []⟩, 0⟩, [(some 0, ⟨[6, 7, 8], ⟨(dr 6 ((rInt .i64) :: (rInt .i64) :: (rBool) :: (dr 47 []))), []⟩, 0⟩)]⟩
theorem shaft_night_L2_ok : shaft_night_L2.Ok := ⟨⟨(drCons 1 (allCons (rSl_ok intC_ok) (allCons (rInt_ok .i64) (drCons 3 (allCons (rInt_ok .i64) (allCons (rInt_ok .i64) (allCons rBool_ok (drCons 3 (allCons (rSl_ok api_JobC_ok) (allCons (rInt_ok .i64) (allCons (rInt_ok .i64) (drCons 41 allNil)))))))))))), eNil⟩, (xCons ⟨(drCons 6 (allCons (rInt_ok .i64) (allCons (rInt_ok .i64) (allCons rBool_ok (drCons 47 allNil))))), eNil⟩ xNil)⟩
def shaft_night_h2 (v317 : Arr Int) (v318 : Int) (v319 : Int) (v320 : Int) (v321 : Bool) (v322 : Arr api_Job) (v323 : Int) (v324 : Int) : St := ⟨(un 1 ((slC intC v317) :: (.int .i64 v318) :: (un 3 ((.int .i64 v319) :: (.int .i64 v320) :: (.bool v321) :: (un 3 ((slC api_JobC v322) :: (.int .i64 v323) :: (.int .i64 v324) :: (un 41 []))))))), [], 0⟩
def shaft_night_x2_0 (q0 : Int) (q1 : Int) (q2 : Bool) : St := ⟨(un 6 ((.int .i64 q0) :: (.int .i64 q1) :: (.bool q2) :: (un 47 []))), [], 0⟩
def shaft_night_b2 {R : Type} (N : Nat) (rc : Arr Int → Int → Int → Int → Bool → Arr api_Job → Int → Int → Option R) (v317 : Arr Int) (v318 : Int) (v319 : Int) (v320 : Int) (v321 : Bool) (v322 : Arr api_Job) (v323 : Int) (v324 : Int) (k0 : Int → Int → Bool → Option R) : Option R :=
  bif decide (v324 < v323) then
   bif decide ((0 : Int) ≤ v324) && decide (v324 < (↑(Arr.n v322) : Int)) then
    bif decide ((0 : Int) ≤ v324) && decide (v324 < (↑(Arr.n v317) : Int)) then
     bif decide (Arr.f v317 (Int.toNat v324) ≤ v318) then
      bif decide ((0 : Int) ≤ v324) && decide (v324 < (↑(Arr.n v317) : Int)) then
       bif decide (v318 < w64 (Arr.f v317 (Int.toNat v324) + api_Job.Nights (Arr.f v322 (Int.toNat v324)))) then
        bif v321 then
         bif decide (api_Job.Machine (Arr.f v322 (Int.toNat v324)) < (0 : Int)) then
          Option.none
         else
          rc v317 v318 (w64 (↑(BitVec.toNat (BitVec.ofInt (IntKind.bits IntKind.i64) v319 ||| BitVec.ofInt (IntKind.bits IntKind.i64) (w64 ((1 : Int) * (2 : Int) ^ min (Int.toNat (api_Job.Machine (Arr.f v322 (Int.toNat v324)))) (IntKind.bits IntKind.i64))))) : Int)) (w64 (v320 + (1 : Int))) true v322 v323 (w64 (v324 + (1 : Int)))
        else
         bif decide (api_Job.Machine (Arr.f v322 (Int.toNat v324)) < (0 : Int)) then
          Option.none
         else
          bif decide (api_Job.Machine (Arr.f v322 (Int.toNat v324)) < (0 : Int)) then
           Option.none
          else
           rc v317 v318 (w64 (↑(BitVec.toNat (BitVec.ofInt (IntKind.bits IntKind.i64) v319 ||| BitVec.ofInt (IntKind.bits IntKind.i64) (w64 ((1 : Int) * (2 : Int) ^ min (Int.toNat (api_Job.Machine (Arr.f v322 (Int.toNat v324)))) (IntKind.bits IntKind.i64))))) : Int)) (w64 (v320 + (1 : Int))) (w64 (↑(BitVec.toNat (BitVec.ofInt (IntKind.bits IntKind.i64) (Int.fdiv v319 ((2 : Int) ^ min (Int.toNat (api_Job.Machine (Arr.f v322 (Int.toNat v324)))) (IntKind.bits IntKind.i64))) &&& BitVec.ofInt (IntKind.bits IntKind.i64) (1 : Int))) : Int) == (1 : Int)) v322 v323 (w64 (v324 + (1 : Int)))
       else
        rc v317 v318 v319 v320 v321 v322 v323 (w64 (v324 + (1 : Int)))
      else
       Option.none
     else
      rc v317 v318 v319 v320 v321 v322 v323 (w64 (v324 + (1 : Int)))
    else
     Option.none
   else
    Option.none
  else
   k0 v319 v320 v321
def shaft_night_l2 {R : Type} (N : Nat) : Nat → Arr Int → Int → Int → Int → Bool → Arr api_Job → Int → Int → (Int → Int → Bool → Option R) → Option R
  | 0, _, _, _, _, _, _, _, _, _ => Option.none
  | n + 1, v317, v318, v319, v320, v321, v322, v323, v324, k0 => shaft_night_b2 N (fun v317 v318 v319 v320 v321 v322 v323 v324 => shaft_night_l2 N n v317 v318 v319 v320 v321 v322 v323 v324 k0) v317 v318 v319 v320 v321 v322 v323 v324 k0


def shaft_night_m {R : Type} (N : Nat) (a314 : api_Works) (a315 : Arr Int) (a316 : Int) (k : Int → Int → Bool → Option R) : Option R :=
  shaft_night_l2 N N a315 a316 (0 : Int) (0 : Int) false (api_Works.Jobs a314) ((↑(Arr.n (api_Works.Jobs a314)) : Int)) (0 : Int) (fun r325 r326 r327 =>
   k r325 r326 r327)
noncomputable def shaft_night {R : Type} : Nat → api_Works → Arr Int → Int → (Int → Int → Bool → Option R) → Option R := lock (@shaft_night_m R)
theorem shaft_night_def {R : Type} (N : Nat) (a314 : api_Works) (a315 : Arr Int) (a316 : Int) (k : Int → Int → Bool → Option R) : shaft_night N a314 a315 a316 k = shaft_night_m N a314 a315 a316 k := by unfold shaft_night; rw [lock_eq]
def shaft_night_sp : Sp := ⟨[rAgg api_WorksC, rSl intC, rInt .i64], []⟩
theorem shaft_night_sp_ok : shaft_night_sp.Ok := ⟨(allCons (rAgg_ok api_WorksC_ok api_WorksC_len) (allCons (rSl_ok intC_ok) (allCons (rInt_ok .i64) allNil))), eNil⟩
def shaft_night_rs : Sp := ⟨[rTup [rInt .i64, rInt .i64, rBool]], []⟩
theorem shaft_night_rs_ok : shaft_night_rs.Ok := ⟨(allCons (rTup_ok (allCons (rInt_ok .i64) (allCons (rInt_ok .i64) (allCons rBool_ok allNil)))) allNil), eNil⟩
def shaft_night_run {R : Type} (N : Nat) (args : List SV) (T : Tab) (kf : SV × Tab → Option R) : Option R :=
  shaft_night_m N (Cod.dec api_WorksC (lget (toCs (lget args 0)))) (lstC intC (lget args 1)) (toI (lget args 2)) (fun q0 q1 q2 => kf (lget [.tup [.int .i64 q0, .int .i64 q1, .bool q2]] 0, []))
def shaft_night_d2 {R : Type} (N : Nat) (S0 : St) (k : Exit → St → Option R) : Option R :=
  shaft_night_l2 N N (lstC intC (lget S0.tmps 1)) (toI (lget S0.tmps 2)) (toI (lget S0.tmps 6)) (toI (lget S0.tmps 7)) (toB (lget S0.tmps 8)) (lstC api_JobC (lget S0.tmps 12)) (toI (lget S0.tmps 13)) (toI (lget S0.tmps 14)) (fun q0 q1 q2 => k (.exit 0) (shaft_night_x2_0 q0 q1 q2))
def shaft_night_lp {R : Type} (N : Nat) : Lp R := fun body S k => bif (Go.Sx.keyOf body).getD 0 == 2 then (shaft_night_L2.head.raw 0 S (fun S0 => shaft_night_d2 N S0 k)) else Option.none
theorem shaft_night_l2_eq {R : Type} (N : Nat) (k : Exit → St → Option R) (n : Nat) : ∀ (v0 : Arr Int) (v1 : Int) (v2 : Int) (v3 : Int) (v4 : Bool) (v5 : Arr api_Job) (v6 : Int) (v7 : Int), loopM E.Θ (slices_ContainsFunc___int_int__v2_cal N) (shaft_night_lp N) (noJn) 0 shaft_night_L2 (bodyAt E 65 2) n (shaft_night_h2 v0 v1 v2 v3 v4 v5 v6 v7) k = shaft_night_l2 N n v0 v1 v2 v3 v4 v5 v6 v7 (fun q0 q1 q2 => k (.exit 0) (shaft_night_x2_0 q0 q1 q2)) := by
  induction n with
  | zero => intro v0 v1 v2 v3 v4 v5 v6 v7; rfl
  | succ n ih =>
    intro v0 v1 v2 v3 v4 v5 v6 v7
    refine Eq.trans (b := shaft_night_b2 N (fun v0 v1 v2 v3 v4 v5 v6 v7 => loopM E.Θ (slices_ContainsFunc___int_int__v2_cal N) (shaft_night_lp N) (noJn) 0 shaft_night_L2 (bodyAt E 65 2) n (shaft_night_h2 v0 v1 v2 v3 v4 v5 v6 v7) k) v0 v1 v2 v3 v4 v5 v6 v7 (fun q0 q1 q2 => k (.exit 0) (shaft_night_x2_0 q0 q1 q2))) (by kernel_rfl) ?_
    have h : (fun (v0 : Arr Int) (v1 : Int) (v2 : Int) (v3 : Int) (v4 : Bool) (v5 : Arr api_Job) (v6 : Int) (v7 : Int) => loopM E.Θ (slices_ContainsFunc___int_int__v2_cal N) (shaft_night_lp N) (noJn) 0 shaft_night_L2 (bodyAt E 65 2) n (shaft_night_h2 v0 v1 v2 v3 v4 v5 v6 v7) k) = (fun (v0 : Arr Int) (v1 : Int) (v2 : Int) (v3 : Int) (v4 : Bool) (v5 : Arr api_Job) (v6 : Int) (v7 : Int) => shaft_night_l2 N n v0 v1 v2 v3 v4 v5 v6 v7 (fun q0 q1 q2 => k (.exit 0) (shaft_night_x2_0 q0 q1 q2))) := funext fun v0 => funext fun v1 => funext fun v2 => funext fun v3 => funext fun v4 => funext fun v5 => funext fun v6 => funext fun v7 => ih v0 v1 v2 v3 v4 v5 v6 v7
    rw [h]
    rfl
theorem shaft_night_k2 {R : Type} (N : Nat) : LpKey (R := R) E 65 0 (shaft_night_lp N) 2 :=
  lpKey_of hE (slices_ContainsFunc___int_int__v2_cal_ok N) (lp := shaft_night_lp N) (jn := noJn) shaft_night_L2_ok [] kNil (by kernel_rfl) [] jNil (by kernel_rfl) N fun S k =>
    Eq.trans (b := shaft_night_L2.head.raw 0 S (fun S0 => shaft_night_d2 N S0 k)) (by kernel_rfl) (congrArg (shaft_night_L2.head.raw 0 S) (funext fun S0 => Eq.trans (shaft_night_l2_eq N k N (lstC intC (lget S0.tmps 1)) (toI (lget S0.tmps 2)) (toI (lget S0.tmps 6)) (toI (lget S0.tmps 7)) (toB (lget S0.tmps 8)) (lstC api_JobC (lget S0.tmps 12)) (toI (lget S0.tmps 13)) (toI (lget S0.tmps 14))).symm (by kernel_rfl)))
noncomputable def shaft_night_go {R : Type} (N : Nat) (args : List SV) (T : Tab) (kf : SV × Tab → Option R) : Option R :=
  shaft_night N (Cod.dec api_WorksC (lget (toCs (lget args 0)))) (lstC intC (lget args 1)) (toI (lget args 2)) (fun q0 q1 q2 => kf (lget [.tup [.int .i64 q0, .int .i64 q1, .bool q2]] 0, []))
noncomputable def shaft_night_cal {R : Type} (N : Nat) : Cal R := callM (slices_ContainsFunc___int_int__v2_cal N) 65 0 shaft_night_sp (shaft_night_go N)
theorem shaft_night_cal_ok {R : Type} (N : Nat) : CalOk E.P (shaft_night_cal (R := R) N) :=
  callM_ok hE (slices_ContainsFunc___int_int__v2_cal_ok N) (lp := shaft_night_lp N) (jn := noJn) (keys := [2]) (kCons (shaft_night_k2 N) kNil) (by kernel_rfl) (js := []) jNil (by kernel_rfl) shaft_night_sp_ok shaft_night_rs_ok (fun args T kf => Eq.trans (shaft_night_def N (Cod.dec api_WorksC (lget (toCs (lget args 0)))) (lstC intC (lget args 1)) (toI (lget args 2)) (fun q0 q1 q2 => kf (lget [.tup [.int .i64 q0, .int .i64 q1, .bool q2]] 0, []))) (by kernel_rfl : shaft_night_run N args T kf = fnM E (slices_ContainsFunc___int_int__v2_cal N) (shaft_night_lp N) (noJn) 65 (shaft_night_sp.vs args) (shaft_night_sp.tab T) 0 (resK shaft_night_rs kf)))


def shaft_Out_m {R : Type} (N : Nat) (a240 : api_Works) (a241 : Arr Int) (a242 : Int) (k : Int → Int → Option R) : Option R :=
  shaft_checkPlan N a240 a241 (fun r303 =>
  bif r303 != (0 : Int) then
   k (0 : Int) r303
  else
   bif decide (a242 < (0 : Int)) then
    k (0 : Int) (1 : Int)
   else
    bif decide (a242 ≥ api_Works.Until a240) then
     k (0 : Int) (1 : Int)
    else
     slices_ContainsFunc___int_int__v2 N a241 (fun r313 =>
     bif r313 then
      k (0 : Int) (1 : Int)
     else
      shaft_night N a240 a241 a242 (fun r328 r329 r330 =>
      k r328 (0 : Int))))
noncomputable def shaft_Out {R : Type} : Nat → api_Works → Arr Int → Int → (Int → Int → Option R) → Option R := lock (@shaft_Out_m R)
theorem shaft_Out_def {R : Type} (N : Nat) (a240 : api_Works) (a241 : Arr Int) (a242 : Int) (k : Int → Int → Option R) : shaft_Out N a240 a241 a242 k = shaft_Out_m N a240 a241 a242 k := by unfold shaft_Out; rw [lock_eq]
def shaft_Out_sp : Sp := ⟨[rAgg api_WorksC, rSl intC, rInt .i64], []⟩
theorem shaft_Out_sp_ok : shaft_Out_sp.Ok := ⟨(allCons (rAgg_ok api_WorksC_ok api_WorksC_len) (allCons (rSl_ok intC_ok) (allCons (rInt_ok .i64) allNil))), eNil⟩
def shaft_Out_rs : Sp := ⟨[rTup [rInt .i64, rInt .i64]], []⟩
theorem shaft_Out_rs_ok : shaft_Out_rs.Ok := ⟨(allCons (rTup_ok (allCons (rInt_ok .i64) (allCons (rInt_ok .i64) allNil))) allNil), eNil⟩
def shaft_Out_run {R : Type} (N : Nat) (args : List SV) (T : Tab) (kf : SV × Tab → Option R) : Option R :=
  shaft_Out_m N (Cod.dec api_WorksC (lget (toCs (lget args 0)))) (lstC intC (lget args 1)) (toI (lget args 2)) (fun q0 q1 => kf (lget [.tup [.int .i64 q0, .int .i64 q1]] 0, []))
def shaft_Out_lp {R : Type} (N : Nat) : Lp R := fun body S k => Option.none
noncomputable def shaft_Out_go {R : Type} (N : Nat) (args : List SV) (T : Tab) (kf : SV × Tab → Option R) : Option R :=
  shaft_Out N (Cod.dec api_WorksC (lget (toCs (lget args 0)))) (lstC intC (lget args 1)) (toI (lget args 2)) (fun q0 q1 => kf (lget [.tup [.int .i64 q0, .int .i64 q1]] 0, []))
noncomputable def shaft_Out_cal {R : Type} (N : Nat) : Cal R := callM (shaft_night_cal N) 24 0 shaft_Out_sp (shaft_Out_go N)
theorem shaft_Out_cal_ok {R : Type} (N : Nat) : CalOk E.P (shaft_Out_cal (R := R) N) :=
  callM_ok hE (shaft_night_cal_ok N) (lp := shaft_Out_lp N) (jn := noJn) (keys := []) kNil (by kernel_rfl) (js := []) jNil (by kernel_rfl) shaft_Out_sp_ok shaft_Out_rs_ok (fun args T kf => Eq.trans (shaft_Out_def N (Cod.dec api_WorksC (lget (toCs (lget args 0)))) (lstC intC (lget args 1)) (toI (lget args 2)) (fun q0 q1 => kf (lget [.tup [.int .i64 q0, .int .i64 q1]] 0, []))) (by kernel_rfl : shaft_Out_run N args T kf = fnM E (shaft_night_cal N) (shaft_Out_lp N) (noJn) 24 (shaft_Out_sp.vs args) (shaft_Out_sp.tab T) 0 (resK shaft_Out_rs kf)))


def ways_level_joined_m {R : Type} (N : Nat) (a337 : ways_level) (a338 : Int) (a339 : Int) (k : Bool → Option R) : Option R :=
  ways_level_far N a337 a339 (fun r340 r341 =>
  bif decide ((0 : Int) ≤ a338) && decide (a338 < (↑(Arr.n r341) : Int)) then
   k (decide (Arr.f r341 (Int.toNat a338) ≥ (0 : Int)))
  else
   Option.none)
noncomputable def ways_level_joined {R : Type} : Nat → ways_level → Int → Int → (Bool → Option R) → Option R := lock (@ways_level_joined_m R)
theorem ways_level_joined_def {R : Type} (N : Nat) (a337 : ways_level) (a338 : Int) (a339 : Int) (k : Bool → Option R) : ways_level_joined N a337 a338 a339 k = ways_level_joined_m N a337 a338 a339 k := by unfold ways_level_joined; rw [lock_eq]
def ways_level_joined_sp : Sp := ⟨[rAgg ways_levelC, rInt .i64, rInt .i64], []⟩
theorem ways_level_joined_sp_ok : ways_level_joined_sp.Ok := ⟨(allCons (rAgg_ok ways_levelC_ok ways_levelC_len) (allCons (rInt_ok .i64) (allCons (rInt_ok .i64) allNil))), eNil⟩
def ways_level_joined_rs : Sp := ⟨[rBool], []⟩
theorem ways_level_joined_rs_ok : ways_level_joined_rs.Ok := ⟨(allCons rBool_ok allNil), eNil⟩
def ways_level_joined_run {R : Type} (N : Nat) (args : List SV) (T : Tab) (kf : SV × Tab → Option R) : Option R :=
  ways_level_joined_m N (Cod.dec ways_levelC (lget (toCs (lget args 0)))) (toI (lget args 1)) (toI (lget args 2)) (fun q0 => kf (lget [.bool q0] 0, []))
def ways_level_joined_lp {R : Type} (N : Nat) : Lp R := fun body S k => Option.none
noncomputable def ways_level_joined_go {R : Type} (N : Nat) (args : List SV) (T : Tab) (kf : SV × Tab → Option R) : Option R :=
  ways_level_joined N (Cod.dec ways_levelC (lget (toCs (lget args 0)))) (toI (lget args 1)) (toI (lget args 2)) (fun q0 => kf (lget [.bool q0] 0, []))
noncomputable def ways_level_joined_cal {R : Type} (N : Nat) : Cal R := callM (shaft_Out_cal N) 66 0 ways_level_joined_sp (ways_level_joined_go N)
theorem ways_level_joined_cal_ok {R : Type} (N : Nat) : CalOk E.P (ways_level_joined_cal (R := R) N) :=
  callM_ok hE (shaft_Out_cal_ok N) (lp := ways_level_joined_lp N) (jn := noJn) (keys := []) kNil (by kernel_rfl) (js := []) jNil (by kernel_rfl) ways_level_joined_sp_ok ways_level_joined_rs_ok (fun args T kf => Eq.trans (ways_level_joined_def N (Cod.dec ways_levelC (lget (toCs (lget args 0)))) (toI (lget args 1)) (toI (lget args 2)) (fun q0 => kf (lget [.bool q0] 0, []))) (by kernel_rfl : ways_level_joined_run N args T kf = fnM E (shaft_Out_cal N) (ways_level_joined_lp N) (noJn) 66 (ways_level_joined_sp.vs args) (ways_level_joined_sp.tab T) 0 (resK ways_level_joined_rs kf)))

def ways_Needed_L8 : LoopSp := ⟨⟨[1, 2, 3, 4, 5, 13, 32], ⟨(dr 1 ((rInt .i64) :: (rBool) :: (rInt .i64) :: (rInt .i64) :: (rPtr 0 0) :: (dr 7 ((rRow 1) :: (dr 18 ((rInt .i64) :: (dr 26 []))))))), [(0, eBlkC api_StationC), (1, eRow intC)]⟩, 2⟩, [(some 0, ⟨[13], ⟨(dr 13 ((rRow 0) :: (dr 45 []))), [(0, eRow intC)]⟩, 1⟩)]⟩
theorem ways_Needed_L8_ok : ways_Needed_L8.Ok := ⟨⟨(drCons 1 (allCons (rInt_ok .i64) (allCons rBool_ok (allCons (rInt_ok .i64) (allCons (rInt_ok .i64) (allCons (rPtr_ok 0 0) (drCons 7 (allCons (rRow_ok 1) (drCons 18 (allCons (rInt_ok .i64) (drCons 26 allNil))))))))))), (eCons (eBlkC_ok api_StationC_ok api_StationC_len) (eCons (eRow_ok intC_ok) eNil))⟩, (xCons ⟨(drCons 13 (allCons (rRow_ok 0) (drCons 45 allNil))), (eCons (eRow_ok intC_ok) eNil)⟩ xNil)⟩
def ways_Needed_h8 (v343 : Int) (v344 : Bool) (v345 : Int) (v346 : Int) (v347 : Int) (v348 : api_Station) (v349 : Bool) (v350 : Arr Int) : St := ⟨(un 1 ((.int .i64 v343) :: (.bool v344) :: (.int .i64 v345) :: (.int .i64 v346) :: (.ptr 0 0) :: (un 7 ((.row 1) :: (un 18 ((.int .i64 v347) :: (un 26 []))))))), [(0, .blk (Cod.enc api_StationC v348)), (1, rowE intC v349 v350)], 2⟩
def ways_Needed_x8_0 (q0 : Bool) (q1 : Arr Int) : St := ⟨(un 13 ((.row 0) :: (un 45 []))), [(0, rowE intC q0 q1)], 1⟩
def ways_Needed_b8 {R : Type} (N : Nat) (rc : Int → Bool → Int → Int → Int → api_Station → Bool → Arr Int → Option R) (v343 : Int) (v344 : Bool) (v345 : Int) (v346 : Int) (v347 : Int) (v348 : api_Station) (v349 : Bool) (v350 : Arr Int) (k0 : Bool → Arr Int → Option R) : Option R :=
  bif decide (v347 < (12 : Int)) then
   bif decide (v347 < (0 : Int)) then
    Option.none
   else
    bif w64 (↑(BitVec.toNat (BitVec.ofInt (IntKind.bits IntKind.i64) (Int.fdiv v343 ((2 : Int) ^ min (Int.toNat v347) (IntKind.bits IntKind.i64))) &&& BitVec.ofInt (IntKind.bits IntKind.i64) (1 : Int))) : Int) == (0 : Int) then
     bif decide (v347 < (0 : Int)) then
      Option.none
     else
      ways_level_joined N (ways_level.mk v348 (w64 (↑(BitVec.toNat (BitVec.ofInt (IntKind.bits IntKind.i64) v343 ||| BitVec.ofInt (IntKind.bits IntKind.i64) (w64 ((1 : Int) * (2 : Int) ^ min (Int.toNat v347) (IntKind.bits IntKind.i64))))) : Int)) v344) v345 v346 (fun r351 =>
      bif !r351 then
       bif room (Arr.n v350 + (1 : Nat)) then
        rc v343 v344 v345 v346 (w64 (v347 + (1 : Int))) v348 false (lst intC (Arr.n v350 + (1 : Nat)) (catC (Arr.n v350) (Cod.cell intC (Arr.f v350)) (litC [SV.int IntKind.i64 (0 : Int)] [[SV.int IntKind.i64 v347]])))
       else
        Option.none
      else
       rc v343 v344 v345 v346 (w64 (v347 + (1 : Int))) v348 v349 v350)
    else
     rc v343 v344 v345 v346 (w64 (v347 + (1 : Int))) v348 v349 v350
  else
   k0 v349 v350
def ways_Needed_l8 {R : Type} (N : Nat) : Nat → Int → Bool → Int → Int → Int → api_Station → Bool → Arr Int → (Bool → Arr Int → Option R) → Option R
  | 0, _, _, _, _, _, _, _, _, _ => Option.none
  | n + 1, v343, v344, v345, v346, v347, v348, v349, v350, k0 => ways_Needed_b8 N (fun v343 v344 v345 v346 v347 v348 v349 v350 => ways_Needed_l8 N n v343 v344 v345 v346 v347 v348 v349 v350 k0) v343 v344 v345 v346 v347 v348 v349 v350 k0


def ways_Needed_m {R : Type} (N : Nat) (a331 : api_Station) (a332 : Int) (a333 : Bool) (a334 : Int) (a335 : Int) (k : Int → Bool → Arr Int → Option R) : Option R :=
  ways_asked N a331 a332 (lst intC (2 : Nat) (litC [SV.int IntKind.i64 (0 : Int)] [[SV.int IntKind.i64 a334], [SV.int IntKind.i64 a335]])) (fun r336 =>
  bif r336 != (0 : Int) then
   k r336 true (lst intC (0 : Nat) (zeroC [SV.int IntKind.i64 (0 : Int)]))
  else
   ways_level_joined N (ways_level.mk a331 a332 a333) a334 a335 (fun r342 =>
   bif !r342 then
    k (3 : Int) true (lst intC (0 : Nat) (zeroC [SV.int IntKind.i64 (0 : Int)]))
   else
    ways_Needed_l8 N N a332 a333 a334 a335 (0 : Int) a331 true (lst intC (0 : Nat) (zeroC [SV.int IntKind.i64 (0 : Int)])) (fun r352 r353 =>
     k (0 : Int) r352 r353)))
noncomputable def ways_Needed {R : Type} : Nat → api_Station → Int → Bool → Int → Int → (Int → Bool → Arr Int → Option R) → Option R := lock (@ways_Needed_m R)
theorem ways_Needed_def {R : Type} (N : Nat) (a331 : api_Station) (a332 : Int) (a333 : Bool) (a334 : Int) (a335 : Int) (k : Int → Bool → Arr Int → Option R) : ways_Needed N a331 a332 a333 a334 a335 k = ways_Needed_m N a331 a332 a333 a334 a335 k := by unfold ways_Needed; rw [lock_eq]
def ways_Needed_sp : Sp := ⟨[rAgg api_StationC, rInt .i64, rBool, rInt .i64, rInt .i64], []⟩
theorem ways_Needed_sp_ok : ways_Needed_sp.Ok := ⟨(allCons (rAgg_ok api_StationC_ok api_StationC_len) (allCons (rInt_ok .i64) (allCons rBool_ok (allCons (rInt_ok .i64) (allCons (rInt_ok .i64) allNil))))), eNil⟩
def ways_Needed_rs : Sp := ⟨[rTup [rRow 0, rInt .i64]], [(0, eRow intC)]⟩
theorem ways_Needed_rs_ok : ways_Needed_rs.Ok := ⟨(allCons (rTup_ok (allCons (rRow_ok 0) (allCons (rInt_ok .i64) allNil))) allNil), (eCons (eRow_ok intC_ok) eNil)⟩
def ways_Needed_run {R : Type} (N : Nat) (args : List SV) (T : Tab) (kf : SV × Tab → Option R) : Option R :=
  ways_Needed_m N (Cod.dec api_StationC (lget (toCs (lget args 0)))) (toI (lget args 1)) (toB (lget args 2)) (toI (lget args 3)) (toI (lget args 4)) (fun q0 q1 q2 => kf (lget [.tup [.row 0, .int .i64 q0]] 0, [(0, rowE intC q1 q2)]))
def ways_Needed_d8 {R : Type} (N : Nat) (S0 : St) (k : Exit → St → Option R) : Option R :=
  ways_Needed_l8 N N (toI (lget S0.tmps 1)) (toB (lget S0.tmps 2)) (toI (lget S0.tmps 3)) (toI (lget S0.tmps 4)) (toI (lget S0.tmps 32)) (Cod.dec api_StationC (lget (entCs (entAt S0.tab 0)))) (entNl (entAt S0.tab 1)) (lst intC (entN (entAt S0.tab 1)) (entC (entAt S0.tab 1))) (fun q0 q1 => k (.exit 0) (ways_Needed_x8_0 q0 q1))
def ways_Needed_lp {R : Type} (N : Nat) : Lp R := fun body S k => bif (Go.Sx.keyOf body).getD 0 == 8 then (ways_Needed_L8.head.raw 0 S (fun S0 => ways_Needed_d8 N S0 k)) else Option.none
theorem ways_Needed_l8_eq {R : Type} (N : Nat) (k : Exit → St → Option R) (n : Nat) : ∀ (v0 : Int) (v1 : Bool) (v2 : Int) (v3 : Int) (v4 : Int) (v5 : api_Station) (v6 : Bool) (v7 : Arr Int), loopM E.Θ (ways_level_joined_cal N) (ways_Needed_lp N) (noJn) 0 ways_Needed_L8 (bodyAt E 25 8) n (ways_Needed_h8 v0 v1 v2 v3 v4 v5 v6 v7) k = ways_Needed_l8 N n v0 v1 v2 v3 v4 v5 v6 v7 (fun q0 q1 => k (.exit 0) (ways_Needed_x8_0 q0 q1)) := by
  induction n with
  | zero => intro v0 v1 v2 v3 v4 v5 v6 v7; rfl
  | succ n ih =>
    intro v0 v1 v2 v3 v4 v5 v6 v7
    refine Eq.trans (b := ways_Needed_b8 N (fun v0 v1 v2 v3 v4 v5 v6 v7 => loopM E.Θ (ways_level_joined_cal N) (ways_Needed_lp N) (noJn) 0 ways_Needed_L8 (bodyAt E 25 8) n (ways_Needed_h8 v0 v1 v2 v3 v4 v5 v6 v7) k) v0 v1 v2 v3 v4 v5 v6 v7 (fun q0 q1 => k (.exit 0) (ways_Needed_x8_0 q0 q1))) (by kernel_rfl) ?_
    have h : (fun (v0 : Int) (v1 : Bool) (v2 : Int) (v3 : Int) (v4 : Int) (v5 : api_Station) (v6 : Bool) (v7 : Arr Int) => loopM E.Θ (ways_level_joined_cal N) (ways_Needed_lp N) (noJn) 0 ways_Needed_L8 (bodyAt E 25 8) n (ways_Needed_h8 v0 v1 v2 v3 v4 v5 v6 v7) k) = (fun (v0 : Int) (v1 : Bool) (v2 : Int) (v3 : Int) (v4 : Int) (v5 : api_Station) (v6 : Bool) (v7 : Arr Int) => ways_Needed_l8 N n v0 v1 v2 v3 v4 v5 v6 v7 (fun q0 q1 => k (.exit 0) (ways_Needed_x8_0 q0 q1))) := funext fun v0 => funext fun v1 => funext fun v2 => funext fun v3 => funext fun v4 => funext fun v5 => funext fun v6 => funext fun v7 => ih v0 v1 v2 v3 v4 v5 v6 v7
    rw [h]
    rfl
theorem ways_Needed_k8 {R : Type} (N : Nat) : LpKey (R := R) E 25 0 (ways_Needed_lp N) 8 :=
  lpKey_of hE (ways_level_joined_cal_ok N) (lp := ways_Needed_lp N) (jn := noJn) ways_Needed_L8_ok [] kNil (by kernel_rfl) [] jNil (by kernel_rfl) N fun S k =>
    Eq.trans (b := ways_Needed_L8.head.raw 0 S (fun S0 => ways_Needed_d8 N S0 k)) (by kernel_rfl) (congrArg (ways_Needed_L8.head.raw 0 S) (funext fun S0 => Eq.trans (ways_Needed_l8_eq N k N (toI (lget S0.tmps 1)) (toB (lget S0.tmps 2)) (toI (lget S0.tmps 3)) (toI (lget S0.tmps 4)) (toI (lget S0.tmps 32)) (Cod.dec api_StationC (lget (entCs (entAt S0.tab 0)))) (entNl (entAt S0.tab 1)) (lst intC (entN (entAt S0.tab 1)) (entC (entAt S0.tab 1)))).symm (by kernel_rfl)))
noncomputable def ways_Needed_go {R : Type} (N : Nat) (args : List SV) (T : Tab) (kf : SV × Tab → Option R) : Option R :=
  ways_Needed N (Cod.dec api_StationC (lget (toCs (lget args 0)))) (toI (lget args 1)) (toB (lget args 2)) (toI (lget args 3)) (toI (lget args 4)) (fun q0 q1 q2 => kf (lget [.tup [.row 0, .int .i64 q0]] 0, [(0, rowE intC q1 q2)]))
noncomputable def ways_Needed_cal {R : Type} (N : Nat) : Cal R := callM (ways_level_joined_cal N) 25 0 ways_Needed_sp (ways_Needed_go N)
theorem ways_Needed_cal_ok {R : Type} (N : Nat) : CalOk E.P (ways_Needed_cal (R := R) N) :=
  callM_ok hE (ways_level_joined_cal_ok N) (lp := ways_Needed_lp N) (jn := noJn) (keys := [8]) (kCons (ways_Needed_k8 N) kNil) (by kernel_rfl) (js := []) jNil (by kernel_rfl) ways_Needed_sp_ok ways_Needed_rs_ok (fun args T kf => Eq.trans (ways_Needed_def N (Cod.dec api_StationC (lget (toCs (lget args 0)))) (toI (lget args 1)) (toB (lget args 2)) (toI (lget args 3)) (toI (lget args 4)) (fun q0 q1 q2 => kf (lget [.tup [.row 0, .int .i64 q0]] 0, [(0, rowE intC q1 q2)]))) (by kernel_rfl : ways_Needed_run N args T kf = fnM E (ways_level_joined_cal N) (ways_Needed_lp N) (noJn) 25 (ways_Needed_sp.vs args) (ways_Needed_sp.tab T) 0 (resK ways_Needed_rs kf)))



end
end Go.Proofs.Ytpillmoddoccfab
