import Derived.Test.YtckkodiefpdmhaaDoorCod
set_option maxRecDepth 100000
set_option maxHeartbeats 0
set_option linter.unusedVariables false
namespace Go.Proofs.YtckkodiefpdmhaaDoor
open Go.Sx
noncomputable section
def newelref09_within_m {R : Type} (N : Nat) (a3 : Int) (a4 : Int) (a5 : Int) (k : Bool → Option R) : Option R :=
  bif decide (a3 ≥ a4) then
   k (decide (a3 ≤ a5))
  else
   k false
noncomputable def newelref09_within {R : Type} : Nat → Int → Int → Int → (Bool → Option R) → Option R := lock (@newelref09_within_m R)
theorem newelref09_within_def {R : Type} (N : Nat) (a3 : Int) (a4 : Int) (a5 : Int) (k : Bool → Option R) : newelref09_within N a3 a4 a5 k = newelref09_within_m N a3 a4 a5 k := by unfold newelref09_within; rw [lock_eq]
def newelref09_within_sp : Sp := ⟨[rInt .i64, rInt .i64, rInt .i64], []⟩
theorem newelref09_within_sp_ok : newelref09_within_sp.Ok := ⟨(allCons (rInt_ok .i64) (allCons (rInt_ok .i64) (allCons (rInt_ok .i64) allNil))), eNil⟩
def newelref09_within_rs : Sp := ⟨[rBool], []⟩
theorem newelref09_within_rs_ok : newelref09_within_rs.Ok := ⟨(allCons rBool_ok allNil), eNil⟩
def newelref09_within_run {R : Type} (N : Nat) (args : List SV) (T : Tab) (kf : SV × Tab → Option R) : Option R :=
  newelref09_within_m N (toI (lget args 0)) (toI (lget args 1)) (toI (lget args 2)) (fun q0 => kf (lget [.bool q0] 0, []))
def newelref09_within_lp {R : Type} (N : Nat) : Lp R := fun body S k => Option.none
noncomputable def newelref09_within_go {R : Type} (N : Nat) (args : List SV) (T : Tab) (kf : SV × Tab → Option R) : Option R :=
  newelref09_within N (toI (lget args 0)) (toI (lget args 1)) (toI (lget args 2)) (fun q0 => kf (lget [.bool q0] 0, []))
noncomputable def newelref09_within_cal {R : Type} (N : Nat) : Cal R := callM (noCal E) 50 0 newelref09_within_sp (newelref09_within_go N)
theorem newelref09_within_cal_ok {R : Type} (N : Nat) : CalOk E.P (newelref09_within_cal (R := R) N) :=
  callM_ok hE (noCal_ok E) (lp := newelref09_within_lp N) (jn := noJn) (keys := []) kNil (by kernel_rfl) (js := []) jNil (by kernel_rfl) newelref09_within_sp_ok newelref09_within_rs_ok (fun args T kf => Eq.trans (newelref09_within_def N (toI (lget args 0)) (toI (lget args 1)) (toI (lget args 2)) (fun q0 => kf (lget [.bool q0] 0, []))) (by kernel_rfl : newelref09_within_run N args T kf = fnM E (noCal E) (newelref09_within_lp N) (noJn) 50 (newelref09_within_sp.vs args) (newelref09_within_sp.tab T) 0 (resK newelref09_within_rs kf)))
def newelref09_inside_L2 : LoopSp := ⟨⟨[2, 3, 5], ⟨(dr 2 ((rPtr 0 0) :: (rPtr 1 0) :: (dr 1 ((rInt .i64) :: (dr 14 []))))), [(0, eBlkC api_ShaftC), (1, eBlkC Arr3_intC)]⟩, 2⟩, [(Option.none, ⟨[4], ⟨(dr 4 ((rBool) :: (dr 15 []))), []⟩, 0⟩), (some 0, ⟨[], ⟨(dr 20 []), []⟩, 0⟩)]⟩
theorem newelref09_inside_L2_ok : newelref09_inside_L2.Ok := ⟨⟨(drCons 2 (allCons (rPtr_ok 0 0) (allCons (rPtr_ok 1 0) (drCons 1 (allCons (rInt_ok .i64) (drCons 14 allNil)))))), (eCons (eBlkC_ok api_ShaftC_ok api_ShaftC_len) (eCons (eBlkC_ok Arr3_intC_ok Arr3_intC_len) eNil))⟩, (xCons ⟨(drCons 4 (allCons rBool_ok (drCons 15 allNil))), eNil⟩ (xCons ⟨(drCons 20 allNil), eNil⟩ xNil))⟩
def newelref09_inside_h2 (v12 : Int) (v13 : api_Shaft) (v14 : Arr3_int) : St := ⟨(un 2 ((.ptr 0 0) :: (.ptr 1 0) :: (un 1 ((.int .i64 v12) :: (un 14 []))))), [(0, .blk (Cod.enc api_ShaftC v13)), (1, .blk (Cod.enc Arr3_intC v14))], 2⟩
def newelref09_inside_x2_r (q0 : Bool) : St := ⟨(un 4 ((.bool q0) :: (un 15 []))), [], 0⟩
def newelref09_inside_x2_0  : St := ⟨(un 20 []), [], 0⟩
def newelref09_inside_b2 {R : Type} (N : Nat) (rc : Int → api_Shaft → Arr3_int → Option R) (v12 : Int) (v13 : api_Shaft) (v14 : Arr3_int) (kr : Bool → Option R) (k0 : Unit → Option R) : Option R :=
  bif decide (v12 < (3 : Int)) then
   bif decide ((0 : Int) ≤ v12) && decide (v12 < (↑(3 : Nat) : Int)) then
    bif decide ((0 : Int) ≤ v12) && decide (v12 < (↑(3 : Nat) : Int)) then
     newelref09_within N (pickI v12 (0 : Nat) [Arr3_int.a0 v14, Arr3_int.a1 v14, Arr3_int.a2 v14]) (0 : Int) (w64 (pickI v12 (0 : Nat) [Arr3_int.a0 (api_Shaft.Size v13), Arr3_int.a1 (api_Shaft.Size v13), Arr3_int.a2 (api_Shaft.Size v13)] - (1 : Int))) (fun r15 =>
     bif !r15 then
      kr false
     else
      rc (w64 (v12 + (1 : Int))) v13 v14)
    else
     Option.none
   else
    Option.none
  else
   k0 ()
def newelref09_inside_l2 {R : Type} (N : Nat) : Nat → Int → api_Shaft → Arr3_int → (Bool → Option R) → (Unit → Option R) → Option R
  | 0, _, _, _, _, _ => Option.none
  | n + 1, v12, v13, v14, kr, k0 => newelref09_inside_b2 N (fun v12 v13 v14 => newelref09_inside_l2 N n v12 v13 v14 kr k0) v12 v13 v14 kr k0
def newelref09_inside_m {R : Type} (N : Nat) (a10 : api_Shaft) (a11 : Arr3_int) (k : Bool → Option R) : Option R :=
  newelref09_inside_l2 N N (0 : Int) a10 a11 (fun r16 =>
   k r16) (fun (_ : Unit) =>
   k true)
noncomputable def newelref09_inside {R : Type} : Nat → api_Shaft → Arr3_int → (Bool → Option R) → Option R := lock (@newelref09_inside_m R)
theorem newelref09_inside_def {R : Type} (N : Nat) (a10 : api_Shaft) (a11 : Arr3_int) (k : Bool → Option R) : newelref09_inside N a10 a11 k = newelref09_inside_m N a10 a11 k := by unfold newelref09_inside; rw [lock_eq]
def newelref09_inside_sp : Sp := ⟨[rAgg api_ShaftC, rAgg Arr3_intC], []⟩
theorem newelref09_inside_sp_ok : newelref09_inside_sp.Ok := ⟨(allCons (rAgg_ok api_ShaftC_ok api_ShaftC_len) (allCons (rAgg_ok Arr3_intC_ok Arr3_intC_len) allNil)), eNil⟩
def newelref09_inside_rs : Sp := ⟨[rBool], []⟩
theorem newelref09_inside_rs_ok : newelref09_inside_rs.Ok := ⟨(allCons rBool_ok allNil), eNil⟩
def newelref09_inside_run {R : Type} (N : Nat) (args : List SV) (T : Tab) (kf : SV × Tab → Option R) : Option R :=
  newelref09_inside_m N (Cod.dec api_ShaftC (lget (toCs (lget args 0)))) (Cod.dec Arr3_intC (lget (toCs (lget args 1)))) (fun q0 => kf (lget [.bool q0] 0, []))
def newelref09_inside_d2 {R : Type} (N : Nat) (S0 : St) (k : Exit → St → Option R) : Option R :=
  newelref09_inside_l2 N N (toI (lget S0.tmps 5)) (Cod.dec api_ShaftC (lget (entCs (entAt S0.tab 0)))) (Cod.dec Arr3_intC (lget (entCs (entAt S0.tab 1)))) (fun q0 => k .ret (newelref09_inside_x2_r q0)) (fun (_ : Unit) => k (.exit 0) (newelref09_inside_x2_0 ))
def newelref09_inside_lp {R : Type} (N : Nat) : Lp R := fun body S k => bif (Go.Sx.keyOf body).getD 0 == 2 then (newelref09_inside_L2.head.raw 0 S (fun S0 => newelref09_inside_d2 N S0 k)) else Option.none
theorem newelref09_inside_l2_eq {R : Type} (N : Nat) (k : Exit → St → Option R) (n : Nat) : ∀ (v0 : Int) (v1 : api_Shaft) (v2 : Arr3_int), loopM E.Θ (newelref09_within_cal N) (newelref09_inside_lp N) (noJn) 0 newelref09_inside_L2 (bodyAt E 61 2) n (newelref09_inside_h2 v0 v1 v2) k = newelref09_inside_l2 N n v0 v1 v2 (fun q0 => k .ret (newelref09_inside_x2_r q0)) (fun (_ : Unit) => k (.exit 0) (newelref09_inside_x2_0 )) := by
  induction n with
  | zero => intro v0 v1 v2; rfl
  | succ n ih =>
    intro v0 v1 v2
    refine Eq.trans (b := newelref09_inside_b2 N (fun v0 v1 v2 => loopM E.Θ (newelref09_within_cal N) (newelref09_inside_lp N) (noJn) 0 newelref09_inside_L2 (bodyAt E 61 2) n (newelref09_inside_h2 v0 v1 v2) k) v0 v1 v2 (fun q0 => k .ret (newelref09_inside_x2_r q0)) (fun (_ : Unit) => k (.exit 0) (newelref09_inside_x2_0 ))) (by kernel_rfl) ?_
    have h : (fun (v0 : Int) (v1 : api_Shaft) (v2 : Arr3_int) => loopM E.Θ (newelref09_within_cal N) (newelref09_inside_lp N) (noJn) 0 newelref09_inside_L2 (bodyAt E 61 2) n (newelref09_inside_h2 v0 v1 v2) k) = (fun (v0 : Int) (v1 : api_Shaft) (v2 : Arr3_int) => newelref09_inside_l2 N n v0 v1 v2 (fun q0 => k .ret (newelref09_inside_x2_r q0)) (fun (_ : Unit) => k (.exit 0) (newelref09_inside_x2_0 ))) := funext fun v0 => funext fun v1 => funext fun v2 => ih v0 v1 v2
    rw [h]
    rfl
theorem newelref09_inside_k2 {R : Type} (N : Nat) : LpKey (R := R) E 61 0 (newelref09_inside_lp N) 2 :=
  lpKey_of hE (newelref09_within_cal_ok N) (lp := newelref09_inside_lp N) (jn := noJn) newelref09_inside_L2_ok [] kNil (by kernel_rfl) [] jNil (by kernel_rfl) N fun S k =>
    Eq.trans (b := newelref09_inside_L2.head.raw 0 S (fun S0 => newelref09_inside_d2 N S0 k)) (by kernel_rfl) (congrArg (newelref09_inside_L2.head.raw 0 S) (funext fun S0 => Eq.trans (newelref09_inside_l2_eq N k N (toI (lget S0.tmps 5)) (Cod.dec api_ShaftC (lget (entCs (entAt S0.tab 0)))) (Cod.dec Arr3_intC (lget (entCs (entAt S0.tab 1))))).symm (by kernel_rfl)))
noncomputable def newelref09_inside_go {R : Type} (N : Nat) (args : List SV) (T : Tab) (kf : SV × Tab → Option R) : Option R :=
  newelref09_inside N (Cod.dec api_ShaftC (lget (toCs (lget args 0)))) (Cod.dec Arr3_intC (lget (toCs (lget args 1)))) (fun q0 => kf (lget [.bool q0] 0, []))
noncomputable def newelref09_inside_cal {R : Type} (N : Nat) : Cal R := callM (newelref09_within_cal N) 61 0 newelref09_inside_sp (newelref09_inside_go N)
theorem newelref09_inside_cal_ok {R : Type} (N : Nat) : CalOk E.P (newelref09_inside_cal (R := R) N) :=
  callM_ok hE (newelref09_within_cal_ok N) (lp := newelref09_inside_lp N) (jn := noJn) (keys := [2]) (kCons (newelref09_inside_k2 N) kNil) (by kernel_rfl) (js := []) jNil (by kernel_rfl) newelref09_inside_sp_ok newelref09_inside_rs_ok (fun args T kf => Eq.trans (newelref09_inside_def N (Cod.dec api_ShaftC (lget (toCs (lget args 0)))) (Cod.dec Arr3_intC (lget (toCs (lget args 1)))) (fun q0 => kf (lget [.bool q0] 0, []))) (by kernel_rfl : newelref09_inside_run N args T kf = fnM E (newelref09_within_cal N) (newelref09_inside_lp N) (noJn) 61 (newelref09_inside_sp.vs args) (newelref09_inside_sp.tab T) 0 (resK newelref09_inside_rs kf)))
def newelref09_Check_L4 : LoopSp := ⟨⟨[1, 3], ⟨(dr 1 ((rPtr 0 0) :: (dr 1 ((rInt .i64) :: (dr 30 []))))), [(0, eBlkC api_ShaftC)]⟩, 1⟩, [(Option.none, ⟨[2], ⟨(dr 2 ((rInt .i64) :: (dr 31 []))), []⟩, 0⟩), (some 0, ⟨[1], ⟨(dr 1 ((rPtr 0 0) :: (dr 32 []))), [(0, eBlkC api_ShaftC)]⟩, 1⟩)]⟩
theorem newelref09_Check_L4_ok : newelref09_Check_L4.Ok := ⟨⟨(drCons 1 (allCons (rPtr_ok 0 0) (drCons 1 (allCons (rInt_ok .i64) (drCons 30 allNil))))), (eCons (eBlkC_ok api_ShaftC_ok api_ShaftC_len) eNil)⟩, (xCons ⟨(drCons 2 (allCons (rInt_ok .i64) (drCons 31 allNil))), eNil⟩ (xCons ⟨(drCons 1 (allCons (rPtr_ok 0 0) (drCons 32 allNil))), (eCons (eBlkC_ok api_ShaftC_ok api_ShaftC_len) eNil)⟩ xNil))⟩
def newelref09_Check_h4 (v1 : Int) (v2 : api_Shaft) : St := ⟨(un 1 ((.ptr 0 0) :: (un 1 ((.int .i64 v1) :: (un 30 []))))), [(0, .blk (Cod.enc api_ShaftC v2))], 1⟩
def newelref09_Check_x4_r (q0 : Int) : St := ⟨(un 2 ((.int .i64 q0) :: (un 31 []))), [], 0⟩
def newelref09_Check_x4_0 (v2 : api_Shaft) : St := ⟨(un 1 ((.ptr 0 0) :: (un 32 []))), [(0, .blk (Cod.enc api_ShaftC v2))], 1⟩
def newelref09_Check_b4 {R : Type} (N : Nat) (rc : Int → api_Shaft → Option R) (v1 : Int) (v2 : api_Shaft) (kr : Int → Option R) (k0 : Unit → Option R) : Option R :=
  bif decide (v1 < (3 : Int)) then
   bif decide ((0 : Int) ≤ v1) && decide (v1 < (↑(3 : Nat) : Int)) then
    newelref09_within N (pickI v1 (0 : Nat) [Arr3_int.a0 (api_Shaft.Size v2), Arr3_int.a1 (api_Shaft.Size v2), Arr3_int.a2 (api_Shaft.Size v2)]) (1 : Int) (8 : Int) (fun r6 =>
    bif !r6 then
     kr (90 : Int)
    else
     rc (w64 (v1 + (1 : Int))) v2)
   else
    Option.none
  else
   k0 ()
def newelref09_Check_l4 {R : Type} (N : Nat) : Nat → Int → api_Shaft → (Int → Option R) → (Unit → Option R) → Option R
  | 0, _, _, _, _ => Option.none
  | n + 1, v1, v2, kr, k0 => newelref09_Check_b4 N (fun v1 v2 => newelref09_Check_l4 N n v1 v2 kr k0) v1 v2 kr k0
def newelref09_Check_L9 : LoopSp := ⟨⟨[1, 4], ⟨(dr 1 ((rPtr 0 0) :: (dr 2 ((rInt .i64) :: (dr 29 []))))), [(0, eBlkC api_ShaftC)]⟩, 1⟩, [(Option.none, ⟨[2], ⟨(dr 2 ((rInt .i64) :: (dr 31 []))), []⟩, 0⟩), (some 2, ⟨[], ⟨(dr 34 []), []⟩, 0⟩)]⟩
theorem newelref09_Check_L9_ok : newelref09_Check_L9.Ok := ⟨⟨(drCons 1 (allCons (rPtr_ok 0 0) (drCons 2 (allCons (rInt_ok .i64) (drCons 29 allNil))))), (eCons (eBlkC_ok api_ShaftC_ok api_ShaftC_len) eNil)⟩, (xCons ⟨(drCons 2 (allCons (rInt_ok .i64) (drCons 31 allNil))), eNil⟩ (xCons ⟨(drCons 34 allNil), eNil⟩ xNil))⟩
def newelref09_Check_h9 (v8 : Int) (v9 : api_Shaft) : St := ⟨(un 1 ((.ptr 0 0) :: (un 2 ((.int .i64 v8) :: (un 29 []))))), [(0, .blk (Cod.enc api_ShaftC v9))], 1⟩
def newelref09_Check_x9_r (q0 : Int) : St := ⟨(un 2 ((.int .i64 q0) :: (un 31 []))), [], 0⟩
def newelref09_Check_x9_2  : St := ⟨(un 34 []), [], 0⟩
def newelref09_Check_b9 {R : Type} (N : Nat) (rc : Int → api_Shaft → Option R) (v8 : Int) (v9 : api_Shaft) (kr : Int → Option R) (k2 : Unit → Option R) : Option R :=
  bif decide (v8 < (↑(Arr.n (api_Shaft.Walls v9)) : Int)) then
   bif decide ((0 : Int) ≤ v8) && decide (v8 < (↑(Arr.n (api_Shaft.Walls v9)) : Int)) then
    newelref09_inside N v9 (Arr.f (api_Shaft.Walls v9) (Int.toNat v8)) (fun r17 =>
    bif !r17 then
     kr (90 : Int)
    else
     rc (w64 (v8 + (1 : Int))) v9)
   else
    Option.none
  else
   k2 ()
def newelref09_Check_l9 {R : Type} (N : Nat) : Nat → Int → api_Shaft → (Int → Option R) → (Unit → Option R) → Option R
  | 0, _, _, _, _ => Option.none
  | n + 1, v8, v9, kr, k2 => newelref09_Check_b9 N (fun v8 v9 => newelref09_Check_l9 N n v8 v9 kr k2) v8 v9 kr k2
def newelref09_Check_m {R : Type} (N : Nat) (a0 : api_Shaft) (k : Int → Option R) : Option R :=
  bif decide ((↑(Arr.n (api_Shaft.Walls a0)) : Int) > (256 : Int)) then
   k (90 : Int)
  else
   newelref09_Check_l4 N N (0 : Int) a0 (fun r7 =>
    k r7) (fun (_ : Unit) =>
    newelref09_Check_l9 N N (0 : Int) a0 (fun r18 =>
     k r18) (fun (_ : Unit) =>
     k (0 : Int)))
noncomputable def newelref09_Check {R : Type} : Nat → api_Shaft → (Int → Option R) → Option R := lock (@newelref09_Check_m R)
theorem newelref09_Check_def {R : Type} (N : Nat) (a0 : api_Shaft) (k : Int → Option R) : newelref09_Check N a0 k = newelref09_Check_m N a0 k := by unfold newelref09_Check; rw [lock_eq]
def newelref09_Check_sp : Sp := ⟨[rAgg api_ShaftC], []⟩
theorem newelref09_Check_sp_ok : newelref09_Check_sp.Ok := ⟨(allCons (rAgg_ok api_ShaftC_ok api_ShaftC_len) allNil), eNil⟩
def newelref09_Check_rs : Sp := ⟨[rInt .i64], []⟩
theorem newelref09_Check_rs_ok : newelref09_Check_rs.Ok := ⟨(allCons (rInt_ok .i64) allNil), eNil⟩
def newelref09_Check_run {R : Type} (N : Nat) (args : List SV) (T : Tab) (kf : SV × Tab → Option R) : Option R :=
  newelref09_Check_m N (Cod.dec api_ShaftC (lget (toCs (lget args 0)))) (fun q0 => kf (lget [.int .i64 q0] 0, []))
def newelref09_Check_d9 {R : Type} (N : Nat) (S0 : St) (k : Exit → St → Option R) : Option R :=
  newelref09_Check_l9 N N (toI (lget S0.tmps 4)) (Cod.dec api_ShaftC (lget (entCs (entAt S0.tab 0)))) (fun q0 => k .ret (newelref09_Check_x9_r q0)) (fun (_ : Unit) => k (.exit 2) (newelref09_Check_x9_2 ))
def newelref09_Check_d4 {R : Type} (N : Nat) (S0 : St) (k : Exit → St → Option R) : Option R :=
  newelref09_Check_l4 N N (toI (lget S0.tmps 3)) (Cod.dec api_ShaftC (lget (entCs (entAt S0.tab 0)))) (fun q0 => k .ret (newelref09_Check_x4_r q0)) (fun (_ : Unit) => k (.exit 0) (newelref09_Check_x4_0 (Cod.dec api_ShaftC (lget (entCs (entAt S0.tab 0))))))
def newelref09_Check_lp {R : Type} (N : Nat) : Lp R := fun body S k => bif (Go.Sx.keyOf body).getD 0 == 4 then (newelref09_Check_L4.head.raw 0 S (fun S0 => newelref09_Check_d4 N S0 k)) else bif (Go.Sx.keyOf body).getD 0 == 9 then (newelref09_Check_L9.head.raw 0 S (fun S0 => newelref09_Check_d9 N S0 k)) else Option.none
theorem newelref09_Check_l4_eq {R : Type} (N : Nat) (k : Exit → St → Option R) (n : Nat) : ∀ (v0 : Int) (v1 : api_Shaft), loopM E.Θ (newelref09_inside_cal N) (newelref09_Check_lp N) (noJn) 0 newelref09_Check_L4 (bodyAt E 34 4) n (newelref09_Check_h4 v0 v1) k = newelref09_Check_l4 N n v0 v1 (fun q0 => k .ret (newelref09_Check_x4_r q0)) (fun (_ : Unit) => k (.exit 0) (newelref09_Check_x4_0 v1)) := by
  induction n with
  | zero => intro v0 v1; rfl
  | succ n ih =>
    intro v0 v1
    refine Eq.trans (b := newelref09_Check_b4 N (fun v0 v1 => loopM E.Θ (newelref09_inside_cal N) (newelref09_Check_lp N) (noJn) 0 newelref09_Check_L4 (bodyAt E 34 4) n (newelref09_Check_h4 v0 v1) k) v0 v1 (fun q0 => k .ret (newelref09_Check_x4_r q0)) (fun (_ : Unit) => k (.exit 0) (newelref09_Check_x4_0 v1))) (by kernel_rfl) ?_
    have h : (fun (v0 : Int) (v1 : api_Shaft) => loopM E.Θ (newelref09_inside_cal N) (newelref09_Check_lp N) (noJn) 0 newelref09_Check_L4 (bodyAt E 34 4) n (newelref09_Check_h4 v0 v1) k) = (fun (v0 : Int) (v1 : api_Shaft) => newelref09_Check_l4 N n v0 v1 (fun q0 => k .ret (newelref09_Check_x4_r q0)) (fun (_ : Unit) => k (.exit 0) (newelref09_Check_x4_0 v1))) := funext fun v0 => funext fun v1 => ih v0 v1
    rw [h]
    rfl
theorem newelref09_Check_l9_eq {R : Type} (N : Nat) (k : Exit → St → Option R) (n : Nat) : ∀ (v0 : Int) (v1 : api_Shaft), loopM E.Θ (newelref09_inside_cal N) (newelref09_Check_lp N) (noJn) 0 newelref09_Check_L9 (bodyAt E 34 9) n (newelref09_Check_h9 v0 v1) k = newelref09_Check_l9 N n v0 v1 (fun q0 => k .ret (newelref09_Check_x9_r q0)) (fun (_ : Unit) => k (.exit 2) (newelref09_Check_x9_2 )) := by
  induction n with
  | zero => intro v0 v1; rfl
  | succ n ih =>
    intro v0 v1
    refine Eq.trans (b := newelref09_Check_b9 N (fun v0 v1 => loopM E.Θ (newelref09_inside_cal N) (newelref09_Check_lp N) (noJn) 0 newelref09_Check_L9 (bodyAt E 34 9) n (newelref09_Check_h9 v0 v1) k) v0 v1 (fun q0 => k .ret (newelref09_Check_x9_r q0)) (fun (_ : Unit) => k (.exit 2) (newelref09_Check_x9_2 ))) (by kernel_rfl) ?_
    have h : (fun (v0 : Int) (v1 : api_Shaft) => loopM E.Θ (newelref09_inside_cal N) (newelref09_Check_lp N) (noJn) 0 newelref09_Check_L9 (bodyAt E 34 9) n (newelref09_Check_h9 v0 v1) k) = (fun (v0 : Int) (v1 : api_Shaft) => newelref09_Check_l9 N n v0 v1 (fun q0 => k .ret (newelref09_Check_x9_r q0)) (fun (_ : Unit) => k (.exit 2) (newelref09_Check_x9_2 ))) := funext fun v0 => funext fun v1 => ih v0 v1
    rw [h]
    rfl
theorem newelref09_Check_k9 {R : Type} (N : Nat) : LpKey (R := R) E 34 0 (newelref09_Check_lp N) 9 :=
  lpKey_of hE (newelref09_inside_cal_ok N) (lp := newelref09_Check_lp N) (jn := noJn) newelref09_Check_L9_ok [] kNil (by kernel_rfl) [] jNil (by kernel_rfl) N fun S k =>
    Eq.trans (b := newelref09_Check_L9.head.raw 0 S (fun S0 => newelref09_Check_d9 N S0 k)) (by kernel_rfl) (congrArg (newelref09_Check_L9.head.raw 0 S) (funext fun S0 => Eq.trans (newelref09_Check_l9_eq N k N (toI (lget S0.tmps 4)) (Cod.dec api_ShaftC (lget (entCs (entAt S0.tab 0))))).symm (by kernel_rfl)))
theorem newelref09_Check_k4 {R : Type} (N : Nat) : LpKey (R := R) E 34 0 (newelref09_Check_lp N) 4 :=
  lpKey_of hE (newelref09_inside_cal_ok N) (lp := newelref09_Check_lp N) (jn := noJn) newelref09_Check_L4_ok [] kNil (by kernel_rfl) [] jNil (by kernel_rfl) N fun S k =>
    Eq.trans (b := newelref09_Check_L4.head.raw 0 S (fun S0 => newelref09_Check_d4 N S0 k)) (by kernel_rfl) (congrArg (newelref09_Check_L4.head.raw 0 S) (funext fun S0 => Eq.trans (newelref09_Check_l4_eq N k N (toI (lget S0.tmps 3)) (Cod.dec api_ShaftC (lget (entCs (entAt S0.tab 0))))).symm (by kernel_rfl)))
noncomputable def newelref09_Check_go {R : Type} (N : Nat) (args : List SV) (T : Tab) (kf : SV × Tab → Option R) : Option R :=
  newelref09_Check N (Cod.dec api_ShaftC (lget (toCs (lget args 0)))) (fun q0 => kf (lget [.int .i64 q0] 0, []))
noncomputable def newelref09_Check_cal {R : Type} (N : Nat) : Cal R := callM (newelref09_inside_cal N) 34 0 newelref09_Check_sp (newelref09_Check_go N)
theorem newelref09_Check_cal_ok {R : Type} (N : Nat) : CalOk E.P (newelref09_Check_cal (R := R) N) :=
  callM_ok hE (newelref09_inside_cal_ok N) (lp := newelref09_Check_lp N) (jn := noJn) (keys := [4, 9]) (kCons (newelref09_Check_k4 N) (kCons (newelref09_Check_k9 N) kNil)) (by kernel_rfl) (js := []) jNil (by kernel_rfl) newelref09_Check_sp_ok newelref09_Check_rs_ok (fun args T kf => Eq.trans (newelref09_Check_def N (Cod.dec api_ShaftC (lget (toCs (lget args 0)))) (fun q0 => kf (lget [.int .i64 q0] 0, []))) (by kernel_rfl : newelref09_Check_run N args T kf = fnM E (newelref09_inside_cal N) (newelref09_Check_lp N) (noJn) 34 (newelref09_Check_sp.vs args) (newelref09_Check_sp.tab T) 0 (resK newelref09_Check_rs kf)))
def shaft_Check_L2 : LoopSp := ⟨⟨[1, 10, 11], ⟨(dr 1 ((rPtr 0 0) :: (dr 8 ((rAgg Arr3_intC) :: (rInt .i64) :: (dr 37 []))))), [(0, eBlkC api_ShaftC)]⟩, 1⟩, [(Option.none, ⟨[2], ⟨(dr 2 ((rInt .i64) :: (dr 46 []))), []⟩, 0⟩), (some 0, ⟨[1], ⟨(dr 1 ((rPtr 0 0) :: (dr 47 []))), [(0, eBlkC api_ShaftC)]⟩, 1⟩)]⟩
theorem shaft_Check_L2_ok : shaft_Check_L2.Ok := ⟨⟨(drCons 1 (allCons (rPtr_ok 0 0) (drCons 8 (allCons (rAgg_ok Arr3_intC_ok Arr3_intC_len) (allCons (rInt_ok .i64) (drCons 37 allNil)))))), (eCons (eBlkC_ok api_ShaftC_ok api_ShaftC_len) eNil)⟩, (xCons ⟨(drCons 2 (allCons (rInt_ok .i64) (drCons 46 allNil))), eNil⟩ (xCons ⟨(drCons 1 (allCons (rPtr_ok 0 0) (drCons 47 allNil))), (eCons (eBlkC_ok api_ShaftC_ok api_ShaftC_len) eNil)⟩ xNil))⟩
def shaft_Check_h2 (v20 : Arr3_int) (v21 : Int) (v22 : api_Shaft) : St := ⟨(un 1 ((.ptr 0 0) :: (un 8 ((.agg (Cod.enc Arr3_intC v20)) :: (.int .i64 v21) :: (un 37 []))))), [(0, .blk (Cod.enc api_ShaftC v22))], 1⟩
def shaft_Check_x2_r (q0 : Int) : St := ⟨(un 2 ((.int .i64 q0) :: (un 46 []))), [], 0⟩
def shaft_Check_x2_0 (v22 : api_Shaft) : St := ⟨(un 1 ((.ptr 0 0) :: (un 47 []))), [(0, .blk (Cod.enc api_ShaftC v22))], 1⟩
def shaft_Check_b2 {R : Type} (N : Nat) (rc : Arr3_int → Int → api_Shaft → Option R) (v20 : Arr3_int) (v21 : Int) (v22 : api_Shaft) (kr : Int → Option R) (k0 : Unit → Option R) : Option R :=
  bif decide (v21 < (3 : Int)) then
   bif decide ((0 : Int) ≤ v21) && decide (v21 < (↑(3 : Nat) : Int)) then
    bif decide (pickI v21 (0 : Nat) [Arr3_int.a0 v20, Arr3_int.a1 v20, Arr3_int.a2 v20] < (1 : Int)) then
     kr (90 : Int)
    else
     bif decide (pickI v21 (0 : Nat) [Arr3_int.a0 v20, Arr3_int.a1 v20, Arr3_int.a2 v20] > (8 : Int)) then
      kr (90 : Int)
     else
      rc v20 (w64 (v21 + (1 : Int))) v22
   else
    Option.none
  else
   k0 ()
def shaft_Check_l2 {R : Type} (N : Nat) : Nat → Arr3_int → Int → api_Shaft → (Int → Option R) → (Unit → Option R) → Option R
  | 0, _, _, _, _, _ => Option.none
  | n + 1, v20, v21, v22, kr, k0 => shaft_Check_b2 N (fun v20 v21 v22 => shaft_Check_l2 N n v20 v21 v22 kr k0) v20 v21 v22 kr k0
def shaft_Check_L13 : LoopSp := ⟨⟨[1, 26, 27, 28, 32, 33], ⟨(dr 1 ((rPtr 0 0) :: (dr 24 ((rSl Arr3_intC) :: (rInt .i64) :: (rInt .i64) :: (dr 3 ((rAgg Arr3_intC) :: (rInt .i64) :: (dr 15 []))))))), [(0, eBlkC api_ShaftC)]⟩, 1⟩, [(Option.none, ⟨[2], ⟨(dr 2 ((rInt .i64) :: (dr 46 []))), []⟩, 0⟩), (some 4, ⟨[1, 26, 27, 28], ⟨(dr 1 ((rPtr 0 0) :: (dr 24 ((rSl Arr3_intC) :: (rInt .i64) :: (rInt .i64) :: (dr 20 []))))), [(0, eBlkC api_ShaftC)]⟩, 1⟩)]⟩
theorem shaft_Check_L13_ok : shaft_Check_L13.Ok := ⟨⟨(drCons 1 (allCons (rPtr_ok 0 0) (drCons 24 (allCons (rSl_ok Arr3_intC_ok) (allCons (rInt_ok .i64) (allCons (rInt_ok .i64) (drCons 3 (allCons (rAgg_ok Arr3_intC_ok Arr3_intC_len) (allCons (rInt_ok .i64) (drCons 15 allNil)))))))))), (eCons (eBlkC_ok api_ShaftC_ok api_ShaftC_len) eNil)⟩, (xCons ⟨(drCons 2 (allCons (rInt_ok .i64) (drCons 46 allNil))), eNil⟩ (xCons ⟨(drCons 1 (allCons (rPtr_ok 0 0) (drCons 24 (allCons (rSl_ok Arr3_intC_ok) (allCons (rInt_ok .i64) (allCons (rInt_ok .i64) (drCons 20 allNil))))))), (eCons (eBlkC_ok api_ShaftC_ok api_ShaftC_len) eNil)⟩ xNil))⟩
def shaft_Check_h13 (v28 : Arr Arr3_int) (v29 : Int) (v30 : Int) (v31 : Arr3_int) (v32 : Int) (v33 : api_Shaft) : St := ⟨(un 1 ((.ptr 0 0) :: (un 24 ((slC Arr3_intC v28) :: (.int .i64 v29) :: (.int .i64 v30) :: (un 3 ((.agg (Cod.enc Arr3_intC v31)) :: (.int .i64 v32) :: (un 15 []))))))), [(0, .blk (Cod.enc api_ShaftC v33))], 1⟩
def shaft_Check_x13_r (q0 : Int) : St := ⟨(un 2 ((.int .i64 q0) :: (un 46 []))), [], 0⟩
def shaft_Check_x13_4 (v28 : Arr Arr3_int) (v29 : Int) (v30 : Int) (v33 : api_Shaft) : St := ⟨(un 1 ((.ptr 0 0) :: (un 24 ((slC Arr3_intC v28) :: (.int .i64 v29) :: (.int .i64 v30) :: (un 20 []))))), [(0, .blk (Cod.enc api_ShaftC v33))], 1⟩
def shaft_Check_b13 {R : Type} (N : Nat) (rc : Arr Arr3_int → Int → Int → Arr3_int → Int → api_Shaft → Option R) (v28 : Arr Arr3_int) (v29 : Int) (v30 : Int) (v31 : Arr3_int) (v32 : Int) (v33 : api_Shaft) (kr : Int → Option R) (k4 : Unit → Option R) : Option R :=
  bif decide (v32 < (3 : Int)) then
   bif decide ((0 : Int) ≤ v32) && decide (v32 < (↑(3 : Nat) : Int)) then
    bif decide (pickI v32 (0 : Nat) [Arr3_int.a0 v31, Arr3_int.a1 v31, Arr3_int.a2 v31] < (0 : Int)) then
     kr (90 : Int)
    else
     bif decide ((0 : Int) ≤ v32) && decide (v32 < (↑(3 : Nat) : Int)) then
      bif decide (pickI v32 (0 : Nat) [Arr3_int.a0 v31, Arr3_int.a1 v31, Arr3_int.a2 v31] ≥ pickI v32 (0 : Nat) [Arr3_int.a0 (api_Shaft.Size v33), Arr3_int.a1 (api_Shaft.Size v33), Arr3_int.a2 (api_Shaft.Size v33)]) then
       kr (90 : Int)
      else
       rc v28 v29 v30 v31 (w64 (v32 + (1 : Int))) v33
     else
      Option.none
   else
    Option.none
  else
   k4 ()
def shaft_Check_l13 {R : Type} (N : Nat) : Nat → Arr Arr3_int → Int → Int → Arr3_int → Int → api_Shaft → (Int → Option R) → (Unit → Option R) → Option R
  | 0, _, _, _, _, _, _, _, _ => Option.none
  | n + 1, v28, v29, v30, v31, v32, v33, kr, k4 => shaft_Check_b13 N (fun v28 v29 v30 v31 v32 v33 => shaft_Check_l13 N n v28 v29 v30 v31 v32 v33 kr k4) v28 v29 v30 v31 v32 v33 kr k4
def shaft_Check_L10 : LoopSp := ⟨⟨[1, 26, 27, 28], ⟨(dr 1 ((rPtr 0 0) :: (dr 24 ((rSl Arr3_intC) :: (rInt .i64) :: (rInt .i64) :: (dr 20 []))))), [(0, eBlkC api_ShaftC)]⟩, 1⟩, [(Option.none, ⟨[2], ⟨(dr 2 ((rInt .i64) :: (dr 46 []))), []⟩, 0⟩), (some 2, ⟨[], ⟨(dr 49 []), []⟩, 0⟩)]⟩
theorem shaft_Check_L10_ok : shaft_Check_L10.Ok := ⟨⟨(drCons 1 (allCons (rPtr_ok 0 0) (drCons 24 (allCons (rSl_ok Arr3_intC_ok) (allCons (rInt_ok .i64) (allCons (rInt_ok .i64) (drCons 20 allNil))))))), (eCons (eBlkC_ok api_ShaftC_ok api_ShaftC_len) eNil)⟩, (xCons ⟨(drCons 2 (allCons (rInt_ok .i64) (drCons 46 allNil))), eNil⟩ (xCons ⟨(drCons 49 allNil), eNil⟩ xNil))⟩
def shaft_Check_h10 (v24 : Arr Arr3_int) (v25 : Int) (v26 : Int) (v27 : api_Shaft) : St := ⟨(un 1 ((.ptr 0 0) :: (un 24 ((slC Arr3_intC v24) :: (.int .i64 v25) :: (.int .i64 v26) :: (un 20 []))))), [(0, .blk (Cod.enc api_ShaftC v27))], 1⟩
def shaft_Check_x10_r (q0 : Int) : St := ⟨(un 2 ((.int .i64 q0) :: (un 46 []))), [], 0⟩
def shaft_Check_x10_2  : St := ⟨(un 49 []), [], 0⟩
def shaft_Check_b10 {R : Type} (N : Nat) (rc : Arr Arr3_int → Int → Int → api_Shaft → Option R) (v24 : Arr Arr3_int) (v25 : Int) (v26 : Int) (v27 : api_Shaft) (kr : Int → Option R) (k2 : Unit → Option R) : Option R :=
  bif decide (v26 < v25) then
   bif decide ((0 : Int) ≤ v26) && decide (v26 < (↑(Arr.n v24) : Int)) then
    shaft_Check_l13 N N v24 v25 v26 (Arr.f v24 (Int.toNat v26)) (0 : Int) v27 (fun r34 =>
     kr r34) (fun (_ : Unit) =>
     rc v24 v25 (w64 (v26 + (1 : Int))) v27)
   else
    Option.none
  else
   k2 ()
def shaft_Check_l10 {R : Type} (N : Nat) : Nat → Arr Arr3_int → Int → Int → api_Shaft → (Int → Option R) → (Unit → Option R) → Option R
  | 0, _, _, _, _, _, _ => Option.none
  | n + 1, v24, v25, v26, v27, kr, k2 => shaft_Check_b10 N (fun v24 v25 v26 v27 => shaft_Check_l10 N n v24 v25 v26 v27 kr k2) v24 v25 v26 v27 kr k2
def shaft_Check_m {R : Type} (N : Nat) (a19 : api_Shaft) (k : Int → Option R) : Option R :=
  shaft_Check_l2 N N (api_Shaft.Size a19) (0 : Int) a19 (fun r23 =>
   k r23) (fun (_ : Unit) =>
   bif decide ((↑(Arr.n (api_Shaft.Walls a19)) : Int) > (256 : Int)) then
    k (90 : Int)
   else
    shaft_Check_l10 N N (api_Shaft.Walls a19) ((↑(Arr.n (api_Shaft.Walls a19)) : Int)) (0 : Int) a19 (fun r35 =>
     k r35) (fun (_ : Unit) =>
     k (0 : Int)))
noncomputable def shaft_Check {R : Type} : Nat → api_Shaft → (Int → Option R) → Option R := lock (@shaft_Check_m R)
theorem shaft_Check_def {R : Type} (N : Nat) (a19 : api_Shaft) (k : Int → Option R) : shaft_Check N a19 k = shaft_Check_m N a19 k := by unfold shaft_Check; rw [lock_eq]
def shaft_Check_sp : Sp := ⟨[rAgg api_ShaftC], []⟩
theorem shaft_Check_sp_ok : shaft_Check_sp.Ok := ⟨(allCons (rAgg_ok api_ShaftC_ok api_ShaftC_len) allNil), eNil⟩
def shaft_Check_rs : Sp := ⟨[rInt .i64], []⟩
theorem shaft_Check_rs_ok : shaft_Check_rs.Ok := ⟨(allCons (rInt_ok .i64) allNil), eNil⟩
def shaft_Check_run {R : Type} (N : Nat) (args : List SV) (T : Tab) (kf : SV × Tab → Option R) : Option R :=
  shaft_Check_m N (Cod.dec api_ShaftC (lget (toCs (lget args 0)))) (fun q0 => kf (lget [.int .i64 q0] 0, []))
def shaft_Check_d13 {R : Type} (N : Nat) (S0 : St) (k : Exit → St → Option R) : Option R :=
  shaft_Check_l13 N N (lstC Arr3_intC (lget S0.tmps 26)) (toI (lget S0.tmps 27)) (toI (lget S0.tmps 28)) (Cod.dec Arr3_intC (lget (toCs (lget S0.tmps 32)))) (toI (lget S0.tmps 33)) (Cod.dec api_ShaftC (lget (entCs (entAt S0.tab 0)))) (fun q0 => k .ret (shaft_Check_x13_r q0)) (fun (_ : Unit) => k (.exit 4) (shaft_Check_x13_4 (lstC Arr3_intC (lget S0.tmps 26)) (toI (lget S0.tmps 27)) (toI (lget S0.tmps 28)) (Cod.dec api_ShaftC (lget (entCs (entAt S0.tab 0))))))
def shaft_Check_d10 {R : Type} (N : Nat) (S0 : St) (k : Exit → St → Option R) : Option R :=
  shaft_Check_l10 N N (lstC Arr3_intC (lget S0.tmps 26)) (toI (lget S0.tmps 27)) (toI (lget S0.tmps 28)) (Cod.dec api_ShaftC (lget (entCs (entAt S0.tab 0)))) (fun q0 => k .ret (shaft_Check_x10_r q0)) (fun (_ : Unit) => k (.exit 2) (shaft_Check_x10_2 ))
def shaft_Check_d2 {R : Type} (N : Nat) (S0 : St) (k : Exit → St → Option R) : Option R :=
  shaft_Check_l2 N N (Cod.dec Arr3_intC (lget (toCs (lget S0.tmps 10)))) (toI (lget S0.tmps 11)) (Cod.dec api_ShaftC (lget (entCs (entAt S0.tab 0)))) (fun q0 => k .ret (shaft_Check_x2_r q0)) (fun (_ : Unit) => k (.exit 0) (shaft_Check_x2_0 (Cod.dec api_ShaftC (lget (entCs (entAt S0.tab 0))))))
def shaft_Check_lp {R : Type} (N : Nat) : Lp R := fun body S k => bif (Go.Sx.keyOf body).getD 0 == 2 then (shaft_Check_L2.head.raw 0 S (fun S0 => shaft_Check_d2 N S0 k)) else bif (Go.Sx.keyOf body).getD 0 == 10 then (shaft_Check_L10.head.raw 0 S (fun S0 => shaft_Check_d10 N S0 k)) else bif (Go.Sx.keyOf body).getD 0 == 13 then (shaft_Check_L13.head.raw 0 S (fun S0 => shaft_Check_d13 N S0 k)) else Option.none
theorem shaft_Check_l2_eq {R : Type} (N : Nat) (k : Exit → St → Option R) (n : Nat) : ∀ (v0 : Arr3_int) (v1 : Int) (v2 : api_Shaft), loopM E.Θ (newelref09_Check_cal N) (shaft_Check_lp N) (noJn) 0 shaft_Check_L2 (bodyAt E 33 2) n (shaft_Check_h2 v0 v1 v2) k = shaft_Check_l2 N n v0 v1 v2 (fun q0 => k .ret (shaft_Check_x2_r q0)) (fun (_ : Unit) => k (.exit 0) (shaft_Check_x2_0 v2)) := by
  induction n with
  | zero => intro v0 v1 v2; rfl
  | succ n ih =>
    intro v0 v1 v2
    refine Eq.trans (b := shaft_Check_b2 N (fun v0 v1 v2 => loopM E.Θ (newelref09_Check_cal N) (shaft_Check_lp N) (noJn) 0 shaft_Check_L2 (bodyAt E 33 2) n (shaft_Check_h2 v0 v1 v2) k) v0 v1 v2 (fun q0 => k .ret (shaft_Check_x2_r q0)) (fun (_ : Unit) => k (.exit 0) (shaft_Check_x2_0 v2))) (by kernel_rfl) ?_
    have h : (fun (v0 : Arr3_int) (v1 : Int) (v2 : api_Shaft) => loopM E.Θ (newelref09_Check_cal N) (shaft_Check_lp N) (noJn) 0 shaft_Check_L2 (bodyAt E 33 2) n (shaft_Check_h2 v0 v1 v2) k) = (fun (v0 : Arr3_int) (v1 : Int) (v2 : api_Shaft) => shaft_Check_l2 N n v0 v1 v2 (fun q0 => k .ret (shaft_Check_x2_r q0)) (fun (_ : Unit) => k (.exit 0) (shaft_Check_x2_0 v2))) := funext fun v0 => funext fun v1 => funext fun v2 => ih v0 v1 v2
    rw [h]
    rfl
theorem shaft_Check_l10_eq {R : Type} (N : Nat) (k : Exit → St → Option R) (n : Nat) : ∀ (v0 : Arr Arr3_int) (v1 : Int) (v2 : Int) (v3 : api_Shaft), loopM E.Θ (newelref09_Check_cal N) (shaft_Check_lp N) (noJn) 0 shaft_Check_L10 (bodyAt E 33 10) n (shaft_Check_h10 v0 v1 v2 v3) k = shaft_Check_l10 N n v0 v1 v2 v3 (fun q0 => k .ret (shaft_Check_x10_r q0)) (fun (_ : Unit) => k (.exit 2) (shaft_Check_x10_2 )) := by
  induction n with
  | zero => intro v0 v1 v2 v3; rfl
  | succ n ih =>
    intro v0 v1 v2 v3
    refine Eq.trans (b := shaft_Check_b10 N (fun v0 v1 v2 v3 => loopM E.Θ (newelref09_Check_cal N) (shaft_Check_lp N) (noJn) 0 shaft_Check_L10 (bodyAt E 33 10) n (shaft_Check_h10 v0 v1 v2 v3) k) v0 v1 v2 v3 (fun q0 => k .ret (shaft_Check_x10_r q0)) (fun (_ : Unit) => k (.exit 2) (shaft_Check_x10_2 ))) (by kernel_rfl) ?_
    have h : (fun (v0 : Arr Arr3_int) (v1 : Int) (v2 : Int) (v3 : api_Shaft) => loopM E.Θ (newelref09_Check_cal N) (shaft_Check_lp N) (noJn) 0 shaft_Check_L10 (bodyAt E 33 10) n (shaft_Check_h10 v0 v1 v2 v3) k) = (fun (v0 : Arr Arr3_int) (v1 : Int) (v2 : Int) (v3 : api_Shaft) => shaft_Check_l10 N n v0 v1 v2 v3 (fun q0 => k .ret (shaft_Check_x10_r q0)) (fun (_ : Unit) => k (.exit 2) (shaft_Check_x10_2 ))) := funext fun v0 => funext fun v1 => funext fun v2 => funext fun v3 => ih v0 v1 v2 v3
    rw [h]
    rfl
theorem shaft_Check_l13_eq {R : Type} (N : Nat) (k : Exit → St → Option R) (n : Nat) : ∀ (v0 : Arr Arr3_int) (v1 : Int) (v2 : Int) (v3 : Arr3_int) (v4 : Int) (v5 : api_Shaft), loopM E.Θ (newelref09_Check_cal N) (shaft_Check_lp N) (noJn) 0 shaft_Check_L13 (bodyAt E 33 13) n (shaft_Check_h13 v0 v1 v2 v3 v4 v5) k = shaft_Check_l13 N n v0 v1 v2 v3 v4 v5 (fun q0 => k .ret (shaft_Check_x13_r q0)) (fun (_ : Unit) => k (.exit 4) (shaft_Check_x13_4 v0 v1 v2 v5)) := by
  induction n with
  | zero => intro v0 v1 v2 v3 v4 v5; rfl
  | succ n ih =>
    intro v0 v1 v2 v3 v4 v5
    refine Eq.trans (b := shaft_Check_b13 N (fun v0 v1 v2 v3 v4 v5 => loopM E.Θ (newelref09_Check_cal N) (shaft_Check_lp N) (noJn) 0 shaft_Check_L13 (bodyAt E 33 13) n (shaft_Check_h13 v0 v1 v2 v3 v4 v5) k) v0 v1 v2 v3 v4 v5 (fun q0 => k .ret (shaft_Check_x13_r q0)) (fun (_ : Unit) => k (.exit 4) (shaft_Check_x13_4 v0 v1 v2 v5))) (by kernel_rfl) ?_
    have h : (fun (v0 : Arr Arr3_int) (v1 : Int) (v2 : Int) (v3 : Arr3_int) (v4 : Int) (v5 : api_Shaft) => loopM E.Θ (newelref09_Check_cal N) (shaft_Check_lp N) (noJn) 0 shaft_Check_L13 (bodyAt E 33 13) n (shaft_Check_h13 v0 v1 v2 v3 v4 v5) k) = (fun (v0 : Arr Arr3_int) (v1 : Int) (v2 : Int) (v3 : Arr3_int) (v4 : Int) (v5 : api_Shaft) => shaft_Check_l13 N n v0 v1 v2 v3 v4 v5 (fun q0 => k .ret (shaft_Check_x13_r q0)) (fun (_ : Unit) => k (.exit 4) (shaft_Check_x13_4 v0 v1 v2 v5))) := funext fun v0 => funext fun v1 => funext fun v2 => funext fun v3 => funext fun v4 => funext fun v5 => ih v0 v1 v2 v3 v4 v5
    rw [h]
    rfl
theorem shaft_Check_k13 {R : Type} (N : Nat) : LpKey (R := R) E 33 0 (shaft_Check_lp N) 13 :=
  lpKey_of hE (newelref09_Check_cal_ok N) (lp := shaft_Check_lp N) (jn := noJn) shaft_Check_L13_ok [] kNil (by kernel_rfl) [] jNil (by kernel_rfl) N fun S k =>
    Eq.trans (b := shaft_Check_L13.head.raw 0 S (fun S0 => shaft_Check_d13 N S0 k)) (by kernel_rfl) (congrArg (shaft_Check_L13.head.raw 0 S) (funext fun S0 => Eq.trans (shaft_Check_l13_eq N k N (lstC Arr3_intC (lget S0.tmps 26)) (toI (lget S0.tmps 27)) (toI (lget S0.tmps 28)) (Cod.dec Arr3_intC (lget (toCs (lget S0.tmps 32)))) (toI (lget S0.tmps 33)) (Cod.dec api_ShaftC (lget (entCs (entAt S0.tab 0))))).symm (by kernel_rfl)))
theorem shaft_Check_k2 {R : Type} (N : Nat) : LpKey (R := R) E 33 0 (shaft_Check_lp N) 2 :=
  lpKey_of hE (newelref09_Check_cal_ok N) (lp := shaft_Check_lp N) (jn := noJn) shaft_Check_L2_ok [] kNil (by kernel_rfl) [] jNil (by kernel_rfl) N fun S k =>
    Eq.trans (b := shaft_Check_L2.head.raw 0 S (fun S0 => shaft_Check_d2 N S0 k)) (by kernel_rfl) (congrArg (shaft_Check_L2.head.raw 0 S) (funext fun S0 => Eq.trans (shaft_Check_l2_eq N k N (Cod.dec Arr3_intC (lget (toCs (lget S0.tmps 10)))) (toI (lget S0.tmps 11)) (Cod.dec api_ShaftC (lget (entCs (entAt S0.tab 0))))).symm (by kernel_rfl)))
theorem shaft_Check_k10 {R : Type} (N : Nat) : LpKey (R := R) E 33 0 (shaft_Check_lp N) 10 :=
  lpKey_of hE (newelref09_Check_cal_ok N) (lp := shaft_Check_lp N) (jn := noJn) shaft_Check_L10_ok [13] (kCons (shaft_Check_k13 N) kNil) (by kernel_rfl) [] jNil (by kernel_rfl) N fun S k =>
    Eq.trans (b := shaft_Check_L10.head.raw 0 S (fun S0 => shaft_Check_d10 N S0 k)) (by kernel_rfl) (congrArg (shaft_Check_L10.head.raw 0 S) (funext fun S0 => Eq.trans (shaft_Check_l10_eq N k N (lstC Arr3_intC (lget S0.tmps 26)) (toI (lget S0.tmps 27)) (toI (lget S0.tmps 28)) (Cod.dec api_ShaftC (lget (entCs (entAt S0.tab 0))))).symm (by kernel_rfl)))
noncomputable def shaft_Check_go {R : Type} (N : Nat) (args : List SV) (T : Tab) (kf : SV × Tab → Option R) : Option R :=
  shaft_Check N (Cod.dec api_ShaftC (lget (toCs (lget args 0)))) (fun q0 => kf (lget [.int .i64 q0] 0, []))
noncomputable def shaft_Check_cal {R : Type} (N : Nat) : Cal R := callM (newelref09_Check_cal N) 33 0 shaft_Check_sp (shaft_Check_go N)
theorem shaft_Check_cal_ok {R : Type} (N : Nat) : CalOk E.P (shaft_Check_cal (R := R) N) :=
  callM_ok hE (newelref09_Check_cal_ok N) (lp := shaft_Check_lp N) (jn := noJn) (keys := [2, 10, 13]) (kCons (shaft_Check_k2 N) (kCons (shaft_Check_k10 N) (kCons (shaft_Check_k13 N) kNil))) (by kernel_rfl) (js := []) jNil (by kernel_rfl) shaft_Check_sp_ok shaft_Check_rs_ok (fun args T kf => Eq.trans (shaft_Check_def N (Cod.dec api_ShaftC (lget (toCs (lget args 0)))) (fun q0 => kf (lget [.int .i64 q0] 0, []))) (by kernel_rfl : shaft_Check_run N args T kf = fnM E (newelref09_Check_cal N) (shaft_Check_lp N) (noJn) 33 (shaft_Check_sp.vs args) (shaft_Check_sp.tab T) 0 (resK shaft_Check_rs kf)))
def newelref09_CheckCrate_L4 : LoopSp := ⟨⟨[3, 5], ⟨(dr 3 ((rPtr 0 0) :: (dr 1 ((rInt .i64) :: (dr 12 []))))), [(0, eBlkC Arr3_intC)]⟩, 1⟩, [(Option.none, ⟨[4], ⟨(dr 4 ((rInt .i64) :: (dr 13 []))), []⟩, 0⟩), (some 0, ⟨[], ⟨(dr 18 []), []⟩, 0⟩)]⟩
theorem newelref09_CheckCrate_L4_ok : newelref09_CheckCrate_L4.Ok := ⟨⟨(drCons 3 (allCons (rPtr_ok 0 0) (drCons 1 (allCons (rInt_ok .i64) (drCons 12 allNil))))), (eCons (eBlkC_ok Arr3_intC_ok Arr3_intC_len) eNil)⟩, (xCons ⟨(drCons 4 (allCons (rInt_ok .i64) (drCons 13 allNil))), eNil⟩ (xCons ⟨(drCons 18 allNil), eNil⟩ xNil))⟩
def newelref09_CheckCrate_h4 (v39 : Int) (v40 : Arr3_int) : St := ⟨(un 3 ((.ptr 0 0) :: (un 1 ((.int .i64 v39) :: (un 12 []))))), [(0, .blk (Cod.enc Arr3_intC v40))], 1⟩
def newelref09_CheckCrate_x4_r (q0 : Int) : St := ⟨(un 4 ((.int .i64 q0) :: (un 13 []))), [], 0⟩
def newelref09_CheckCrate_x4_0  : St := ⟨(un 18 []), [], 0⟩
def newelref09_CheckCrate_b4 {R : Type} (N : Nat) (rc : Int → Arr3_int → Option R) (v39 : Int) (v40 : Arr3_int) (kr : Int → Option R) (k0 : Unit → Option R) : Option R :=
  bif decide (v39 < (3 : Int)) then
   bif decide ((0 : Int) ≤ v39) && decide (v39 < (↑(3 : Nat) : Int)) then
    newelref09_within N (pickI v39 (0 : Nat) [Arr3_int.a0 v40, Arr3_int.a1 v40, Arr3_int.a2 v40]) (1 : Int) (8 : Int) (fun r41 =>
    bif !r41 then
     kr (91 : Int)
    else
     rc (w64 (v39 + (1 : Int))) v40)
   else
    Option.none
  else
   k0 ()
def newelref09_CheckCrate_l4 {R : Type} (N : Nat) : Nat → Int → Arr3_int → (Int → Option R) → (Unit → Option R) → Option R
  | 0, _, _, _, _ => Option.none
  | n + 1, v39, v40, kr, k0 => newelref09_CheckCrate_b4 N (fun v39 v40 => newelref09_CheckCrate_l4 N n v39 v40 kr k0) v39 v40 kr k0
def newelref09_CheckCrate_m {R : Type} (N : Nat) (a36 : api_Shaft) (a37 : Arr3_int) (k : Int → Option R) : Option R :=
  newelref09_Check N a36 (fun r38 =>
  bif r38 != (0 : Int) then
   k (90 : Int)
  else
   newelref09_CheckCrate_l4 N N (0 : Int) a37 (fun r42 =>
    k r42) (fun (_ : Unit) =>
    k (0 : Int)))
noncomputable def newelref09_CheckCrate {R : Type} : Nat → api_Shaft → Arr3_int → (Int → Option R) → Option R := lock (@newelref09_CheckCrate_m R)
theorem newelref09_CheckCrate_def {R : Type} (N : Nat) (a36 : api_Shaft) (a37 : Arr3_int) (k : Int → Option R) : newelref09_CheckCrate N a36 a37 k = newelref09_CheckCrate_m N a36 a37 k := by unfold newelref09_CheckCrate; rw [lock_eq]
def newelref09_CheckCrate_sp : Sp := ⟨[rAgg api_ShaftC, rAgg Arr3_intC], []⟩
theorem newelref09_CheckCrate_sp_ok : newelref09_CheckCrate_sp.Ok := ⟨(allCons (rAgg_ok api_ShaftC_ok api_ShaftC_len) (allCons (rAgg_ok Arr3_intC_ok Arr3_intC_len) allNil)), eNil⟩
def newelref09_CheckCrate_rs : Sp := ⟨[rInt .i64], []⟩
theorem newelref09_CheckCrate_rs_ok : newelref09_CheckCrate_rs.Ok := ⟨(allCons (rInt_ok .i64) allNil), eNil⟩
def newelref09_CheckCrate_run {R : Type} (N : Nat) (args : List SV) (T : Tab) (kf : SV × Tab → Option R) : Option R :=
  newelref09_CheckCrate_m N (Cod.dec api_ShaftC (lget (toCs (lget args 0)))) (Cod.dec Arr3_intC (lget (toCs (lget args 1)))) (fun q0 => kf (lget [.int .i64 q0] 0, []))
def newelref09_CheckCrate_d4 {R : Type} (N : Nat) (S0 : St) (k : Exit → St → Option R) : Option R :=
  newelref09_CheckCrate_l4 N N (toI (lget S0.tmps 5)) (Cod.dec Arr3_intC (lget (entCs (entAt S0.tab 0)))) (fun q0 => k .ret (newelref09_CheckCrate_x4_r q0)) (fun (_ : Unit) => k (.exit 0) (newelref09_CheckCrate_x4_0 ))
def newelref09_CheckCrate_lp {R : Type} (N : Nat) : Lp R := fun body S k => bif (Go.Sx.keyOf body).getD 0 == 4 then (newelref09_CheckCrate_L4.head.raw 0 S (fun S0 => newelref09_CheckCrate_d4 N S0 k)) else Option.none
theorem newelref09_CheckCrate_l4_eq {R : Type} (N : Nat) (k : Exit → St → Option R) (n : Nat) : ∀ (v0 : Int) (v1 : Arr3_int), loopM E.Θ (shaft_Check_cal N) (newelref09_CheckCrate_lp N) (noJn) 0 newelref09_CheckCrate_L4 (bodyAt E 24 4) n (newelref09_CheckCrate_h4 v0 v1) k = newelref09_CheckCrate_l4 N n v0 v1 (fun q0 => k .ret (newelref09_CheckCrate_x4_r q0)) (fun (_ : Unit) => k (.exit 0) (newelref09_CheckCrate_x4_0 )) := by
  induction n with
  | zero => intro v0 v1; rfl
  | succ n ih =>
    intro v0 v1
    refine Eq.trans (b := newelref09_CheckCrate_b4 N (fun v0 v1 => loopM E.Θ (shaft_Check_cal N) (newelref09_CheckCrate_lp N) (noJn) 0 newelref09_CheckCrate_L4 (bodyAt E 24 4) n (newelref09_CheckCrate_h4 v0 v1) k) v0 v1 (fun q0 => k .ret (newelref09_CheckCrate_x4_r q0)) (fun (_ : Unit) => k (.exit 0) (newelref09_CheckCrate_x4_0 ))) (by kernel_rfl) ?_
    have h : (fun (v0 : Int) (v1 : Arr3_int) => loopM E.Θ (shaft_Check_cal N) (newelref09_CheckCrate_lp N) (noJn) 0 newelref09_CheckCrate_L4 (bodyAt E 24 4) n (newelref09_CheckCrate_h4 v0 v1) k) = (fun (v0 : Int) (v1 : Arr3_int) => newelref09_CheckCrate_l4 N n v0 v1 (fun q0 => k .ret (newelref09_CheckCrate_x4_r q0)) (fun (_ : Unit) => k (.exit 0) (newelref09_CheckCrate_x4_0 ))) := funext fun v0 => funext fun v1 => ih v0 v1
    rw [h]
    rfl
theorem newelref09_CheckCrate_k4 {R : Type} (N : Nat) : LpKey (R := R) E 24 0 (newelref09_CheckCrate_lp N) 4 :=
  lpKey_of hE (shaft_Check_cal_ok N) (lp := newelref09_CheckCrate_lp N) (jn := noJn) newelref09_CheckCrate_L4_ok [] kNil (by kernel_rfl) [] jNil (by kernel_rfl) N fun S k =>
    Eq.trans (b := newelref09_CheckCrate_L4.head.raw 0 S (fun S0 => newelref09_CheckCrate_d4 N S0 k)) (by kernel_rfl) (congrArg (newelref09_CheckCrate_L4.head.raw 0 S) (funext fun S0 => Eq.trans (newelref09_CheckCrate_l4_eq N k N (toI (lget S0.tmps 5)) (Cod.dec Arr3_intC (lget (entCs (entAt S0.tab 0))))).symm (by kernel_rfl)))
noncomputable def newelref09_CheckCrate_go {R : Type} (N : Nat) (args : List SV) (T : Tab) (kf : SV × Tab → Option R) : Option R :=
  newelref09_CheckCrate N (Cod.dec api_ShaftC (lget (toCs (lget args 0)))) (Cod.dec Arr3_intC (lget (toCs (lget args 1)))) (fun q0 => kf (lget [.int .i64 q0] 0, []))
noncomputable def newelref09_CheckCrate_cal {R : Type} (N : Nat) : Cal R := callM (shaft_Check_cal N) 24 0 newelref09_CheckCrate_sp (newelref09_CheckCrate_go N)
theorem newelref09_CheckCrate_cal_ok {R : Type} (N : Nat) : CalOk E.P (newelref09_CheckCrate_cal (R := R) N) :=
  callM_ok hE (shaft_Check_cal_ok N) (lp := newelref09_CheckCrate_lp N) (jn := noJn) (keys := [4]) (kCons (newelref09_CheckCrate_k4 N) kNil) (by kernel_rfl) (js := []) jNil (by kernel_rfl) newelref09_CheckCrate_sp_ok newelref09_CheckCrate_rs_ok (fun args T kf => Eq.trans (newelref09_CheckCrate_def N (Cod.dec api_ShaftC (lget (toCs (lget args 0)))) (Cod.dec Arr3_intC (lget (toCs (lget args 1)))) (fun q0 => kf (lget [.int .i64 q0] 0, []))) (by kernel_rfl : newelref09_CheckCrate_run N args T kf = fnM E (shaft_Check_cal N) (newelref09_CheckCrate_lp N) (noJn) 24 (newelref09_CheckCrate_sp.vs args) (newelref09_CheckCrate_sp.tab T) 0 (resK newelref09_CheckCrate_rs kf)))
def shaft_check_L5 : LoopSp := ⟨⟨[13, 14], ⟨(dr 13 ((rAgg Arr3_intC) :: (rInt .i64) :: (dr 9 []))), []⟩, 0⟩, [(Option.none, ⟨[4], ⟨(dr 4 ((rInt .i64) :: (dr 19 []))), []⟩, 0⟩), (some 0, ⟨[], ⟨(dr 24 []), []⟩, 0⟩)]⟩
theorem shaft_check_L5_ok : shaft_check_L5.Ok := ⟨⟨(drCons 13 (allCons (rAgg_ok Arr3_intC_ok Arr3_intC_len) (allCons (rInt_ok .i64) (drCons 9 allNil)))), eNil⟩, (xCons ⟨(drCons 4 (allCons (rInt_ok .i64) (drCons 19 allNil))), eNil⟩ (xCons ⟨(drCons 24 allNil), eNil⟩ xNil))⟩
def shaft_check_h5 (v46 : Arr3_int) (v47 : Int) : St := ⟨(un 13 ((.agg (Cod.enc Arr3_intC v46)) :: (.int .i64 v47) :: (un 9 []))), [], 0⟩
def shaft_check_x5_r (q0 : Int) : St := ⟨(un 4 ((.int .i64 q0) :: (un 19 []))), [], 0⟩
def shaft_check_x5_0  : St := ⟨(un 24 []), [], 0⟩
def shaft_check_b5 {R : Type} (N : Nat) (rc : Arr3_int → Int → Option R) (v46 : Arr3_int) (v47 : Int) (kr : Int → Option R) (k0 : Unit → Option R) : Option R :=
  bif decide (v47 < (3 : Int)) then
   bif decide ((0 : Int) ≤ v47) && decide (v47 < (↑(3 : Nat) : Int)) then
    bif decide (pickI v47 (0 : Nat) [Arr3_int.a0 v46, Arr3_int.a1 v46, Arr3_int.a2 v46] < (1 : Int)) then
     kr (91 : Int)
    else
     bif decide (pickI v47 (0 : Nat) [Arr3_int.a0 v46, Arr3_int.a1 v46, Arr3_int.a2 v46] > (8 : Int)) then
      kr (91 : Int)
     else
      rc v46 (w64 (v47 + (1 : Int)))
   else
    Option.none
  else
   k0 ()
def shaft_check_l5 {R : Type} (N : Nat) : Nat → Arr3_int → Int → (Int → Option R) → (Unit → Option R) → Option R
  | 0, _, _, _, _ => Option.none
  | n + 1, v46, v47, kr, k0 => shaft_check_b5 N (fun v46 v47 => shaft_check_l5 N n v46 v47 kr k0) v46 v47 kr k0
def shaft_check_m {R : Type} (N : Nat) (a43 : api_Shaft) (a44 : Arr3_int) (k : Int → Option R) : Option R :=
  shaft_Check N a43 (fun r45 =>
  bif r45 != (0 : Int) then
   k r45
  else
   shaft_check_l5 N N a44 (0 : Int) (fun r48 =>
    k r48) (fun (_ : Unit) =>
    k (0 : Int)))
noncomputable def shaft_check {R : Type} : Nat → api_Shaft → Arr3_int → (Int → Option R) → Option R := lock (@shaft_check_m R)
theorem shaft_check_def {R : Type} (N : Nat) (a43 : api_Shaft) (a44 : Arr3_int) (k : Int → Option R) : shaft_check N a43 a44 k = shaft_check_m N a43 a44 k := by unfold shaft_check; rw [lock_eq]
def shaft_check_sp : Sp := ⟨[rAgg api_ShaftC, rAgg Arr3_intC], []⟩
theorem shaft_check_sp_ok : shaft_check_sp.Ok := ⟨(allCons (rAgg_ok api_ShaftC_ok api_ShaftC_len) (allCons (rAgg_ok Arr3_intC_ok Arr3_intC_len) allNil)), eNil⟩
def shaft_check_rs : Sp := ⟨[rInt .i64], []⟩
theorem shaft_check_rs_ok : shaft_check_rs.Ok := ⟨(allCons (rInt_ok .i64) allNil), eNil⟩
def shaft_check_run {R : Type} (N : Nat) (args : List SV) (T : Tab) (kf : SV × Tab → Option R) : Option R :=
  shaft_check_m N (Cod.dec api_ShaftC (lget (toCs (lget args 0)))) (Cod.dec Arr3_intC (lget (toCs (lget args 1)))) (fun q0 => kf (lget [.int .i64 q0] 0, []))
def shaft_check_d5 {R : Type} (N : Nat) (S0 : St) (k : Exit → St → Option R) : Option R :=
  shaft_check_l5 N N (Cod.dec Arr3_intC (lget (toCs (lget S0.tmps 13)))) (toI (lget S0.tmps 14)) (fun q0 => k .ret (shaft_check_x5_r q0)) (fun (_ : Unit) => k (.exit 0) (shaft_check_x5_0 ))
def shaft_check_lp {R : Type} (N : Nat) : Lp R := fun body S k => bif (Go.Sx.keyOf body).getD 0 == 5 then (shaft_check_L5.head.raw 0 S (fun S0 => shaft_check_d5 N S0 k)) else Option.none
theorem shaft_check_l5_eq {R : Type} (N : Nat) (k : Exit → St → Option R) (n : Nat) : ∀ (v0 : Arr3_int) (v1 : Int), loopM E.Θ (newelref09_CheckCrate_cal N) (shaft_check_lp N) (noJn) 0 shaft_check_L5 (bodyAt E 44 5) n (shaft_check_h5 v0 v1) k = shaft_check_l5 N n v0 v1 (fun q0 => k .ret (shaft_check_x5_r q0)) (fun (_ : Unit) => k (.exit 0) (shaft_check_x5_0 )) := by
  induction n with
  | zero => intro v0 v1; rfl
  | succ n ih =>
    intro v0 v1
    refine Eq.trans (b := shaft_check_b5 N (fun v0 v1 => loopM E.Θ (newelref09_CheckCrate_cal N) (shaft_check_lp N) (noJn) 0 shaft_check_L5 (bodyAt E 44 5) n (shaft_check_h5 v0 v1) k) v0 v1 (fun q0 => k .ret (shaft_check_x5_r q0)) (fun (_ : Unit) => k (.exit 0) (shaft_check_x5_0 ))) (by kernel_rfl) ?_
    have h : (fun (v0 : Arr3_int) (v1 : Int) => loopM E.Θ (newelref09_CheckCrate_cal N) (shaft_check_lp N) (noJn) 0 shaft_check_L5 (bodyAt E 44 5) n (shaft_check_h5 v0 v1) k) = (fun (v0 : Arr3_int) (v1 : Int) => shaft_check_l5 N n v0 v1 (fun q0 => k .ret (shaft_check_x5_r q0)) (fun (_ : Unit) => k (.exit 0) (shaft_check_x5_0 ))) := funext fun v0 => funext fun v1 => ih v0 v1
    rw [h]
    rfl
theorem shaft_check_k5 {R : Type} (N : Nat) : LpKey (R := R) E 44 0 (shaft_check_lp N) 5 :=
  lpKey_of hE (newelref09_CheckCrate_cal_ok N) (lp := shaft_check_lp N) (jn := noJn) shaft_check_L5_ok [] kNil (by kernel_rfl) [] jNil (by kernel_rfl) N fun S k =>
    Eq.trans (b := shaft_check_L5.head.raw 0 S (fun S0 => shaft_check_d5 N S0 k)) (by kernel_rfl) (congrArg (shaft_check_L5.head.raw 0 S) (funext fun S0 => Eq.trans (shaft_check_l5_eq N k N (Cod.dec Arr3_intC (lget (toCs (lget S0.tmps 13)))) (toI (lget S0.tmps 14))).symm (by kernel_rfl)))
noncomputable def shaft_check_go {R : Type} (N : Nat) (args : List SV) (T : Tab) (kf : SV × Tab → Option R) : Option R :=
  shaft_check N (Cod.dec api_ShaftC (lget (toCs (lget args 0)))) (Cod.dec Arr3_intC (lget (toCs (lget args 1)))) (fun q0 => kf (lget [.int .i64 q0] 0, []))
noncomputable def shaft_check_cal {R : Type} (N : Nat) : Cal R := callM (newelref09_CheckCrate_cal N) 44 0 shaft_check_sp (shaft_check_go N)
theorem shaft_check_cal_ok {R : Type} (N : Nat) : CalOk E.P (shaft_check_cal (R := R) N) :=
  callM_ok hE (newelref09_CheckCrate_cal_ok N) (lp := shaft_check_lp N) (jn := noJn) (keys := [5]) (kCons (shaft_check_k5 N) kNil) (by kernel_rfl) (js := []) jNil (by kernel_rfl) shaft_check_sp_ok shaft_check_rs_ok (fun args T kf => Eq.trans (shaft_check_def N (Cod.dec api_ShaftC (lget (toCs (lget args 0)))) (Cod.dec Arr3_intC (lget (toCs (lget args 1)))) (fun q0 => kf (lget [.int .i64 q0] 0, []))) (by kernel_rfl : shaft_check_run N args T kf = fnM E (newelref09_CheckCrate_cal N) (shaft_check_lp N) (noJn) 44 (shaft_check_sp.vs args) (shaft_check_sp.tab T) 0 (resK shaft_check_rs kf)))
def newelref09_orders_m {R : Type} (N : Nat)  (k : Arr6_T22 → Option R) : Option R :=
  k (Arr6_T22.mk (Arr3_int.mk (0 : Int) (1 : Int) (2 : Int)) (Arr3_int.mk (0 : Int) (2 : Int) (1 : Int)) (Arr3_int.mk (1 : Int) (0 : Int) (2 : Int)) (Arr3_int.mk (1 : Int) (2 : Int) (0 : Int)) (Arr3_int.mk (2 : Int) (0 : Int) (1 : Int)) (Arr3_int.mk (2 : Int) (1 : Int) (0 : Int)))
noncomputable def newelref09_orders {R : Type} : Nat → (Arr6_T22 → Option R) → Option R := lock (@newelref09_orders_m R)
theorem newelref09_orders_def {R : Type} (N : Nat)  (k : Arr6_T22 → Option R) : newelref09_orders N  k = newelref09_orders_m N  k := by unfold newelref09_orders; rw [lock_eq]
def newelref09_orders_sp : Sp := ⟨[], []⟩
theorem newelref09_orders_sp_ok : newelref09_orders_sp.Ok := ⟨allNil, eNil⟩
def newelref09_orders_rs : Sp := ⟨[rAgg Arr6_T22C], []⟩
theorem newelref09_orders_rs_ok : newelref09_orders_rs.Ok := ⟨(allCons (rAgg_ok Arr6_T22C_ok Arr6_T22C_len) allNil), eNil⟩
def newelref09_orders_run {R : Type} (N : Nat) (args : List SV) (T : Tab) (kf : SV × Tab → Option R) : Option R :=
  newelref09_orders_m N  (fun q0 => kf (lget [.agg (Cod.enc Arr6_T22C q0)] 0, []))
def newelref09_orders_lp {R : Type} (N : Nat) : Lp R := fun body S k => Option.none
noncomputable def newelref09_orders_go {R : Type} (N : Nat) (args : List SV) (T : Tab) (kf : SV × Tab → Option R) : Option R :=
  newelref09_orders N  (fun q0 => kf (lget [.agg (Cod.enc Arr6_T22C q0)] 0, []))
noncomputable def newelref09_orders_cal {R : Type} (N : Nat) : Cal R := callM (shaft_check_cal N) 79 0 newelref09_orders_sp (newelref09_orders_go N)
theorem newelref09_orders_cal_ok {R : Type} (N : Nat) : CalOk E.P (newelref09_orders_cal (R := R) N) :=
  callM_ok hE (shaft_check_cal_ok N) (lp := newelref09_orders_lp N) (jn := noJn) (keys := []) kNil (by kernel_rfl) (js := []) jNil (by kernel_rfl) newelref09_orders_sp_ok newelref09_orders_rs_ok (fun args T kf => Eq.trans (newelref09_orders_def N  (fun q0 => kf (lget [.agg (Cod.enc Arr6_T22C q0)] 0, []))) (by kernel_rfl : newelref09_orders_run N args T kf = fnM E (shaft_check_cal N) (newelref09_orders_lp N) (noJn) 79 (newelref09_orders_sp.vs args) (newelref09_orders_sp.tab T) 0 (resK newelref09_orders_rs kf)))
def newelref09_along_m {R : Type} (N : Nat) (a57 : Arr3_int) (a58 : Int) (k : Arr3_int → Option R) : Option R :=
  newelref09_orders N  (fun r59 =>
  bif decide ((0 : Int) ≤ a58) && decide (a58 < (↑(6 : Nat) : Int)) then
   bif decide ((0 : Int) ≤ pickI a58 (0 : Nat) [Arr3_int.a0 (Arr6_T22.a0 r59), Arr3_int.a0 (Arr6_T22.a1 r59), Arr3_int.a0 (Arr6_T22.a2 r59), Arr3_int.a0 (Arr6_T22.a3 r59), Arr3_int.a0 (Arr6_T22.a4 r59), Arr3_int.a0 (Arr6_T22.a5 r59)]) && decide (pickI a58 (0 : Nat) [Arr3_int.a0 (Arr6_T22.a0 r59), Arr3_int.a0 (Arr6_T22.a1 r59), Arr3_int.a0 (Arr6_T22.a2 r59), Arr3_int.a0 (Arr6_T22.a3 r59), Arr3_int.a0 (Arr6_T22.a4 r59), Arr3_int.a0 (Arr6_T22.a5 r59)] < (↑(3 : Nat) : Int)) then
    bif decide ((0 : Int) ≤ pickI a58 (0 : Nat) [Arr3_int.a1 (Arr6_T22.a0 r59), Arr3_int.a1 (Arr6_T22.a1 r59), Arr3_int.a1 (Arr6_T22.a2 r59), Arr3_int.a1 (Arr6_T22.a3 r59), Arr3_int.a1 (Arr6_T22.a4 r59), Arr3_int.a1 (Arr6_T22.a5 r59)]) && decide (pickI a58 (0 : Nat) [Arr3_int.a1 (Arr6_T22.a0 r59), Arr3_int.a1 (Arr6_T22.a1 r59), Arr3_int.a1 (Arr6_T22.a2 r59), Arr3_int.a1 (Arr6_T22.a3 r59), Arr3_int.a1 (Arr6_T22.a4 r59), Arr3_int.a1 (Arr6_T22.a5 r59)] < (↑(3 : Nat) : Int)) then
     bif decide ((0 : Int) ≤ pickI a58 (0 : Nat) [Arr3_int.a2 (Arr6_T22.a0 r59), Arr3_int.a2 (Arr6_T22.a1 r59), Arr3_int.a2 (Arr6_T22.a2 r59), Arr3_int.a2 (Arr6_T22.a3 r59), Arr3_int.a2 (Arr6_T22.a4 r59), Arr3_int.a2 (Arr6_T22.a5 r59)]) && decide (pickI a58 (0 : Nat) [Arr3_int.a2 (Arr6_T22.a0 r59), Arr3_int.a2 (Arr6_T22.a1 r59), Arr3_int.a2 (Arr6_T22.a2 r59), Arr3_int.a2 (Arr6_T22.a3 r59), Arr3_int.a2 (Arr6_T22.a4 r59), Arr3_int.a2 (Arr6_T22.a5 r59)] < (↑(3 : Nat) : Int)) then
      k (Arr3_int.mk (pickI (pickI a58 (0 : Nat) [Arr3_int.a0 (Arr6_T22.a0 r59), Arr3_int.a0 (Arr6_T22.a1 r59), Arr3_int.a0 (Arr6_T22.a2 r59), Arr3_int.a0 (Arr6_T22.a3 r59), Arr3_int.a0 (Arr6_T22.a4 r59), Arr3_int.a0 (Arr6_T22.a5 r59)]) (0 : Nat) [Arr3_int.a0 a57, Arr3_int.a1 a57, Arr3_int.a2 a57]) (pickI (pickI a58 (0 : Nat) [Arr3_int.a1 (Arr6_T22.a0 r59), Arr3_int.a1 (Arr6_T22.a1 r59), Arr3_int.a1 (Arr6_T22.a2 r59), Arr3_int.a1 (Arr6_T22.a3 r59), Arr3_int.a1 (Arr6_T22.a4 r59), Arr3_int.a1 (Arr6_T22.a5 r59)]) (0 : Nat) [Arr3_int.a0 a57, Arr3_int.a1 a57, Arr3_int.a2 a57]) (pickI (pickI a58 (0 : Nat) [Arr3_int.a2 (Arr6_T22.a0 r59), Arr3_int.a2 (Arr6_T22.a1 r59), Arr3_int.a2 (Arr6_T22.a2 r59), Arr3_int.a2 (Arr6_T22.a3 r59), Arr3_int.a2 (Arr6_T22.a4 r59), Arr3_int.a2 (Arr6_T22.a5 r59)]) (0 : Nat) [Arr3_int.a0 a57, Arr3_int.a1 a57, Arr3_int.a2 a57]))
     else
      Option.none
    else
     Option.none
   else
    Option.none
  else
   Option.none)
noncomputable def newelref09_along {R : Type} : Nat → Arr3_int → Int → (Arr3_int → Option R) → Option R := lock (@newelref09_along_m R)
theorem newelref09_along_def {R : Type} (N : Nat) (a57 : Arr3_int) (a58 : Int) (k : Arr3_int → Option R) : newelref09_along N a57 a58 k = newelref09_along_m N a57 a58 k := by unfold newelref09_along; rw [lock_eq]
def newelref09_along_sp : Sp := ⟨[rAgg Arr3_intC, rInt .i64], []⟩
theorem newelref09_along_sp_ok : newelref09_along_sp.Ok := ⟨(allCons (rAgg_ok Arr3_intC_ok Arr3_intC_len) (allCons (rInt_ok .i64) allNil)), eNil⟩
def newelref09_along_rs : Sp := ⟨[rAgg Arr3_intC], []⟩
theorem newelref09_along_rs_ok : newelref09_along_rs.Ok := ⟨(allCons (rAgg_ok Arr3_intC_ok Arr3_intC_len) allNil), eNil⟩
def newelref09_along_run {R : Type} (N : Nat) (args : List SV) (T : Tab) (kf : SV × Tab → Option R) : Option R :=
  newelref09_along_m N (Cod.dec Arr3_intC (lget (toCs (lget args 0)))) (toI (lget args 1)) (fun q0 => kf (lget [.agg (Cod.enc Arr3_intC q0)] 0, []))
def newelref09_along_lp {R : Type} (N : Nat) : Lp R := fun body S k => Option.none
noncomputable def newelref09_along_go {R : Type} (N : Nat) (args : List SV) (T : Tab) (kf : SV × Tab → Option R) : Option R :=
  newelref09_along N (Cod.dec Arr3_intC (lget (toCs (lget args 0)))) (toI (lget args 1)) (fun q0 => kf (lget [.agg (Cod.enc Arr3_intC q0)] 0, []))
noncomputable def newelref09_along_cal {R : Type} (N : Nat) : Cal R := callM (newelref09_orders_cal N) 70 0 newelref09_along_sp (newelref09_along_go N)
theorem newelref09_along_cal_ok {R : Type} (N : Nat) : CalOk E.P (newelref09_along_cal (R := R) N) :=
  callM_ok hE (newelref09_orders_cal_ok N) (lp := newelref09_along_lp N) (jn := noJn) (keys := []) kNil (by kernel_rfl) (js := []) jNil (by kernel_rfl) newelref09_along_sp_ok newelref09_along_rs_ok (fun args T kf => Eq.trans (newelref09_along_def N (Cod.dec Arr3_intC (lget (toCs (lget args 0)))) (toI (lget args 1)) (fun q0 => kf (lget [.agg (Cod.enc Arr3_intC q0)] 0, []))) (by kernel_rfl : newelref09_along_run N args T kf = fnM E (newelref09_orders_cal N) (newelref09_along_lp N) (noJn) 70 (newelref09_along_sp.vs args) (newelref09_along_sp.tab T) 0 (resK newelref09_along_rs kf)))
def newelref09_free_L2 : LoopSp := ⟨⟨[3, 4, 5, 7], ⟨(dr 3 ((rPtr 0 0) :: (rPtr 1 0) :: (rPtr 2 0) :: (dr 1 ((rInt .i64) :: (dr 91 []))))), [(0, eBlkC api_ShaftC), (1, eBlkC Arr3_intC), (2, eBlkC Arr3_intC)]⟩, 3⟩, [(Option.none, ⟨[6], ⟨(dr 6 ((rBool) :: (dr 92 []))), []⟩, 0⟩), (some 0, ⟨[3, 4, 5], ⟨(dr 3 ((rPtr 0 0) :: (rPtr 1 0) :: (rPtr 2 0) :: (dr 93 []))), [(0, eBlkC api_ShaftC), (1, eBlkC Arr3_intC), (2, eBlkC Arr3_intC)]⟩, 3⟩)]⟩
theorem newelref09_free_L2_ok : newelref09_free_L2.Ok := ⟨⟨(drCons 3 (allCons (rPtr_ok 0 0) (allCons (rPtr_ok 1 0) (allCons (rPtr_ok 2 0) (drCons 1 (allCons (rInt_ok .i64) (drCons 91 allNil))))))), (eCons (eBlkC_ok api_ShaftC_ok api_ShaftC_len) (eCons (eBlkC_ok Arr3_intC_ok Arr3_intC_len) (eCons (eBlkC_ok Arr3_intC_ok Arr3_intC_len) eNil)))⟩, (xCons ⟨(drCons 6 (allCons rBool_ok (drCons 92 allNil))), eNil⟩ (xCons ⟨(drCons 3 (allCons (rPtr_ok 0 0) (allCons (rPtr_ok 1 0) (allCons (rPtr_ok 2 0) (drCons 93 allNil))))), (eCons (eBlkC_ok api_ShaftC_ok api_ShaftC_len) (eCons (eBlkC_ok Arr3_intC_ok Arr3_intC_len) (eCons (eBlkC_ok Arr3_intC_ok Arr3_intC_len) eNil)))⟩ xNil))⟩
def newelref09_free_h2 (v64 : Int) (v65 : api_Shaft) (v66 : Arr3_int) (v67 : Arr3_int) : St := ⟨(un 3 ((.ptr 0 0) :: (.ptr 1 0) :: (.ptr 2 0) :: (un 1 ((.int .i64 v64) :: (un 91 []))))), [(0, .blk (Cod.enc api_ShaftC v65)), (1, .blk (Cod.enc Arr3_intC v66)), (2, .blk (Cod.enc Arr3_intC v67))], 3⟩
def newelref09_free_x2_r (q0 : Bool) : St := ⟨(un 6 ((.bool q0) :: (un 92 []))), [], 0⟩
def newelref09_free_x2_0 (v65 : api_Shaft) (v66 : Arr3_int) (v67 : Arr3_int) : St := ⟨(un 3 ((.ptr 0 0) :: (.ptr 1 0) :: (.ptr 2 0) :: (un 93 []))), [(0, .blk (Cod.enc api_ShaftC v65)), (1, .blk (Cod.enc Arr3_intC v66)), (2, .blk (Cod.enc Arr3_intC v67))], 3⟩
def newelref09_free_b2 {R : Type} (N : Nat) (rc : Int → api_Shaft → Arr3_int → Arr3_int → Option R) (v64 : Int) (v65 : api_Shaft) (v66 : Arr3_int) (v67 : Arr3_int) (kr : Bool → Option R) (k0 : Unit → Option R) : Option R :=
  bif decide (v64 < (3 : Int)) then
   bif decide ((0 : Int) ≤ v64) && decide (v64 < (↑(3 : Nat) : Int)) then
    bif decide (pickI v64 (0 : Nat) [Arr3_int.a0 v66, Arr3_int.a1 v66, Arr3_int.a2 v66] < (0 : Int)) then
     kr false
    else
     bif decide ((0 : Int) ≤ v64) && decide (v64 < (↑(3 : Nat) : Int)) then
      bif decide (pickI v64 (0 : Nat) [Arr3_int.a0 v66, Arr3_int.a1 v66, Arr3_int.a2 v66] > (8 : Int)) then
       kr false
      else
       bif decide ((0 : Int) ≤ v64) && decide (v64 < (↑(3 : Nat) : Int)) then
        bif decide ((0 : Int) ≤ v64) && decide (v64 < (↑(3 : Nat) : Int)) then
         bif decide ((0 : Int) ≤ v64) && decide (v64 < (↑(3 : Nat) : Int)) then
          bif decide (w64 (pickI v64 (0 : Nat) [Arr3_int.a0 v66, Arr3_int.a1 v66, Arr3_int.a2 v66] + pickI v64 (0 : Nat) [Arr3_int.a0 v67, Arr3_int.a1 v67, Arr3_int.a2 v67]) > pickI v64 (0 : Nat) [Arr3_int.a0 (api_Shaft.Size v65), Arr3_int.a1 (api_Shaft.Size v65), Arr3_int.a2 (api_Shaft.Size v65)]) then
           kr false
          else
           rc (w64 (v64 + (1 : Int))) v65 v66 v67
         else
          Option.none
        else
         Option.none
       else
        Option.none
     else
      Option.none
   else
    Option.none
  else
   k0 ()
def newelref09_free_l2 {R : Type} (N : Nat) : Nat → Int → api_Shaft → Arr3_int → Arr3_int → (Bool → Option R) → (Unit → Option R) → Option R
  | 0, _, _, _, _, _, _ => Option.none
  | n + 1, v64, v65, v66, v67, kr, k0 => newelref09_free_b2 N (fun v64 v65 v66 v67 => newelref09_free_l2 N n v64 v65 v66 v67 kr k0) v64 v65 v66 v67 kr k0
def newelref09_free_L7 : LoopSp := ⟨⟨[3, 4, 5, 8], ⟨(dr 3 ((rPtr 0 0) :: (rPtr 1 0) :: (rPtr 2 0) :: (dr 2 ((rInt .i64) :: (dr 90 []))))), [(0, eBlkC api_ShaftC), (1, eBlkC Arr3_intC), (2, eBlkC Arr3_intC)]⟩, 3⟩, [(Option.none, ⟨[6], ⟨(dr 6 ((rBool) :: (dr 92 []))), []⟩, 0⟩), (some 2, ⟨[], ⟨(dr 99 []), []⟩, 0⟩)]⟩
theorem newelref09_free_L7_ok : newelref09_free_L7.Ok := ⟨⟨(drCons 3 (allCons (rPtr_ok 0 0) (allCons (rPtr_ok 1 0) (allCons (rPtr_ok 2 0) (drCons 2 (allCons (rInt_ok .i64) (drCons 90 allNil))))))), (eCons (eBlkC_ok api_ShaftC_ok api_ShaftC_len) (eCons (eBlkC_ok Arr3_intC_ok Arr3_intC_len) (eCons (eBlkC_ok Arr3_intC_ok Arr3_intC_len) eNil)))⟩, (xCons ⟨(drCons 6 (allCons rBool_ok (drCons 92 allNil))), eNil⟩ (xCons ⟨(drCons 99 allNil), eNil⟩ xNil))⟩
def newelref09_free_h7 (v69 : Int) (v70 : api_Shaft) (v71 : Arr3_int) (v72 : Arr3_int) : St := ⟨(un 3 ((.ptr 0 0) :: (.ptr 1 0) :: (.ptr 2 0) :: (un 2 ((.int .i64 v69) :: (un 90 []))))), [(0, .blk (Cod.enc api_ShaftC v70)), (1, .blk (Cod.enc Arr3_intC v71)), (2, .blk (Cod.enc Arr3_intC v72))], 3⟩
def newelref09_free_x7_r (q0 : Bool) : St := ⟨(un 6 ((.bool q0) :: (un 92 []))), [], 0⟩
def newelref09_free_x7_2  : St := ⟨(un 99 []), [], 0⟩
def newelref09_free_b7 {R : Type} (N : Nat) (rc : Int → api_Shaft → Arr3_int → Arr3_int → Option R) (v69 : Int) (v70 : api_Shaft) (v71 : Arr3_int) (v72 : Arr3_int) (kr : Bool → Option R) (k2 : Unit → Option R) : Option R :=
  bif decide (v69 < (↑(Arr.n (api_Shaft.Walls v70)) : Int)) then
   bif decide ((0 : Int) ≤ v69) && decide (v69 < (↑(Arr.n (api_Shaft.Walls v70)) : Int)) then
    bif decide (Arr3_int.a0 (Arr.f (api_Shaft.Walls v70) (Int.toNat v69)) ≥ Arr3_int.a0 v71) then
     bif decide (Arr3_int.a0 (Arr.f (api_Shaft.Walls v70) (Int.toNat v69)) < w64 (Arr3_int.a0 v71 + Arr3_int.a0 v72)) then
      bif decide (Arr3_int.a1 (Arr.f (api_Shaft.Walls v70) (Int.toNat v69)) ≥ Arr3_int.a1 v71) then
       bif decide (Arr3_int.a1 (Arr.f (api_Shaft.Walls v70) (Int.toNat v69)) < w64 (Arr3_int.a1 v71 + Arr3_int.a1 v72)) then
        bif decide (Arr3_int.a2 (Arr.f (api_Shaft.Walls v70) (Int.toNat v69)) ≥ Arr3_int.a2 v71) then
         bif decide (Arr3_int.a2 (Arr.f (api_Shaft.Walls v70) (Int.toNat v69)) < w64 (Arr3_int.a2 v71 + Arr3_int.a2 v72)) then
          kr false
         else
          rc (w64 (v69 + (1 : Int))) v70 v71 v72
        else
         rc (w64 (v69 + (1 : Int))) v70 v71 v72
       else
        rc (w64 (v69 + (1 : Int))) v70 v71 v72
      else
       rc (w64 (v69 + (1 : Int))) v70 v71 v72
     else
      rc (w64 (v69 + (1 : Int))) v70 v71 v72
    else
     rc (w64 (v69 + (1 : Int))) v70 v71 v72
   else
    Option.none
  else
   k2 ()
def newelref09_free_l7 {R : Type} (N : Nat) : Nat → Int → api_Shaft → Arr3_int → Arr3_int → (Bool → Option R) → (Unit → Option R) → Option R
  | 0, _, _, _, _, _, _ => Option.none
  | n + 1, v69, v70, v71, v72, kr, k2 => newelref09_free_b7 N (fun v69 v70 v71 v72 => newelref09_free_l7 N n v69 v70 v71 v72 kr k2) v69 v70 v71 v72 kr k2
def newelref09_free_m {R : Type} (N : Nat) (a61 : api_Shaft) (a62 : Arr3_int) (a63 : Arr3_int) (k : Bool → Option R) : Option R :=
  newelref09_free_l2 N N (0 : Int) a61 a62 a63 (fun r68 =>
   k r68) (fun (_ : Unit) =>
   newelref09_free_l7 N N (0 : Int) a61 a62 a63 (fun r73 =>
    k r73) (fun (_ : Unit) =>
    k true))
noncomputable def newelref09_free {R : Type} : Nat → api_Shaft → Arr3_int → Arr3_int → (Bool → Option R) → Option R := lock (@newelref09_free_m R)
theorem newelref09_free_def {R : Type} (N : Nat) (a61 : api_Shaft) (a62 : Arr3_int) (a63 : Arr3_int) (k : Bool → Option R) : newelref09_free N a61 a62 a63 k = newelref09_free_m N a61 a62 a63 k := by unfold newelref09_free; rw [lock_eq]
def newelref09_free_sp : Sp := ⟨[rAgg api_ShaftC, rAgg Arr3_intC, rAgg Arr3_intC], []⟩
theorem newelref09_free_sp_ok : newelref09_free_sp.Ok := ⟨(allCons (rAgg_ok api_ShaftC_ok api_ShaftC_len) (allCons (rAgg_ok Arr3_intC_ok Arr3_intC_len) (allCons (rAgg_ok Arr3_intC_ok Arr3_intC_len) allNil))), eNil⟩
def newelref09_free_rs : Sp := ⟨[rBool], []⟩
theorem newelref09_free_rs_ok : newelref09_free_rs.Ok := ⟨(allCons rBool_ok allNil), eNil⟩
def newelref09_free_run {R : Type} (N : Nat) (args : List SV) (T : Tab) (kf : SV × Tab → Option R) : Option R :=
  newelref09_free_m N (Cod.dec api_ShaftC (lget (toCs (lget args 0)))) (Cod.dec Arr3_intC (lget (toCs (lget args 1)))) (Cod.dec Arr3_intC (lget (toCs (lget args 2)))) (fun q0 => kf (lget [.bool q0] 0, []))
def newelref09_free_d7 {R : Type} (N : Nat) (S0 : St) (k : Exit → St → Option R) : Option R :=
  newelref09_free_l7 N N (toI (lget S0.tmps 8)) (Cod.dec api_ShaftC (lget (entCs (entAt S0.tab 0)))) (Cod.dec Arr3_intC (lget (entCs (entAt S0.tab 1)))) (Cod.dec Arr3_intC (lget (entCs (entAt S0.tab 2)))) (fun q0 => k .ret (newelref09_free_x7_r q0)) (fun (_ : Unit) => k (.exit 2) (newelref09_free_x7_2 ))
def newelref09_free_d2 {R : Type} (N : Nat) (S0 : St) (k : Exit → St → Option R) : Option R :=
  newelref09_free_l2 N N (toI (lget S0.tmps 7)) (Cod.dec api_ShaftC (lget (entCs (entAt S0.tab 0)))) (Cod.dec Arr3_intC (lget (entCs (entAt S0.tab 1)))) (Cod.dec Arr3_intC (lget (entCs (entAt S0.tab 2)))) (fun q0 => k .ret (newelref09_free_x2_r q0)) (fun (_ : Unit) => k (.exit 0) (newelref09_free_x2_0 (Cod.dec api_ShaftC (lget (entCs (entAt S0.tab 0)))) (Cod.dec Arr3_intC (lget (entCs (entAt S0.tab 1)))) (Cod.dec Arr3_intC (lget (entCs (entAt S0.tab 2))))))
def newelref09_free_lp {R : Type} (N : Nat) : Lp R := fun body S k => bif (Go.Sx.keyOf body).getD 0 == 2 then (newelref09_free_L2.head.raw 0 S (fun S0 => newelref09_free_d2 N S0 k)) else bif (Go.Sx.keyOf body).getD 0 == 7 then (newelref09_free_L7.head.raw 0 S (fun S0 => newelref09_free_d7 N S0 k)) else Option.none
theorem newelref09_free_l2_eq {R : Type} (N : Nat) (k : Exit → St → Option R) (n : Nat) : ∀ (v0 : Int) (v1 : api_Shaft) (v2 : Arr3_int) (v3 : Arr3_int), loopM E.Θ (newelref09_along_cal N) (newelref09_free_lp N) (noJn) 0 newelref09_free_L2 (bodyAt E 69 2) n (newelref09_free_h2 v0 v1 v2 v3) k = newelref09_free_l2 N n v0 v1 v2 v3 (fun q0 => k .ret (newelref09_free_x2_r q0)) (fun (_ : Unit) => k (.exit 0) (newelref09_free_x2_0 v1 v2 v3)) := by
  induction n with
  | zero => intro v0 v1 v2 v3; rfl
  | succ n ih =>
    intro v0 v1 v2 v3
    refine Eq.trans (b := newelref09_free_b2 N (fun v0 v1 v2 v3 => loopM E.Θ (newelref09_along_cal N) (newelref09_free_lp N) (noJn) 0 newelref09_free_L2 (bodyAt E 69 2) n (newelref09_free_h2 v0 v1 v2 v3) k) v0 v1 v2 v3 (fun q0 => k .ret (newelref09_free_x2_r q0)) (fun (_ : Unit) => k (.exit 0) (newelref09_free_x2_0 v1 v2 v3))) (by kernel_rfl) ?_
    have h : (fun (v0 : Int) (v1 : api_Shaft) (v2 : Arr3_int) (v3 : Arr3_int) => loopM E.Θ (newelref09_along_cal N) (newelref09_free_lp N) (noJn) 0 newelref09_free_L2 (bodyAt E 69 2) n (newelref09_free_h2 v0 v1 v2 v3) k) = (fun (v0 : Int) (v1 : api_Shaft) (v2 : Arr3_int) (v3 : Arr3_int) => newelref09_free_l2 N n v0 v1 v2 v3 (fun q0 => k .ret (newelref09_free_x2_r q0)) (fun (_ : Unit) => k (.exit 0) (newelref09_free_x2_0 v1 v2 v3))) := funext fun v0 => funext fun v1 => funext fun v2 => funext fun v3 => ih v0 v1 v2 v3
    rw [h]
    rfl
theorem newelref09_free_l7_eq {R : Type} (N : Nat) (k : Exit → St → Option R) (n : Nat) : ∀ (v0 : Int) (v1 : api_Shaft) (v2 : Arr3_int) (v3 : Arr3_int), loopM E.Θ (newelref09_along_cal N) (newelref09_free_lp N) (noJn) 0 newelref09_free_L7 (bodyAt E 69 7) n (newelref09_free_h7 v0 v1 v2 v3) k = newelref09_free_l7 N n v0 v1 v2 v3 (fun q0 => k .ret (newelref09_free_x7_r q0)) (fun (_ : Unit) => k (.exit 2) (newelref09_free_x7_2 )) := by
  induction n with
  | zero => intro v0 v1 v2 v3; rfl
  | succ n ih =>
    intro v0 v1 v2 v3
    refine Eq.trans (b := newelref09_free_b7 N (fun v0 v1 v2 v3 => loopM E.Θ (newelref09_along_cal N) (newelref09_free_lp N) (noJn) 0 newelref09_free_L7 (bodyAt E 69 7) n (newelref09_free_h7 v0 v1 v2 v3) k) v0 v1 v2 v3 (fun q0 => k .ret (newelref09_free_x7_r q0)) (fun (_ : Unit) => k (.exit 2) (newelref09_free_x7_2 ))) (by kernel_rfl) ?_
    have h : (fun (v0 : Int) (v1 : api_Shaft) (v2 : Arr3_int) (v3 : Arr3_int) => loopM E.Θ (newelref09_along_cal N) (newelref09_free_lp N) (noJn) 0 newelref09_free_L7 (bodyAt E 69 7) n (newelref09_free_h7 v0 v1 v2 v3) k) = (fun (v0 : Int) (v1 : api_Shaft) (v2 : Arr3_int) (v3 : Arr3_int) => newelref09_free_l7 N n v0 v1 v2 v3 (fun q0 => k .ret (newelref09_free_x7_r q0)) (fun (_ : Unit) => k (.exit 2) (newelref09_free_x7_2 ))) := funext fun v0 => funext fun v1 => funext fun v2 => funext fun v3 => ih v0 v1 v2 v3
    rw [h]
    rfl
theorem newelref09_free_k2 {R : Type} (N : Nat) : LpKey (R := R) E 69 0 (newelref09_free_lp N) 2 :=
  lpKey_of hE (newelref09_along_cal_ok N) (lp := newelref09_free_lp N) (jn := noJn) newelref09_free_L2_ok [] kNil (by kernel_rfl) [] jNil (by kernel_rfl) N fun S k =>
    Eq.trans (b := newelref09_free_L2.head.raw 0 S (fun S0 => newelref09_free_d2 N S0 k)) (by kernel_rfl) (congrArg (newelref09_free_L2.head.raw 0 S) (funext fun S0 => Eq.trans (newelref09_free_l2_eq N k N (toI (lget S0.tmps 7)) (Cod.dec api_ShaftC (lget (entCs (entAt S0.tab 0)))) (Cod.dec Arr3_intC (lget (entCs (entAt S0.tab 1)))) (Cod.dec Arr3_intC (lget (entCs (entAt S0.tab 2))))).symm (by kernel_rfl)))
theorem newelref09_free_k7 {R : Type} (N : Nat) : LpKey (R := R) E 69 0 (newelref09_free_lp N) 7 :=
  lpKey_of hE (newelref09_along_cal_ok N) (lp := newelref09_free_lp N) (jn := noJn) newelref09_free_L7_ok [] kNil (by kernel_rfl) [] jNil (by kernel_rfl) N fun S k =>
    Eq.trans (b := newelref09_free_L7.head.raw 0 S (fun S0 => newelref09_free_d7 N S0 k)) (by kernel_rfl) (congrArg (newelref09_free_L7.head.raw 0 S) (funext fun S0 => Eq.trans (newelref09_free_l7_eq N k N (toI (lget S0.tmps 8)) (Cod.dec api_ShaftC (lget (entCs (entAt S0.tab 0)))) (Cod.dec Arr3_intC (lget (entCs (entAt S0.tab 1)))) (Cod.dec Arr3_intC (lget (entCs (entAt S0.tab 2))))).symm (by kernel_rfl)))
noncomputable def newelref09_free_go {R : Type} (N : Nat) (args : List SV) (T : Tab) (kf : SV × Tab → Option R) : Option R :=
  newelref09_free N (Cod.dec api_ShaftC (lget (toCs (lget args 0)))) (Cod.dec Arr3_intC (lget (toCs (lget args 1)))) (Cod.dec Arr3_intC (lget (toCs (lget args 2)))) (fun q0 => kf (lget [.bool q0] 0, []))
noncomputable def newelref09_free_cal {R : Type} (N : Nat) : Cal R := callM (newelref09_along_cal N) 69 0 newelref09_free_sp (newelref09_free_go N)
theorem newelref09_free_cal_ok {R : Type} (N : Nat) : CalOk E.P (newelref09_free_cal (R := R) N) :=
  callM_ok hE (newelref09_along_cal_ok N) (lp := newelref09_free_lp N) (jn := noJn) (keys := [2, 7]) (kCons (newelref09_free_k2 N) (kCons (newelref09_free_k7 N) kNil)) (by kernel_rfl) (js := []) jNil (by kernel_rfl) newelref09_free_sp_ok newelref09_free_rs_ok (fun args T kf => Eq.trans (newelref09_free_def N (Cod.dec api_ShaftC (lget (toCs (lget args 0)))) (Cod.dec Arr3_intC (lget (toCs (lget args 1)))) (Cod.dec Arr3_intC (lget (toCs (lget args 2)))) (fun q0 => kf (lget [.bool q0] 0, []))) (by kernel_rfl : newelref09_free_run N args T kf = fnM E (newelref09_along_cal N) (newelref09_free_lp N) (noJn) 69 (newelref09_free_sp.vs args) (newelref09_free_sp.tab T) 0 (resK newelref09_free_rs kf)))
def newelref09_fits_m {R : Type} (N : Nat) (a53 : api_Shaft) (a54 : Arr3_int) (a55 : api_Pose) (k : Bool → Option R) : Option R :=
  newelref09_within N (api_Pose.Turn a55) (0 : Int) (5 : Int) (fun r56 =>
  bif r56 then
   newelref09_along N a54 (api_Pose.Turn a55) (fun r60 =>
   newelref09_free N a53 (api_Pose.At a55) r60 (fun r74 =>
   k r74))
  else
   k false)
noncomputable def newelref09_fits {R : Type} : Nat → api_Shaft → Arr3_int → api_Pose → (Bool → Option R) → Option R := lock (@newelref09_fits_m R)
theorem newelref09_fits_def {R : Type} (N : Nat) (a53 : api_Shaft) (a54 : Arr3_int) (a55 : api_Pose) (k : Bool → Option R) : newelref09_fits N a53 a54 a55 k = newelref09_fits_m N a53 a54 a55 k := by unfold newelref09_fits; rw [lock_eq]
def newelref09_fits_sp : Sp := ⟨[rAgg api_ShaftC, rAgg Arr3_intC, rAgg api_PoseC], []⟩
theorem newelref09_fits_sp_ok : newelref09_fits_sp.Ok := ⟨(allCons (rAgg_ok api_ShaftC_ok api_ShaftC_len) (allCons (rAgg_ok Arr3_intC_ok Arr3_intC_len) (allCons (rAgg_ok api_PoseC_ok api_PoseC_len) allNil))), eNil⟩
def newelref09_fits_rs : Sp := ⟨[rBool], []⟩
theorem newelref09_fits_rs_ok : newelref09_fits_rs.Ok := ⟨(allCons rBool_ok allNil), eNil⟩
def newelref09_fits_run {R : Type} (N : Nat) (args : List SV) (T : Tab) (kf : SV × Tab → Option R) : Option R :=
  newelref09_fits_m N (Cod.dec api_ShaftC (lget (toCs (lget args 0)))) (Cod.dec Arr3_intC (lget (toCs (lget args 1)))) (Cod.dec api_PoseC (lget (toCs (lget args 2)))) (fun q0 => kf (lget [.bool q0] 0, []))
def newelref09_fits_lp {R : Type} (N : Nat) : Lp R := fun body S k => Option.none
noncomputable def newelref09_fits_go {R : Type} (N : Nat) (args : List SV) (T : Tab) (kf : SV × Tab → Option R) : Option R :=
  newelref09_fits N (Cod.dec api_ShaftC (lget (toCs (lget args 0)))) (Cod.dec Arr3_intC (lget (toCs (lget args 1)))) (Cod.dec api_PoseC (lget (toCs (lget args 2)))) (fun q0 => kf (lget [.bool q0] 0, []))
noncomputable def newelref09_fits_cal {R : Type} (N : Nat) : Cal R := callM (newelref09_free_cal N) 48 0 newelref09_fits_sp (newelref09_fits_go N)
theorem newelref09_fits_cal_ok {R : Type} (N : Nat) : CalOk E.P (newelref09_fits_cal (R := R) N) :=
  callM_ok hE (newelref09_free_cal_ok N) (lp := newelref09_fits_lp N) (jn := noJn) (keys := []) kNil (by kernel_rfl) (js := []) jNil (by kernel_rfl) newelref09_fits_sp_ok newelref09_fits_rs_ok (fun args T kf => Eq.trans (newelref09_fits_def N (Cod.dec api_ShaftC (lget (toCs (lget args 0)))) (Cod.dec Arr3_intC (lget (toCs (lget args 1)))) (Cod.dec api_PoseC (lget (toCs (lget args 2)))) (fun q0 => kf (lget [.bool q0] 0, []))) (by kernel_rfl : newelref09_fits_run N args T kf = fnM E (newelref09_free_cal N) (newelref09_fits_lp N) (noJn) 48 (newelref09_fits_sp.vs args) (newelref09_fits_sp.tab T) 0 (resK newelref09_fits_rs kf)))
def newelref09_Fits_m {R : Type} (N : Nat) (a49 : api_Shaft) (a50 : Arr3_int) (a51 : api_Pose) (k : Bool → Int → Option R) : Option R :=
  newelref09_CheckCrate N a49 a50 (fun r52 =>
  bif r52 != (0 : Int) then
   k false r52
  else
   newelref09_fits N a49 a50 a51 (fun r75 =>
   k r75 (0 : Int)))
noncomputable def newelref09_Fits {R : Type} : Nat → api_Shaft → Arr3_int → api_Pose → (Bool → Int → Option R) → Option R := lock (@newelref09_Fits_m R)
theorem newelref09_Fits_def {R : Type} (N : Nat) (a49 : api_Shaft) (a50 : Arr3_int) (a51 : api_Pose) (k : Bool → Int → Option R) : newelref09_Fits N a49 a50 a51 k = newelref09_Fits_m N a49 a50 a51 k := by unfold newelref09_Fits; rw [lock_eq]
def newelref09_Fits_sp : Sp := ⟨[rAgg api_ShaftC, rAgg Arr3_intC, rAgg api_PoseC], []⟩
theorem newelref09_Fits_sp_ok : newelref09_Fits_sp.Ok := ⟨(allCons (rAgg_ok api_ShaftC_ok api_ShaftC_len) (allCons (rAgg_ok Arr3_intC_ok Arr3_intC_len) (allCons (rAgg_ok api_PoseC_ok api_PoseC_len) allNil))), eNil⟩
def newelref09_Fits_rs : Sp := ⟨[rTup [rBool, rInt .i64]], []⟩
theorem newelref09_Fits_rs_ok : newelref09_Fits_rs.Ok := ⟨(allCons (rTup_ok (allCons rBool_ok (allCons (rInt_ok .i64) allNil))) allNil), eNil⟩
def newelref09_Fits_run {R : Type} (N : Nat) (args : List SV) (T : Tab) (kf : SV × Tab → Option R) : Option R :=
  newelref09_Fits_m N (Cod.dec api_ShaftC (lget (toCs (lget args 0)))) (Cod.dec Arr3_intC (lget (toCs (lget args 1)))) (Cod.dec api_PoseC (lget (toCs (lget args 2)))) (fun q0 q1 => kf (lget [.tup [.bool q0, .int .i64 q1]] 0, []))
def newelref09_Fits_lp {R : Type} (N : Nat) : Lp R := fun body S k => Option.none
noncomputable def newelref09_Fits_go {R : Type} (N : Nat) (args : List SV) (T : Tab) (kf : SV × Tab → Option R) : Option R :=
  newelref09_Fits N (Cod.dec api_ShaftC (lget (toCs (lget args 0)))) (Cod.dec Arr3_intC (lget (toCs (lget args 1)))) (Cod.dec api_PoseC (lget (toCs (lget args 2)))) (fun q0 q1 => kf (lget [.tup [.bool q0, .int .i64 q1]] 0, []))
noncomputable def newelref09_Fits_cal {R : Type} (N : Nat) : Cal R := callM (newelref09_fits_cal N) 25 0 newelref09_Fits_sp (newelref09_Fits_go N)
theorem newelref09_Fits_cal_ok {R : Type} (N : Nat) : CalOk E.P (newelref09_Fits_cal (R := R) N) :=
  callM_ok hE (newelref09_fits_cal_ok N) (lp := newelref09_Fits_lp N) (jn := noJn) (keys := []) kNil (by kernel_rfl) (js := []) jNil (by kernel_rfl) newelref09_Fits_sp_ok newelref09_Fits_rs_ok (fun args T kf => Eq.trans (newelref09_Fits_def N (Cod.dec api_ShaftC (lget (toCs (lget args 0)))) (Cod.dec Arr3_intC (lget (toCs (lget args 1)))) (Cod.dec api_PoseC (lget (toCs (lget args 2)))) (fun q0 q1 => kf (lget [.tup [.bool q0, .int .i64 q1]] 0, []))) (by kernel_rfl : newelref09_Fits_run N args T kf = fnM E (newelref09_fits_cal N) (newelref09_Fits_lp N) (noJn) 25 (newelref09_Fits_sp.vs args) (newelref09_Fits_sp.tab T) 0 (resK newelref09_Fits_rs kf)))
def shaft_begin_L3 : LoopSp := ⟨⟨[5, 15, 16, 17], ⟨(dr 5 ((rPtr 0 0) :: (dr 9 ((rSl Arr3_intC) :: (rInt .i64) :: (rInt .i64) :: (dr 11 []))))), [(0, eBlk [rInt .i64, rInt .i64, rInt .i64, rInt .i64, rInt .i64, rInt .i64, rRow 1]), (1, eMp true true Arr3_intC unitC)]⟩, 2⟩, [(some 0, ⟨[5], ⟨(dr 5 ((rPtr 0 0) :: (dr 23 []))), [(0, eBlk [rInt .i64, rInt .i64, rInt .i64, rInt .i64, rInt .i64, rInt .i64, rRow 1]), (1, eMp true true Arr3_intC unitC)]⟩, 2⟩)]⟩
theorem shaft_begin_L3_ok : shaft_begin_L3.Ok := ⟨⟨(drCons 5 (allCons (rPtr_ok 0 0) (drCons 9 (allCons (rSl_ok Arr3_intC_ok) (allCons (rInt_ok .i64) (allCons (rInt_ok .i64) (drCons 11 allNil))))))), (eCons (eBlk_ok (allCons (rInt_ok .i64) (allCons (rInt_ok .i64) (allCons (rInt_ok .i64) (allCons (rInt_ok .i64) (allCons (rInt_ok .i64) (allCons (rInt_ok .i64) (allCons (rRow_ok 1) allNil)))))))) (eCons (eMp_ok Arr3_intC_flat unitC_flat) eNil))⟩, (xCons ⟨(drCons 5 (allCons (rPtr_ok 0 0) (drCons 23 allNil))), (eCons (eBlk_ok (allCons (rInt_ok .i64) (allCons (rInt_ok .i64) (allCons (rInt_ok .i64) (allCons (rInt_ok .i64) (allCons (rInt_ok .i64) (allCons (rInt_ok .i64) (allCons (rRow_ok 1) allNil)))))))) (eCons (eMp_ok Arr3_intC_flat unitC_flat) eNil))⟩ xNil)⟩
def shaft_begin_h3 (v82 : Arr Arr3_int) (v83 : Int) (v84 : Int) (v85 : Int) (v86 : Int) (v87 : Int) (v88 : Int) (v89 : Int) (v90 : Int) (v91 : Mp Arr3_int Unit) : St := ⟨(un 5 ((.ptr 0 0) :: (un 9 ((slC Arr3_intC v82) :: (.int .i64 v83) :: (.int .i64 v84) :: (un 11 []))))), [(0, .blk [.int .i64 v85, .int .i64 v86, .int .i64 v87, .int .i64 v88, .int .i64 v89, .int .i64 v90, .row 1]), (1, mpE true true Arr3_intC unitC v91)], 2⟩
def shaft_begin_x3_0 (v85 : Int) (v86 : Int) (v87 : Int) (v88 : Int) (v89 : Int) (v90 : Int) (q6 : Mp Arr3_int Unit) : St := ⟨(un 5 ((.ptr 0 0) :: (un 23 []))), [(0, .blk [.int .i64 v85, .int .i64 v86, .int .i64 v87, .int .i64 v88, .int .i64 v89, .int .i64 v90, .row 1]), (1, mpE true true Arr3_intC unitC q6)], 2⟩
def shaft_begin_b3 {R : Type} (N : Nat) (rc : Arr Arr3_int → Int → Int → Int → Int → Int → Int → Int → Int → Mp Arr3_int Unit → Option R) (v82 : Arr Arr3_int) (v83 : Int) (v84 : Int) (v85 : Int) (v86 : Int) (v87 : Int) (v88 : Int) (v89 : Int) (v90 : Int) (v91 : Mp Arr3_int Unit) (k0 : Mp Arr3_int Unit → Option R) : Option R :=
  bif decide (v84 < v83) then
   bif decide ((0 : Int) ≤ v84) && decide (v84 < (↑(Arr.n v82) : Int)) then
    rc v82 v83 (w64 (v84 + (1 : Int))) v85 v86 v87 v88 v89 v90 (mpD Arr3_intC unitC (putH [SV.int IntKind.i64 (Arr3_int.a0 (Arr.f v82 (Int.toNat v84))), SV.int IntKind.i64 (Arr3_int.a1 (Arr.f v82 (Int.toNat v84))), SV.int IntKind.i64 (Arr3_int.a2 (Arr.f v82 (Int.toNat v84)))] (mpH Arr3_intC v91)) (putG [SV.int IntKind.i64 (Arr3_int.a0 (Arr.f v82 (Int.toNat v84))), SV.int IntKind.i64 (Arr3_int.a1 (Arr.f v82 (Int.toNat v84))), SV.int IntKind.i64 (Arr3_int.a2 (Arr.f v82 (Int.toNat v84)))] [] (mpG Arr3_intC unitC v91)))
   else
    Option.none
  else
   k0 v91
def shaft_begin_l3 {R : Type} (N : Nat) : Nat → Arr Arr3_int → Int → Int → Int → Int → Int → Int → Int → Int → Mp Arr3_int Unit → (Mp Arr3_int Unit → Option R) → Option R
  | 0, _, _, _, _, _, _, _, _, _, _, _ => Option.none
  | n + 1, v82, v83, v84, v85, v86, v87, v88, v89, v90, v91, k0 => shaft_begin_b3 N (fun v82 v83 v84 v85 v86 v87 v88 v89 v90 v91 => shaft_begin_l3 N n v82 v83 v84 v85 v86 v87 v88 v89 v90 v91 k0) v82 v83 v84 v85 v86 v87 v88 v89 v90 v91 k0
def shaft_begin_m {R : Type} (N : Nat) (a80 : api_Shaft) (a81 : Arr3_int) (k : Int → Int → Int → Int → Int → Int → Mp Arr3_int Unit → Option R) : Option R :=
  shaft_begin_l3 N N (api_Shaft.Walls a80) ((↑(Arr.n (api_Shaft.Walls a80)) : Int)) (0 : Int) (Arr3_int.a0 (api_Shaft.Size a80)) (Arr3_int.a1 (api_Shaft.Size a80)) (Arr3_int.a2 (api_Shaft.Size a80)) (Arr3_int.a0 a81) (Arr3_int.a1 a81) (Arr3_int.a2 a81) (mpD Arr3_intC unitC noH (noG CK.nil)) (fun r92 =>
   k (Arr3_int.a0 (api_Shaft.Size a80)) (Arr3_int.a1 (api_Shaft.Size a80)) (Arr3_int.a2 (api_Shaft.Size a80)) (Arr3_int.a0 a81) (Arr3_int.a1 a81) (Arr3_int.a2 a81) r92)
noncomputable def shaft_begin {R : Type} : Nat → api_Shaft → Arr3_int → (Int → Int → Int → Int → Int → Int → Mp Arr3_int Unit → Option R) → Option R := lock (@shaft_begin_m R)
theorem shaft_begin_def {R : Type} (N : Nat) (a80 : api_Shaft) (a81 : Arr3_int) (k : Int → Int → Int → Int → Int → Int → Mp Arr3_int Unit → Option R) : shaft_begin N a80 a81 k = shaft_begin_m N a80 a81 k := by unfold shaft_begin; rw [lock_eq]
def shaft_begin_sp : Sp := ⟨[rAgg api_ShaftC, rAgg Arr3_intC], []⟩
theorem shaft_begin_sp_ok : shaft_begin_sp.Ok := ⟨(allCons (rAgg_ok api_ShaftC_ok api_ShaftC_len) (allCons (rAgg_ok Arr3_intC_ok Arr3_intC_len) allNil)), eNil⟩
def shaft_begin_rs : Sp := ⟨[rPtr 0 0], [(0, eBlk [rInt .i64, rInt .i64, rInt .i64, rInt .i64, rInt .i64, rInt .i64, rRow 1]), (1, eMp true true Arr3_intC unitC)]⟩
theorem shaft_begin_rs_ok : shaft_begin_rs.Ok := ⟨(allCons (rPtr_ok 0 0) allNil), (eCons (eBlk_ok (allCons (rInt_ok .i64) (allCons (rInt_ok .i64) (allCons (rInt_ok .i64) (allCons (rInt_ok .i64) (allCons (rInt_ok .i64) (allCons (rInt_ok .i64) (allCons (rRow_ok 1) allNil)))))))) (eCons (eMp_ok Arr3_intC_flat unitC_flat) eNil))⟩
def shaft_begin_run {R : Type} (N : Nat) (args : List SV) (T : Tab) (kf : SV × Tab → Option R) : Option R :=
  shaft_begin_m N (Cod.dec api_ShaftC (lget (toCs (lget args 0)))) (Cod.dec Arr3_intC (lget (toCs (lget args 1)))) (fun q0 q1 q2 q3 q4 q5 q6 => kf (lget [.ptr 0 0] 0, [(0, .blk [.int .i64 q0, .int .i64 q1, .int .i64 q2, .int .i64 q3, .int .i64 q4, .int .i64 q5, .row 1]), (1, mpE true true Arr3_intC unitC q6)]))
def shaft_begin_d3 {R : Type} (N : Nat) (S0 : St) (k : Exit → St → Option R) : Option R :=
  shaft_begin_l3 N N (lstC Arr3_intC (lget S0.tmps 15)) (toI (lget S0.tmps 16)) (toI (lget S0.tmps 17)) (toI (lget (entCs (entAt S0.tab 0)) 0)) (toI (lget (entCs (entAt S0.tab 0)) 1)) (toI (lget (entCs (entAt S0.tab 0)) 2)) (toI (lget (entCs (entAt S0.tab 0)) 3)) (toI (lget (entCs (entAt S0.tab 0)) 4)) (toI (lget (entCs (entAt S0.tab 0)) 5)) (mpD Arr3_intC unitC (entHs (entAt S0.tab 1)) (entGt (entAt S0.tab 1))) (fun q6 => k (.exit 0) (shaft_begin_x3_0 (toI (lget (entCs (entAt S0.tab 0)) 0)) (toI (lget (entCs (entAt S0.tab 0)) 1)) (toI (lget (entCs (entAt S0.tab 0)) 2)) (toI (lget (entCs (entAt S0.tab 0)) 3)) (toI (lget (entCs (entAt S0.tab 0)) 4)) (toI (lget (entCs (entAt S0.tab 0)) 5)) q6))
def shaft_begin_lp {R : Type} (N : Nat) : Lp R := fun body S k => bif (Go.Sx.keyOf body).getD 0 == 3 then (shaft_begin_L3.head.raw 0 S (fun S0 => shaft_begin_d3 N S0 k)) else Option.none
theorem shaft_begin_l3_eq {R : Type} (N : Nat) (k : Exit → St → Option R) (n : Nat) : ∀ (v0 : Arr Arr3_int) (v1 : Int) (v2 : Int) (v3 : Int) (v4 : Int) (v5 : Int) (v6 : Int) (v7 : Int) (v8 : Int) (v9 : Mp Arr3_int Unit), loopM E.Θ (newelref09_Fits_cal N) (shaft_begin_lp N) (noJn) 0 shaft_begin_L3 (bodyAt E 45 3) n (shaft_begin_h3 v0 v1 v2 v3 v4 v5 v6 v7 v8 v9) k = shaft_begin_l3 N n v0 v1 v2 v3 v4 v5 v6 v7 v8 v9 (fun q6 => k (.exit 0) (shaft_begin_x3_0 v3 v4 v5 v6 v7 v8 q6)) := by
  induction n with
  | zero => intro v0 v1 v2 v3 v4 v5 v6 v7 v8 v9; rfl
  | succ n ih =>
    intro v0 v1 v2 v3 v4 v5 v6 v7 v8 v9
    refine Eq.trans (b := shaft_begin_b3 N (fun v0 v1 v2 v3 v4 v5 v6 v7 v8 v9 => loopM E.Θ (newelref09_Fits_cal N) (shaft_begin_lp N) (noJn) 0 shaft_begin_L3 (bodyAt E 45 3) n (shaft_begin_h3 v0 v1 v2 v3 v4 v5 v6 v7 v8 v9) k) v0 v1 v2 v3 v4 v5 v6 v7 v8 v9 (fun q6 => k (.exit 0) (shaft_begin_x3_0 v3 v4 v5 v6 v7 v8 q6))) (by kernel_rfl) ?_
    have h : (fun (v0 : Arr Arr3_int) (v1 : Int) (v2 : Int) (v3 : Int) (v4 : Int) (v5 : Int) (v6 : Int) (v7 : Int) (v8 : Int) (v9 : Mp Arr3_int Unit) => loopM E.Θ (newelref09_Fits_cal N) (shaft_begin_lp N) (noJn) 0 shaft_begin_L3 (bodyAt E 45 3) n (shaft_begin_h3 v0 v1 v2 v3 v4 v5 v6 v7 v8 v9) k) = (fun (v0 : Arr Arr3_int) (v1 : Int) (v2 : Int) (v3 : Int) (v4 : Int) (v5 : Int) (v6 : Int) (v7 : Int) (v8 : Int) (v9 : Mp Arr3_int Unit) => shaft_begin_l3 N n v0 v1 v2 v3 v4 v5 v6 v7 v8 v9 (fun q6 => k (.exit 0) (shaft_begin_x3_0 v3 v4 v5 v6 v7 v8 q6))) := funext fun v0 => funext fun v1 => funext fun v2 => funext fun v3 => funext fun v4 => funext fun v5 => funext fun v6 => funext fun v7 => funext fun v8 => funext fun v9 => ih v0 v1 v2 v3 v4 v5 v6 v7 v8 v9
    rw [h]
    rfl
theorem shaft_begin_k3 {R : Type} (N : Nat) : LpKey (R := R) E 45 0 (shaft_begin_lp N) 3 :=
  lpKey_of hE (newelref09_Fits_cal_ok N) (lp := shaft_begin_lp N) (jn := noJn) shaft_begin_L3_ok [] kNil (by kernel_rfl) [] jNil (by kernel_rfl) N fun S k =>
    Eq.trans (b := shaft_begin_L3.head.raw 0 S (fun S0 => shaft_begin_d3 N S0 k)) (by kernel_rfl) (congrArg (shaft_begin_L3.head.raw 0 S) (funext fun S0 => Eq.trans (shaft_begin_l3_eq N k N (lstC Arr3_intC (lget S0.tmps 15)) (toI (lget S0.tmps 16)) (toI (lget S0.tmps 17)) (toI (lget (entCs (entAt S0.tab 0)) 0)) (toI (lget (entCs (entAt S0.tab 0)) 1)) (toI (lget (entCs (entAt S0.tab 0)) 2)) (toI (lget (entCs (entAt S0.tab 0)) 3)) (toI (lget (entCs (entAt S0.tab 0)) 4)) (toI (lget (entCs (entAt S0.tab 0)) 5)) (mpD Arr3_intC unitC (entHs (entAt S0.tab 1)) (entGt (entAt S0.tab 1)))).symm (by kernel_rfl)))
noncomputable def shaft_begin_go {R : Type} (N : Nat) (args : List SV) (T : Tab) (kf : SV × Tab → Option R) : Option R :=
  shaft_begin N (Cod.dec api_ShaftC (lget (toCs (lget args 0)))) (Cod.dec Arr3_intC (lget (toCs (lget args 1)))) (fun q0 q1 q2 q3 q4 q5 q6 => kf (lget [.ptr 0 0] 0, [(0, .blk [.int .i64 q0, .int .i64 q1, .int .i64 q2, .int .i64 q3, .int .i64 q4, .int .i64 q5, .row 1]), (1, mpE true true Arr3_intC unitC q6)]))
noncomputable def shaft_begin_cal {R : Type} (N : Nat) : Cal R := callM (newelref09_Fits_cal N) 45 0 shaft_begin_sp (shaft_begin_go N)
theorem shaft_begin_cal_ok {R : Type} (N : Nat) : CalOk E.P (shaft_begin_cal (R := R) N) :=
  callM_ok hE (newelref09_Fits_cal_ok N) (lp := shaft_begin_lp N) (jn := noJn) (keys := [3]) (kCons (shaft_begin_k3 N) kNil) (by kernel_rfl) (js := []) jNil (by kernel_rfl) shaft_begin_sp_ok shaft_begin_rs_ok (fun args T kf => Eq.trans (shaft_begin_def N (Cod.dec api_ShaftC (lget (toCs (lget args 0)))) (Cod.dec Arr3_intC (lget (toCs (lget args 1)))) (fun q0 q1 q2 q3 q4 q5 q6 => kf (lget [.ptr 0 0] 0, [(0, .blk [.int .i64 q0, .int .i64 q1, .int .i64 q2, .int .i64 q3, .int .i64 q4, .int .i64 q5, .row 1]), (1, mpE true true Arr3_intC unitC q6)]))) (by kernel_rfl : shaft_begin_run N args T kf = fnM E (newelref09_Fits_cal N) (shaft_begin_lp N) (noJn) 45 (shaft_begin_sp.vs args) (shaft_begin_sp.tab T) 0 (resK shaft_begin_rs kf)))
def shaft_crate_long_L2 : LoopSp := ⟨⟨[0, 4, 9, 10], ⟨((rPtr 0 0) :: (dr 3 ((rPtr 2 0) :: (dr 4 ((rAgg Arr3_intC) :: (rInt .i64) :: (dr 13 [])))))), [(0, eBlk [rInt .i64, rInt .i64, rInt .i64, rInt .i64, rInt .i64, rInt .i64, rRow 1]), (1, eMp true true Arr3_intC unitC), (2, eBlkC Arr3_intC)]⟩, 3⟩, [(some 0, ⟨[4], ⟨(dr 4 ((rPtr 2 0) :: (dr 19 []))), [(0, eBlk [rInt .i64, rInt .i64, rInt .i64, rInt .i64, rInt .i64, rInt .i64, rRow 1]), (1, eMp true true Arr3_intC unitC), (2, eBlkC Arr3_intC)]⟩, 3⟩)]⟩
theorem shaft_crate_long_L2_ok : shaft_crate_long_L2.Ok := ⟨⟨(allCons (rPtr_ok 0 0) (drCons 3 (allCons (rPtr_ok 2 0) (drCons 4 (allCons (rAgg_ok Arr3_intC_ok Arr3_intC_len) (allCons (rInt_ok .i64) (drCons 13 allNil))))))), (eCons (eBlk_ok (allCons (rInt_ok .i64) (allCons (rInt_ok .i64) (allCons (rInt_ok .i64) (allCons (rInt_ok .i64) (allCons (rInt_ok .i64) (allCons (rInt_ok .i64) (allCons (rRow_ok 1) allNil)))))))) (eCons (eMp_ok Arr3_intC_flat unitC_flat) (eCons (eBlkC_ok Arr3_intC_ok Arr3_intC_len) eNil)))⟩, (xCons ⟨(drCons 4 (allCons (rPtr_ok 2 0) (drCons 19 allNil))), (eCons (eBlk_ok (allCons (rInt_ok .i64) (allCons (rInt_ok .i64) (allCons (rInt_ok .i64) (allCons (rInt_ok .i64) (allCons (rInt_ok .i64) (allCons (rInt_ok .i64) (allCons (rRow_ok 1) allNil)))))))) (eCons (eMp_ok Arr3_intC_flat unitC_flat) (eCons (eBlkC_ok Arr3_intC_ok Arr3_intC_len) eNil)))⟩ xNil)⟩
def shaft_crate_long_h2 (v116 : Arr3_int) (v117 : Int) (v118 : Int) (v119 : Int) (v120 : Int) (v121 : Int) (v122 : Int) (v123 : Int) (v124 : Mp Arr3_int Unit) (v125 : Arr3_int) : St := ⟨((.ptr 0 0) :: (un 3 ((.ptr 2 0) :: (un 4 ((.agg (Cod.enc Arr3_intC v116)) :: (.int .i64 v117) :: (un 13 [])))))), [(0, .blk [.int .i64 v118, .int .i64 v119, .int .i64 v120, .int .i64 v121, .int .i64 v122, .int .i64 v123, .row 1]), (1, mpE true true Arr3_intC unitC v124), (2, .blk (Cod.enc Arr3_intC v125))], 3⟩
def shaft_crate_long_x2_0 (v118 : Int) (v119 : Int) (v120 : Int) (v121 : Int) (v122 : Int) (v123 : Int) (v124 : Mp Arr3_int Unit) (q7 : Arr3_int) : St := ⟨(un 4 ((.ptr 2 0) :: (un 19 []))), [(0, .blk [.int .i64 v118, .int .i64 v119, .int .i64 v120, .int .i64 v121, .int .i64 v122, .int .i64 v123, .row 1]), (1, mpE true true Arr3_intC unitC v124), (2, .blk (Cod.enc Arr3_intC q7))], 3⟩
def shaft_crate_long_b2 {R : Type} (N : Nat) (rc : Arr3_int → Int → Int → Int → Int → Int → Int → Int → Mp Arr3_int Unit → Arr3_int → Option R) (v116 : Arr3_int) (v117 : Int) (v118 : Int) (v119 : Int) (v120 : Int) (v121 : Int) (v122 : Int) (v123 : Int) (v124 : Mp Arr3_int Unit) (v125 : Arr3_int) (k0 : Arr3_int → Option R) : Option R :=
  bif decide (v117 < (3 : Int)) then
   bif decide ((0 : Int) ≤ v117) && decide (v117 < (↑(3 : Nat) : Int)) then
    bif decide ((0 : Int) ≤ pickI v117 (0 : Nat) [Arr3_int.a0 v116, Arr3_int.a1 v116, Arr3_int.a2 v116]) && decide (pickI v117 (0 : Nat) [Arr3_int.a0 v116, Arr3_int.a1 v116, Arr3_int.a2 v116] < (↑(3 : Nat) : Int)) then
     bif decide ((0 : Int) ≤ v117) && decide (v117 < (↑(3 : Nat) : Int)) then
      rc v116 (w64 (v117 + (1 : Int))) v118 v119 v120 v121 v122 v123 v124 (Arr3_int.mk (bif v117 == (↑(0 : Nat) : Int) then pickI (pickI v117 (0 : Nat) [Arr3_int.a0 v116, Arr3_int.a1 v116, Arr3_int.a2 v116]) (0 : Nat) [v121, v122, v123] else Arr3_int.a0 v125) (bif v117 == (↑((0 : Nat) + (1 : Nat)) : Int) then pickI (pickI v117 (0 : Nat) [Arr3_int.a0 v116, Arr3_int.a1 v116, Arr3_int.a2 v116]) (0 : Nat) [v121, v122, v123] else Arr3_int.a1 v125) (bif v117 == (↑((0 : Nat) + (1 : Nat) + (1 : Nat)) : Int) then pickI (pickI v117 (0 : Nat) [Arr3_int.a0 v116, Arr3_int.a1 v116, Arr3_int.a2 v116]) (0 : Nat) [v121, v122, v123] else Arr3_int.a2 v125))
     else
      Option.none
    else
     Option.none
   else
    Option.none
  else
   k0 v125
def shaft_crate_long_l2 {R : Type} (N : Nat) : Nat → Arr3_int → Int → Int → Int → Int → Int → Int → Int → Mp Arr3_int Unit → Arr3_int → (Arr3_int → Option R) → Option R
  | 0, _, _, _, _, _, _, _, _, _, _, _ => Option.none
  | n + 1, v116, v117, v118, v119, v120, v121, v122, v123, v124, v125, k0 => shaft_crate_long_b2 N (fun v116 v117 v118 v119 v120 v121 v122 v123 v124 v125 => shaft_crate_long_l2 N n v116 v117 v118 v119 v120 v121 v122 v123 v124 v125 k0) v116 v117 v118 v119 v120 v121 v122 v123 v124 v125 k0
def shaft_crate_long_m {R : Type} (N : Nat) (a108 : Int) (a109 : Int) (a110 : Int) (a111 : Int) (a112 : Int) (a113 : Int) (a114 : Int) (a115 : Mp Arr3_int Unit) (k : Arr3_int → Option R) : Option R :=
  bif decide ((0 : Int) ≤ a108) && decide (a108 < (↑(6 : Nat) : Int)) then
   shaft_crate_long_l2 N N (Arr3_int.mk (pickI a108 (0 : Nat) [(0 : Int), (0 : Int), (1 : Int), (1 : Int), (2 : Int), (2 : Int)]) (pickI a108 (0 : Nat) [(1 : Int), (2 : Int), (0 : Int), (2 : Int), (0 : Int), (1 : Int)]) (pickI a108 (0 : Nat) [(2 : Int), (1 : Int), (2 : Int), (0 : Int), (1 : Int), (0 : Int)])) (0 : Int) a109 a110 a111 a112 a113 a114 a115 (Arr3_int.mk (0 : Int) (0 : Int) (0 : Int)) (fun r126 =>
    k r126)
  else
   Option.none
noncomputable def shaft_crate_long {R : Type} : Nat → Int → Int → Int → Int → Int → Int → Int → Mp Arr3_int Unit → (Arr3_int → Option R) → Option R := lock (@shaft_crate_long_m R)
theorem shaft_crate_long_def {R : Type} (N : Nat) (a108 : Int) (a109 : Int) (a110 : Int) (a111 : Int) (a112 : Int) (a113 : Int) (a114 : Int) (a115 : Mp Arr3_int Unit) (k : Arr3_int → Option R) : shaft_crate_long N a108 a109 a110 a111 a112 a113 a114 a115 k = shaft_crate_long_m N a108 a109 a110 a111 a112 a113 a114 a115 k := by unfold shaft_crate_long; rw [lock_eq]
def shaft_crate_long_sp : Sp := ⟨[rPtr 0 0, rInt .i64], [(0, eBlk [rInt .i64, rInt .i64, rInt .i64, rInt .i64, rInt .i64, rInt .i64, rRow 1]), (1, eMp true true Arr3_intC unitC)]⟩
theorem shaft_crate_long_sp_ok : shaft_crate_long_sp.Ok := ⟨(allCons (rPtr_ok 0 0) (allCons (rInt_ok .i64) allNil)), (eCons (eBlk_ok (allCons (rInt_ok .i64) (allCons (rInt_ok .i64) (allCons (rInt_ok .i64) (allCons (rInt_ok .i64) (allCons (rInt_ok .i64) (allCons (rInt_ok .i64) (allCons (rRow_ok 1) allNil)))))))) (eCons (eMp_ok Arr3_intC_flat unitC_flat) eNil))⟩
def shaft_crate_long_rs : Sp := ⟨[rAgg Arr3_intC], [(0, eBlk [rInt .i64, rInt .i64, rInt .i64, rInt .i64, rInt .i64, rInt .i64, rRow 1]), (1, eMp true true Arr3_intC unitC)]⟩
theorem shaft_crate_long_rs_ok : shaft_crate_long_rs.Ok := ⟨(allCons (rAgg_ok Arr3_intC_ok Arr3_intC_len) allNil), (eCons (eBlk_ok (allCons (rInt_ok .i64) (allCons (rInt_ok .i64) (allCons (rInt_ok .i64) (allCons (rInt_ok .i64) (allCons (rInt_ok .i64) (allCons (rInt_ok .i64) (allCons (rRow_ok 1) allNil)))))))) (eCons (eMp_ok Arr3_intC_flat unitC_flat) eNil))⟩
def shaft_crate_long_run {R : Type} (N : Nat) (args : List SV) (T : Tab) (kf : SV × Tab → Option R) : Option R :=
  shaft_crate_long_m N (toI (lget args 1)) (toI (lget (entCs (entAt T 0)) 0)) (toI (lget (entCs (entAt T 0)) 1)) (toI (lget (entCs (entAt T 0)) 2)) (toI (lget (entCs (entAt T 0)) 3)) (toI (lget (entCs (entAt T 0)) 4)) (toI (lget (entCs (entAt T 0)) 5)) (mpD Arr3_intC unitC (entHs (entAt T 1)) (entGt (entAt T 1))) (fun q0 => kf (lget [.agg (Cod.enc Arr3_intC q0)] 0, [(0, .blk [.int .i64 (toI (lget (entCs (entAt T 0)) 0)), .int .i64 (toI (lget (entCs (entAt T 0)) 1)), .int .i64 (toI (lget (entCs (entAt T 0)) 2)), .int .i64 (toI (lget (entCs (entAt T 0)) 3)), .int .i64 (toI (lget (entCs (entAt T 0)) 4)), .int .i64 (toI (lget (entCs (entAt T 0)) 5)), .row 1]), (1, mpE true true Arr3_intC unitC (mpD Arr3_intC unitC (entHs (entAt T 1)) (entGt (entAt T 1))))]))
def shaft_crate_long_d2 {R : Type} (N : Nat) (S0 : St) (k : Exit → St → Option R) : Option R :=
  shaft_crate_long_l2 N N (Cod.dec Arr3_intC (lget (toCs (lget S0.tmps 9)))) (toI (lget S0.tmps 10)) (toI (lget (entCs (entAt S0.tab 0)) 0)) (toI (lget (entCs (entAt S0.tab 0)) 1)) (toI (lget (entCs (entAt S0.tab 0)) 2)) (toI (lget (entCs (entAt S0.tab 0)) 3)) (toI (lget (entCs (entAt S0.tab 0)) 4)) (toI (lget (entCs (entAt S0.tab 0)) 5)) (mpD Arr3_intC unitC (entHs (entAt S0.tab 1)) (entGt (entAt S0.tab 1))) (Cod.dec Arr3_intC (lget (entCs (entAt S0.tab 2)))) (fun q7 => k (.exit 0) (shaft_crate_long_x2_0 (toI (lget (entCs (entAt S0.tab 0)) 0)) (toI (lget (entCs (entAt S0.tab 0)) 1)) (toI (lget (entCs (entAt S0.tab 0)) 2)) (toI (lget (entCs (entAt S0.tab 0)) 3)) (toI (lget (entCs (entAt S0.tab 0)) 4)) (toI (lget (entCs (entAt S0.tab 0)) 5)) (mpD Arr3_intC unitC (entHs (entAt S0.tab 1)) (entGt (entAt S0.tab 1))) q7))
def shaft_crate_long_lp {R : Type} (N : Nat) : Lp R := fun body S k => bif (Go.Sx.keyOf body).getD 0 == 2 then (shaft_crate_long_L2.head.raw 2 S (fun S0 => shaft_crate_long_d2 N S0 k)) else Option.none
theorem shaft_crate_long_l2_eq {R : Type} (N : Nat) (k : Exit → St → Option R) (n : Nat) : ∀ (v0 : Arr3_int) (v1 : Int) (v2 : Int) (v3 : Int) (v4 : Int) (v5 : Int) (v6 : Int) (v7 : Int) (v8 : Mp Arr3_int Unit) (v9 : Arr3_int), loopM E.Θ (shaft_begin_cal N) (shaft_crate_long_lp N) (noJn) 2 shaft_crate_long_L2 (bodyAt E 67 2) n (shaft_crate_long_h2 v0 v1 v2 v3 v4 v5 v6 v7 v8 v9) k = shaft_crate_long_l2 N n v0 v1 v2 v3 v4 v5 v6 v7 v8 v9 (fun q7 => k (.exit 0) (shaft_crate_long_x2_0 v2 v3 v4 v5 v6 v7 v8 q7)) := by
  induction n with
  | zero => intro v0 v1 v2 v3 v4 v5 v6 v7 v8 v9; rfl
  | succ n ih =>
    intro v0 v1 v2 v3 v4 v5 v6 v7 v8 v9
    refine Eq.trans (b := shaft_crate_long_b2 N (fun v0 v1 v2 v3 v4 v5 v6 v7 v8 v9 => loopM E.Θ (shaft_begin_cal N) (shaft_crate_long_lp N) (noJn) 2 shaft_crate_long_L2 (bodyAt E 67 2) n (shaft_crate_long_h2 v0 v1 v2 v3 v4 v5 v6 v7 v8 v9) k) v0 v1 v2 v3 v4 v5 v6 v7 v8 v9 (fun q7 => k (.exit 0) (shaft_crate_long_x2_0 v2 v3 v4 v5 v6 v7 v8 q7))) (by kernel_rfl) ?_
    have h : (fun (v0 : Arr3_int) (v1 : Int) (v2 : Int) (v3 : Int) (v4 : Int) (v5 : Int) (v6 : Int) (v7 : Int) (v8 : Mp Arr3_int Unit) (v9 : Arr3_int) => loopM E.Θ (shaft_begin_cal N) (shaft_crate_long_lp N) (noJn) 2 shaft_crate_long_L2 (bodyAt E 67 2) n (shaft_crate_long_h2 v0 v1 v2 v3 v4 v5 v6 v7 v8 v9) k) = (fun (v0 : Arr3_int) (v1 : Int) (v2 : Int) (v3 : Int) (v4 : Int) (v5 : Int) (v6 : Int) (v7 : Int) (v8 : Mp Arr3_int Unit) (v9 : Arr3_int) => shaft_crate_long_l2 N n v0 v1 v2 v3 v4 v5 v6 v7 v8 v9 (fun q7 => k (.exit 0) (shaft_crate_long_x2_0 v2 v3 v4 v5 v6 v7 v8 q7))) := funext fun v0 => funext fun v1 => funext fun v2 => funext fun v3 => funext fun v4 => funext fun v5 => funext fun v6 => funext fun v7 => funext fun v8 => funext fun v9 => ih v0 v1 v2 v3 v4 v5 v6 v7 v8 v9
    rw [h]
    rfl
theorem shaft_crate_long_k2 {R : Type} (N : Nat) : LpKey (R := R) E 67 2 (shaft_crate_long_lp N) 2 :=
  lpKey_of hE (shaft_begin_cal_ok N) (lp := shaft_crate_long_lp N) (jn := noJn) shaft_crate_long_L2_ok [] kNil (by kernel_rfl) [] jNil (by kernel_rfl) N fun S k =>
    Eq.trans (b := shaft_crate_long_L2.head.raw 2 S (fun S0 => shaft_crate_long_d2 N S0 k)) (by kernel_rfl) (congrArg (shaft_crate_long_L2.head.raw 2 S) (funext fun S0 => Eq.trans (shaft_crate_long_l2_eq N k N (Cod.dec Arr3_intC (lget (toCs (lget S0.tmps 9)))) (toI (lget S0.tmps 10)) (toI (lget (entCs (entAt S0.tab 0)) 0)) (toI (lget (entCs (entAt S0.tab 0)) 1)) (toI (lget (entCs (entAt S0.tab 0)) 2)) (toI (lget (entCs (entAt S0.tab 0)) 3)) (toI (lget (entCs (entAt S0.tab 0)) 4)) (toI (lget (entCs (entAt S0.tab 0)) 5)) (mpD Arr3_intC unitC (entHs (entAt S0.tab 1)) (entGt (entAt S0.tab 1))) (Cod.dec Arr3_intC (lget (entCs (entAt S0.tab 2))))).symm (by kernel_rfl)))
noncomputable def shaft_crate_long_go {R : Type} (N : Nat) (args : List SV) (T : Tab) (kf : SV × Tab → Option R) : Option R :=
  shaft_crate_long N (toI (lget args 1)) (toI (lget (entCs (entAt T 0)) 0)) (toI (lget (entCs (entAt T 0)) 1)) (toI (lget (entCs (entAt T 0)) 2)) (toI (lget (entCs (entAt T 0)) 3)) (toI (lget (entCs (entAt T 0)) 4)) (toI (lget (entCs (entAt T 0)) 5)) (mpD Arr3_intC unitC (entHs (entAt T 1)) (entGt (entAt T 1))) (fun q0 => kf (lget [.agg (Cod.enc Arr3_intC q0)] 0, [(0, .blk [.int .i64 (toI (lget (entCs (entAt T 0)) 0)), .int .i64 (toI (lget (entCs (entAt T 0)) 1)), .int .i64 (toI (lget (entCs (entAt T 0)) 2)), .int .i64 (toI (lget (entCs (entAt T 0)) 3)), .int .i64 (toI (lget (entCs (entAt T 0)) 4)), .int .i64 (toI (lget (entCs (entAt T 0)) 5)), .row 1]), (1, mpE true true Arr3_intC unitC (mpD Arr3_intC unitC (entHs (entAt T 1)) (entGt (entAt T 1))))]))
noncomputable def shaft_crate_long_cal {R : Type} (N : Nat) : Cal R := callM (shaft_begin_cal N) 67 2 shaft_crate_long_sp (shaft_crate_long_go N)
theorem shaft_crate_long_cal_ok {R : Type} (N : Nat) : CalOk E.P (shaft_crate_long_cal (R := R) N) :=
  callM_ok hE (shaft_begin_cal_ok N) (lp := shaft_crate_long_lp N) (jn := noJn) (keys := [2]) (kCons (shaft_crate_long_k2 N) kNil) (by kernel_rfl) (js := []) jNil (by kernel_rfl) shaft_crate_long_sp_ok shaft_crate_long_rs_ok (fun args T kf => Eq.trans (shaft_crate_long_def N (toI (lget args 1)) (toI (lget (entCs (entAt T 0)) 0)) (toI (lget (entCs (entAt T 0)) 1)) (toI (lget (entCs (entAt T 0)) 2)) (toI (lget (entCs (entAt T 0)) 3)) (toI (lget (entCs (entAt T 0)) 4)) (toI (lget (entCs (entAt T 0)) 5)) (mpD Arr3_intC unitC (entHs (entAt T 1)) (entGt (entAt T 1))) (fun q0 => kf (lget [.agg (Cod.enc Arr3_intC q0)] 0, [(0, .blk [.int .i64 (toI (lget (entCs (entAt T 0)) 0)), .int .i64 (toI (lget (entCs (entAt T 0)) 1)), .int .i64 (toI (lget (entCs (entAt T 0)) 2)), .int .i64 (toI (lget (entCs (entAt T 0)) 3)), .int .i64 (toI (lget (entCs (entAt T 0)) 4)), .int .i64 (toI (lget (entCs (entAt T 0)) 5)), .row 1]), (1, mpE true true Arr3_intC unitC (mpD Arr3_intC unitC (entHs (entAt T 1)) (entGt (entAt T 1))))]))) (by kernel_rfl : shaft_crate_long_run N args T kf = fnM E (shaft_begin_cal N) (shaft_crate_long_lp N) (noJn) 67 (shaft_crate_long_sp.vs args) (shaft_crate_long_sp.tab T) 2 (resK shaft_crate_long_rs kf)))
def shaft_crate_free_L2 : LoopSp := ⟨⟨[0, 4, 5, 13], ⟨((rPtr 0 0) :: (dr 3 ((rPtr 2 0) :: (rPtr 3 0) :: (dr 7 ((rInt .i64) :: (dr 69 [])))))), [(0, eBlk [rInt .i64, rInt .i64, rInt .i64, rInt .i64, rInt .i64, rInt .i64, rRow 1]), (1, eMp true true Arr3_intC unitC), (2, eBlkC Arr3_intC), (3, eBlkC Arr3_intC)]⟩, 4⟩, [(Option.none, ⟨[6], ⟨(dr 6 ((rBool) :: (dr 76 []))), [(0, eBlk [rInt .i64, rInt .i64, rInt .i64, rInt .i64, rInt .i64, rInt .i64, rRow 1]), (1, eMp true true Arr3_intC unitC)]⟩, 2⟩), (some 0, ⟨[0, 4, 5], ⟨((rPtr 0 0) :: (dr 3 ((rPtr 2 0) :: (rPtr 3 0) :: (dr 77 [])))), [(0, eBlk [rInt .i64, rInt .i64, rInt .i64, rInt .i64, rInt .i64, rInt .i64, rRow 1]), (1, eMp true true Arr3_intC unitC), (2, eBlkC Arr3_intC), (3, eBlkC Arr3_intC)]⟩, 4⟩)]⟩
theorem shaft_crate_free_L2_ok : shaft_crate_free_L2.Ok := ⟨⟨(allCons (rPtr_ok 0 0) (drCons 3 (allCons (rPtr_ok 2 0) (allCons (rPtr_ok 3 0) (drCons 7 (allCons (rInt_ok .i64) (drCons 69 allNil))))))), (eCons (eBlk_ok (allCons (rInt_ok .i64) (allCons (rInt_ok .i64) (allCons (rInt_ok .i64) (allCons (rInt_ok .i64) (allCons (rInt_ok .i64) (allCons (rInt_ok .i64) (allCons (rRow_ok 1) allNil)))))))) (eCons (eMp_ok Arr3_intC_flat unitC_flat) (eCons (eBlkC_ok Arr3_intC_ok Arr3_intC_len) (eCons (eBlkC_ok Arr3_intC_ok Arr3_intC_len) eNil))))⟩, (xCons ⟨(drCons 6 (allCons rBool_ok (drCons 76 allNil))), (eCons (eBlk_ok (allCons (rInt_ok .i64) (allCons (rInt_ok .i64) (allCons (rInt_ok .i64) (allCons (rInt_ok .i64) (allCons (rInt_ok .i64) (allCons (rInt_ok .i64) (allCons (rRow_ok 1) allNil)))))))) (eCons (eMp_ok Arr3_intC_flat unitC_flat) eNil))⟩ (xCons ⟨(allCons (rPtr_ok 0 0) (drCons 3 (allCons (rPtr_ok 2 0) (allCons (rPtr_ok 3 0) (drCons 77 allNil))))), (eCons (eBlk_ok (allCons (rInt_ok .i64) (allCons (rInt_ok .i64) (allCons (rInt_ok .i64) (allCons (rInt_ok .i64) (allCons (rInt_ok .i64) (allCons (rInt_ok .i64) (allCons (rRow_ok 1) allNil)))))))) (eCons (eMp_ok Arr3_intC_flat unitC_flat) (eCons (eBlkC_ok Arr3_intC_ok Arr3_intC_len) (eCons (eBlkC_ok Arr3_intC_ok Arr3_intC_len) eNil))))⟩ xNil))⟩
def shaft_crate_free_h2 (v137 : Int) (v138 : Int) (v139 : Int) (v140 : Int) (v141 : Int) (v142 : Int) (v143 : Int) (v144 : Mp Arr3_int Unit) (v145 : Arr3_int) (v146 : Arr3_int) : St := ⟨((.ptr 0 0) :: (un 3 ((.ptr 2 0) :: (.ptr 3 0) :: (un 7 ((.int .i64 v137) :: (un 69 [])))))), [(0, .blk [.int .i64 v138, .int .i64 v139, .int .i64 v140, .int .i64 v141, .int .i64 v142, .int .i64 v143, .row 1]), (1, mpE true true Arr3_intC unitC v144), (2, .blk (Cod.enc Arr3_intC v145)), (3, .blk (Cod.enc Arr3_intC v146))], 4⟩
def shaft_crate_free_x2_r (v138 : Int) (v139 : Int) (v140 : Int) (v141 : Int) (v142 : Int) (v143 : Int) (v144 : Mp Arr3_int Unit) (q0 : Bool) : St := ⟨(un 6 ((.bool q0) :: (un 76 []))), [(0, .blk [.int .i64 v138, .int .i64 v139, .int .i64 v140, .int .i64 v141, .int .i64 v142, .int .i64 v143, .row 1]), (1, mpE true true Arr3_intC unitC v144)], 2⟩
def shaft_crate_free_x2_0 (v138 : Int) (v139 : Int) (v140 : Int) (v141 : Int) (v142 : Int) (v143 : Int) (v144 : Mp Arr3_int Unit) (v145 : Arr3_int) (v146 : Arr3_int) : St := ⟨((.ptr 0 0) :: (un 3 ((.ptr 2 0) :: (.ptr 3 0) :: (un 77 [])))), [(0, .blk [.int .i64 v138, .int .i64 v139, .int .i64 v140, .int .i64 v141, .int .i64 v142, .int .i64 v143, .row 1]), (1, mpE true true Arr3_intC unitC v144), (2, .blk (Cod.enc Arr3_intC v145)), (3, .blk (Cod.enc Arr3_intC v146))], 4⟩
def shaft_crate_free_b2 {R : Type} (N : Nat) (rc : Int → Int → Int → Int → Int → Int → Int → Mp Arr3_int Unit → Arr3_int → Arr3_int → Option R) (v137 : Int) (v138 : Int) (v139 : Int) (v140 : Int) (v141 : Int) (v142 : Int) (v143 : Int) (v144 : Mp Arr3_int Unit) (v145 : Arr3_int) (v146 : Arr3_int) (kr : Bool → Option R) (k0 : Unit → Option R) : Option R :=
  bif decide (v137 < (3 : Int)) then
   bif decide ((0 : Int) ≤ v137) && decide (v137 < (↑(3 : Nat) : Int)) then
    bif decide (pickI v137 (0 : Nat) [Arr3_int.a0 v145, Arr3_int.a1 v145, Arr3_int.a2 v145] < (0 : Int)) then
     kr false
    else
     bif decide ((0 : Int) ≤ v137) && decide (v137 < (↑(3 : Nat) : Int)) then
      bif decide ((0 : Int) ≤ v137) && decide (v137 < (↑(3 : Nat) : Int)) then
       bif decide ((0 : Int) ≤ v137) && decide (v137 < (↑(3 : Nat) : Int)) then
        bif decide (pickI v137 (0 : Nat) [Arr3_int.a0 v145, Arr3_int.a1 v145, Arr3_int.a2 v145] > w64 (pickI v137 (0 : Nat) [v138, v139, v140] - pickI v137 (0 : Nat) [Arr3_int.a0 v146, Arr3_int.a1 v146, Arr3_int.a2 v146])) then
         kr false
        else
         rc (w64 (v137 + (1 : Int))) v138 v139 v140 v141 v142 v143 v144 v145 v146
       else
        Option.none
      else
       Option.none
     else
      Option.none
   else
    Option.none
  else
   k0 ()
def shaft_crate_free_l2 {R : Type} (N : Nat) : Nat → Int → Int → Int → Int → Int → Int → Int → Mp Arr3_int Unit → Arr3_int → Arr3_int → (Bool → Option R) → (Unit → Option R) → Option R
  | 0, _, _, _, _, _, _, _, _, _, _, _, _ => Option.none
  | n + 1, v137, v138, v139, v140, v141, v142, v143, v144, v145, v146, kr, k0 => shaft_crate_free_b2 N (fun v137 v138 v139 v140 v141 v142 v143 v144 v145 v146 => shaft_crate_free_l2 N n v137 v138 v139 v140 v141 v142 v143 v144 v145 v146 kr k0) v137 v138 v139 v140 v141 v142 v143 v144 v145 v146 kr k0
def shaft_crate_free_L14 : LoopSp := ⟨⟨[0, 4, 5, 8, 9, 10], ⟨((rPtr 0 0) :: (dr 3 ((rPtr 2 0) :: (rPtr 3 0) :: (dr 2 ((rInt .i64) :: (rInt .i64) :: (rInt .i64) :: (dr 72 [])))))), [(0, eBlk [rInt .i64, rInt .i64, rInt .i64, rInt .i64, rInt .i64, rInt .i64, rRow 1]), (1, eMp true true Arr3_intC unitC), (2, eBlkC Arr3_intC), (3, eBlkC Arr3_intC)]⟩, 4⟩, [(Option.none, ⟨[6], ⟨(dr 6 ((rBool) :: (dr 76 []))), [(0, eBlk [rInt .i64, rInt .i64, rInt .i64, rInt .i64, rInt .i64, rInt .i64, rRow 1]), (1, eMp true true Arr3_intC unitC)]⟩, 2⟩), (some 6, ⟨[0, 4, 5, 8, 9], ⟨((rPtr 0 0) :: (dr 3 ((rPtr 2 0) :: (rPtr 3 0) :: (dr 2 ((rInt .i64) :: (rInt .i64) :: (dr 73 [])))))), [(0, eBlk [rInt .i64, rInt .i64, rInt .i64, rInt .i64, rInt .i64, rInt .i64, rRow 1]), (1, eMp true true Arr3_intC unitC), (2, eBlkC Arr3_intC), (3, eBlkC Arr3_intC)]⟩, 4⟩)]⟩
theorem shaft_crate_free_L14_ok : shaft_crate_free_L14.Ok := ⟨⟨(allCons (rPtr_ok 0 0) (drCons 3 (allCons (rPtr_ok 2 0) (allCons (rPtr_ok 3 0) (drCons 2 (allCons (rInt_ok .i64) (allCons (rInt_ok .i64) (allCons (rInt_ok .i64) (drCons 72 allNil))))))))), (eCons (eBlk_ok (allCons (rInt_ok .i64) (allCons (rInt_ok .i64) (allCons (rInt_ok .i64) (allCons (rInt_ok .i64) (allCons (rInt_ok .i64) (allCons (rInt_ok .i64) (allCons (rRow_ok 1) allNil)))))))) (eCons (eMp_ok Arr3_intC_flat unitC_flat) (eCons (eBlkC_ok Arr3_intC_ok Arr3_intC_len) (eCons (eBlkC_ok Arr3_intC_ok Arr3_intC_len) eNil))))⟩, (xCons ⟨(drCons 6 (allCons rBool_ok (drCons 76 allNil))), (eCons (eBlk_ok (allCons (rInt_ok .i64) (allCons (rInt_ok .i64) (allCons (rInt_ok .i64) (allCons (rInt_ok .i64) (allCons (rInt_ok .i64) (allCons (rInt_ok .i64) (allCons (rRow_ok 1) allNil)))))))) (eCons (eMp_ok Arr3_intC_flat unitC_flat) eNil))⟩ (xCons ⟨(allCons (rPtr_ok 0 0) (drCons 3 (allCons (rPtr_ok 2 0) (allCons (rPtr_ok 3 0) (drCons 2 (allCons (rInt_ok .i64) (allCons (rInt_ok .i64) (drCons 73 allNil)))))))), (eCons (eBlk_ok (allCons (rInt_ok .i64) (allCons (rInt_ok .i64) (allCons (rInt_ok .i64) (allCons (rInt_ok .i64) (allCons (rInt_ok .i64) (allCons (rInt_ok .i64) (allCons (rRow_ok 1) allNil)))))))) (eCons (eMp_ok Arr3_intC_flat unitC_flat) (eCons (eBlkC_ok Arr3_intC_ok Arr3_intC_len) (eCons (eBlkC_ok Arr3_intC_ok Arr3_intC_len) eNil))))⟩ xNil))⟩
def shaft_crate_free_h14 (v169 : Int) (v170 : Int) (v171 : Int) (v172 : Int) (v173 : Int) (v174 : Int) (v175 : Int) (v176 : Int) (v177 : Int) (v178 : Mp Arr3_int Unit) (v179 : Arr3_int) (v180 : Arr3_int) : St := ⟨((.ptr 0 0) :: (un 3 ((.ptr 2 0) :: (.ptr 3 0) :: (un 2 ((.int .i64 v169) :: (.int .i64 v170) :: (.int .i64 v171) :: (un 72 [])))))), [(0, .blk [.int .i64 v172, .int .i64 v173, .int .i64 v174, .int .i64 v175, .int .i64 v176, .int .i64 v177, .row 1]), (1, mpE true true Arr3_intC unitC v178), (2, .blk (Cod.enc Arr3_intC v179)), (3, .blk (Cod.enc Arr3_intC v180))], 4⟩
def shaft_crate_free_x14_r (v172 : Int) (v173 : Int) (v174 : Int) (v175 : Int) (v176 : Int) (v177 : Int) (v178 : Mp Arr3_int Unit) (q0 : Bool) : St := ⟨(un 6 ((.bool q0) :: (un 76 []))), [(0, .blk [.int .i64 v172, .int .i64 v173, .int .i64 v174, .int .i64 v175, .int .i64 v176, .int .i64 v177, .row 1]), (1, mpE true true Arr3_intC unitC v178)], 2⟩
def shaft_crate_free_x14_6 (v169 : Int) (v170 : Int) (v172 : Int) (v173 : Int) (v174 : Int) (v175 : Int) (v176 : Int) (v177 : Int) (v178 : Mp Arr3_int Unit) (v179 : Arr3_int) (v180 : Arr3_int) : St := ⟨((.ptr 0 0) :: (un 3 ((.ptr 2 0) :: (.ptr 3 0) :: (un 2 ((.int .i64 v169) :: (.int .i64 v170) :: (un 73 [])))))), [(0, .blk [.int .i64 v172, .int .i64 v173, .int .i64 v174, .int .i64 v175, .int .i64 v176, .int .i64 v177, .row 1]), (1, mpE true true Arr3_intC unitC v178), (2, .blk (Cod.enc Arr3_intC v179)), (3, .blk (Cod.enc Arr3_intC v180))], 4⟩
def shaft_crate_free_b14 {R : Type} (N : Nat) (rc : Int → Int → Int → Int → Int → Int → Int → Int → Int → Mp Arr3_int Unit → Arr3_int → Arr3_int → Option R) (v169 : Int) (v170 : Int) (v171 : Int) (v172 : Int) (v173 : Int) (v174 : Int) (v175 : Int) (v176 : Int) (v177 : Int) (v178 : Mp Arr3_int Unit) (v179 : Arr3_int) (v180 : Arr3_int) (kr : Bool → Option R) (k6 : Unit → Option R) : Option R :=
  bif decide (v171 < w64 (Arr3_int.a2 v179 + Arr3_int.a2 v180)) then
   bif Mp.has v178 (Arr3_int.mk v169 v170 v171) then
    kr false
   else
    rc v169 v170 (w64 (v171 + (1 : Int))) v172 v173 v174 v175 v176 v177 v178 v179 v180
  else
   k6 ()
def shaft_crate_free_l14 {R : Type} (N : Nat) : Nat → Int → Int → Int → Int → Int → Int → Int → Int → Int → Mp Arr3_int Unit → Arr3_int → Arr3_int → (Bool → Option R) → (Unit → Option R) → Option R
  | 0, _, _, _, _, _, _, _, _, _, _, _, _, _, _ => Option.none
  | n + 1, v169, v170, v171, v172, v173, v174, v175, v176, v177, v178, v179, v180, kr, k6 => shaft_crate_free_b14 N (fun v169 v170 v171 v172 v173 v174 v175 v176 v177 v178 v179 v180 => shaft_crate_free_l14 N n v169 v170 v171 v172 v173 v174 v175 v176 v177 v178 v179 v180 kr k6) v169 v170 v171 v172 v173 v174 v175 v176 v177 v178 v179 v180 kr k6
def shaft_crate_free_L11 : LoopSp := ⟨⟨[0, 4, 5, 8, 9], ⟨((rPtr 0 0) :: (dr 3 ((rPtr 2 0) :: (rPtr 3 0) :: (dr 2 ((rInt .i64) :: (rInt .i64) :: (dr 73 [])))))), [(0, eBlk [rInt .i64, rInt .i64, rInt .i64, rInt .i64, rInt .i64, rInt .i64, rRow 1]), (1, eMp true true Arr3_intC unitC), (2, eBlkC Arr3_intC), (3, eBlkC Arr3_intC)]⟩, 4⟩, [(Option.none, ⟨[6], ⟨(dr 6 ((rBool) :: (dr 76 []))), [(0, eBlk [rInt .i64, rInt .i64, rInt .i64, rInt .i64, rInt .i64, rInt .i64, rRow 1]), (1, eMp true true Arr3_intC unitC)]⟩, 2⟩), (some 4, ⟨[0, 4, 5, 8], ⟨((rPtr 0 0) :: (dr 3 ((rPtr 2 0) :: (rPtr 3 0) :: (dr 2 ((rInt .i64) :: (dr 74 [])))))), [(0, eBlk [rInt .i64, rInt .i64, rInt .i64, rInt .i64, rInt .i64, rInt .i64, rRow 1]), (1, eMp true true Arr3_intC unitC), (2, eBlkC Arr3_intC), (3, eBlkC Arr3_intC)]⟩, 4⟩)]⟩
theorem shaft_crate_free_L11_ok : shaft_crate_free_L11.Ok := ⟨⟨(allCons (rPtr_ok 0 0) (drCons 3 (allCons (rPtr_ok 2 0) (allCons (rPtr_ok 3 0) (drCons 2 (allCons (rInt_ok .i64) (allCons (rInt_ok .i64) (drCons 73 allNil)))))))), (eCons (eBlk_ok (allCons (rInt_ok .i64) (allCons (rInt_ok .i64) (allCons (rInt_ok .i64) (allCons (rInt_ok .i64) (allCons (rInt_ok .i64) (allCons (rInt_ok .i64) (allCons (rRow_ok 1) allNil)))))))) (eCons (eMp_ok Arr3_intC_flat unitC_flat) (eCons (eBlkC_ok Arr3_intC_ok Arr3_intC_len) (eCons (eBlkC_ok Arr3_intC_ok Arr3_intC_len) eNil))))⟩, (xCons ⟨(drCons 6 (allCons rBool_ok (drCons 76 allNil))), (eCons (eBlk_ok (allCons (rInt_ok .i64) (allCons (rInt_ok .i64) (allCons (rInt_ok .i64) (allCons (rInt_ok .i64) (allCons (rInt_ok .i64) (allCons (rInt_ok .i64) (allCons (rRow_ok 1) allNil)))))))) (eCons (eMp_ok Arr3_intC_flat unitC_flat) eNil))⟩ (xCons ⟨(allCons (rPtr_ok 0 0) (drCons 3 (allCons (rPtr_ok 2 0) (allCons (rPtr_ok 3 0) (drCons 2 (allCons (rInt_ok .i64) (drCons 74 allNil))))))), (eCons (eBlk_ok (allCons (rInt_ok .i64) (allCons (rInt_ok .i64) (allCons (rInt_ok .i64) (allCons (rInt_ok .i64) (allCons (rInt_ok .i64) (allCons (rInt_ok .i64) (allCons (rRow_ok 1) allNil)))))))) (eCons (eMp_ok Arr3_intC_flat unitC_flat) (eCons (eBlkC_ok Arr3_intC_ok Arr3_intC_len) (eCons (eBlkC_ok Arr3_intC_ok Arr3_intC_len) eNil))))⟩ xNil))⟩
def shaft_crate_free_h11 (v158 : Int) (v159 : Int) (v160 : Int) (v161 : Int) (v162 : Int) (v163 : Int) (v164 : Int) (v165 : Int) (v166 : Mp Arr3_int Unit) (v167 : Arr3_int) (v168 : Arr3_int) : St := ⟨((.ptr 0 0) :: (un 3 ((.ptr 2 0) :: (.ptr 3 0) :: (un 2 ((.int .i64 v158) :: (.int .i64 v159) :: (un 73 [])))))), [(0, .blk [.int .i64 v160, .int .i64 v161, .int .i64 v162, .int .i64 v163, .int .i64 v164, .int .i64 v165, .row 1]), (1, mpE true true Arr3_intC unitC v166), (2, .blk (Cod.enc Arr3_intC v167)), (3, .blk (Cod.enc Arr3_intC v168))], 4⟩
def shaft_crate_free_x11_r (v160 : Int) (v161 : Int) (v162 : Int) (v163 : Int) (v164 : Int) (v165 : Int) (v166 : Mp Arr3_int Unit) (q0 : Bool) : St := ⟨(un 6 ((.bool q0) :: (un 76 []))), [(0, .blk [.int .i64 v160, .int .i64 v161, .int .i64 v162, .int .i64 v163, .int .i64 v164, .int .i64 v165, .row 1]), (1, mpE true true Arr3_intC unitC v166)], 2⟩
def shaft_crate_free_x11_4 (v158 : Int) (v160 : Int) (v161 : Int) (v162 : Int) (v163 : Int) (v164 : Int) (v165 : Int) (v166 : Mp Arr3_int Unit) (v167 : Arr3_int) (v168 : Arr3_int) : St := ⟨((.ptr 0 0) :: (un 3 ((.ptr 2 0) :: (.ptr 3 0) :: (un 2 ((.int .i64 v158) :: (un 74 [])))))), [(0, .blk [.int .i64 v160, .int .i64 v161, .int .i64 v162, .int .i64 v163, .int .i64 v164, .int .i64 v165, .row 1]), (1, mpE true true Arr3_intC unitC v166), (2, .blk (Cod.enc Arr3_intC v167)), (3, .blk (Cod.enc Arr3_intC v168))], 4⟩
def shaft_crate_free_b11 {R : Type} (N : Nat) (rc : Int → Int → Int → Int → Int → Int → Int → Int → Mp Arr3_int Unit → Arr3_int → Arr3_int → Option R) (v158 : Int) (v159 : Int) (v160 : Int) (v161 : Int) (v162 : Int) (v163 : Int) (v164 : Int) (v165 : Int) (v166 : Mp Arr3_int Unit) (v167 : Arr3_int) (v168 : Arr3_int) (kr : Bool → Option R) (k4 : Unit → Option R) : Option R :=
  bif decide (v159 < w64 (Arr3_int.a1 v167 + Arr3_int.a1 v168)) then
   shaft_crate_free_l14 N N v158 v159 (Arr3_int.a2 v167) v160 v161 v162 v163 v164 v165 v166 v167 v168 (fun r181 =>
    kr r181) (fun (_ : Unit) =>
    rc v158 (w64 (v159 + (1 : Int))) v160 v161 v162 v163 v164 v165 v166 v167 v168)
  else
   k4 ()
def shaft_crate_free_l11 {R : Type} (N : Nat) : Nat → Int → Int → Int → Int → Int → Int → Int → Int → Mp Arr3_int Unit → Arr3_int → Arr3_int → (Bool → Option R) → (Unit → Option R) → Option R
  | 0, _, _, _, _, _, _, _, _, _, _, _, _, _ => Option.none
  | n + 1, v158, v159, v160, v161, v162, v163, v164, v165, v166, v167, v168, kr, k4 => shaft_crate_free_b11 N (fun v158 v159 v160 v161 v162 v163 v164 v165 v166 v167 v168 => shaft_crate_free_l11 N n v158 v159 v160 v161 v162 v163 v164 v165 v166 v167 v168 kr k4) v158 v159 v160 v161 v162 v163 v164 v165 v166 v167 v168 kr k4
def shaft_crate_free_L8 : LoopSp := ⟨⟨[0, 4, 5, 8], ⟨((rPtr 0 0) :: (dr 3 ((rPtr 2 0) :: (rPtr 3 0) :: (dr 2 ((rInt .i64) :: (dr 74 [])))))), [(0, eBlk [rInt .i64, rInt .i64, rInt .i64, rInt .i64, rInt .i64, rInt .i64, rRow 1]), (1, eMp true true Arr3_intC unitC), (2, eBlkC Arr3_intC), (3, eBlkC Arr3_intC)]⟩, 4⟩, [(Option.none, ⟨[6], ⟨(dr 6 ((rBool) :: (dr 76 []))), [(0, eBlk [rInt .i64, rInt .i64, rInt .i64, rInt .i64, rInt .i64, rInt .i64, rRow 1]), (1, eMp true true Arr3_intC unitC)]⟩, 2⟩), (some 2, ⟨[], ⟨(dr 83 []), [(0, eBlk [rInt .i64, rInt .i64, rInt .i64, rInt .i64, rInt .i64, rInt .i64, rRow 1]), (1, eMp true true Arr3_intC unitC)]⟩, 2⟩)]⟩
theorem shaft_crate_free_L8_ok : shaft_crate_free_L8.Ok := ⟨⟨(allCons (rPtr_ok 0 0) (drCons 3 (allCons (rPtr_ok 2 0) (allCons (rPtr_ok 3 0) (drCons 2 (allCons (rInt_ok .i64) (drCons 74 allNil))))))), (eCons (eBlk_ok (allCons (rInt_ok .i64) (allCons (rInt_ok .i64) (allCons (rInt_ok .i64) (allCons (rInt_ok .i64) (allCons (rInt_ok .i64) (allCons (rInt_ok .i64) (allCons (rRow_ok 1) allNil)))))))) (eCons (eMp_ok Arr3_intC_flat unitC_flat) (eCons (eBlkC_ok Arr3_intC_ok Arr3_intC_len) (eCons (eBlkC_ok Arr3_intC_ok Arr3_intC_len) eNil))))⟩, (xCons ⟨(drCons 6 (allCons rBool_ok (drCons 76 allNil))), (eCons (eBlk_ok (allCons (rInt_ok .i64) (allCons (rInt_ok .i64) (allCons (rInt_ok .i64) (allCons (rInt_ok .i64) (allCons (rInt_ok .i64) (allCons (rInt_ok .i64) (allCons (rRow_ok 1) allNil)))))))) (eCons (eMp_ok Arr3_intC_flat unitC_flat) eNil))⟩ (xCons ⟨(drCons 83 allNil), (eCons (eBlk_ok (allCons (rInt_ok .i64) (allCons (rInt_ok .i64) (allCons (rInt_ok .i64) (allCons (rInt_ok .i64) (allCons (rInt_ok .i64) (allCons (rInt_ok .i64) (allCons (rRow_ok 1) allNil)))))))) (eCons (eMp_ok Arr3_intC_flat unitC_flat) eNil))⟩ xNil))⟩
def shaft_crate_free_h8 (v148 : Int) (v149 : Int) (v150 : Int) (v151 : Int) (v152 : Int) (v153 : Int) (v154 : Int) (v155 : Mp Arr3_int Unit) (v156 : Arr3_int) (v157 : Arr3_int) : St := ⟨((.ptr 0 0) :: (un 3 ((.ptr 2 0) :: (.ptr 3 0) :: (un 2 ((.int .i64 v148) :: (un 74 [])))))), [(0, .blk [.int .i64 v149, .int .i64 v150, .int .i64 v151, .int .i64 v152, .int .i64 v153, .int .i64 v154, .row 1]), (1, mpE true true Arr3_intC unitC v155), (2, .blk (Cod.enc Arr3_intC v156)), (3, .blk (Cod.enc Arr3_intC v157))], 4⟩
def shaft_crate_free_x8_r (v149 : Int) (v150 : Int) (v151 : Int) (v152 : Int) (v153 : Int) (v154 : Int) (v155 : Mp Arr3_int Unit) (q0 : Bool) : St := ⟨(un 6 ((.bool q0) :: (un 76 []))), [(0, .blk [.int .i64 v149, .int .i64 v150, .int .i64 v151, .int .i64 v152, .int .i64 v153, .int .i64 v154, .row 1]), (1, mpE true true Arr3_intC unitC v155)], 2⟩
def shaft_crate_free_x8_2 (v149 : Int) (v150 : Int) (v151 : Int) (v152 : Int) (v153 : Int) (v154 : Int) (v155 : Mp Arr3_int Unit) : St := ⟨(un 83 []), [(0, .blk [.int .i64 v149, .int .i64 v150, .int .i64 v151, .int .i64 v152, .int .i64 v153, .int .i64 v154, .row 1]), (1, mpE true true Arr3_intC unitC v155)], 2⟩
def shaft_crate_free_b8 {R : Type} (N : Nat) (rc : Int → Int → Int → Int → Int → Int → Int → Mp Arr3_int Unit → Arr3_int → Arr3_int → Option R) (v148 : Int) (v149 : Int) (v150 : Int) (v151 : Int) (v152 : Int) (v153 : Int) (v154 : Int) (v155 : Mp Arr3_int Unit) (v156 : Arr3_int) (v157 : Arr3_int) (kr : Bool → Option R) (k2 : Unit → Option R) : Option R :=
  bif decide (v148 < w64 (Arr3_int.a0 v156 + Arr3_int.a0 v157)) then
   shaft_crate_free_l11 N N v148 (Arr3_int.a1 v156) v149 v150 v151 v152 v153 v154 v155 v156 v157 (fun r182 =>
    kr r182) (fun (_ : Unit) =>
    rc (w64 (v148 + (1 : Int))) v149 v150 v151 v152 v153 v154 v155 v156 v157)
  else
   k2 ()
def shaft_crate_free_l8 {R : Type} (N : Nat) : Nat → Int → Int → Int → Int → Int → Int → Int → Mp Arr3_int Unit → Arr3_int → Arr3_int → (Bool → Option R) → (Unit → Option R) → Option R
  | 0, _, _, _, _, _, _, _, _, _, _, _, _ => Option.none
  | n + 1, v148, v149, v150, v151, v152, v153, v154, v155, v156, v157, kr, k2 => shaft_crate_free_b8 N (fun v148 v149 v150 v151 v152 v153 v154 v155 v156 v157 => shaft_crate_free_l8 N n v148 v149 v150 v151 v152 v153 v154 v155 v156 v157 kr k2) v148 v149 v150 v151 v152 v153 v154 v155 v156 v157 kr k2
def shaft_crate_free_m {R : Type} (N : Nat) (a128 : Arr3_int) (a129 : Arr3_int) (a130 : Int) (a131 : Int) (a132 : Int) (a133 : Int) (a134 : Int) (a135 : Int) (a136 : Mp Arr3_int Unit) (k : Bool → Option R) : Option R :=
  shaft_crate_free_l2 N N (0 : Int) a130 a131 a132 a133 a134 a135 a136 a128 a129 (fun r147 =>
   k r147) (fun (_ : Unit) =>
   shaft_crate_free_l8 N N (Arr3_int.a0 a128) a130 a131 a132 a133 a134 a135 a136 a128 a129 (fun r183 =>
    k r183) (fun (_ : Unit) =>
    k true))
noncomputable def shaft_crate_free {R : Type} : Nat → Arr3_int → Arr3_int → Int → Int → Int → Int → Int → Int → Mp Arr3_int Unit → (Bool → Option R) → Option R := lock (@shaft_crate_free_m R)
theorem shaft_crate_free_def {R : Type} (N : Nat) (a128 : Arr3_int) (a129 : Arr3_int) (a130 : Int) (a131 : Int) (a132 : Int) (a133 : Int) (a134 : Int) (a135 : Int) (a136 : Mp Arr3_int Unit) (k : Bool → Option R) : shaft_crate_free N a128 a129 a130 a131 a132 a133 a134 a135 a136 k = shaft_crate_free_m N a128 a129 a130 a131 a132 a133 a134 a135 a136 k := by unfold shaft_crate_free; rw [lock_eq]
def shaft_crate_free_sp : Sp := ⟨[rPtr 0 0, rAgg Arr3_intC, rAgg Arr3_intC], [(0, eBlk [rInt .i64, rInt .i64, rInt .i64, rInt .i64, rInt .i64, rInt .i64, rRow 1]), (1, eMp true true Arr3_intC unitC)]⟩
theorem shaft_crate_free_sp_ok : shaft_crate_free_sp.Ok := ⟨(allCons (rPtr_ok 0 0) (allCons (rAgg_ok Arr3_intC_ok Arr3_intC_len) (allCons (rAgg_ok Arr3_intC_ok Arr3_intC_len) allNil))), (eCons (eBlk_ok (allCons (rInt_ok .i64) (allCons (rInt_ok .i64) (allCons (rInt_ok .i64) (allCons (rInt_ok .i64) (allCons (rInt_ok .i64) (allCons (rInt_ok .i64) (allCons (rRow_ok 1) allNil)))))))) (eCons (eMp_ok Arr3_intC_flat unitC_flat) eNil))⟩
def shaft_crate_free_rs : Sp := ⟨[rBool], [(0, eBlk [rInt .i64, rInt .i64, rInt .i64, rInt .i64, rInt .i64, rInt .i64, rRow 1]), (1, eMp true true Arr3_intC unitC)]⟩
theorem shaft_crate_free_rs_ok : shaft_crate_free_rs.Ok := ⟨(allCons rBool_ok allNil), (eCons (eBlk_ok (allCons (rInt_ok .i64) (allCons (rInt_ok .i64) (allCons (rInt_ok .i64) (allCons (rInt_ok .i64) (allCons (rInt_ok .i64) (allCons (rInt_ok .i64) (allCons (rRow_ok 1) allNil)))))))) (eCons (eMp_ok Arr3_intC_flat unitC_flat) eNil))⟩
def shaft_crate_free_run {R : Type} (N : Nat) (args : List SV) (T : Tab) (kf : SV × Tab → Option R) : Option R :=
  shaft_crate_free_m N (Cod.dec Arr3_intC (lget (toCs (lget args 1)))) (Cod.dec Arr3_intC (lget (toCs (lget args 2)))) (toI (lget (entCs (entAt T 0)) 0)) (toI (lget (entCs (entAt T 0)) 1)) (toI (lget (entCs (entAt T 0)) 2)) (toI (lget (entCs (entAt T 0)) 3)) (toI (lget (entCs (entAt T 0)) 4)) (toI (lget (entCs (entAt T 0)) 5)) (mpD Arr3_intC unitC (entHs (entAt T 1)) (entGt (entAt T 1))) (fun q0 => kf (lget [.bool q0] 0, [(0, .blk [.int .i64 (toI (lget (entCs (entAt T 0)) 0)), .int .i64 (toI (lget (entCs (entAt T 0)) 1)), .int .i64 (toI (lget (entCs (entAt T 0)) 2)), .int .i64 (toI (lget (entCs (entAt T 0)) 3)), .int .i64 (toI (lget (entCs (entAt T 0)) 4)), .int .i64 (toI (lget (entCs (entAt T 0)) 5)), .row 1]), (1, mpE true true Arr3_intC unitC (mpD Arr3_intC unitC (entHs (entAt T 1)) (entGt (entAt T 1))))]))
def shaft_crate_free_d14 {R : Type} (N : Nat) (S0 : St) (k : Exit → St → Option R) : Option R :=
  shaft_crate_free_l14 N N (toI (lget S0.tmps 8)) (toI (lget S0.tmps 9)) (toI (lget S0.tmps 10)) (toI (lget (entCs (entAt S0.tab 0)) 0)) (toI (lget (entCs (entAt S0.tab 0)) 1)) (toI (lget (entCs (entAt S0.tab 0)) 2)) (toI (lget (entCs (entAt S0.tab 0)) 3)) (toI (lget (entCs (entAt S0.tab 0)) 4)) (toI (lget (entCs (entAt S0.tab 0)) 5)) (mpD Arr3_intC unitC (entHs (entAt S0.tab 1)) (entGt (entAt S0.tab 1))) (Cod.dec Arr3_intC (lget (entCs (entAt S0.tab 2)))) (Cod.dec Arr3_intC (lget (entCs (entAt S0.tab 3)))) (fun q0 => k .ret (shaft_crate_free_x14_r (toI (lget (entCs (entAt S0.tab 0)) 0)) (toI (lget (entCs (entAt S0.tab 0)) 1)) (toI (lget (entCs (entAt S0.tab 0)) 2)) (toI (lget (entCs (entAt S0.tab 0)) 3)) (toI (lget (entCs (entAt S0.tab 0)) 4)) (toI (lget (entCs (entAt S0.tab 0)) 5)) (mpD Arr3_intC unitC (entHs (entAt S0.tab 1)) (entGt (entAt S0.tab 1))) q0)) (fun (_ : Unit) => k (.exit 6) (shaft_crate_free_x14_6 (toI (lget S0.tmps 8)) (toI (lget S0.tmps 9)) (toI (lget (entCs (entAt S0.tab 0)) 0)) (toI (lget (entCs (entAt S0.tab 0)) 1)) (toI (lget (entCs (entAt S0.tab 0)) 2)) (toI (lget (entCs (entAt S0.tab 0)) 3)) (toI (lget (entCs (entAt S0.tab 0)) 4)) (toI (lget (entCs (entAt S0.tab 0)) 5)) (mpD Arr3_intC unitC (entHs (entAt S0.tab 1)) (entGt (entAt S0.tab 1))) (Cod.dec Arr3_intC (lget (entCs (entAt S0.tab 2)))) (Cod.dec Arr3_intC (lget (entCs (entAt S0.tab 3))))))
def shaft_crate_free_d11 {R : Type} (N : Nat) (S0 : St) (k : Exit → St → Option R) : Option R :=
  shaft_crate_free_l11 N N (toI (lget S0.tmps 8)) (toI (lget S0.tmps 9)) (toI (lget (entCs (entAt S0.tab 0)) 0)) (toI (lget (entCs (entAt S0.tab 0)) 1)) (toI (lget (entCs (entAt S0.tab 0)) 2)) (toI (lget (entCs (entAt S0.tab 0)) 3)) (toI (lget (entCs (entAt S0.tab 0)) 4)) (toI (lget (entCs (entAt S0.tab 0)) 5)) (mpD Arr3_intC unitC (entHs (entAt S0.tab 1)) (entGt (entAt S0.tab 1))) (Cod.dec Arr3_intC (lget (entCs (entAt S0.tab 2)))) (Cod.dec Arr3_intC (lget (entCs (entAt S0.tab 3)))) (fun q0 => k .ret (shaft_crate_free_x11_r (toI (lget (entCs (entAt S0.tab 0)) 0)) (toI (lget (entCs (entAt S0.tab 0)) 1)) (toI (lget (entCs (entAt S0.tab 0)) 2)) (toI (lget (entCs (entAt S0.tab 0)) 3)) (toI (lget (entCs (entAt S0.tab 0)) 4)) (toI (lget (entCs (entAt S0.tab 0)) 5)) (mpD Arr3_intC unitC (entHs (entAt S0.tab 1)) (entGt (entAt S0.tab 1))) q0)) (fun (_ : Unit) => k (.exit 4) (shaft_crate_free_x11_4 (toI (lget S0.tmps 8)) (toI (lget (entCs (entAt S0.tab 0)) 0)) (toI (lget (entCs (entAt S0.tab 0)) 1)) (toI (lget (entCs (entAt S0.tab 0)) 2)) (toI (lget (entCs (entAt S0.tab 0)) 3)) (toI (lget (entCs (entAt S0.tab 0)) 4)) (toI (lget (entCs (entAt S0.tab 0)) 5)) (mpD Arr3_intC unitC (entHs (entAt S0.tab 1)) (entGt (entAt S0.tab 1))) (Cod.dec Arr3_intC (lget (entCs (entAt S0.tab 2)))) (Cod.dec Arr3_intC (lget (entCs (entAt S0.tab 3))))))
def shaft_crate_free_d8 {R : Type} (N : Nat) (S0 : St) (k : Exit → St → Option R) : Option R :=
  shaft_crate_free_l8 N N (toI (lget S0.tmps 8)) (toI (lget (entCs (entAt S0.tab 0)) 0)) (toI (lget (entCs (entAt S0.tab 0)) 1)) (toI (lget (entCs (entAt S0.tab 0)) 2)) (toI (lget (entCs (entAt S0.tab 0)) 3)) (toI (lget (entCs (entAt S0.tab 0)) 4)) (toI (lget (entCs (entAt S0.tab 0)) 5)) (mpD Arr3_intC unitC (entHs (entAt S0.tab 1)) (entGt (entAt S0.tab 1))) (Cod.dec Arr3_intC (lget (entCs (entAt S0.tab 2)))) (Cod.dec Arr3_intC (lget (entCs (entAt S0.tab 3)))) (fun q0 => k .ret (shaft_crate_free_x8_r (toI (lget (entCs (entAt S0.tab 0)) 0)) (toI (lget (entCs (entAt S0.tab 0)) 1)) (toI (lget (entCs (entAt S0.tab 0)) 2)) (toI (lget (entCs (entAt S0.tab 0)) 3)) (toI (lget (entCs (entAt S0.tab 0)) 4)) (toI (lget (entCs (entAt S0.tab 0)) 5)) (mpD Arr3_intC unitC (entHs (entAt S0.tab 1)) (entGt (entAt S0.tab 1))) q0)) (fun (_ : Unit) => k (.exit 2) (shaft_crate_free_x8_2 (toI (lget (entCs (entAt S0.tab 0)) 0)) (toI (lget (entCs (entAt S0.tab 0)) 1)) (toI (lget (entCs (entAt S0.tab 0)) 2)) (toI (lget (entCs (entAt S0.tab 0)) 3)) (toI (lget (entCs (entAt S0.tab 0)) 4)) (toI (lget (entCs (entAt S0.tab 0)) 5)) (mpD Arr3_intC unitC (entHs (entAt S0.tab 1)) (entGt (entAt S0.tab 1)))))
def shaft_crate_free_d2 {R : Type} (N : Nat) (S0 : St) (k : Exit → St → Option R) : Option R :=
  shaft_crate_free_l2 N N (toI (lget S0.tmps 13)) (toI (lget (entCs (entAt S0.tab 0)) 0)) (toI (lget (entCs (entAt S0.tab 0)) 1)) (toI (lget (entCs (entAt S0.tab 0)) 2)) (toI (lget (entCs (entAt S0.tab 0)) 3)) (toI (lget (entCs (entAt S0.tab 0)) 4)) (toI (lget (entCs (entAt S0.tab 0)) 5)) (mpD Arr3_intC unitC (entHs (entAt S0.tab 1)) (entGt (entAt S0.tab 1))) (Cod.dec Arr3_intC (lget (entCs (entAt S0.tab 2)))) (Cod.dec Arr3_intC (lget (entCs (entAt S0.tab 3)))) (fun q0 => k .ret (shaft_crate_free_x2_r (toI (lget (entCs (entAt S0.tab 0)) 0)) (toI (lget (entCs (entAt S0.tab 0)) 1)) (toI (lget (entCs (entAt S0.tab 0)) 2)) (toI (lget (entCs (entAt S0.tab 0)) 3)) (toI (lget (entCs (entAt S0.tab 0)) 4)) (toI (lget (entCs (entAt S0.tab 0)) 5)) (mpD Arr3_intC unitC (entHs (entAt S0.tab 1)) (entGt (entAt S0.tab 1))) q0)) (fun (_ : Unit) => k (.exit 0) (shaft_crate_free_x2_0 (toI (lget (entCs (entAt S0.tab 0)) 0)) (toI (lget (entCs (entAt S0.tab 0)) 1)) (toI (lget (entCs (entAt S0.tab 0)) 2)) (toI (lget (entCs (entAt S0.tab 0)) 3)) (toI (lget (entCs (entAt S0.tab 0)) 4)) (toI (lget (entCs (entAt S0.tab 0)) 5)) (mpD Arr3_intC unitC (entHs (entAt S0.tab 1)) (entGt (entAt S0.tab 1))) (Cod.dec Arr3_intC (lget (entCs (entAt S0.tab 2)))) (Cod.dec Arr3_intC (lget (entCs (entAt S0.tab 3))))))
def shaft_crate_free_lp {R : Type} (N : Nat) : Lp R := fun body S k => bif (Go.Sx.keyOf body).getD 0 == 2 then (shaft_crate_free_L2.head.raw 2 S (fun S0 => shaft_crate_free_d2 N S0 k)) else bif (Go.Sx.keyOf body).getD 0 == 8 then (shaft_crate_free_L8.head.raw 2 S (fun S0 => shaft_crate_free_d8 N S0 k)) else bif (Go.Sx.keyOf body).getD 0 == 11 then (shaft_crate_free_L11.head.raw 2 S (fun S0 => shaft_crate_free_d11 N S0 k)) else bif (Go.Sx.keyOf body).getD 0 == 14 then (shaft_crate_free_L14.head.raw 2 S (fun S0 => shaft_crate_free_d14 N S0 k)) else Option.none
theorem shaft_crate_free_l2_eq {R : Type} (N : Nat) (k : Exit → St → Option R) (n : Nat) : ∀ (v0 : Int) (v1 : Int) (v2 : Int) (v3 : Int) (v4 : Int) (v5 : Int) (v6 : Int) (v7 : Mp Arr3_int Unit) (v8 : Arr3_int) (v9 : Arr3_int), loopM E.Θ (shaft_crate_long_cal N) (shaft_crate_free_lp N) (noJn) 2 shaft_crate_free_L2 (bodyAt E 66 2) n (shaft_crate_free_h2 v0 v1 v2 v3 v4 v5 v6 v7 v8 v9) k = shaft_crate_free_l2 N n v0 v1 v2 v3 v4 v5 v6 v7 v8 v9 (fun q0 => k .ret (shaft_crate_free_x2_r v1 v2 v3 v4 v5 v6 v7 q0)) (fun (_ : Unit) => k (.exit 0) (shaft_crate_free_x2_0 v1 v2 v3 v4 v5 v6 v7 v8 v9)) := by
  induction n with
  | zero => intro v0 v1 v2 v3 v4 v5 v6 v7 v8 v9; rfl
  | succ n ih =>
    intro v0 v1 v2 v3 v4 v5 v6 v7 v8 v9
    refine Eq.trans (b := shaft_crate_free_b2 N (fun v0 v1 v2 v3 v4 v5 v6 v7 v8 v9 => loopM E.Θ (shaft_crate_long_cal N) (shaft_crate_free_lp N) (noJn) 2 shaft_crate_free_L2 (bodyAt E 66 2) n (shaft_crate_free_h2 v0 v1 v2 v3 v4 v5 v6 v7 v8 v9) k) v0 v1 v2 v3 v4 v5 v6 v7 v8 v9 (fun q0 => k .ret (shaft_crate_free_x2_r v1 v2 v3 v4 v5 v6 v7 q0)) (fun (_ : Unit) => k (.exit 0) (shaft_crate_free_x2_0 v1 v2 v3 v4 v5 v6 v7 v8 v9))) (by kernel_rfl) ?_
    have h : (fun (v0 : Int) (v1 : Int) (v2 : Int) (v3 : Int) (v4 : Int) (v5 : Int) (v6 : Int) (v7 : Mp Arr3_int Unit) (v8 : Arr3_int) (v9 : Arr3_int) => loopM E.Θ (shaft_crate_long_cal N) (shaft_crate_free_lp N) (noJn) 2 shaft_crate_free_L2 (bodyAt E 66 2) n (shaft_crate_free_h2 v0 v1 v2 v3 v4 v5 v6 v7 v8 v9) k) = (fun (v0 : Int) (v1 : Int) (v2 : Int) (v3 : Int) (v4 : Int) (v5 : Int) (v6 : Int) (v7 : Mp Arr3_int Unit) (v8 : Arr3_int) (v9 : Arr3_int) => shaft_crate_free_l2 N n v0 v1 v2 v3 v4 v5 v6 v7 v8 v9 (fun q0 => k .ret (shaft_crate_free_x2_r v1 v2 v3 v4 v5 v6 v7 q0)) (fun (_ : Unit) => k (.exit 0) (shaft_crate_free_x2_0 v1 v2 v3 v4 v5 v6 v7 v8 v9))) := funext fun v0 => funext fun v1 => funext fun v2 => funext fun v3 => funext fun v4 => funext fun v5 => funext fun v6 => funext fun v7 => funext fun v8 => funext fun v9 => ih v0 v1 v2 v3 v4 v5 v6 v7 v8 v9
    rw [h]
    rfl
theorem shaft_crate_free_l8_eq {R : Type} (N : Nat) (k : Exit → St → Option R) (n : Nat) : ∀ (v0 : Int) (v1 : Int) (v2 : Int) (v3 : Int) (v4 : Int) (v5 : Int) (v6 : Int) (v7 : Mp Arr3_int Unit) (v8 : Arr3_int) (v9 : Arr3_int), loopM E.Θ (shaft_crate_long_cal N) (shaft_crate_free_lp N) (noJn) 2 shaft_crate_free_L8 (bodyAt E 66 8) n (shaft_crate_free_h8 v0 v1 v2 v3 v4 v5 v6 v7 v8 v9) k = shaft_crate_free_l8 N n v0 v1 v2 v3 v4 v5 v6 v7 v8 v9 (fun q0 => k .ret (shaft_crate_free_x8_r v1 v2 v3 v4 v5 v6 v7 q0)) (fun (_ : Unit) => k (.exit 2) (shaft_crate_free_x8_2 v1 v2 v3 v4 v5 v6 v7)) := by
  induction n with
  | zero => intro v0 v1 v2 v3 v4 v5 v6 v7 v8 v9; rfl
  | succ n ih =>
    intro v0 v1 v2 v3 v4 v5 v6 v7 v8 v9
    refine Eq.trans (b := shaft_crate_free_b8 N (fun v0 v1 v2 v3 v4 v5 v6 v7 v8 v9 => loopM E.Θ (shaft_crate_long_cal N) (shaft_crate_free_lp N) (noJn) 2 shaft_crate_free_L8 (bodyAt E 66 8) n (shaft_crate_free_h8 v0 v1 v2 v3 v4 v5 v6 v7 v8 v9) k) v0 v1 v2 v3 v4 v5 v6 v7 v8 v9 (fun q0 => k .ret (shaft_crate_free_x8_r v1 v2 v3 v4 v5 v6 v7 q0)) (fun (_ : Unit) => k (.exit 2) (shaft_crate_free_x8_2 v1 v2 v3 v4 v5 v6 v7))) (by kernel_rfl) ?_
    have h : (fun (v0 : Int) (v1 : Int) (v2 : Int) (v3 : Int) (v4 : Int) (v5 : Int) (v6 : Int) (v7 : Mp Arr3_int Unit) (v8 : Arr3_int) (v9 : Arr3_int) => loopM E.Θ (shaft_crate_long_cal N) (shaft_crate_free_lp N) (noJn) 2 shaft_crate_free_L8 (bodyAt E 66 8) n (shaft_crate_free_h8 v0 v1 v2 v3 v4 v5 v6 v7 v8 v9) k) = (fun (v0 : Int) (v1 : Int) (v2 : Int) (v3 : Int) (v4 : Int) (v5 : Int) (v6 : Int) (v7 : Mp Arr3_int Unit) (v8 : Arr3_int) (v9 : Arr3_int) => shaft_crate_free_l8 N n v0 v1 v2 v3 v4 v5 v6 v7 v8 v9 (fun q0 => k .ret (shaft_crate_free_x8_r v1 v2 v3 v4 v5 v6 v7 q0)) (fun (_ : Unit) => k (.exit 2) (shaft_crate_free_x8_2 v1 v2 v3 v4 v5 v6 v7))) := funext fun v0 => funext fun v1 => funext fun v2 => funext fun v3 => funext fun v4 => funext fun v5 => funext fun v6 => funext fun v7 => funext fun v8 => funext fun v9 => ih v0 v1 v2 v3 v4 v5 v6 v7 v8 v9
    rw [h]
    rfl
theorem shaft_crate_free_l11_eq {R : Type} (N : Nat) (k : Exit → St → Option R) (n : Nat) : ∀ (v0 : Int) (v1 : Int) (v2 : Int) (v3 : Int) (v4 : Int) (v5 : Int) (v6 : Int) (v7 : Int) (v8 : Mp Arr3_int Unit) (v9 : Arr3_int) (v10 : Arr3_int), loopM E.Θ (shaft_crate_long_cal N) (shaft_crate_free_lp N) (noJn) 2 shaft_crate_free_L11 (bodyAt E 66 11) n (shaft_crate_free_h11 v0 v1 v2 v3 v4 v5 v6 v7 v8 v9 v10) k = shaft_crate_free_l11 N n v0 v1 v2 v3 v4 v5 v6 v7 v8 v9 v10 (fun q0 => k .ret (shaft_crate_free_x11_r v2 v3 v4 v5 v6 v7 v8 q0)) (fun (_ : Unit) => k (.exit 4) (shaft_crate_free_x11_4 v0 v2 v3 v4 v5 v6 v7 v8 v9 v10)) := by
  induction n with
  | zero => intro v0 v1 v2 v3 v4 v5 v6 v7 v8 v9 v10; rfl
  | succ n ih =>
    intro v0 v1 v2 v3 v4 v5 v6 v7 v8 v9 v10
    refine Eq.trans (b := shaft_crate_free_b11 N (fun v0 v1 v2 v3 v4 v5 v6 v7 v8 v9 v10 => loopM E.Θ (shaft_crate_long_cal N) (shaft_crate_free_lp N) (noJn) 2 shaft_crate_free_L11 (bodyAt E 66 11) n (shaft_crate_free_h11 v0 v1 v2 v3 v4 v5 v6 v7 v8 v9 v10) k) v0 v1 v2 v3 v4 v5 v6 v7 v8 v9 v10 (fun q0 => k .ret (shaft_crate_free_x11_r v2 v3 v4 v5 v6 v7 v8 q0)) (fun (_ : Unit) => k (.exit 4) (shaft_crate_free_x11_4 v0 v2 v3 v4 v5 v6 v7 v8 v9 v10))) (by kernel_rfl) ?_
    have h : (fun (v0 : Int) (v1 : Int) (v2 : Int) (v3 : Int) (v4 : Int) (v5 : Int) (v6 : Int) (v7 : Int) (v8 : Mp Arr3_int Unit) (v9 : Arr3_int) (v10 : Arr3_int) => loopM E.Θ (shaft_crate_long_cal N) (shaft_crate_free_lp N) (noJn) 2 shaft_crate_free_L11 (bodyAt E 66 11) n (shaft_crate_free_h11 v0 v1 v2 v3 v4 v5 v6 v7 v8 v9 v10) k) = (fun (v0 : Int) (v1 : Int) (v2 : Int) (v3 : Int) (v4 : Int) (v5 : Int) (v6 : Int) (v7 : Int) (v8 : Mp Arr3_int Unit) (v9 : Arr3_int) (v10 : Arr3_int) => shaft_crate_free_l11 N n v0 v1 v2 v3 v4 v5 v6 v7 v8 v9 v10 (fun q0 => k .ret (shaft_crate_free_x11_r v2 v3 v4 v5 v6 v7 v8 q0)) (fun (_ : Unit) => k (.exit 4) (shaft_crate_free_x11_4 v0 v2 v3 v4 v5 v6 v7 v8 v9 v10))) := funext fun v0 => funext fun v1 => funext fun v2 => funext fun v3 => funext fun v4 => funext fun v5 => funext fun v6 => funext fun v7 => funext fun v8 => funext fun v9 => funext fun v10 => ih v0 v1 v2 v3 v4 v5 v6 v7 v8 v9 v10
    rw [h]
    rfl
theorem shaft_crate_free_l14_eq {R : Type} (N : Nat) (k : Exit → St → Option R) (n : Nat) : ∀ (v0 : Int) (v1 : Int) (v2 : Int) (v3 : Int) (v4 : Int) (v5 : Int) (v6 : Int) (v7 : Int) (v8 : Int) (v9 : Mp Arr3_int Unit) (v10 : Arr3_int) (v11 : Arr3_int), loopM E.Θ (shaft_crate_long_cal N) (shaft_crate_free_lp N) (noJn) 2 shaft_crate_free_L14 (bodyAt E 66 14) n (shaft_crate_free_h14 v0 v1 v2 v3 v4 v5 v6 v7 v8 v9 v10 v11) k = shaft_crate_free_l14 N n v0 v1 v2 v3 v4 v5 v6 v7 v8 v9 v10 v11 (fun q0 => k .ret (shaft_crate_free_x14_r v3 v4 v5 v6 v7 v8 v9 q0)) (fun (_ : Unit) => k (.exit 6) (shaft_crate_free_x14_6 v0 v1 v3 v4 v5 v6 v7 v8 v9 v10 v11)) := by
  induction n with
  | zero => intro v0 v1 v2 v3 v4 v5 v6 v7 v8 v9 v10 v11; rfl
  | succ n ih =>
    intro v0 v1 v2 v3 v4 v5 v6 v7 v8 v9 v10 v11
    refine Eq.trans (b := shaft_crate_free_b14 N (fun v0 v1 v2 v3 v4 v5 v6 v7 v8 v9 v10 v11 => loopM E.Θ (shaft_crate_long_cal N) (shaft_crate_free_lp N) (noJn) 2 shaft_crate_free_L14 (bodyAt E 66 14) n (shaft_crate_free_h14 v0 v1 v2 v3 v4 v5 v6 v7 v8 v9 v10 v11) k) v0 v1 v2 v3 v4 v5 v6 v7 v8 v9 v10 v11 (fun q0 => k .ret (shaft_crate_free_x14_r v3 v4 v5 v6 v7 v8 v9 q0)) (fun (_ : Unit) => k (.exit 6) (shaft_crate_free_x14_6 v0 v1 v3 v4 v5 v6 v7 v8 v9 v10 v11))) (by kernel_rfl) ?_
    have h : (fun (v0 : Int) (v1 : Int) (v2 : Int) (v3 : Int) (v4 : Int) (v5 : Int) (v6 : Int) (v7 : Int) (v8 : Int) (v9 : Mp Arr3_int Unit) (v10 : Arr3_int) (v11 : Arr3_int) => loopM E.Θ (shaft_crate_long_cal N) (shaft_crate_free_lp N) (noJn) 2 shaft_crate_free_L14 (bodyAt E 66 14) n (shaft_crate_free_h14 v0 v1 v2 v3 v4 v5 v6 v7 v8 v9 v10 v11) k) = (fun (v0 : Int) (v1 : Int) (v2 : Int) (v3 : Int) (v4 : Int) (v5 : Int) (v6 : Int) (v7 : Int) (v8 : Int) (v9 : Mp Arr3_int Unit) (v10 : Arr3_int) (v11 : Arr3_int) => shaft_crate_free_l14 N n v0 v1 v2 v3 v4 v5 v6 v7 v8 v9 v10 v11 (fun q0 => k .ret (shaft_crate_free_x14_r v3 v4 v5 v6 v7 v8 v9 q0)) (fun (_ : Unit) => k (.exit 6) (shaft_crate_free_x14_6 v0 v1 v3 v4 v5 v6 v7 v8 v9 v10 v11))) := funext fun v0 => funext fun v1 => funext fun v2 => funext fun v3 => funext fun v4 => funext fun v5 => funext fun v6 => funext fun v7 => funext fun v8 => funext fun v9 => funext fun v10 => funext fun v11 => ih v0 v1 v2 v3 v4 v5 v6 v7 v8 v9 v10 v11
    rw [h]
    rfl
theorem shaft_crate_free_k14 {R : Type} (N : Nat) : LpKey (R := R) E 66 2 (shaft_crate_free_lp N) 14 :=
  lpKey_of hE (shaft_crate_long_cal_ok N) (lp := shaft_crate_free_lp N) (jn := noJn) shaft_crate_free_L14_ok [] kNil (by kernel_rfl) [] jNil (by kernel_rfl) N fun S k =>
    Eq.trans (b := shaft_crate_free_L14.head.raw 2 S (fun S0 => shaft_crate_free_d14 N S0 k)) (by kernel_rfl) (congrArg (shaft_crate_free_L14.head.raw 2 S) (funext fun S0 => Eq.trans (shaft_crate_free_l14_eq N k N (toI (lget S0.tmps 8)) (toI (lget S0.tmps 9)) (toI (lget S0.tmps 10)) (toI (lget (entCs (entAt S0.tab 0)) 0)) (toI (lget (entCs (entAt S0.tab 0)) 1)) (toI (lget (entCs (entAt S0.tab 0)) 2)) (toI (lget (entCs (entAt S0.tab 0)) 3)) (toI (lget (entCs (entAt S0.tab 0)) 4)) (toI (lget (entCs (entAt S0.tab 0)) 5)) (mpD Arr3_intC unitC (entHs (entAt S0.tab 1)) (entGt (entAt S0.tab 1))) (Cod.dec Arr3_intC (lget (entCs (entAt S0.tab 2)))) (Cod.dec Arr3_intC (lget (entCs (entAt S0.tab 3))))).symm (by kernel_rfl)))
theorem shaft_crate_free_k2 {R : Type} (N : Nat) : LpKey (R := R) E 66 2 (shaft_crate_free_lp N) 2 :=
  lpKey_of hE (shaft_crate_long_cal_ok N) (lp := shaft_crate_free_lp N) (jn := noJn) shaft_crate_free_L2_ok [] kNil (by kernel_rfl) [] jNil (by kernel_rfl) N fun S k =>
    Eq.trans (b := shaft_crate_free_L2.head.raw 2 S (fun S0 => shaft_crate_free_d2 N S0 k)) (by kernel_rfl) (congrArg (shaft_crate_free_L2.head.raw 2 S) (funext fun S0 => Eq.trans (shaft_crate_free_l2_eq N k N (toI (lget S0.tmps 13)) (toI (lget (entCs (entAt S0.tab 0)) 0)) (toI (lget (entCs (entAt S0.tab 0)) 1)) (toI (lget (entCs (entAt S0.tab 0)) 2)) (toI (lget (entCs (entAt S0.tab 0)) 3)) (toI (lget (entCs (entAt S0.tab 0)) 4)) (toI (lget (entCs (entAt S0.tab 0)) 5)) (mpD Arr3_intC unitC (entHs (entAt S0.tab 1)) (entGt (entAt S0.tab 1))) (Cod.dec Arr3_intC (lget (entCs (entAt S0.tab 2)))) (Cod.dec Arr3_intC (lget (entCs (entAt S0.tab 3))))).symm (by kernel_rfl)))
theorem shaft_crate_free_k11 {R : Type} (N : Nat) : LpKey (R := R) E 66 2 (shaft_crate_free_lp N) 11 :=
  lpKey_of hE (shaft_crate_long_cal_ok N) (lp := shaft_crate_free_lp N) (jn := noJn) shaft_crate_free_L11_ok [14] (kCons (shaft_crate_free_k14 N) kNil) (by kernel_rfl) [] jNil (by kernel_rfl) N fun S k =>
    Eq.trans (b := shaft_crate_free_L11.head.raw 2 S (fun S0 => shaft_crate_free_d11 N S0 k)) (by kernel_rfl) (congrArg (shaft_crate_free_L11.head.raw 2 S) (funext fun S0 => Eq.trans (shaft_crate_free_l11_eq N k N (toI (lget S0.tmps 8)) (toI (lget S0.tmps 9)) (toI (lget (entCs (entAt S0.tab 0)) 0)) (toI (lget (entCs (entAt S0.tab 0)) 1)) (toI (lget (entCs (entAt S0.tab 0)) 2)) (toI (lget (entCs (entAt S0.tab 0)) 3)) (toI (lget (entCs (entAt S0.tab 0)) 4)) (toI (lget (entCs (entAt S0.tab 0)) 5)) (mpD Arr3_intC unitC (entHs (entAt S0.tab 1)) (entGt (entAt S0.tab 1))) (Cod.dec Arr3_intC (lget (entCs (entAt S0.tab 2)))) (Cod.dec Arr3_intC (lget (entCs (entAt S0.tab 3))))).symm (by kernel_rfl)))
theorem shaft_crate_free_k8 {R : Type} (N : Nat) : LpKey (R := R) E 66 2 (shaft_crate_free_lp N) 8 :=
  lpKey_of hE (shaft_crate_long_cal_ok N) (lp := shaft_crate_free_lp N) (jn := noJn) shaft_crate_free_L8_ok [11, 14] (kCons (shaft_crate_free_k11 N) (kCons (shaft_crate_free_k14 N) kNil)) (by kernel_rfl) [] jNil (by kernel_rfl) N fun S k =>
    Eq.trans (b := shaft_crate_free_L8.head.raw 2 S (fun S0 => shaft_crate_free_d8 N S0 k)) (by kernel_rfl) (congrArg (shaft_crate_free_L8.head.raw 2 S) (funext fun S0 => Eq.trans (shaft_crate_free_l8_eq N k N (toI (lget S0.tmps 8)) (toI (lget (entCs (entAt S0.tab 0)) 0)) (toI (lget (entCs (entAt S0.tab 0)) 1)) (toI (lget (entCs (entAt S0.tab 0)) 2)) (toI (lget (entCs (entAt S0.tab 0)) 3)) (toI (lget (entCs (entAt S0.tab 0)) 4)) (toI (lget (entCs (entAt S0.tab 0)) 5)) (mpD Arr3_intC unitC (entHs (entAt S0.tab 1)) (entGt (entAt S0.tab 1))) (Cod.dec Arr3_intC (lget (entCs (entAt S0.tab 2)))) (Cod.dec Arr3_intC (lget (entCs (entAt S0.tab 3))))).symm (by kernel_rfl)))
noncomputable def shaft_crate_free_go {R : Type} (N : Nat) (args : List SV) (T : Tab) (kf : SV × Tab → Option R) : Option R :=
  shaft_crate_free N (Cod.dec Arr3_intC (lget (toCs (lget args 1)))) (Cod.dec Arr3_intC (lget (toCs (lget args 2)))) (toI (lget (entCs (entAt T 0)) 0)) (toI (lget (entCs (entAt T 0)) 1)) (toI (lget (entCs (entAt T 0)) 2)) (toI (lget (entCs (entAt T 0)) 3)) (toI (lget (entCs (entAt T 0)) 4)) (toI (lget (entCs (entAt T 0)) 5)) (mpD Arr3_intC unitC (entHs (entAt T 1)) (entGt (entAt T 1))) (fun q0 => kf (lget [.bool q0] 0, [(0, .blk [.int .i64 (toI (lget (entCs (entAt T 0)) 0)), .int .i64 (toI (lget (entCs (entAt T 0)) 1)), .int .i64 (toI (lget (entCs (entAt T 0)) 2)), .int .i64 (toI (lget (entCs (entAt T 0)) 3)), .int .i64 (toI (lget (entCs (entAt T 0)) 4)), .int .i64 (toI (lget (entCs (entAt T 0)) 5)), .row 1]), (1, mpE true true Arr3_intC unitC (mpD Arr3_intC unitC (entHs (entAt T 1)) (entGt (entAt T 1))))]))
noncomputable def shaft_crate_free_cal {R : Type} (N : Nat) : Cal R := callM (shaft_crate_long_cal N) 66 2 shaft_crate_free_sp (shaft_crate_free_go N)
theorem shaft_crate_free_cal_ok {R : Type} (N : Nat) : CalOk E.P (shaft_crate_free_cal (R := R) N) :=
  callM_ok hE (shaft_crate_long_cal_ok N) (lp := shaft_crate_free_lp N) (jn := noJn) (keys := [2, 8, 11, 14]) (kCons (shaft_crate_free_k2 N) (kCons (shaft_crate_free_k8 N) (kCons (shaft_crate_free_k11 N) (kCons (shaft_crate_free_k14 N) kNil)))) (by kernel_rfl) (js := []) jNil (by kernel_rfl) shaft_crate_free_sp_ok shaft_crate_free_rs_ok (fun args T kf => Eq.trans (shaft_crate_free_def N (Cod.dec Arr3_intC (lget (toCs (lget args 1)))) (Cod.dec Arr3_intC (lget (toCs (lget args 2)))) (toI (lget (entCs (entAt T 0)) 0)) (toI (lget (entCs (entAt T 0)) 1)) (toI (lget (entCs (entAt T 0)) 2)) (toI (lget (entCs (entAt T 0)) 3)) (toI (lget (entCs (entAt T 0)) 4)) (toI (lget (entCs (entAt T 0)) 5)) (mpD Arr3_intC unitC (entHs (entAt T 1)) (entGt (entAt T 1))) (fun q0 => kf (lget [.bool q0] 0, [(0, .blk [.int .i64 (toI (lget (entCs (entAt T 0)) 0)), .int .i64 (toI (lget (entCs (entAt T 0)) 1)), .int .i64 (toI (lget (entCs (entAt T 0)) 2)), .int .i64 (toI (lget (entCs (entAt T 0)) 3)), .int .i64 (toI (lget (entCs (entAt T 0)) 4)), .int .i64 (toI (lget (entCs (entAt T 0)) 5)), .row 1]), (1, mpE true true Arr3_intC unitC (mpD Arr3_intC unitC (entHs (entAt T 1)) (entGt (entAt T 1))))]))) (by kernel_rfl : shaft_crate_free_run N args T kf = fnM E (shaft_crate_long_cal N) (shaft_crate_free_lp N) (noJn) 66 (shaft_crate_free_sp.vs args) (shaft_crate_free_sp.tab T) 2 (resK shaft_crate_free_rs kf)))
def shaft_crate_fits_m {R : Type} (N : Nat) (a100 : api_Pose) (a101 : Int) (a102 : Int) (a103 : Int) (a104 : Int) (a105 : Int) (a106 : Int) (a107 : Mp Arr3_int Unit) (k : Bool → Option R) : Option R :=
  bif decide (api_Pose.Turn a100 ≥ (0 : Int)) then
   bif decide (api_Pose.Turn a100 < (6 : Int)) then
    shaft_crate_long N (api_Pose.Turn a100) a101 a102 a103 a104 a105 a106 a107 (fun r127 =>
    shaft_crate_free N (api_Pose.At a100) r127 a101 a102 a103 a104 a105 a106 a107 (fun r184 =>
    k r184))
   else
    k false
  else
   k false
noncomputable def shaft_crate_fits {R : Type} : Nat → api_Pose → Int → Int → Int → Int → Int → Int → Mp Arr3_int Unit → (Bool → Option R) → Option R := lock (@shaft_crate_fits_m R)
theorem shaft_crate_fits_def {R : Type} (N : Nat) (a100 : api_Pose) (a101 : Int) (a102 : Int) (a103 : Int) (a104 : Int) (a105 : Int) (a106 : Int) (a107 : Mp Arr3_int Unit) (k : Bool → Option R) : shaft_crate_fits N a100 a101 a102 a103 a104 a105 a106 a107 k = shaft_crate_fits_m N a100 a101 a102 a103 a104 a105 a106 a107 k := by unfold shaft_crate_fits; rw [lock_eq]
def shaft_crate_fits_sp : Sp := ⟨[rPtr 0 0, rAgg api_PoseC], [(0, eBlk [rInt .i64, rInt .i64, rInt .i64, rInt .i64, rInt .i64, rInt .i64, rRow 1]), (1, eMp true true Arr3_intC unitC)]⟩
theorem shaft_crate_fits_sp_ok : shaft_crate_fits_sp.Ok := ⟨(allCons (rPtr_ok 0 0) (allCons (rAgg_ok api_PoseC_ok api_PoseC_len) allNil)), (eCons (eBlk_ok (allCons (rInt_ok .i64) (allCons (rInt_ok .i64) (allCons (rInt_ok .i64) (allCons (rInt_ok .i64) (allCons (rInt_ok .i64) (allCons (rInt_ok .i64) (allCons (rRow_ok 1) allNil)))))))) (eCons (eMp_ok Arr3_intC_flat unitC_flat) eNil))⟩
def shaft_crate_fits_rs : Sp := ⟨[rBool], [(0, eBlk [rInt .i64, rInt .i64, rInt .i64, rInt .i64, rInt .i64, rInt .i64, rRow 1]), (1, eMp true true Arr3_intC unitC)]⟩
theorem shaft_crate_fits_rs_ok : shaft_crate_fits_rs.Ok := ⟨(allCons rBool_ok allNil), (eCons (eBlk_ok (allCons (rInt_ok .i64) (allCons (rInt_ok .i64) (allCons (rInt_ok .i64) (allCons (rInt_ok .i64) (allCons (rInt_ok .i64) (allCons (rInt_ok .i64) (allCons (rRow_ok 1) allNil)))))))) (eCons (eMp_ok Arr3_intC_flat unitC_flat) eNil))⟩
def shaft_crate_fits_run {R : Type} (N : Nat) (args : List SV) (T : Tab) (kf : SV × Tab → Option R) : Option R :=
  shaft_crate_fits_m N (Cod.dec api_PoseC (lget (toCs (lget args 1)))) (toI (lget (entCs (entAt T 0)) 0)) (toI (lget (entCs (entAt T 0)) 1)) (toI (lget (entCs (entAt T 0)) 2)) (toI (lget (entCs (entAt T 0)) 3)) (toI (lget (entCs (entAt T 0)) 4)) (toI (lget (entCs (entAt T 0)) 5)) (mpD Arr3_intC unitC (entHs (entAt T 1)) (entGt (entAt T 1))) (fun q0 => kf (lget [.bool q0] 0, [(0, .blk [.int .i64 (toI (lget (entCs (entAt T 0)) 0)), .int .i64 (toI (lget (entCs (entAt T 0)) 1)), .int .i64 (toI (lget (entCs (entAt T 0)) 2)), .int .i64 (toI (lget (entCs (entAt T 0)) 3)), .int .i64 (toI (lget (entCs (entAt T 0)) 4)), .int .i64 (toI (lget (entCs (entAt T 0)) 5)), .row 1]), (1, mpE true true Arr3_intC unitC (mpD Arr3_intC unitC (entHs (entAt T 1)) (entGt (entAt T 1))))]))
def shaft_crate_fits_lp {R : Type} (N : Nat) : Lp R := fun body S k => Option.none
noncomputable def shaft_crate_fits_go {R : Type} (N : Nat) (args : List SV) (T : Tab) (kf : SV × Tab → Option R) : Option R :=
  shaft_crate_fits N (Cod.dec api_PoseC (lget (toCs (lget args 1)))) (toI (lget (entCs (entAt T 0)) 0)) (toI (lget (entCs (entAt T 0)) 1)) (toI (lget (entCs (entAt T 0)) 2)) (toI (lget (entCs (entAt T 0)) 3)) (toI (lget (entCs (entAt T 0)) 4)) (toI (lget (entCs (entAt T 0)) 5)) (mpD Arr3_intC unitC (entHs (entAt T 1)) (entGt (entAt T 1))) (fun q0 => kf (lget [.bool q0] 0, [(0, .blk [.int .i64 (toI (lget (entCs (entAt T 0)) 0)), .int .i64 (toI (lget (entCs (entAt T 0)) 1)), .int .i64 (toI (lget (entCs (entAt T 0)) 2)), .int .i64 (toI (lget (entCs (entAt T 0)) 3)), .int .i64 (toI (lget (entCs (entAt T 0)) 4)), .int .i64 (toI (lget (entCs (entAt T 0)) 5)), .row 1]), (1, mpE true true Arr3_intC unitC (mpD Arr3_intC unitC (entHs (entAt T 1)) (entGt (entAt T 1))))]))
noncomputable def shaft_crate_fits_cal {R : Type} (N : Nat) : Cal R := callM (shaft_crate_free_cal N) 46 2 shaft_crate_fits_sp (shaft_crate_fits_go N)
theorem shaft_crate_fits_cal_ok {R : Type} (N : Nat) : CalOk E.P (shaft_crate_fits_cal (R := R) N) :=
  callM_ok hE (shaft_crate_free_cal_ok N) (lp := shaft_crate_fits_lp N) (jn := noJn) (keys := []) kNil (by kernel_rfl) (js := []) jNil (by kernel_rfl) shaft_crate_fits_sp_ok shaft_crate_fits_rs_ok (fun args T kf => Eq.trans (shaft_crate_fits_def N (Cod.dec api_PoseC (lget (toCs (lget args 1)))) (toI (lget (entCs (entAt T 0)) 0)) (toI (lget (entCs (entAt T 0)) 1)) (toI (lget (entCs (entAt T 0)) 2)) (toI (lget (entCs (entAt T 0)) 3)) (toI (lget (entCs (entAt T 0)) 4)) (toI (lget (entCs (entAt T 0)) 5)) (mpD Arr3_intC unitC (entHs (entAt T 1)) (entGt (entAt T 1))) (fun q0 => kf (lget [.bool q0] 0, [(0, .blk [.int .i64 (toI (lget (entCs (entAt T 0)) 0)), .int .i64 (toI (lget (entCs (entAt T 0)) 1)), .int .i64 (toI (lget (entCs (entAt T 0)) 2)), .int .i64 (toI (lget (entCs (entAt T 0)) 3)), .int .i64 (toI (lget (entCs (entAt T 0)) 4)), .int .i64 (toI (lget (entCs (entAt T 0)) 5)), .row 1]), (1, mpE true true Arr3_intC unitC (mpD Arr3_intC unitC (entHs (entAt T 1)) (entGt (entAt T 1))))]))) (by kernel_rfl : shaft_crate_fits_run N args T kf = fnM E (shaft_crate_free_cal N) (shaft_crate_fits_lp N) (noJn) 46 (shaft_crate_fits_sp.vs args) (shaft_crate_fits_sp.tab T) 2 (resK shaft_crate_fits_rs kf)))
def shaft_Fits_m {R : Type} (N : Nat) (a76 : api_Shaft) (a77 : Arr3_int) (a78 : api_Pose) (k : Bool → Int → Option R) : Option R :=
  shaft_check N a76 a77 (fun r79 =>
  bif r79 != (0 : Int) then
   k false r79
  else
   shaft_begin N a76 a77 (fun r93 r94 r95 r96 r97 r98 r99 =>
   shaft_crate_fits N a78 r93 r94 r95 r96 r97 r98 r99 (fun r185 =>
   k r185 (0 : Int))))
noncomputable def shaft_Fits {R : Type} : Nat → api_Shaft → Arr3_int → api_Pose → (Bool → Int → Option R) → Option R := lock (@shaft_Fits_m R)
theorem shaft_Fits_def {R : Type} (N : Nat) (a76 : api_Shaft) (a77 : Arr3_int) (a78 : api_Pose) (k : Bool → Int → Option R) : shaft_Fits N a76 a77 a78 k = shaft_Fits_m N a76 a77 a78 k := by unfold shaft_Fits; rw [lock_eq]
def shaft_Fits_sp : Sp := ⟨[rAgg api_ShaftC, rAgg Arr3_intC, rAgg api_PoseC], []⟩
theorem shaft_Fits_sp_ok : shaft_Fits_sp.Ok := ⟨(allCons (rAgg_ok api_ShaftC_ok api_ShaftC_len) (allCons (rAgg_ok Arr3_intC_ok Arr3_intC_len) (allCons (rAgg_ok api_PoseC_ok api_PoseC_len) allNil))), eNil⟩
def shaft_Fits_rs : Sp := ⟨[rTup [rBool, rInt .i64]], []⟩
theorem shaft_Fits_rs_ok : shaft_Fits_rs.Ok := ⟨(allCons (rTup_ok (allCons rBool_ok (allCons (rInt_ok .i64) allNil))) allNil), eNil⟩
def shaft_Fits_run {R : Type} (N : Nat) (args : List SV) (T : Tab) (kf : SV × Tab → Option R) : Option R :=
  shaft_Fits_m N (Cod.dec api_ShaftC (lget (toCs (lget args 0)))) (Cod.dec Arr3_intC (lget (toCs (lget args 1)))) (Cod.dec api_PoseC (lget (toCs (lget args 2)))) (fun q0 q1 => kf (lget [.tup [.bool q0, .int .i64 q1]] 0, []))
def shaft_Fits_lp {R : Type} (N : Nat) : Lp R := fun body S k => Option.none
noncomputable def shaft_Fits_go {R : Type} (N : Nat) (args : List SV) (T : Tab) (kf : SV × Tab → Option R) : Option R :=
  shaft_Fits N (Cod.dec api_ShaftC (lget (toCs (lget args 0)))) (Cod.dec Arr3_intC (lget (toCs (lget args 1)))) (Cod.dec api_PoseC (lget (toCs (lget args 2)))) (fun q0 q1 => kf (lget [.tup [.bool q0, .int .i64 q1]] 0, []))
noncomputable def shaft_Fits_cal {R : Type} (N : Nat) : Cal R := callM (shaft_crate_fits_cal N) 31 0 shaft_Fits_sp (shaft_Fits_go N)
theorem shaft_Fits_cal_ok {R : Type} (N : Nat) : CalOk E.P (shaft_Fits_cal (R := R) N) :=
  callM_ok hE (shaft_crate_fits_cal_ok N) (lp := shaft_Fits_lp N) (jn := noJn) (keys := []) kNil (by kernel_rfl) (js := []) jNil (by kernel_rfl) shaft_Fits_sp_ok shaft_Fits_rs_ok (fun args T kf => Eq.trans (shaft_Fits_def N (Cod.dec api_ShaftC (lget (toCs (lget args 0)))) (Cod.dec Arr3_intC (lget (toCs (lget args 1)))) (Cod.dec api_PoseC (lget (toCs (lget args 2)))) (fun q0 q1 => kf (lget [.tup [.bool q0, .int .i64 q1]] 0, []))) (by kernel_rfl : shaft_Fits_run N args T kf = fnM E (shaft_crate_fits_cal N) (shaft_Fits_lp N) (noJn) 31 (shaft_Fits_sp.vs args) (shaft_Fits_sp.tab T) 0 (resK shaft_Fits_rs kf)))
def newelref09_moved_L13 : LoopSp := ⟨⟨[4, 5, 6, 8, 12, 13, 14], ⟨(dr 4 ((rPtr 0 0) :: (rPtr 1 0) :: (rPtr 2 0) :: (dr 1 ((rPtr 3 0) :: (dr 3 ((rPtr 4 0) :: (rPtr 5 0) :: (rInt .i64) :: (dr 80 []))))))), [(0, eBlkC api_ShaftC), (1, eBlkC Arr3_intC), (2, eBlkC api_PoseC), (3, eBlkC api_PoseC), (4, eBlkC Arr3_intC), (5, eBlkC api_PoseC)]⟩, 6⟩, [(some 0, ⟨[4, 5, 6, 8, 13], ⟨(dr 4 ((rPtr 0 0) :: (rPtr 1 0) :: (rPtr 2 0) :: (dr 1 ((rPtr 3 0) :: (dr 4 ((rPtr 4 0) :: (dr 81 []))))))), [(0, eBlkC api_ShaftC), (1, eBlkC Arr3_intC), (2, eBlkC api_PoseC), (3, eBlkC api_PoseC), (4, eBlkC api_PoseC)]⟩, 5⟩)]⟩
theorem newelref09_moved_L13_ok : newelref09_moved_L13.Ok := ⟨⟨(drCons 4 (allCons (rPtr_ok 0 0) (allCons (rPtr_ok 1 0) (allCons (rPtr_ok 2 0) (drCons 1 (allCons (rPtr_ok 3 0) (drCons 3 (allCons (rPtr_ok 4 0) (allCons (rPtr_ok 5 0) (allCons (rInt_ok .i64) (drCons 80 allNil))))))))))), (eCons (eBlkC_ok api_ShaftC_ok api_ShaftC_len) (eCons (eBlkC_ok Arr3_intC_ok Arr3_intC_len) (eCons (eBlkC_ok api_PoseC_ok api_PoseC_len) (eCons (eBlkC_ok api_PoseC_ok api_PoseC_len) (eCons (eBlkC_ok Arr3_intC_ok Arr3_intC_len) (eCons (eBlkC_ok api_PoseC_ok api_PoseC_len) eNil))))))⟩, (xCons ⟨(drCons 4 (allCons (rPtr_ok 0 0) (allCons (rPtr_ok 1 0) (allCons (rPtr_ok 2 0) (drCons 1 (allCons (rPtr_ok 3 0) (drCons 4 (allCons (rPtr_ok 4 0) (drCons 81 allNil))))))))), (eCons (eBlkC_ok api_ShaftC_ok api_ShaftC_len) (eCons (eBlkC_ok Arr3_intC_ok Arr3_intC_len) (eCons (eBlkC_ok api_PoseC_ok api_PoseC_len) (eCons (eBlkC_ok api_PoseC_ok api_PoseC_len) (eCons (eBlkC_ok api_PoseC_ok api_PoseC_len) eNil)))))⟩ xNil)⟩
def newelref09_moved_h13 (v199 : Int) (v200 : api_Shaft) (v201 : Arr3_int) (v202 : api_Pose) (v203 : api_Pose) (v204 : Arr3_int) (v205 : api_Pose) : St := ⟨(un 4 ((.ptr 0 0) :: (.ptr 1 0) :: (.ptr 2 0) :: (un 1 ((.ptr 3 0) :: (un 3 ((.ptr 4 0) :: (.ptr 5 0) :: (.int .i64 v199) :: (un 80 []))))))), [(0, .blk (Cod.enc api_ShaftC v200)), (1, .blk (Cod.enc Arr3_intC v201)), (2, .blk (Cod.enc api_PoseC v202)), (3, .blk (Cod.enc api_PoseC v203)), (4, .blk (Cod.enc Arr3_intC v204)), (5, .blk (Cod.enc api_PoseC v205))], 6⟩
def newelref09_moved_x13_0 (v200 : api_Shaft) (v201 : Arr3_int) (v202 : api_Pose) (v203 : api_Pose) (q4 : api_Pose) : St := ⟨(un 4 ((.ptr 0 0) :: (.ptr 1 0) :: (.ptr 2 0) :: (un 1 ((.ptr 3 0) :: (un 4 ((.ptr 4 0) :: (un 81 []))))))), [(0, .blk (Cod.enc api_ShaftC v200)), (1, .blk (Cod.enc Arr3_intC v201)), (2, .blk (Cod.enc api_PoseC v202)), (3, .blk (Cod.enc api_PoseC v203)), (4, .blk (Cod.enc api_PoseC q4))], 5⟩
def newelref09_moved_b13 {R : Type} (N : Nat) (rc : Int → api_Shaft → Arr3_int → api_Pose → api_Pose → Arr3_int → api_Pose → Option R) (v199 : Int) (v200 : api_Shaft) (v201 : Arr3_int) (v202 : api_Pose) (v203 : api_Pose) (v204 : Arr3_int) (v205 : api_Pose) (k0 : api_Pose → Option R) : Option R :=
  bif decide (v199 < (6 : Int)) then
   newelref09_orders N  (fun r206 =>
   bif decide ((0 : Int) ≤ v199) && decide (v199 < (↑(6 : Nat) : Int)) then
    bif pickI v199 (0 : Nat) [Arr3_int.a0 (Arr6_T22.a0 r206), Arr3_int.a0 (Arr6_T22.a1 r206), Arr3_int.a0 (Arr6_T22.a2 r206), Arr3_int.a0 (Arr6_T22.a3 r206), Arr3_int.a0 (Arr6_T22.a4 r206), Arr3_int.a0 (Arr6_T22.a5 r206)] == Arr3_int.a0 v204 && (pickI v199 (0 : Nat) [Arr3_int.a1 (Arr6_T22.a0 r206), Arr3_int.a1 (Arr6_T22.a1 r206), Arr3_int.a1 (Arr6_T22.a2 r206), Arr3_int.a1 (Arr6_T22.a3 r206), Arr3_int.a1 (Arr6_T22.a4 r206), Arr3_int.a1 (Arr6_T22.a5 r206)] == Arr3_int.a1 v204 && (pickI v199 (0 : Nat) [Arr3_int.a2 (Arr6_T22.a0 r206), Arr3_int.a2 (Arr6_T22.a1 r206), Arr3_int.a2 (Arr6_T22.a2 r206), Arr3_int.a2 (Arr6_T22.a3 r206), Arr3_int.a2 (Arr6_T22.a4 r206), Arr3_int.a2 (Arr6_T22.a5 r206)] == Arr3_int.a2 v204 && true)) then
     rc (w64 (v199 + (1 : Int))) v200 v201 v202 v203 v204 (api_Pose.mk (api_Pose.At v205) v199)
    else
     rc (w64 (v199 + (1 : Int))) v200 v201 v202 v203 v204 v205
   else
    Option.none)
  else
   k0 v205
def newelref09_moved_l13 {R : Type} (N : Nat) : Nat → Int → api_Shaft → Arr3_int → api_Pose → api_Pose → Arr3_int → api_Pose → (api_Pose → Option R) → Option R
  | 0, _, _, _, _, _, _, _, _ => Option.none
  | n + 1, v199, v200, v201, v202, v203, v204, v205, k0 => newelref09_moved_b13 N (fun v199 v200 v201 v202 v203 v204 v205 => newelref09_moved_l13 N n v199 v200 v201 v202 v203 v204 v205 k0) v199 v200 v201 v202 v203 v204 v205 k0
def newelref09_moved_L20 : LoopSp := ⟨⟨[4, 6, 8, 13, 15, 16, 17, 18], ⟨(dr 4 ((rPtr 0 0) :: (dr 1 ((rPtr 1 0) :: (dr 1 ((rPtr 2 0) :: (dr 4 ((rPtr 3 0) :: (dr 1 ((rPtr 4 0) :: (rPtr 5 0) :: (rPtr 6 0) :: (rInt .i64) :: (dr 76 []))))))))))), [(0, eBlkC api_ShaftC), (1, eBlkC api_PoseC), (2, eBlkC api_PoseC), (3, eBlkC api_PoseC), (4, eBlkC Arr3_intC), (5, eBlkC Arr3_intC), (6, eBlkC Arr3_intC)]⟩, 7⟩, [(some 2, ⟨[4, 6, 8, 13, 17], ⟨(dr 4 ((rPtr 0 0) :: (dr 1 ((rPtr 1 0) :: (dr 1 ((rPtr 2 0) :: (dr 4 ((rPtr 3 0) :: (dr 3 ((rPtr 4 0) :: (dr 77 []))))))))))), [(0, eBlkC api_ShaftC), (1, eBlkC api_PoseC), (2, eBlkC api_PoseC), (3, eBlkC api_PoseC), (4, eBlkC Arr3_intC)]⟩, 5⟩)]⟩
theorem newelref09_moved_L20_ok : newelref09_moved_L20.Ok := ⟨⟨(drCons 4 (allCons (rPtr_ok 0 0) (drCons 1 (allCons (rPtr_ok 1 0) (drCons 1 (allCons (rPtr_ok 2 0) (drCons 4 (allCons (rPtr_ok 3 0) (drCons 1 (allCons (rPtr_ok 4 0) (allCons (rPtr_ok 5 0) (allCons (rPtr_ok 6 0) (allCons (rInt_ok .i64) (drCons 76 allNil)))))))))))))), (eCons (eBlkC_ok api_ShaftC_ok api_ShaftC_len) (eCons (eBlkC_ok api_PoseC_ok api_PoseC_len) (eCons (eBlkC_ok api_PoseC_ok api_PoseC_len) (eCons (eBlkC_ok api_PoseC_ok api_PoseC_len) (eCons (eBlkC_ok Arr3_intC_ok Arr3_intC_len) (eCons (eBlkC_ok Arr3_intC_ok Arr3_intC_len) (eCons (eBlkC_ok Arr3_intC_ok Arr3_intC_len) eNil)))))))⟩, (xCons ⟨(drCons 4 (allCons (rPtr_ok 0 0) (drCons 1 (allCons (rPtr_ok 1 0) (drCons 1 (allCons (rPtr_ok 2 0) (drCons 4 (allCons (rPtr_ok 3 0) (drCons 3 (allCons (rPtr_ok 4 0) (drCons 77 allNil))))))))))), (eCons (eBlkC_ok api_ShaftC_ok api_ShaftC_len) (eCons (eBlkC_ok api_PoseC_ok api_PoseC_len) (eCons (eBlkC_ok api_PoseC_ok api_PoseC_len) (eCons (eBlkC_ok api_PoseC_ok api_PoseC_len) (eCons (eBlkC_ok Arr3_intC_ok Arr3_intC_len) eNil)))))⟩ xNil)⟩
def newelref09_moved_h20 (v210 : Int) (v211 : api_Shaft) (v212 : api_Pose) (v213 : api_Pose) (v214 : api_Pose) (v215 : Arr3_int) (v216 : Arr3_int) (v217 : Arr3_int) : St := ⟨(un 4 ((.ptr 0 0) :: (un 1 ((.ptr 1 0) :: (un 1 ((.ptr 2 0) :: (un 4 ((.ptr 3 0) :: (un 1 ((.ptr 4 0) :: (.ptr 5 0) :: (.ptr 6 0) :: (.int .i64 v210) :: (un 76 []))))))))))), [(0, .blk (Cod.enc api_ShaftC v211)), (1, .blk (Cod.enc api_PoseC v212)), (2, .blk (Cod.enc api_PoseC v213)), (3, .blk (Cod.enc api_PoseC v214)), (4, .blk (Cod.enc Arr3_intC v215)), (5, .blk (Cod.enc Arr3_intC v216)), (6, .blk (Cod.enc Arr3_intC v217))], 7⟩
def newelref09_moved_x20_2 (v211 : api_Shaft) (v212 : api_Pose) (v213 : api_Pose) (v214 : api_Pose) (q4 : Arr3_int) : St := ⟨(un 4 ((.ptr 0 0) :: (un 1 ((.ptr 1 0) :: (un 1 ((.ptr 2 0) :: (un 4 ((.ptr 3 0) :: (un 3 ((.ptr 4 0) :: (un 77 []))))))))))), [(0, .blk (Cod.enc api_ShaftC v211)), (1, .blk (Cod.enc api_PoseC v212)), (2, .blk (Cod.enc api_PoseC v213)), (3, .blk (Cod.enc api_PoseC v214)), (4, .blk (Cod.enc Arr3_intC q4))], 5⟩
def newelref09_moved_b20 {R : Type} (N : Nat) (rc : Int → api_Shaft → api_Pose → api_Pose → api_Pose → Arr3_int → Arr3_int → Arr3_int → Option R) (v210 : Int) (v211 : api_Shaft) (v212 : api_Pose) (v213 : api_Pose) (v214 : api_Pose) (v215 : Arr3_int) (v216 : Arr3_int) (v217 : Arr3_int) (k2 : Arr3_int → Option R) : Option R :=
  bif decide (v210 < (3 : Int)) then
   bif decide ((0 : Int) ≤ v210) && decide (v210 < (↑(3 : Nat) : Int)) then
    bif decide ((0 : Int) ≤ v210) && decide (v210 < (↑(3 : Nat) : Int)) then
     bif decide ((0 : Int) ≤ v210) && decide (v210 < (↑(3 : Nat) : Int)) then
      rc (w64 (v210 + (1 : Int))) v211 v212 v213 v214 v215 v216 (Arr3_int.mk (bif v210 == (↑(0 : Nat) : Int) then mxI (pickI v210 (0 : Nat) [Arr3_int.a0 v215, Arr3_int.a1 v215, Arr3_int.a2 v215]) (pickI v210 (0 : Nat) [Arr3_int.a0 v216, Arr3_int.a1 v216, Arr3_int.a2 v216]) else Arr3_int.a0 v217) (bif v210 == (↑((0 : Nat) + (1 : Nat)) : Int) then mxI (pickI v210 (0 : Nat) [Arr3_int.a0 v215, Arr3_int.a1 v215, Arr3_int.a2 v215]) (pickI v210 (0 : Nat) [Arr3_int.a0 v216, Arr3_int.a1 v216, Arr3_int.a2 v216]) else Arr3_int.a1 v217) (bif v210 == (↑((0 : Nat) + (1 : Nat) + (1 : Nat)) : Int) then mxI (pickI v210 (0 : Nat) [Arr3_int.a0 v215, Arr3_int.a1 v215, Arr3_int.a2 v215]) (pickI v210 (0 : Nat) [Arr3_int.a0 v216, Arr3_int.a1 v216, Arr3_int.a2 v216]) else Arr3_int.a2 v217))
     else
      Option.none
    else
     Option.none
   else
    Option.none
  else
   k2 v217
def newelref09_moved_l20 {R : Type} (N : Nat) : Nat → Int → api_Shaft → api_Pose → api_Pose → api_Pose → Arr3_int → Arr3_int → Arr3_int → (Arr3_int → Option R) → Option R
  | 0, _, _, _, _, _, _, _, _, _ => Option.none
  | n + 1, v210, v211, v212, v213, v214, v215, v216, v217, k2 => newelref09_moved_b20 N (fun v210 v211 v212 v213 v214 v215 v216 v217 => newelref09_moved_l20 N n v210 v211 v212 v213 v214 v215 v216 v217 k2) v210 v211 v212 v213 v214 v215 v216 v217 k2
def newelref09_moved_m {R : Type} (N : Nat) (a193 : api_Shaft) (a194 : Arr3_int) (a195 : api_Pose) (a196 : Int) (k : api_Pose → Bool → Option R) : Option R :=
  bif decide (a196 < (6 : Int)) then
   bif decide ((0 : Int) ≤ w64 (Int.tdiv a196 (2 : Int))) && decide (w64 (Int.tdiv a196 (2 : Int)) < (↑(3 : Nat) : Int)) then
    bif decide ((0 : Int) ≤ w64 (Int.tdiv a196 (2 : Int))) && decide (w64 (Int.tdiv a196 (2 : Int)) < (↑(3 : Nat) : Int)) then
     newelref09_fits N a193 a194 (api_Pose.mk (Arr3_int.mk (bif w64 (Int.tdiv a196 (2 : Int)) == (↑(0 : Nat) : Int) then w64 (pickI (w64 (Int.tdiv a196 (2 : Int))) (0 : Nat) [Arr3_int.a0 (api_Pose.At a195), Arr3_int.a1 (api_Pose.At a195), Arr3_int.a2 (api_Pose.At a195)] + w64 ((1 : Int) - w64 ((2 : Int) * Int.tmod a196 (2 : Int)))) else Arr3_int.a0 (api_Pose.At a195)) (bif w64 (Int.tdiv a196 (2 : Int)) == (↑((0 : Nat) + (1 : Nat)) : Int) then w64 (pickI (w64 (Int.tdiv a196 (2 : Int))) (0 : Nat) [Arr3_int.a0 (api_Pose.At a195), Arr3_int.a1 (api_Pose.At a195), Arr3_int.a2 (api_Pose.At a195)] + w64 ((1 : Int) - w64 ((2 : Int) * Int.tmod a196 (2 : Int)))) else Arr3_int.a1 (api_Pose.At a195)) (bif w64 (Int.tdiv a196 (2 : Int)) == (↑((0 : Nat) + (1 : Nat) + (1 : Nat)) : Int) then w64 (pickI (w64 (Int.tdiv a196 (2 : Int))) (0 : Nat) [Arr3_int.a0 (api_Pose.At a195), Arr3_int.a1 (api_Pose.At a195), Arr3_int.a2 (api_Pose.At a195)] + w64 ((1 : Int) - w64 ((2 : Int) * Int.tmod a196 (2 : Int)))) else Arr3_int.a2 (api_Pose.At a195))) (api_Pose.Turn a195)) (fun r197 =>
     k (api_Pose.mk (Arr3_int.mk (bif w64 (Int.tdiv a196 (2 : Int)) == (↑(0 : Nat) : Int) then w64 (pickI (w64 (Int.tdiv a196 (2 : Int))) (0 : Nat) [Arr3_int.a0 (api_Pose.At a195), Arr3_int.a1 (api_Pose.At a195), Arr3_int.a2 (api_Pose.At a195)] + w64 ((1 : Int) - w64 ((2 : Int) * Int.tmod a196 (2 : Int)))) else Arr3_int.a0 (api_Pose.At a195)) (bif w64 (Int.tdiv a196 (2 : Int)) == (↑((0 : Nat) + (1 : Nat)) : Int) then w64 (pickI (w64 (Int.tdiv a196 (2 : Int))) (0 : Nat) [Arr3_int.a0 (api_Pose.At a195), Arr3_int.a1 (api_Pose.At a195), Arr3_int.a2 (api_Pose.At a195)] + w64 ((1 : Int) - w64 ((2 : Int) * Int.tmod a196 (2 : Int)))) else Arr3_int.a1 (api_Pose.At a195)) (bif w64 (Int.tdiv a196 (2 : Int)) == (↑((0 : Nat) + (1 : Nat) + (1 : Nat)) : Int) then w64 (pickI (w64 (Int.tdiv a196 (2 : Int))) (0 : Nat) [Arr3_int.a0 (api_Pose.At a195), Arr3_int.a1 (api_Pose.At a195), Arr3_int.a2 (api_Pose.At a195)] + w64 ((1 : Int) - w64 ((2 : Int) * Int.tmod a196 (2 : Int)))) else Arr3_int.a2 (api_Pose.At a195))) (api_Pose.Turn a195)) r197)
    else
     Option.none
   else
    Option.none
  else
   bif decide (a196 > (6 : Int)) then
    bif a196 == (8 : Int) then
     newelref09_orders N  (fun r198 =>
     bif decide ((0 : Int) ≤ api_Pose.Turn a195) && decide (api_Pose.Turn a195 < (↑(6 : Nat) : Int)) then
      newelref09_moved_l13 N N (0 : Int) a193 a194 a195 (api_Pose.mk (Arr3_int.mk (0 : Int) (0 : Int) (0 : Int)) (0 : Int)) (Arr3_int.mk (bif (2 : Int) == (↑(0 : Nat) : Int) then pickI (1 : Int) (0 : Nat) [pickI (api_Pose.Turn a195) (0 : Nat) [Arr3_int.a0 (Arr6_T22.a0 r198), Arr3_int.a0 (Arr6_T22.a1 r198), Arr3_int.a0 (Arr6_T22.a2 r198), Arr3_int.a0 (Arr6_T22.a3 r198), Arr3_int.a0 (Arr6_T22.a4 r198), Arr3_int.a0 (Arr6_T22.a5 r198)], pickI (api_Pose.Turn a195) (0 : Nat) [Arr3_int.a1 (Arr6_T22.a0 r198), Arr3_int.a1 (Arr6_T22.a1 r198), Arr3_int.a1 (Arr6_T22.a2 r198), Arr3_int.a1 (Arr6_T22.a3 r198), Arr3_int.a1 (Arr6_T22.a4 r198), Arr3_int.a1 (Arr6_T22.a5 r198)], pickI (api_Pose.Turn a195) (0 : Nat) [Arr3_int.a2 (Arr6_T22.a0 r198), Arr3_int.a2 (Arr6_T22.a1 r198), Arr3_int.a2 (Arr6_T22.a2 r198), Arr3_int.a2 (Arr6_T22.a3 r198), Arr3_int.a2 (Arr6_T22.a4 r198), Arr3_int.a2 (Arr6_T22.a5 r198)]] else bif (1 : Int) == (↑(0 : Nat) : Int) then pickI (2 : Int) (0 : Nat) [pickI (api_Pose.Turn a195) (0 : Nat) [Arr3_int.a0 (Arr6_T22.a0 r198), Arr3_int.a0 (Arr6_T22.a1 r198), Arr3_int.a0 (Arr6_T22.a2 r198), Arr3_int.a0 (Arr6_T22.a3 r198), Arr3_int.a0 (Arr6_T22.a4 r198), Arr3_int.a0 (Arr6_T22.a5 r198)], pickI (api_Pose.Turn a195) (0 : Nat) [Arr3_int.a1 (Arr6_T22.a0 r198), Arr3_int.a1 (Arr6_T22.a1 r198), Arr3_int.a1 (Arr6_T22.a2 r198), Arr3_int.a1 (Arr6_T22.a3 r198), Arr3_int.a1 (Arr6_T22.a4 r198), Arr3_int.a1 (Arr6_T22.a5 r198)], pickI (api_Pose.Turn a195) (0 : Nat) [Arr3_int.a2 (Arr6_T22.a0 r198), Arr3_int.a2 (Arr6_T22.a1 r198), Arr3_int.a2 (Arr6_T22.a2 r198), Arr3_int.a2 (Arr6_T22.a3 r198), Arr3_int.a2 (Arr6_T22.a4 r198), Arr3_int.a2 (Arr6_T22.a5 r198)]] else pickI (api_Pose.Turn a195) (0 : Nat) [Arr3_int.a0 (Arr6_T22.a0 r198), Arr3_int.a0 (Arr6_T22.a1 r198), Arr3_int.a0 (Arr6_T22.a2 r198), Arr3_int.a0 (Arr6_T22.a3 r198), Arr3_int.a0 (Arr6_T22.a4 r198), Arr3_int.a0 (Arr6_T22.a5 r198)]) (bif (2 : Int) == (↑((0 : Nat) + (1 : Nat)) : Int) then pickI (1 : Int) (0 : Nat) [pickI (api_Pose.Turn a195) (0 : Nat) [Arr3_int.a0 (Arr6_T22.a0 r198), Arr3_int.a0 (Arr6_T22.a1 r198), Arr3_int.a0 (Arr6_T22.a2 r198), Arr3_int.a0 (Arr6_T22.a3 r198), Arr3_int.a0 (Arr6_T22.a4 r198), Arr3_int.a0 (Arr6_T22.a5 r198)], pickI (api_Pose.Turn a195) (0 : Nat) [Arr3_int.a1 (Arr6_T22.a0 r198), Arr3_int.a1 (Arr6_T22.a1 r198), Arr3_int.a1 (Arr6_T22.a2 r198), Arr3_int.a1 (Arr6_T22.a3 r198), Arr3_int.a1 (Arr6_T22.a4 r198), Arr3_int.a1 (Arr6_T22.a5 r198)], pickI (api_Pose.Turn a195) (0 : Nat) [Arr3_int.a2 (Arr6_T22.a0 r198), Arr3_int.a2 (Arr6_T22.a1 r198), Arr3_int.a2 (Arr6_T22.a2 r198), Arr3_int.a2 (Arr6_T22.a3 r198), Arr3_int.a2 (Arr6_T22.a4 r198), Arr3_int.a2 (Arr6_T22.a5 r198)]] else bif (1 : Int) == (↑((0 : Nat) + (1 : Nat)) : Int) then pickI (2 : Int) (0 : Nat) [pickI (api_Pose.Turn a195) (0 : Nat) [Arr3_int.a0 (Arr6_T22.a0 r198), Arr3_int.a0 (Arr6_T22.a1 r198), Arr3_int.a0 (Arr6_T22.a2 r198), Arr3_int.a0 (Arr6_T22.a3 r198), Arr3_int.a0 (Arr6_T22.a4 r198), Arr3_int.a0 (Arr6_T22.a5 r198)], pickI (api_Pose.Turn a195) (0 : Nat) [Arr3_int.a1 (Arr6_T22.a0 r198), Arr3_int.a1 (Arr6_T22.a1 r198), Arr3_int.a1 (Arr6_T22.a2 r198), Arr3_int.a1 (Arr6_T22.a3 r198), Arr3_int.a1 (Arr6_T22.a4 r198), Arr3_int.a1 (Arr6_T22.a5 r198)], pickI (api_Pose.Turn a195) (0 : Nat) [Arr3_int.a2 (Arr6_T22.a0 r198), Arr3_int.a2 (Arr6_T22.a1 r198), Arr3_int.a2 (Arr6_T22.a2 r198), Arr3_int.a2 (Arr6_T22.a3 r198), Arr3_int.a2 (Arr6_T22.a4 r198), Arr3_int.a2 (Arr6_T22.a5 r198)]] else pickI (api_Pose.Turn a195) (0 : Nat) [Arr3_int.a1 (Arr6_T22.a0 r198), Arr3_int.a1 (Arr6_T22.a1 r198), Arr3_int.a1 (Arr6_T22.a2 r198), Arr3_int.a1 (Arr6_T22.a3 r198), Arr3_int.a1 (Arr6_T22.a4 r198), Arr3_int.a1 (Arr6_T22.a5 r198)]) (bif (2 : Int) == (↑((0 : Nat) + (1 : Nat) + (1 : Nat)) : Int) then pickI (1 : Int) (0 : Nat) [pickI (api_Pose.Turn a195) (0 : Nat) [Arr3_int.a0 (Arr6_T22.a0 r198), Arr3_int.a0 (Arr6_T22.a1 r198), Arr3_int.a0 (Arr6_T22.a2 r198), Arr3_int.a0 (Arr6_T22.a3 r198), Arr3_int.a0 (Arr6_T22.a4 r198), Arr3_int.a0 (Arr6_T22.a5 r198)], pickI (api_Pose.Turn a195) (0 : Nat) [Arr3_int.a1 (Arr6_T22.a0 r198), Arr3_int.a1 (Arr6_T22.a1 r198), Arr3_int.a1 (Arr6_T22.a2 r198), Arr3_int.a1 (Arr6_T22.a3 r198), Arr3_int.a1 (Arr6_T22.a4 r198), Arr3_int.a1 (Arr6_T22.a5 r198)], pickI (api_Pose.Turn a195) (0 : Nat) [Arr3_int.a2 (Arr6_T22.a0 r198), Arr3_int.a2 (Arr6_T22.a1 r198), Arr3_int.a2 (Arr6_T22.a2 r198), Arr3_int.a2 (Arr6_T22.a3 r198), Arr3_int.a2 (Arr6_T22.a4 r198), Arr3_int.a2 (Arr6_T22.a5 r198)]] else bif (1 : Int) == (↑((0 : Nat) + (1 : Nat) + (1 : Nat)) : Int) then pickI (2 : Int) (0 : Nat) [pickI (api_Pose.Turn a195) (0 : Nat) [Arr3_int.a0 (Arr6_T22.a0 r198), Arr3_int.a0 (Arr6_T22.a1 r198), Arr3_int.a0 (Arr6_T22.a2 r198), Arr3_int.a0 (Arr6_T22.a3 r198), Arr3_int.a0 (Arr6_T22.a4 r198), Arr3_int.a0 (Arr6_T22.a5 r198)], pickI (api_Pose.Turn a195) (0 : Nat) [Arr3_int.a1 (Arr6_T22.a0 r198), Arr3_int.a1 (Arr6_T22.a1 r198), Arr3_int.a1 (Arr6_T22.a2 r198), Arr3_int.a1 (Arr6_T22.a3 r198), Arr3_int.a1 (Arr6_T22.a4 r198), Arr3_int.a1 (Arr6_T22.a5 r198)], pickI (api_Pose.Turn a195) (0 : Nat) [Arr3_int.a2 (Arr6_T22.a0 r198), Arr3_int.a2 (Arr6_T22.a1 r198), Arr3_int.a2 (Arr6_T22.a2 r198), Arr3_int.a2 (Arr6_T22.a3 r198), Arr3_int.a2 (Arr6_T22.a4 r198), Arr3_int.a2 (Arr6_T22.a5 r198)]] else pickI (api_Pose.Turn a195) (0 : Nat) [Arr3_int.a2 (Arr6_T22.a0 r198), Arr3_int.a2 (Arr6_T22.a1 r198), Arr3_int.a2 (Arr6_T22.a2 r198), Arr3_int.a2 (Arr6_T22.a3 r198), Arr3_int.a2 (Arr6_T22.a4 r198), Arr3_int.a2 (Arr6_T22.a5 r198)])) a195 (fun r207 =>
       newelref09_along N a194 (api_Pose.Turn a195) (fun r208 =>
       newelref09_along N a194 (api_Pose.Turn r207) (fun r209 =>
       newelref09_moved_l20 N N (0 : Int) a193 a195 (api_Pose.mk (Arr3_int.mk (0 : Int) (0 : Int) (0 : Int)) (0 : Int)) r207 r208 r209 (Arr3_int.mk (0 : Int) (0 : Int) (0 : Int)) (fun r218 =>
        newelref09_free N a193 (api_Pose.At a195) r218 (fun r219 =>
        k r207 r219)))))
     else
      Option.none)
    else
     newelref09_orders N  (fun r220 =>
     bif decide ((0 : Int) ≤ api_Pose.Turn a195) && decide (api_Pose.Turn a195 < (↑(6 : Nat) : Int)) then
      newelref09_moved_l13 N N (0 : Int) a193 a194 a195 (api_Pose.mk (Arr3_int.mk (0 : Int) (0 : Int) (0 : Int)) (0 : Int)) (Arr3_int.mk (bif (2 : Int) == (↑(0 : Nat) : Int) then pickI (0 : Int) (0 : Nat) [pickI (api_Pose.Turn a195) (0 : Nat) [Arr3_int.a0 (Arr6_T22.a0 r220), Arr3_int.a0 (Arr6_T22.a1 r220), Arr3_int.a0 (Arr6_T22.a2 r220), Arr3_int.a0 (Arr6_T22.a3 r220), Arr3_int.a0 (Arr6_T22.a4 r220), Arr3_int.a0 (Arr6_T22.a5 r220)], pickI (api_Pose.Turn a195) (0 : Nat) [Arr3_int.a1 (Arr6_T22.a0 r220), Arr3_int.a1 (Arr6_T22.a1 r220), Arr3_int.a1 (Arr6_T22.a2 r220), Arr3_int.a1 (Arr6_T22.a3 r220), Arr3_int.a1 (Arr6_T22.a4 r220), Arr3_int.a1 (Arr6_T22.a5 r220)], pickI (api_Pose.Turn a195) (0 : Nat) [Arr3_int.a2 (Arr6_T22.a0 r220), Arr3_int.a2 (Arr6_T22.a1 r220), Arr3_int.a2 (Arr6_T22.a2 r220), Arr3_int.a2 (Arr6_T22.a3 r220), Arr3_int.a2 (Arr6_T22.a4 r220), Arr3_int.a2 (Arr6_T22.a5 r220)]] else bif (0 : Int) == (↑(0 : Nat) : Int) then pickI (2 : Int) (0 : Nat) [pickI (api_Pose.Turn a195) (0 : Nat) [Arr3_int.a0 (Arr6_T22.a0 r220), Arr3_int.a0 (Arr6_T22.a1 r220), Arr3_int.a0 (Arr6_T22.a2 r220), Arr3_int.a0 (Arr6_T22.a3 r220), Arr3_int.a0 (Arr6_T22.a4 r220), Arr3_int.a0 (Arr6_T22.a5 r220)], pickI (api_Pose.Turn a195) (0 : Nat) [Arr3_int.a1 (Arr6_T22.a0 r220), Arr3_int.a1 (Arr6_T22.a1 r220), Arr3_int.a1 (Arr6_T22.a2 r220), Arr3_int.a1 (Arr6_T22.a3 r220), Arr3_int.a1 (Arr6_T22.a4 r220), Arr3_int.a1 (Arr6_T22.a5 r220)], pickI (api_Pose.Turn a195) (0 : Nat) [Arr3_int.a2 (Arr6_T22.a0 r220), Arr3_int.a2 (Arr6_T22.a1 r220), Arr3_int.a2 (Arr6_T22.a2 r220), Arr3_int.a2 (Arr6_T22.a3 r220), Arr3_int.a2 (Arr6_T22.a4 r220), Arr3_int.a2 (Arr6_T22.a5 r220)]] else pickI (api_Pose.Turn a195) (0 : Nat) [Arr3_int.a0 (Arr6_T22.a0 r220), Arr3_int.a0 (Arr6_T22.a1 r220), Arr3_int.a0 (Arr6_T22.a2 r220), Arr3_int.a0 (Arr6_T22.a3 r220), Arr3_int.a0 (Arr6_T22.a4 r220), Arr3_int.a0 (Arr6_T22.a5 r220)]) (bif (2 : Int) == (↑((0 : Nat) + (1 : Nat)) : Int) then pickI (0 : Int) (0 : Nat) [pickI (api_Pose.Turn a195) (0 : Nat) [Arr3_int.a0 (Arr6_T22.a0 r220), Arr3_int.a0 (Arr6_T22.a1 r220), Arr3_int.a0 (Arr6_T22.a2 r220), Arr3_int.a0 (Arr6_T22.a3 r220), Arr3_int.a0 (Arr6_T22.a4 r220), Arr3_int.a0 (Arr6_T22.a5 r220)], pickI (api_Pose.Turn a195) (0 : Nat) [Arr3_int.a1 (Arr6_T22.a0 r220), Arr3_int.a1 (Arr6_T22.a1 r220), Arr3_int.a1 (Arr6_T22.a2 r220), Arr3_int.a1 (Arr6_T22.a3 r220), Arr3_int.a1 (Arr6_T22.a4 r220), Arr3_int.a1 (Arr6_T22.a5 r220)], pickI (api_Pose.Turn a195) (0 : Nat) [Arr3_int.a2 (Arr6_T22.a0 r220), Arr3_int.a2 (Arr6_T22.a1 r220), Arr3_int.a2 (Arr6_T22.a2 r220), Arr3_int.a2 (Arr6_T22.a3 r220), Arr3_int.a2 (Arr6_T22.a4 r220), Arr3_int.a2 (Arr6_T22.a5 r220)]] else bif (0 : Int) == (↑((0 : Nat) + (1 : Nat)) : Int) then pickI (2 : Int) (0 : Nat) [pickI (api_Pose.Turn a195) (0 : Nat) [Arr3_int.a0 (Arr6_T22.a0 r220), Arr3_int.a0 (Arr6_T22.a1 r220), Arr3_int.a0 (Arr6_T22.a2 r220), Arr3_int.a0 (Arr6_T22.a3 r220), Arr3_int.a0 (Arr6_T22.a4 r220), Arr3_int.a0 (Arr6_T22.a5 r220)], pickI (api_Pose.Turn a195) (0 : Nat) [Arr3_int.a1 (Arr6_T22.a0 r220), Arr3_int.a1 (Arr6_T22.a1 r220), Arr3_int.a1 (Arr6_T22.a2 r220), Arr3_int.a1 (Arr6_T22.a3 r220), Arr3_int.a1 (Arr6_T22.a4 r220), Arr3_int.a1 (Arr6_T22.a5 r220)], pickI (api_Pose.Turn a195) (0 : Nat) [Arr3_int.a2 (Arr6_T22.a0 r220), Arr3_int.a2 (Arr6_T22.a1 r220), Arr3_int.a2 (Arr6_T22.a2 r220), Arr3_int.a2 (Arr6_T22.a3 r220), Arr3_int.a2 (Arr6_T22.a4 r220), Arr3_int.a2 (Arr6_T22.a5 r220)]] else pickI (api_Pose.Turn a195) (0 : Nat) [Arr3_int.a1 (Arr6_T22.a0 r220), Arr3_int.a1 (Arr6_T22.a1 r220), Arr3_int.a1 (Arr6_T22.a2 r220), Arr3_int.a1 (Arr6_T22.a3 r220), Arr3_int.a1 (Arr6_T22.a4 r220), Arr3_int.a1 (Arr6_T22.a5 r220)]) (bif (2 : Int) == (↑((0 : Nat) + (1 : Nat) + (1 : Nat)) : Int) then pickI (0 : Int) (0 : Nat) [pickI (api_Pose.Turn a195) (0 : Nat) [Arr3_int.a0 (Arr6_T22.a0 r220), Arr3_int.a0 (Arr6_T22.a1 r220), Arr3_int.a0 (Arr6_T22.a2 r220), Arr3_int.a0 (Arr6_T22.a3 r220), Arr3_int.a0 (Arr6_T22.a4 r220), Arr3_int.a0 (Arr6_T22.a5 r220)], pickI (api_Pose.Turn a195) (0 : Nat) [Arr3_int.a1 (Arr6_T22.a0 r220), Arr3_int.a1 (Arr6_T22.a1 r220), Arr3_int.a1 (Arr6_T22.a2 r220), Arr3_int.a1 (Arr6_T22.a3 r220), Arr3_int.a1 (Arr6_T22.a4 r220), Arr3_int.a1 (Arr6_T22.a5 r220)], pickI (api_Pose.Turn a195) (0 : Nat) [Arr3_int.a2 (Arr6_T22.a0 r220), Arr3_int.a2 (Arr6_T22.a1 r220), Arr3_int.a2 (Arr6_T22.a2 r220), Arr3_int.a2 (Arr6_T22.a3 r220), Arr3_int.a2 (Arr6_T22.a4 r220), Arr3_int.a2 (Arr6_T22.a5 r220)]] else bif (0 : Int) == (↑((0 : Nat) + (1 : Nat) + (1 : Nat)) : Int) then pickI (2 : Int) (0 : Nat) [pickI (api_Pose.Turn a195) (0 : Nat) [Arr3_int.a0 (Arr6_T22.a0 r220), Arr3_int.a0 (Arr6_T22.a1 r220), Arr3_int.a0 (Arr6_T22.a2 r220), Arr3_int.a0 (Arr6_T22.a3 r220), Arr3_int.a0 (Arr6_T22.a4 r220), Arr3_int.a0 (Arr6_T22.a5 r220)], pickI (api_Pose.Turn a195) (0 : Nat) [Arr3_int.a1 (Arr6_T22.a0 r220), Arr3_int.a1 (Arr6_T22.a1 r220), Arr3_int.a1 (Arr6_T22.a2 r220), Arr3_int.a1 (Arr6_T22.a3 r220), Arr3_int.a1 (Arr6_T22.a4 r220), Arr3_int.a1 (Arr6_T22.a5 r220)], pickI (api_Pose.Turn a195) (0 : Nat) [Arr3_int.a2 (Arr6_T22.a0 r220), Arr3_int.a2 (Arr6_T22.a1 r220), Arr3_int.a2 (Arr6_T22.a2 r220), Arr3_int.a2 (Arr6_T22.a3 r220), Arr3_int.a2 (Arr6_T22.a4 r220), Arr3_int.a2 (Arr6_T22.a5 r220)]] else pickI (api_Pose.Turn a195) (0 : Nat) [Arr3_int.a2 (Arr6_T22.a0 r220), Arr3_int.a2 (Arr6_T22.a1 r220), Arr3_int.a2 (Arr6_T22.a2 r220), Arr3_int.a2 (Arr6_T22.a3 r220), Arr3_int.a2 (Arr6_T22.a4 r220), Arr3_int.a2 (Arr6_T22.a5 r220)])) a195 (fun r221 =>
       newelref09_along N a194 (api_Pose.Turn a195) (fun r222 =>
       newelref09_along N a194 (api_Pose.Turn r221) (fun r223 =>
       newelref09_moved_l20 N N (0 : Int) a193 a195 (api_Pose.mk (Arr3_int.mk (0 : Int) (0 : Int) (0 : Int)) (0 : Int)) r221 r222 r223 (Arr3_int.mk (0 : Int) (0 : Int) (0 : Int)) (fun r224 =>
        newelref09_free N a193 (api_Pose.At a195) r224 (fun r225 =>
        k r221 r225)))))
     else
      Option.none)
   else
    bif a196 == (8 : Int) then
     newelref09_orders N  (fun r226 =>
     bif decide ((0 : Int) ≤ api_Pose.Turn a195) && decide (api_Pose.Turn a195 < (↑(6 : Nat) : Int)) then
      newelref09_moved_l13 N N (0 : Int) a193 a194 a195 (api_Pose.mk (Arr3_int.mk (0 : Int) (0 : Int) (0 : Int)) (0 : Int)) (Arr3_int.mk (bif (1 : Int) == (↑(0 : Nat) : Int) then pickI (1 : Int) (0 : Nat) [pickI (api_Pose.Turn a195) (0 : Nat) [Arr3_int.a0 (Arr6_T22.a0 r226), Arr3_int.a0 (Arr6_T22.a1 r226), Arr3_int.a0 (Arr6_T22.a2 r226), Arr3_int.a0 (Arr6_T22.a3 r226), Arr3_int.a0 (Arr6_T22.a4 r226), Arr3_int.a0 (Arr6_T22.a5 r226)], pickI (api_Pose.Turn a195) (0 : Nat) [Arr3_int.a1 (Arr6_T22.a0 r226), Arr3_int.a1 (Arr6_T22.a1 r226), Arr3_int.a1 (Arr6_T22.a2 r226), Arr3_int.a1 (Arr6_T22.a3 r226), Arr3_int.a1 (Arr6_T22.a4 r226), Arr3_int.a1 (Arr6_T22.a5 r226)], pickI (api_Pose.Turn a195) (0 : Nat) [Arr3_int.a2 (Arr6_T22.a0 r226), Arr3_int.a2 (Arr6_T22.a1 r226), Arr3_int.a2 (Arr6_T22.a2 r226), Arr3_int.a2 (Arr6_T22.a3 r226), Arr3_int.a2 (Arr6_T22.a4 r226), Arr3_int.a2 (Arr6_T22.a5 r226)]] else bif (1 : Int) == (↑(0 : Nat) : Int) then pickI (1 : Int) (0 : Nat) [pickI (api_Pose.Turn a195) (0 : Nat) [Arr3_int.a0 (Arr6_T22.a0 r226), Arr3_int.a0 (Arr6_T22.a1 r226), Arr3_int.a0 (Arr6_T22.a2 r226), Arr3_int.a0 (Arr6_T22.a3 r226), Arr3_int.a0 (Arr6_T22.a4 r226), Arr3_int.a0 (Arr6_T22.a5 r226)], pickI (api_Pose.Turn a195) (0 : Nat) [Arr3_int.a1 (Arr6_T22.a0 r226), Arr3_int.a1 (Arr6_T22.a1 r226), Arr3_int.a1 (Arr6_T22.a2 r226), Arr3_int.a1 (Arr6_T22.a3 r226), Arr3_int.a1 (Arr6_T22.a4 r226), Arr3_int.a1 (Arr6_T22.a5 r226)], pickI (api_Pose.Turn a195) (0 : Nat) [Arr3_int.a2 (Arr6_T22.a0 r226), Arr3_int.a2 (Arr6_T22.a1 r226), Arr3_int.a2 (Arr6_T22.a2 r226), Arr3_int.a2 (Arr6_T22.a3 r226), Arr3_int.a2 (Arr6_T22.a4 r226), Arr3_int.a2 (Arr6_T22.a5 r226)]] else pickI (api_Pose.Turn a195) (0 : Nat) [Arr3_int.a0 (Arr6_T22.a0 r226), Arr3_int.a0 (Arr6_T22.a1 r226), Arr3_int.a0 (Arr6_T22.a2 r226), Arr3_int.a0 (Arr6_T22.a3 r226), Arr3_int.a0 (Arr6_T22.a4 r226), Arr3_int.a0 (Arr6_T22.a5 r226)]) (bif (1 : Int) == (↑((0 : Nat) + (1 : Nat)) : Int) then pickI (1 : Int) (0 : Nat) [pickI (api_Pose.Turn a195) (0 : Nat) [Arr3_int.a0 (Arr6_T22.a0 r226), Arr3_int.a0 (Arr6_T22.a1 r226), Arr3_int.a0 (Arr6_T22.a2 r226), Arr3_int.a0 (Arr6_T22.a3 r226), Arr3_int.a0 (Arr6_T22.a4 r226), Arr3_int.a0 (Arr6_T22.a5 r226)], pickI (api_Pose.Turn a195) (0 : Nat) [Arr3_int.a1 (Arr6_T22.a0 r226), Arr3_int.a1 (Arr6_T22.a1 r226), Arr3_int.a1 (Arr6_T22.a2 r226), Arr3_int.a1 (Arr6_T22.a3 r226), Arr3_int.a1 (Arr6_T22.a4 r226), Arr3_int.a1 (Arr6_T22.a5 r226)], pickI (api_Pose.Turn a195) (0 : Nat) [Arr3_int.a2 (Arr6_T22.a0 r226), Arr3_int.a2 (Arr6_T22.a1 r226), Arr3_int.a2 (Arr6_T22.a2 r226), Arr3_int.a2 (Arr6_T22.a3 r226), Arr3_int.a2 (Arr6_T22.a4 r226), Arr3_int.a2 (Arr6_T22.a5 r226)]] else bif (1 : Int) == (↑((0 : Nat) + (1 : Nat)) : Int) then pickI (1 : Int) (0 : Nat) [pickI (api_Pose.Turn a195) (0 : Nat) [Arr3_int.a0 (Arr6_T22.a0 r226), Arr3_int.a0 (Arr6_T22.a1 r226), Arr3_int.a0 (Arr6_T22.a2 r226), Arr3_int.a0 (Arr6_T22.a3 r226), Arr3_int.a0 (Arr6_T22.a4 r226), Arr3_int.a0 (Arr6_T22.a5 r226)], pickI (api_Pose.Turn a195) (0 : Nat) [Arr3_int.a1 (Arr6_T22.a0 r226), Arr3_int.a1 (Arr6_T22.a1 r226), Arr3_int.a1 (Arr6_T22.a2 r226), Arr3_int.a1 (Arr6_T22.a3 r226), Arr3_int.a1 (Arr6_T22.a4 r226), Arr3_int.a1 (Arr6_T22.a5 r226)], pickI (api_Pose.Turn a195) (0 : Nat) [Arr3_int.a2 (Arr6_T22.a0 r226), Arr3_int.a2 (Arr6_T22.a1 r226), Arr3_int.a2 (Arr6_T22.a2 r226), Arr3_int.a2 (Arr6_T22.a3 r226), Arr3_int.a2 (Arr6_T22.a4 r226), Arr3_int.a2 (Arr6_T22.a5 r226)]] else pickI (api_Pose.Turn a195) (0 : Nat) [Arr3_int.a1 (Arr6_T22.a0 r226), Arr3_int.a1 (Arr6_T22.a1 r226), Arr3_int.a1 (Arr6_T22.a2 r226), Arr3_int.a1 (Arr6_T22.a3 r226), Arr3_int.a1 (Arr6_T22.a4 r226), Arr3_int.a1 (Arr6_T22.a5 r226)]) (bif (1 : Int) == (↑((0 : Nat) + (1 : Nat) + (1 : Nat)) : Int) then pickI (1 : Int) (0 : Nat) [pickI (api_Pose.Turn a195) (0 : Nat) [Arr3_int.a0 (Arr6_T22.a0 r226), Arr3_int.a0 (Arr6_T22.a1 r226), Arr3_int.a0 (Arr6_T22.a2 r226), Arr3_int.a0 (Arr6_T22.a3 r226), Arr3_int.a0 (Arr6_T22.a4 r226), Arr3_int.a0 (Arr6_T22.a5 r226)], pickI (api_Pose.Turn a195) (0 : Nat) [Arr3_int.a1 (Arr6_T22.a0 r226), Arr3_int.a1 (Arr6_T22.a1 r226), Arr3_int.a1 (Arr6_T22.a2 r226), Arr3_int.a1 (Arr6_T22.a3 r226), Arr3_int.a1 (Arr6_T22.a4 r226), Arr3_int.a1 (Arr6_T22.a5 r226)], pickI (api_Pose.Turn a195) (0 : Nat) [Arr3_int.a2 (Arr6_T22.a0 r226), Arr3_int.a2 (Arr6_T22.a1 r226), Arr3_int.a2 (Arr6_T22.a2 r226), Arr3_int.a2 (Arr6_T22.a3 r226), Arr3_int.a2 (Arr6_T22.a4 r226), Arr3_int.a2 (Arr6_T22.a5 r226)]] else bif (1 : Int) == (↑((0 : Nat) + (1 : Nat) + (1 : Nat)) : Int) then pickI (1 : Int) (0 : Nat) [pickI (api_Pose.Turn a195) (0 : Nat) [Arr3_int.a0 (Arr6_T22.a0 r226), Arr3_int.a0 (Arr6_T22.a1 r226), Arr3_int.a0 (Arr6_T22.a2 r226), Arr3_int.a0 (Arr6_T22.a3 r226), Arr3_int.a0 (Arr6_T22.a4 r226), Arr3_int.a0 (Arr6_T22.a5 r226)], pickI (api_Pose.Turn a195) (0 : Nat) [Arr3_int.a1 (Arr6_T22.a0 r226), Arr3_int.a1 (Arr6_T22.a1 r226), Arr3_int.a1 (Arr6_T22.a2 r226), Arr3_int.a1 (Arr6_T22.a3 r226), Arr3_int.a1 (Arr6_T22.a4 r226), Arr3_int.a1 (Arr6_T22.a5 r226)], pickI (api_Pose.Turn a195) (0 : Nat) [Arr3_int.a2 (Arr6_T22.a0 r226), Arr3_int.a2 (Arr6_T22.a1 r226), Arr3_int.a2 (Arr6_T22.a2 r226), Arr3_int.a2 (Arr6_T22.a3 r226), Arr3_int.a2 (Arr6_T22.a4 r226), Arr3_int.a2 (Arr6_T22.a5 r226)]] else pickI (api_Pose.Turn a195) (0 : Nat) [Arr3_int.a2 (Arr6_T22.a0 r226), Arr3_int.a2 (Arr6_T22.a1 r226), Arr3_int.a2 (Arr6_T22.a2 r226), Arr3_int.a2 (Arr6_T22.a3 r226), Arr3_int.a2 (Arr6_T22.a4 r226), Arr3_int.a2 (Arr6_T22.a5 r226)])) a195 (fun r227 =>
       newelref09_along N a194 (api_Pose.Turn a195) (fun r228 =>
       newelref09_along N a194 (api_Pose.Turn r227) (fun r229 =>
       newelref09_moved_l20 N N (0 : Int) a193 a195 (api_Pose.mk (Arr3_int.mk (0 : Int) (0 : Int) (0 : Int)) (0 : Int)) r227 r228 r229 (Arr3_int.mk (0 : Int) (0 : Int) (0 : Int)) (fun r230 =>
        newelref09_free N a193 (api_Pose.At a195) r230 (fun r231 =>
        k r227 r231)))))
     else
      Option.none)
    else
     newelref09_orders N  (fun r232 =>
     bif decide ((0 : Int) ≤ api_Pose.Turn a195) && decide (api_Pose.Turn a195 < (↑(6 : Nat) : Int)) then
      newelref09_moved_l13 N N (0 : Int) a193 a194 a195 (api_Pose.mk (Arr3_int.mk (0 : Int) (0 : Int) (0 : Int)) (0 : Int)) (Arr3_int.mk (bif (1 : Int) == (↑(0 : Nat) : Int) then pickI (0 : Int) (0 : Nat) [pickI (api_Pose.Turn a195) (0 : Nat) [Arr3_int.a0 (Arr6_T22.a0 r232), Arr3_int.a0 (Arr6_T22.a1 r232), Arr3_int.a0 (Arr6_T22.a2 r232), Arr3_int.a0 (Arr6_T22.a3 r232), Arr3_int.a0 (Arr6_T22.a4 r232), Arr3_int.a0 (Arr6_T22.a5 r232)], pickI (api_Pose.Turn a195) (0 : Nat) [Arr3_int.a1 (Arr6_T22.a0 r232), Arr3_int.a1 (Arr6_T22.a1 r232), Arr3_int.a1 (Arr6_T22.a2 r232), Arr3_int.a1 (Arr6_T22.a3 r232), Arr3_int.a1 (Arr6_T22.a4 r232), Arr3_int.a1 (Arr6_T22.a5 r232)], pickI (api_Pose.Turn a195) (0 : Nat) [Arr3_int.a2 (Arr6_T22.a0 r232), Arr3_int.a2 (Arr6_T22.a1 r232), Arr3_int.a2 (Arr6_T22.a2 r232), Arr3_int.a2 (Arr6_T22.a3 r232), Arr3_int.a2 (Arr6_T22.a4 r232), Arr3_int.a2 (Arr6_T22.a5 r232)]] else bif (0 : Int) == (↑(0 : Nat) : Int) then pickI (1 : Int) (0 : Nat) [pickI (api_Pose.Turn a195) (0 : Nat) [Arr3_int.a0 (Arr6_T22.a0 r232), Arr3_int.a0 (Arr6_T22.a1 r232), Arr3_int.a0 (Arr6_T22.a2 r232), Arr3_int.a0 (Arr6_T22.a3 r232), Arr3_int.a0 (Arr6_T22.a4 r232), Arr3_int.a0 (Arr6_T22.a5 r232)], pickI (api_Pose.Turn a195) (0 : Nat) [Arr3_int.a1 (Arr6_T22.a0 r232), Arr3_int.a1 (Arr6_T22.a1 r232), Arr3_int.a1 (Arr6_T22.a2 r232), Arr3_int.a1 (Arr6_T22.a3 r232), Arr3_int.a1 (Arr6_T22.a4 r232), Arr3_int.a1 (Arr6_T22.a5 r232)], pickI (api_Pose.Turn a195) (0 : Nat) [Arr3_int.a2 (Arr6_T22.a0 r232), Arr3_int.a2 (Arr6_T22.a1 r232), Arr3_int.a2 (Arr6_T22.a2 r232), Arr3_int.a2 (Arr6_T22.a3 r232), Arr3_int.a2 (Arr6_T22.a4 r232), Arr3_int.a2 (Arr6_T22.a5 r232)]] else pickI (api_Pose.Turn a195) (0 : Nat) [Arr3_int.a0 (Arr6_T22.a0 r232), Arr3_int.a0 (Arr6_T22.a1 r232), Arr3_int.a0 (Arr6_T22.a2 r232), Arr3_int.a0 (Arr6_T22.a3 r232), Arr3_int.a0 (Arr6_T22.a4 r232), Arr3_int.a0 (Arr6_T22.a5 r232)]) (bif (1 : Int) == (↑((0 : Nat) + (1 : Nat)) : Int) then pickI (0 : Int) (0 : Nat) [pickI (api_Pose.Turn a195) (0 : Nat) [Arr3_int.a0 (Arr6_T22.a0 r232), Arr3_int.a0 (Arr6_T22.a1 r232), Arr3_int.a0 (Arr6_T22.a2 r232), Arr3_int.a0 (Arr6_T22.a3 r232), Arr3_int.a0 (Arr6_T22.a4 r232), Arr3_int.a0 (Arr6_T22.a5 r232)], pickI (api_Pose.Turn a195) (0 : Nat) [Arr3_int.a1 (Arr6_T22.a0 r232), Arr3_int.a1 (Arr6_T22.a1 r232), Arr3_int.a1 (Arr6_T22.a2 r232), Arr3_int.a1 (Arr6_T22.a3 r232), Arr3_int.a1 (Arr6_T22.a4 r232), Arr3_int.a1 (Arr6_T22.a5 r232)], pickI (api_Pose.Turn a195) (0 : Nat) [Arr3_int.a2 (Arr6_T22.a0 r232), Arr3_int.a2 (Arr6_T22.a1 r232), Arr3_int.a2 (Arr6_T22.a2 r232), Arr3_int.a2 (Arr6_T22.a3 r232), Arr3_int.a2 (Arr6_T22.a4 r232), Arr3_int.a2 (Arr6_T22.a5 r232)]] else bif (0 : Int) == (↑((0 : Nat) + (1 : Nat)) : Int) then pickI (1 : Int) (0 : Nat) [pickI (api_Pose.Turn a195) (0 : Nat) [Arr3_int.a0 (Arr6_T22.a0 r232), Arr3_int.a0 (Arr6_T22.a1 r232), Arr3_int.a0 (Arr6_T22.a2 r232), Arr3_int.a0 (Arr6_T22.a3 r232), Arr3_int.a0 (Arr6_T22.a4 r232), Arr3_int.a0 (Arr6_T22.a5 r232)], pickI (api_Pose.Turn a195) (0 : Nat) [Arr3_int.a1 (Arr6_T22.a0 r232), Arr3_int.a1 (Arr6_T22.a1 r232), Arr3_int.a1 (Arr6_T22.a2 r232), Arr3_int.a1 (Arr6_T22.a3 r232), Arr3_int.a1 (Arr6_T22.a4 r232), Arr3_int.a1 (Arr6_T22.a5 r232)], pickI (api_Pose.Turn a195) (0 : Nat) [Arr3_int.a2 (Arr6_T22.a0 r232), Arr3_int.a2 (Arr6_T22.a1 r232), Arr3_int.a2 (Arr6_T22.a2 r232), Arr3_int.a2 (Arr6_T22.a3 r232), Arr3_int.a2 (Arr6_T22.a4 r232), Arr3_int.a2 (Arr6_T22.a5 r232)]] else pickI (api_Pose.Turn a195) (0 : Nat) [Arr3_int.a1 (Arr6_T22.a0 r232), Arr3_int.a1 (Arr6_T22.a1 r232), Arr3_int.a1 (Arr6_T22.a2 r232), Arr3_int.a1 (Arr6_T22.a3 r232), Arr3_int.a1 (Arr6_T22.a4 r232), Arr3_int.a1 (Arr6_T22.a5 r232)]) (bif (1 : Int) == (↑((0 : Nat) + (1 : Nat) + (1 : Nat)) : Int) then pickI (0 : Int) (0 : Nat) [pickI (api_Pose.Turn a195) (0 : Nat) [Arr3_int.a0 (Arr6_T22.a0 r232), Arr3_int.a0 (Arr6_T22.a1 r232), Arr3_int.a0 (Arr6_T22.a2 r232), Arr3_int.a0 (Arr6_T22.a3 r232), Arr3_int.a0 (Arr6_T22.a4 r232), Arr3_int.a0 (Arr6_T22.a5 r232)], pickI (api_Pose.Turn a195) (0 : Nat) [Arr3_int.a1 (Arr6_T22.a0 r232), Arr3_int.a1 (Arr6_T22.a1 r232), Arr3_int.a1 (Arr6_T22.a2 r232), Arr3_int.a1 (Arr6_T22.a3 r232), Arr3_int.a1 (Arr6_T22.a4 r232), Arr3_int.a1 (Arr6_T22.a5 r232)], pickI (api_Pose.Turn a195) (0 : Nat) [Arr3_int.a2 (Arr6_T22.a0 r232), Arr3_int.a2 (Arr6_T22.a1 r232), Arr3_int.a2 (Arr6_T22.a2 r232), Arr3_int.a2 (Arr6_T22.a3 r232), Arr3_int.a2 (Arr6_T22.a4 r232), Arr3_int.a2 (Arr6_T22.a5 r232)]] else bif (0 : Int) == (↑((0 : Nat) + (1 : Nat) + (1 : Nat)) : Int) then pickI (1 : Int) (0 : Nat) [pickI (api_Pose.Turn a195) (0 : Nat) [Arr3_int.a0 (Arr6_T22.a0 r232), Arr3_int.a0 (Arr6_T22.a1 r232), Arr3_int.a0 (Arr6_T22.a2 r232), Arr3_int.a0 (Arr6_T22.a3 r232), Arr3_int.a0 (Arr6_T22.a4 r232), Arr3_int.a0 (Arr6_T22.a5 r232)], pickI (api_Pose.Turn a195) (0 : Nat) [Arr3_int.a1 (Arr6_T22.a0 r232), Arr3_int.a1 (Arr6_T22.a1 r232), Arr3_int.a1 (Arr6_T22.a2 r232), Arr3_int.a1 (Arr6_T22.a3 r232), Arr3_int.a1 (Arr6_T22.a4 r232), Arr3_int.a1 (Arr6_T22.a5 r232)], pickI (api_Pose.Turn a195) (0 : Nat) [Arr3_int.a2 (Arr6_T22.a0 r232), Arr3_int.a2 (Arr6_T22.a1 r232), Arr3_int.a2 (Arr6_T22.a2 r232), Arr3_int.a2 (Arr6_T22.a3 r232), Arr3_int.a2 (Arr6_T22.a4 r232), Arr3_int.a2 (Arr6_T22.a5 r232)]] else pickI (api_Pose.Turn a195) (0 : Nat) [Arr3_int.a2 (Arr6_T22.a0 r232), Arr3_int.a2 (Arr6_T22.a1 r232), Arr3_int.a2 (Arr6_T22.a2 r232), Arr3_int.a2 (Arr6_T22.a3 r232), Arr3_int.a2 (Arr6_T22.a4 r232), Arr3_int.a2 (Arr6_T22.a5 r232)])) a195 (fun r233 =>
       newelref09_along N a194 (api_Pose.Turn a195) (fun r234 =>
       newelref09_along N a194 (api_Pose.Turn r233) (fun r235 =>
       newelref09_moved_l20 N N (0 : Int) a193 a195 (api_Pose.mk (Arr3_int.mk (0 : Int) (0 : Int) (0 : Int)) (0 : Int)) r233 r234 r235 (Arr3_int.mk (0 : Int) (0 : Int) (0 : Int)) (fun r236 =>
        newelref09_free N a193 (api_Pose.At a195) r236 (fun r237 =>
        k r233 r237)))))
     else
      Option.none)
noncomputable def newelref09_moved {R : Type} : Nat → api_Shaft → Arr3_int → api_Pose → Int → (api_Pose → Bool → Option R) → Option R := lock (@newelref09_moved_m R)
theorem newelref09_moved_def {R : Type} (N : Nat) (a193 : api_Shaft) (a194 : Arr3_int) (a195 : api_Pose) (a196 : Int) (k : api_Pose → Bool → Option R) : newelref09_moved N a193 a194 a195 a196 k = newelref09_moved_m N a193 a194 a195 a196 k := by unfold newelref09_moved; rw [lock_eq]
def newelref09_moved_sp : Sp := ⟨[rAgg api_ShaftC, rAgg Arr3_intC, rAgg api_PoseC, rInt .i64], []⟩
theorem newelref09_moved_sp_ok : newelref09_moved_sp.Ok := ⟨(allCons (rAgg_ok api_ShaftC_ok api_ShaftC_len) (allCons (rAgg_ok Arr3_intC_ok Arr3_intC_len) (allCons (rAgg_ok api_PoseC_ok api_PoseC_len) (allCons (rInt_ok .i64) allNil)))), eNil⟩
def newelref09_moved_rs : Sp := ⟨[rTup [rAgg api_PoseC, rBool]], []⟩
theorem newelref09_moved_rs_ok : newelref09_moved_rs.Ok := ⟨(allCons (rTup_ok (allCons (rAgg_ok api_PoseC_ok api_PoseC_len) (allCons rBool_ok allNil))) allNil), eNil⟩
def newelref09_moved_run {R : Type} (N : Nat) (args : List SV) (T : Tab) (kf : SV × Tab → Option R) : Option R :=
  newelref09_moved_m N (Cod.dec api_ShaftC (lget (toCs (lget args 0)))) (Cod.dec Arr3_intC (lget (toCs (lget args 1)))) (Cod.dec api_PoseC (lget (toCs (lget args 2)))) (toI (lget args 3)) (fun q0 q1 => kf (lget [.tup [.agg (Cod.enc api_PoseC q0), .bool q1]] 0, []))
def newelref09_moved_d20 {R : Type} (N : Nat) (S0 : St) (k : Exit → St → Option R) : Option R :=
  newelref09_moved_l20 N N (toI (lget S0.tmps 18)) (Cod.dec api_ShaftC (lget (entCs (entAt S0.tab 0)))) (Cod.dec api_PoseC (lget (entCs (entAt S0.tab 1)))) (Cod.dec api_PoseC (lget (entCs (entAt S0.tab 2)))) (Cod.dec api_PoseC (lget (entCs (entAt S0.tab 3)))) (Cod.dec Arr3_intC (lget (entCs (entAt S0.tab 4)))) (Cod.dec Arr3_intC (lget (entCs (entAt S0.tab 5)))) (Cod.dec Arr3_intC (lget (entCs (entAt S0.tab 6)))) (fun q4 => k (.exit 2) (newelref09_moved_x20_2 (Cod.dec api_ShaftC (lget (entCs (entAt S0.tab 0)))) (Cod.dec api_PoseC (lget (entCs (entAt S0.tab 1)))) (Cod.dec api_PoseC (lget (entCs (entAt S0.tab 2)))) (Cod.dec api_PoseC (lget (entCs (entAt S0.tab 3)))) q4))
def newelref09_moved_d13 {R : Type} (N : Nat) (S0 : St) (k : Exit → St → Option R) : Option R :=
  newelref09_moved_l13 N N (toI (lget S0.tmps 14)) (Cod.dec api_ShaftC (lget (entCs (entAt S0.tab 0)))) (Cod.dec Arr3_intC (lget (entCs (entAt S0.tab 1)))) (Cod.dec api_PoseC (lget (entCs (entAt S0.tab 2)))) (Cod.dec api_PoseC (lget (entCs (entAt S0.tab 3)))) (Cod.dec Arr3_intC (lget (entCs (entAt S0.tab 4)))) (Cod.dec api_PoseC (lget (entCs (entAt S0.tab 5)))) (fun q4 => k (.exit 0) (newelref09_moved_x13_0 (Cod.dec api_ShaftC (lget (entCs (entAt S0.tab 0)))) (Cod.dec Arr3_intC (lget (entCs (entAt S0.tab 1)))) (Cod.dec api_PoseC (lget (entCs (entAt S0.tab 2)))) (Cod.dec api_PoseC (lget (entCs (entAt S0.tab 3)))) q4))
def newelref09_moved_lp {R : Type} (N : Nat) : Lp R := fun body S k => bif (Go.Sx.keyOf body).getD 0 == 13 then (newelref09_moved_L13.head.raw 0 S (fun S0 => newelref09_moved_d13 N S0 k)) else bif (Go.Sx.keyOf body).getD 0 == 20 then (newelref09_moved_L20.head.raw 0 S (fun S0 => newelref09_moved_d20 N S0 k)) else Option.none
theorem newelref09_moved_l13_eq {R : Type} (N : Nat) (k : Exit → St → Option R) (n : Nat) : ∀ (v0 : Int) (v1 : api_Shaft) (v2 : Arr3_int) (v3 : api_Pose) (v4 : api_Pose) (v5 : Arr3_int) (v6 : api_Pose), loopM E.Θ (shaft_Fits_cal N) (newelref09_moved_lp N) (noJn) 0 newelref09_moved_L13 (bodyAt E 60 13) n (newelref09_moved_h13 v0 v1 v2 v3 v4 v5 v6) k = newelref09_moved_l13 N n v0 v1 v2 v3 v4 v5 v6 (fun q4 => k (.exit 0) (newelref09_moved_x13_0 v1 v2 v3 v4 q4)) := by
  induction n with
  | zero => intro v0 v1 v2 v3 v4 v5 v6; rfl
  | succ n ih =>
    intro v0 v1 v2 v3 v4 v5 v6
    refine Eq.trans (b := newelref09_moved_b13 N (fun v0 v1 v2 v3 v4 v5 v6 => loopM E.Θ (shaft_Fits_cal N) (newelref09_moved_lp N) (noJn) 0 newelref09_moved_L13 (bodyAt E 60 13) n (newelref09_moved_h13 v0 v1 v2 v3 v4 v5 v6) k) v0 v1 v2 v3 v4 v5 v6 (fun q4 => k (.exit 0) (newelref09_moved_x13_0 v1 v2 v3 v4 q4))) (by kernel_rfl) ?_
    have h : (fun (v0 : Int) (v1 : api_Shaft) (v2 : Arr3_int) (v3 : api_Pose) (v4 : api_Pose) (v5 : Arr3_int) (v6 : api_Pose) => loopM E.Θ (shaft_Fits_cal N) (newelref09_moved_lp N) (noJn) 0 newelref09_moved_L13 (bodyAt E 60 13) n (newelref09_moved_h13 v0 v1 v2 v3 v4 v5 v6) k) = (fun (v0 : Int) (v1 : api_Shaft) (v2 : Arr3_int) (v3 : api_Pose) (v4 : api_Pose) (v5 : Arr3_int) (v6 : api_Pose) => newelref09_moved_l13 N n v0 v1 v2 v3 v4 v5 v6 (fun q4 => k (.exit 0) (newelref09_moved_x13_0 v1 v2 v3 v4 q4))) := funext fun v0 => funext fun v1 => funext fun v2 => funext fun v3 => funext fun v4 => funext fun v5 => funext fun v6 => ih v0 v1 v2 v3 v4 v5 v6
    rw [h]
    rfl
theorem newelref09_moved_l20_eq {R : Type} (N : Nat) (k : Exit → St → Option R) (n : Nat) : ∀ (v0 : Int) (v1 : api_Shaft) (v2 : api_Pose) (v3 : api_Pose) (v4 : api_Pose) (v5 : Arr3_int) (v6 : Arr3_int) (v7 : Arr3_int), loopM E.Θ (shaft_Fits_cal N) (newelref09_moved_lp N) (noJn) 0 newelref09_moved_L20 (bodyAt E 60 20) n (newelref09_moved_h20 v0 v1 v2 v3 v4 v5 v6 v7) k = newelref09_moved_l20 N n v0 v1 v2 v3 v4 v5 v6 v7 (fun q4 => k (.exit 2) (newelref09_moved_x20_2 v1 v2 v3 v4 q4)) := by
  induction n with
  | zero => intro v0 v1 v2 v3 v4 v5 v6 v7; rfl
  | succ n ih =>
    intro v0 v1 v2 v3 v4 v5 v6 v7
    refine Eq.trans (b := newelref09_moved_b20 N (fun v0 v1 v2 v3 v4 v5 v6 v7 => loopM E.Θ (shaft_Fits_cal N) (newelref09_moved_lp N) (noJn) 0 newelref09_moved_L20 (bodyAt E 60 20) n (newelref09_moved_h20 v0 v1 v2 v3 v4 v5 v6 v7) k) v0 v1 v2 v3 v4 v5 v6 v7 (fun q4 => k (.exit 2) (newelref09_moved_x20_2 v1 v2 v3 v4 q4))) (by kernel_rfl) ?_
    have h : (fun (v0 : Int) (v1 : api_Shaft) (v2 : api_Pose) (v3 : api_Pose) (v4 : api_Pose) (v5 : Arr3_int) (v6 : Arr3_int) (v7 : Arr3_int) => loopM E.Θ (shaft_Fits_cal N) (newelref09_moved_lp N) (noJn) 0 newelref09_moved_L20 (bodyAt E 60 20) n (newelref09_moved_h20 v0 v1 v2 v3 v4 v5 v6 v7) k) = (fun (v0 : Int) (v1 : api_Shaft) (v2 : api_Pose) (v3 : api_Pose) (v4 : api_Pose) (v5 : Arr3_int) (v6 : Arr3_int) (v7 : Arr3_int) => newelref09_moved_l20 N n v0 v1 v2 v3 v4 v5 v6 v7 (fun q4 => k (.exit 2) (newelref09_moved_x20_2 v1 v2 v3 v4 q4))) := funext fun v0 => funext fun v1 => funext fun v2 => funext fun v3 => funext fun v4 => funext fun v5 => funext fun v6 => funext fun v7 => ih v0 v1 v2 v3 v4 v5 v6 v7
    rw [h]
    rfl
theorem newelref09_moved_k20 {R : Type} (N : Nat) : LpKey (R := R) E 60 0 (newelref09_moved_lp N) 20 :=
  lpKey_of hE (shaft_Fits_cal_ok N) (lp := newelref09_moved_lp N) (jn := noJn) newelref09_moved_L20_ok [] kNil (by kernel_rfl) [] jNil (by kernel_rfl) N fun S k =>
    Eq.trans (b := newelref09_moved_L20.head.raw 0 S (fun S0 => newelref09_moved_d20 N S0 k)) (by kernel_rfl) (congrArg (newelref09_moved_L20.head.raw 0 S) (funext fun S0 => Eq.trans (newelref09_moved_l20_eq N k N (toI (lget S0.tmps 18)) (Cod.dec api_ShaftC (lget (entCs (entAt S0.tab 0)))) (Cod.dec api_PoseC (lget (entCs (entAt S0.tab 1)))) (Cod.dec api_PoseC (lget (entCs (entAt S0.tab 2)))) (Cod.dec api_PoseC (lget (entCs (entAt S0.tab 3)))) (Cod.dec Arr3_intC (lget (entCs (entAt S0.tab 4)))) (Cod.dec Arr3_intC (lget (entCs (entAt S0.tab 5)))) (Cod.dec Arr3_intC (lget (entCs (entAt S0.tab 6))))).symm (by kernel_rfl)))
theorem newelref09_moved_k13 {R : Type} (N : Nat) : LpKey (R := R) E 60 0 (newelref09_moved_lp N) 13 :=
  lpKey_of hE (shaft_Fits_cal_ok N) (lp := newelref09_moved_lp N) (jn := noJn) newelref09_moved_L13_ok [] kNil (by kernel_rfl) [] jNil (by kernel_rfl) N fun S k =>
    Eq.trans (b := newelref09_moved_L13.head.raw 0 S (fun S0 => newelref09_moved_d13 N S0 k)) (by kernel_rfl) (congrArg (newelref09_moved_L13.head.raw 0 S) (funext fun S0 => Eq.trans (newelref09_moved_l13_eq N k N (toI (lget S0.tmps 14)) (Cod.dec api_ShaftC (lget (entCs (entAt S0.tab 0)))) (Cod.dec Arr3_intC (lget (entCs (entAt S0.tab 1)))) (Cod.dec api_PoseC (lget (entCs (entAt S0.tab 2)))) (Cod.dec api_PoseC (lget (entCs (entAt S0.tab 3)))) (Cod.dec Arr3_intC (lget (entCs (entAt S0.tab 4)))) (Cod.dec api_PoseC (lget (entCs (entAt S0.tab 5))))).symm (by kernel_rfl)))
noncomputable def newelref09_moved_go {R : Type} (N : Nat) (args : List SV) (T : Tab) (kf : SV × Tab → Option R) : Option R :=
  newelref09_moved N (Cod.dec api_ShaftC (lget (toCs (lget args 0)))) (Cod.dec Arr3_intC (lget (toCs (lget args 1)))) (Cod.dec api_PoseC (lget (toCs (lget args 2)))) (toI (lget args 3)) (fun q0 q1 => kf (lget [.tup [.agg (Cod.enc api_PoseC q0), .bool q1]] 0, []))
noncomputable def newelref09_moved_cal {R : Type} (N : Nat) : Cal R := callM (shaft_Fits_cal N) 60 0 newelref09_moved_sp (newelref09_moved_go N)
theorem newelref09_moved_cal_ok {R : Type} (N : Nat) : CalOk E.P (newelref09_moved_cal (R := R) N) :=
  callM_ok hE (shaft_Fits_cal_ok N) (lp := newelref09_moved_lp N) (jn := noJn) (keys := [13, 20]) (kCons (newelref09_moved_k13 N) (kCons (newelref09_moved_k20 N) kNil)) (by kernel_rfl) (js := []) jNil (by kernel_rfl) newelref09_moved_sp_ok newelref09_moved_rs_ok (fun args T kf => Eq.trans (newelref09_moved_def N (Cod.dec api_ShaftC (lget (toCs (lget args 0)))) (Cod.dec Arr3_intC (lget (toCs (lget args 1)))) (Cod.dec api_PoseC (lget (toCs (lget args 2)))) (toI (lget args 3)) (fun q0 q1 => kf (lget [.tup [.agg (Cod.enc api_PoseC q0), .bool q1]] 0, []))) (by kernel_rfl : newelref09_moved_run N args T kf = fnM E (shaft_Fits_cal N) (newelref09_moved_lp N) (noJn) 60 (newelref09_moved_sp.vs args) (newelref09_moved_sp.tab T) 0 (resK newelref09_moved_rs kf)))
def newelref09_Move_m {R : Type} (N : Nat) (a186 : api_Shaft) (a187 : Arr3_int) (a188 : api_Pose) (a189 : Int) (k : api_Pose → Int → Option R) : Option R :=
  newelref09_CheckCrate N a186 a187 (fun r190 =>
  bif r190 != (0 : Int) then
   k (api_Pose.mk (Arr3_int.mk (0 : Int) (0 : Int) (0 : Int)) (0 : Int)) r190
  else
   newelref09_fits N a186 a187 a188 (fun r191 =>
   bif !r191 then
    k (api_Pose.mk (Arr3_int.mk (0 : Int) (0 : Int) (0 : Int)) (0 : Int)) (1 : Int)
   else
    newelref09_within N a189 (0 : Int) (8 : Int) (fun r192 =>
    bif !r192 then
     k (api_Pose.mk (Arr3_int.mk (0 : Int) (0 : Int) (0 : Int)) (0 : Int)) (1 : Int)
    else
     newelref09_moved N a186 a187 a188 a189 (fun r238 r239 =>
     bif !r239 then
      k (api_Pose.mk (Arr3_int.mk (0 : Int) (0 : Int) (0 : Int)) (0 : Int)) (3 : Int)
     else
      k r238 (0 : Int)))))
noncomputable def newelref09_Move {R : Type} : Nat → api_Shaft → Arr3_int → api_Pose → Int → (api_Pose → Int → Option R) → Option R := lock (@newelref09_Move_m R)
theorem newelref09_Move_def {R : Type} (N : Nat) (a186 : api_Shaft) (a187 : Arr3_int) (a188 : api_Pose) (a189 : Int) (k : api_Pose → Int → Option R) : newelref09_Move N a186 a187 a188 a189 k = newelref09_Move_m N a186 a187 a188 a189 k := by unfold newelref09_Move; rw [lock_eq]
def newelref09_Move_sp : Sp := ⟨[rAgg api_ShaftC, rAgg Arr3_intC, rAgg api_PoseC, rInt .i64], []⟩
theorem newelref09_Move_sp_ok : newelref09_Move_sp.Ok := ⟨(allCons (rAgg_ok api_ShaftC_ok api_ShaftC_len) (allCons (rAgg_ok Arr3_intC_ok Arr3_intC_len) (allCons (rAgg_ok api_PoseC_ok api_PoseC_len) (allCons (rInt_ok .i64) allNil)))), eNil⟩
def newelref09_Move_rs : Sp := ⟨[rTup [rAgg api_PoseC, rInt .i64]], []⟩
theorem newelref09_Move_rs_ok : newelref09_Move_rs.Ok := ⟨(allCons (rTup_ok (allCons (rAgg_ok api_PoseC_ok api_PoseC_len) (allCons (rInt_ok .i64) allNil))) allNil), eNil⟩
def newelref09_Move_run {R : Type} (N : Nat) (args : List SV) (T : Tab) (kf : SV × Tab → Option R) : Option R :=
  newelref09_Move_m N (Cod.dec api_ShaftC (lget (toCs (lget args 0)))) (Cod.dec Arr3_intC (lget (toCs (lget args 1)))) (Cod.dec api_PoseC (lget (toCs (lget args 2)))) (toI (lget args 3)) (fun q0 q1 => kf (lget [.tup [.agg (Cod.enc api_PoseC q0), .int .i64 q1]] 0, []))
def newelref09_Move_lp {R : Type} (N : Nat) : Lp R := fun body S k => Option.none
noncomputable def newelref09_Move_go {R : Type} (N : Nat) (args : List SV) (T : Tab) (kf : SV × Tab → Option R) : Option R :=
  newelref09_Move N (Cod.dec api_ShaftC (lget (toCs (lget args 0)))) (Cod.dec Arr3_intC (lget (toCs (lget args 1)))) (Cod.dec api_PoseC (lget (toCs (lget args 2)))) (toI (lget args 3)) (fun q0 q1 => kf (lget [.tup [.agg (Cod.enc api_PoseC q0), .int .i64 q1]] 0, []))
noncomputable def newelref09_Move_cal {R : Type} (N : Nat) : Cal R := callM (newelref09_moved_cal N) 32 0 newelref09_Move_sp (newelref09_Move_go N)
theorem newelref09_Move_cal_ok {R : Type} (N : Nat) : CalOk E.P (newelref09_Move_cal (R := R) N) :=
  callM_ok hE (newelref09_moved_cal_ok N) (lp := newelref09_Move_lp N) (jn := noJn) (keys := []) kNil (by kernel_rfl) (js := []) jNil (by kernel_rfl) newelref09_Move_sp_ok newelref09_Move_rs_ok (fun args T kf => Eq.trans (newelref09_Move_def N (Cod.dec api_ShaftC (lget (toCs (lget args 0)))) (Cod.dec Arr3_intC (lget (toCs (lget args 1)))) (Cod.dec api_PoseC (lget (toCs (lget args 2)))) (toI (lget args 3)) (fun q0 q1 => kf (lget [.tup [.agg (Cod.enc api_PoseC q0), .int .i64 q1]] 0, []))) (by kernel_rfl : newelref09_Move_run N args T kf = fnM E (newelref09_moved_cal N) (newelref09_Move_lp N) (noJn) 32 (newelref09_Move_sp.vs args) (newelref09_Move_sp.tab T) 0 (resK newelref09_Move_rs kf)))
def slices_Index____3_int__3_int__L2 : LoopSp := ⟨⟨[0, 3, 7, 8], ⟨((rSl Arr3_intC) :: (dr 2 ((rPtr 0 0) :: (dr 3 ((rInt .i64) :: (rInt .i64) :: (dr 10 [])))))), [(0, eBlkC Arr3_intC)]⟩, 1⟩, [(Option.none, ⟨[4], ⟨(dr 4 ((rInt .i64) :: (dr 14 []))), []⟩, 0⟩), (some 0, ⟨[], ⟨(dr 19 []), []⟩, 0⟩)]⟩
theorem slices_Index____3_int__3_int__L2_ok : slices_Index____3_int__3_int__L2.Ok := ⟨⟨(allCons (rSl_ok Arr3_intC_ok) (drCons 2 (allCons (rPtr_ok 0 0) (drCons 3 (allCons (rInt_ok .i64) (allCons (rInt_ok .i64) (drCons 10 allNil))))))), (eCons (eBlkC_ok Arr3_intC_ok Arr3_intC_len) eNil)⟩, (xCons ⟨(drCons 4 (allCons (rInt_ok .i64) (drCons 14 allNil))), eNil⟩ (xCons ⟨(drCons 19 allNil), eNil⟩ xNil))⟩
def slices_Index____3_int__3_int__h2 (v265 : Arr Arr3_int) (v266 : Int) (v267 : Int) (v268 : Arr3_int) : St := ⟨((slC Arr3_intC v265) :: (un 2 ((.ptr 0 0) :: (un 3 ((.int .i64 v266) :: (.int .i64 v267) :: (un 10 [])))))), [(0, .blk (Cod.enc Arr3_intC v268))], 1⟩
def slices_Index____3_int__3_int__x2_r (q0 : Int) : St := ⟨(un 4 ((.int .i64 q0) :: (un 14 []))), [], 0⟩
def slices_Index____3_int__3_int__x2_0  : St := ⟨(un 19 []), [], 0⟩
def slices_Index____3_int__3_int__b2 {R : Type} (N : Nat) (rc : Arr Arr3_int → Int → Int → Arr3_int → Option R) (v265 : Arr Arr3_int) (v266 : Int) (v267 : Int) (v268 : Arr3_int) (kr : Int → Option R) (k0 : Unit → Option R) : Option R :=
  bif decide (v267 < v266) then
   bif decide ((0 : Int) ≤ v267) && decide (v267 < (↑(Arr.n v265) : Int)) then
    bif Arr3_int.a0 v268 == Arr3_int.a0 (Arr.f v265 (Int.toNat v267)) && (Arr3_int.a1 v268 == Arr3_int.a1 (Arr.f v265 (Int.toNat v267)) && (Arr3_int.a2 v268 == Arr3_int.a2 (Arr.f v265 (Int.toNat v267)) && true)) then
     kr v267
    else
     rc v265 v266 (w64 (v267 + (1 : Int))) v268
   else
    Option.none
  else
   k0 ()
def slices_Index____3_int__3_int__l2 {R : Type} (N : Nat) : Nat → Arr Arr3_int → Int → Int → Arr3_int → (Int → Option R) → (Unit → Option R) → Option R
  | 0, _, _, _, _, _, _ => Option.none
  | n + 1, v265, v266, v267, v268, kr, k0 => slices_Index____3_int__3_int__b2 N (fun v265 v266 v267 v268 => slices_Index____3_int__3_int__l2 N n v265 v266 v267 v268 kr k0) v265 v266 v267 v268 kr k0
def slices_Index____3_int__3_int__m {R : Type} (N : Nat) (a263 : Arr Arr3_int) (a264 : Arr3_int) (k : Int → Option R) : Option R :=
  slices_Index____3_int__3_int__l2 N N a263 ((↑(Arr.n a263) : Int)) (0 : Int) a264 (fun r269 =>
   k r269) (fun (_ : Unit) =>
   k (-1 : Int))
noncomputable def slices_Index____3_int__3_int_ {R : Type} : Nat → Arr Arr3_int → Arr3_int → (Int → Option R) → Option R := lock (@slices_Index____3_int__3_int__m R)
theorem slices_Index____3_int__3_int__def {R : Type} (N : Nat) (a263 : Arr Arr3_int) (a264 : Arr3_int) (k : Int → Option R) : slices_Index____3_int__3_int_ N a263 a264 k = slices_Index____3_int__3_int__m N a263 a264 k := by unfold slices_Index____3_int__3_int_; rw [lock_eq]
def slices_Index____3_int__3_int__sp : Sp := ⟨[rSl Arr3_intC, rAgg Arr3_intC], []⟩
theorem slices_Index____3_int__3_int__sp_ok : slices_Index____3_int__3_int__sp.Ok := ⟨(allCons (rSl_ok Arr3_intC_ok) (allCons (rAgg_ok Arr3_intC_ok Arr3_intC_len) allNil)), eNil⟩
def slices_Index____3_int__3_int__rs : Sp := ⟨[rInt .i64], []⟩
theorem slices_Index____3_int__3_int__rs_ok : slices_Index____3_int__3_int__rs.Ok := ⟨(allCons (rInt_ok .i64) allNil), eNil⟩
def slices_Index____3_int__3_int__run {R : Type} (N : Nat) (args : List SV) (T : Tab) (kf : SV × Tab → Option R) : Option R :=
  slices_Index____3_int__3_int__m N (lstC Arr3_intC (lget args 0)) (Cod.dec Arr3_intC (lget (toCs (lget args 1)))) (fun q0 => kf (lget [.int .i64 q0] 0, []))
def slices_Index____3_int__3_int__d2 {R : Type} (N : Nat) (S0 : St) (k : Exit → St → Option R) : Option R :=
  slices_Index____3_int__3_int__l2 N N (lstC Arr3_intC (lget S0.tmps 0)) (toI (lget S0.tmps 7)) (toI (lget S0.tmps 8)) (Cod.dec Arr3_intC (lget (entCs (entAt S0.tab 0)))) (fun q0 => k .ret (slices_Index____3_int__3_int__x2_r q0)) (fun (_ : Unit) => k (.exit 0) (slices_Index____3_int__3_int__x2_0 ))
def slices_Index____3_int__3_int__lp {R : Type} (N : Nat) : Lp R := fun body S k => bif (Go.Sx.keyOf body).getD 0 == 2 then (slices_Index____3_int__3_int__L2.head.raw 0 S (fun S0 => slices_Index____3_int__3_int__d2 N S0 k)) else Option.none
theorem slices_Index____3_int__3_int__l2_eq {R : Type} (N : Nat) (k : Exit → St → Option R) (n : Nat) : ∀ (v0 : Arr Arr3_int) (v1 : Int) (v2 : Int) (v3 : Arr3_int), loopM E.Θ (newelref09_Move_cal N) (slices_Index____3_int__3_int__lp N) (noJn) 0 slices_Index____3_int__3_int__L2 (bodyAt E 77 2) n (slices_Index____3_int__3_int__h2 v0 v1 v2 v3) k = slices_Index____3_int__3_int__l2 N n v0 v1 v2 v3 (fun q0 => k .ret (slices_Index____3_int__3_int__x2_r q0)) (fun (_ : Unit) => k (.exit 0) (slices_Index____3_int__3_int__x2_0 )) := by
  induction n with
  | zero => intro v0 v1 v2 v3; rfl
  | succ n ih =>
    intro v0 v1 v2 v3
    refine Eq.trans (b := slices_Index____3_int__3_int__b2 N (fun v0 v1 v2 v3 => loopM E.Θ (newelref09_Move_cal N) (slices_Index____3_int__3_int__lp N) (noJn) 0 slices_Index____3_int__3_int__L2 (bodyAt E 77 2) n (slices_Index____3_int__3_int__h2 v0 v1 v2 v3) k) v0 v1 v2 v3 (fun q0 => k .ret (slices_Index____3_int__3_int__x2_r q0)) (fun (_ : Unit) => k (.exit 0) (slices_Index____3_int__3_int__x2_0 ))) (by kernel_rfl) ?_
    have h : (fun (v0 : Arr Arr3_int) (v1 : Int) (v2 : Int) (v3 : Arr3_int) => loopM E.Θ (newelref09_Move_cal N) (slices_Index____3_int__3_int__lp N) (noJn) 0 slices_Index____3_int__3_int__L2 (bodyAt E 77 2) n (slices_Index____3_int__3_int__h2 v0 v1 v2 v3) k) = (fun (v0 : Arr Arr3_int) (v1 : Int) (v2 : Int) (v3 : Arr3_int) => slices_Index____3_int__3_int__l2 N n v0 v1 v2 v3 (fun q0 => k .ret (slices_Index____3_int__3_int__x2_r q0)) (fun (_ : Unit) => k (.exit 0) (slices_Index____3_int__3_int__x2_0 ))) := funext fun v0 => funext fun v1 => funext fun v2 => funext fun v3 => ih v0 v1 v2 v3
    rw [h]
    rfl
theorem slices_Index____3_int__3_int__k2 {R : Type} (N : Nat) : LpKey (R := R) E 77 0 (slices_Index____3_int__3_int__lp N) 2 :=
  lpKey_of hE (newelref09_Move_cal_ok N) (lp := slices_Index____3_int__3_int__lp N) (jn := noJn) slices_Index____3_int__3_int__L2_ok [] kNil (by kernel_rfl) [] jNil (by kernel_rfl) N fun S k =>
    Eq.trans (b := slices_Index____3_int__3_int__L2.head.raw 0 S (fun S0 => slices_Index____3_int__3_int__d2 N S0 k)) (by kernel_rfl) (congrArg (slices_Index____3_int__3_int__L2.head.raw 0 S) (funext fun S0 => Eq.trans (slices_Index____3_int__3_int__l2_eq N k N (lstC Arr3_intC (lget S0.tmps 0)) (toI (lget S0.tmps 7)) (toI (lget S0.tmps 8)) (Cod.dec Arr3_intC (lget (entCs (entAt S0.tab 0))))).symm (by kernel_rfl)))
noncomputable def slices_Index____3_int__3_int__go {R : Type} (N : Nat) (args : List SV) (T : Tab) (kf : SV × Tab → Option R) : Option R :=
  slices_Index____3_int__3_int_ N (lstC Arr3_intC (lget args 0)) (Cod.dec Arr3_intC (lget (toCs (lget args 1)))) (fun q0 => kf (lget [.int .i64 q0] 0, []))
noncomputable def slices_Index____3_int__3_int__cal {R : Type} (N : Nat) : Cal R := callM (newelref09_Move_cal N) 77 0 slices_Index____3_int__3_int__sp (slices_Index____3_int__3_int__go N)
theorem slices_Index____3_int__3_int__cal_ok {R : Type} (N : Nat) : CalOk E.P (slices_Index____3_int__3_int__cal (R := R) N) :=
  callM_ok hE (newelref09_Move_cal_ok N) (lp := slices_Index____3_int__3_int__lp N) (jn := noJn) (keys := [2]) (kCons (slices_Index____3_int__3_int__k2 N) kNil) (by kernel_rfl) (js := []) jNil (by kernel_rfl) slices_Index____3_int__3_int__sp_ok slices_Index____3_int__3_int__rs_ok (fun args T kf => Eq.trans (slices_Index____3_int__3_int__def N (lstC Arr3_intC (lget args 0)) (Cod.dec Arr3_intC (lget (toCs (lget args 1)))) (fun q0 => kf (lget [.int .i64 q0] 0, []))) (by kernel_rfl : slices_Index____3_int__3_int__run N args T kf = fnM E (newelref09_Move_cal N) (slices_Index____3_int__3_int__lp N) (noJn) 77 (slices_Index____3_int__3_int__sp.vs args) (slices_Index____3_int__3_int__sp.tab T) 0 (resK slices_Index____3_int__3_int__rs kf)))
def shaft_crate_move_L10 : LoopSp := ⟨⟨[0, 4, 6, 11, 12, 13, 71], ⟨((rPtr 0 0) :: (dr 3 ((rPtr 2 0) :: (dr 1 ((rPtr 3 0) :: (dr 4 ((rPtr 4 0) :: (rPtr 5 0) :: (rPtr 6 0) :: (dr 57 ((rInt .i64) :: (dr 18 [])))))))))), [(0, eBlk [rInt .i64, rInt .i64, rInt .i64, rInt .i64, rInt .i64, rInt .i64, rRow 1]), (1, eMp true true Arr3_intC unitC), (2, eBlkC api_PoseC), (3, eBlkC api_PoseC), (4, eBlkC api_PoseC), (5, eBlkC Arr3_intC), (6, eBlkC Arr3_intC)]⟩, 7⟩, [(some 0, ⟨[0, 4, 6, 11, 12], ⟨((rPtr 0 0) :: (dr 3 ((rPtr 2 0) :: (dr 1 ((rPtr 3 0) :: (dr 4 ((rPtr 4 0) :: (rPtr 5 0) :: (dr 77 [])))))))), [(0, eBlk [rInt .i64, rInt .i64, rInt .i64, rInt .i64, rInt .i64, rInt .i64, rRow 1]), (1, eMp true true Arr3_intC unitC), (2, eBlkC api_PoseC), (3, eBlkC api_PoseC), (4, eBlkC api_PoseC), (5, eBlkC Arr3_intC)]⟩, 6⟩)]⟩
theorem shaft_crate_move_L10_ok : shaft_crate_move_L10.Ok := ⟨⟨(allCons (rPtr_ok 0 0) (drCons 3 (allCons (rPtr_ok 2 0) (drCons 1 (allCons (rPtr_ok 3 0) (drCons 4 (allCons (rPtr_ok 4 0) (allCons (rPtr_ok 5 0) (allCons (rPtr_ok 6 0) (drCons 57 (allCons (rInt_ok .i64) (drCons 18 allNil)))))))))))), (eCons (eBlk_ok (allCons (rInt_ok .i64) (allCons (rInt_ok .i64) (allCons (rInt_ok .i64) (allCons (rInt_ok .i64) (allCons (rInt_ok .i64) (allCons (rInt_ok .i64) (allCons (rRow_ok 1) allNil)))))))) (eCons (eMp_ok Arr3_intC_flat unitC_flat) (eCons (eBlkC_ok api_PoseC_ok api_PoseC_len) (eCons (eBlkC_ok api_PoseC_ok api_PoseC_len) (eCons (eBlkC_ok api_PoseC_ok api_PoseC_len) (eCons (eBlkC_ok Arr3_intC_ok Arr3_intC_len) (eCons (eBlkC_ok Arr3_intC_ok Arr3_intC_len) eNil)))))))⟩, (xCons ⟨(allCons (rPtr_ok 0 0) (drCons 3 (allCons (rPtr_ok 2 0) (drCons 1 (allCons (rPtr_ok 3 0) (drCons 4 (allCons (rPtr_ok 4 0) (allCons (rPtr_ok 5 0) (drCons 77 allNil))))))))), (eCons (eBlk_ok (allCons (rInt_ok .i64) (allCons (rInt_ok .i64) (allCons (rInt_ok .i64) (allCons (rInt_ok .i64) (allCons (rInt_ok .i64) (allCons (rInt_ok .i64) (allCons (rRow_ok 1) allNil)))))))) (eCons (eMp_ok Arr3_intC_flat unitC_flat) (eCons (eBlkC_ok api_PoseC_ok api_PoseC_len) (eCons (eBlkC_ok api_PoseC_ok api_PoseC_len) (eCons (eBlkC_ok api_PoseC_ok api_PoseC_len) (eCons (eBlkC_ok Arr3_intC_ok Arr3_intC_len) eNil))))))⟩ xNil)⟩
def shaft_crate_move_h10 (v273 : Int) (v274 : Int) (v275 : Int) (v276 : Int) (v277 : Int) (v278 : Int) (v279 : Int) (v280 : Mp Arr3_int Unit) (v281 : api_Pose) (v282 : api_Pose) (v283 : api_Pose) (v284 : Arr3_int) (v285 : Arr3_int) : St := ⟨((.ptr 0 0) :: (un 3 ((.ptr 2 0) :: (un 1 ((.ptr 3 0) :: (un 4 ((.ptr 4 0) :: (.ptr 5 0) :: (.ptr 6 0) :: (un 57 ((.int .i64 v273) :: (un 18 [])))))))))), [(0, .blk [.int .i64 v274, .int .i64 v275, .int .i64 v276, .int .i64 v277, .int .i64 v278, .int .i64 v279, .row 1]), (1, mpE true true Arr3_intC unitC v280), (2, .blk (Cod.enc api_PoseC v281)), (3, .blk (Cod.enc api_PoseC v282)), (4, .blk (Cod.enc api_PoseC v283)), (5, .blk (Cod.enc Arr3_intC v284)), (6, .blk (Cod.enc Arr3_intC v285))], 7⟩
def shaft_crate_move_x10_0 (v274 : Int) (v275 : Int) (v276 : Int) (v277 : Int) (v278 : Int) (v279 : Int) (v280 : Mp Arr3_int Unit) (v281 : api_Pose) (v282 : api_Pose) (v283 : api_Pose) (q10 : Arr3_int) : St := ⟨((.ptr 0 0) :: (un 3 ((.ptr 2 0) :: (un 1 ((.ptr 3 0) :: (un 4 ((.ptr 4 0) :: (.ptr 5 0) :: (un 77 [])))))))), [(0, .blk [.int .i64 v274, .int .i64 v275, .int .i64 v276, .int .i64 v277, .int .i64 v278, .int .i64 v279, .row 1]), (1, mpE true true Arr3_intC unitC v280), (2, .blk (Cod.enc api_PoseC v281)), (3, .blk (Cod.enc api_PoseC v282)), (4, .blk (Cod.enc api_PoseC v283)), (5, .blk (Cod.enc Arr3_intC q10))], 6⟩
def shaft_crate_move_b10 {R : Type} (N : Nat) (rc : Int → Int → Int → Int → Int → Int → Int → Mp Arr3_int Unit → api_Pose → api_Pose → api_Pose → Arr3_int → Arr3_int → Option R) (v273 : Int) (v274 : Int) (v275 : Int) (v276 : Int) (v277 : Int) (v278 : Int) (v279 : Int) (v280 : Mp Arr3_int Unit) (v281 : api_Pose) (v282 : api_Pose) (v283 : api_Pose) (v284 : Arr3_int) (v285 : Arr3_int) (k0 : Arr3_int → Option R) : Option R :=
  bif decide (v273 < (3 : Int)) then
   bif decide ((0 : Int) ≤ v273) && decide (v273 < (↑(3 : Nat) : Int)) then
    bif decide ((0 : Int) ≤ v273) && decide (v273 < (↑(3 : Nat) : Int)) then
     bif decide ((0 : Int) ≤ v273) && decide (v273 < (↑(3 : Nat) : Int)) then
      rc (w64 (v273 + (1 : Int))) v274 v275 v276 v277 v278 v279 v280 v281 v282 v283 (Arr3_int.mk (bif v273 == (↑(0 : Nat) : Int) then mxI (pickI v273 (0 : Nat) [Arr3_int.a0 v284, Arr3_int.a1 v284, Arr3_int.a2 v284]) (pickI v273 (0 : Nat) [Arr3_int.a0 v285, Arr3_int.a1 v285, Arr3_int.a2 v285]) else Arr3_int.a0 v284) (bif v273 == (↑((0 : Nat) + (1 : Nat)) : Int) then mxI (pickI v273 (0 : Nat) [Arr3_int.a0 v284, Arr3_int.a1 v284, Arr3_int.a2 v284]) (pickI v273 (0 : Nat) [Arr3_int.a0 v285, Arr3_int.a1 v285, Arr3_int.a2 v285]) else Arr3_int.a1 v284) (bif v273 == (↑((0 : Nat) + (1 : Nat) + (1 : Nat)) : Int) then mxI (pickI v273 (0 : Nat) [Arr3_int.a0 v284, Arr3_int.a1 v284, Arr3_int.a2 v284]) (pickI v273 (0 : Nat) [Arr3_int.a0 v285, Arr3_int.a1 v285, Arr3_int.a2 v285]) else Arr3_int.a2 v284)) v285
     else
      Option.none
    else
     Option.none
   else
    Option.none
  else
   k0 v284
def shaft_crate_move_l10 {R : Type} (N : Nat) : Nat → Int → Int → Int → Int → Int → Int → Int → Mp Arr3_int Unit → api_Pose → api_Pose → api_Pose → Arr3_int → Arr3_int → (Arr3_int → Option R) → Option R
  | 0, _, _, _, _, _, _, _, _, _, _, _, _, _, _ => Option.none
  | n + 1, v273, v274, v275, v276, v277, v278, v279, v280, v281, v282, v283, v284, v285, k0 => shaft_crate_move_b10 N (fun v273 v274 v275 v276 v277 v278 v279 v280 v281 v282 v283 v284 v285 => shaft_crate_move_l10 N n v273 v274 v275 v276 v277 v278 v279 v280 v281 v282 v283 v284 v285 k0) v273 v274 v275 v276 v277 v278 v279 v280 v281 v282 v283 v284 v285 k0
def shaft_crate_move_m {R : Type} (N : Nat) (a253 : api_Pose) (a254 : Int) (a255 : Int) (a256 : Int) (a257 : Int) (a258 : Int) (a259 : Int) (a260 : Int) (a261 : Mp Arr3_int Unit) (k : api_Pose → Bool → Option R) : Option R :=
  bif decide (a254 < (6 : Int)) then
   bif decide ((0 : Int) ≤ w64 (Int.tdiv a254 (2 : Int))) && decide (w64 (Int.tdiv a254 (2 : Int)) < (↑(3 : Nat) : Int)) then
    bif decide ((0 : Int) ≤ w64 (Int.tdiv a254 (2 : Int))) && decide (w64 (Int.tdiv a254 (2 : Int)) < (↑(3 : Nat) : Int)) then
     shaft_crate_fits N (api_Pose.mk (Arr3_int.mk (bif w64 (Int.tdiv a254 (2 : Int)) == (↑(0 : Nat) : Int) then w64 (pickI (w64 (Int.tdiv a254 (2 : Int))) (0 : Nat) [Arr3_int.a0 (api_Pose.At a253), Arr3_int.a1 (api_Pose.At a253), Arr3_int.a2 (api_Pose.At a253)] + w64 ((1 : Int) - w64 ((2 : Int) * Int.tmod a254 (2 : Int)))) else Arr3_int.a0 (api_Pose.At a253)) (bif w64 (Int.tdiv a254 (2 : Int)) == (↑((0 : Nat) + (1 : Nat)) : Int) then w64 (pickI (w64 (Int.tdiv a254 (2 : Int))) (0 : Nat) [Arr3_int.a0 (api_Pose.At a253), Arr3_int.a1 (api_Pose.At a253), Arr3_int.a2 (api_Pose.At a253)] + w64 ((1 : Int) - w64 ((2 : Int) * Int.tmod a254 (2 : Int)))) else Arr3_int.a1 (api_Pose.At a253)) (bif w64 (Int.tdiv a254 (2 : Int)) == (↑((0 : Nat) + (1 : Nat) + (1 : Nat)) : Int) then w64 (pickI (w64 (Int.tdiv a254 (2 : Int))) (0 : Nat) [Arr3_int.a0 (api_Pose.At a253), Arr3_int.a1 (api_Pose.At a253), Arr3_int.a2 (api_Pose.At a253)] + w64 ((1 : Int) - w64 ((2 : Int) * Int.tmod a254 (2 : Int)))) else Arr3_int.a2 (api_Pose.At a253))) (api_Pose.Turn a253)) a255 a256 a257 a258 a259 a260 a261 (fun r262 =>
     k (api_Pose.mk (Arr3_int.mk (bif w64 (Int.tdiv a254 (2 : Int)) == (↑(0 : Nat) : Int) then w64 (pickI (w64 (Int.tdiv a254 (2 : Int))) (0 : Nat) [Arr3_int.a0 (api_Pose.At a253), Arr3_int.a1 (api_Pose.At a253), Arr3_int.a2 (api_Pose.At a253)] + w64 ((1 : Int) - w64 ((2 : Int) * Int.tmod a254 (2 : Int)))) else Arr3_int.a0 (api_Pose.At a253)) (bif w64 (Int.tdiv a254 (2 : Int)) == (↑((0 : Nat) + (1 : Nat)) : Int) then w64 (pickI (w64 (Int.tdiv a254 (2 : Int))) (0 : Nat) [Arr3_int.a0 (api_Pose.At a253), Arr3_int.a1 (api_Pose.At a253), Arr3_int.a2 (api_Pose.At a253)] + w64 ((1 : Int) - w64 ((2 : Int) * Int.tmod a254 (2 : Int)))) else Arr3_int.a1 (api_Pose.At a253)) (bif w64 (Int.tdiv a254 (2 : Int)) == (↑((0 : Nat) + (1 : Nat) + (1 : Nat)) : Int) then w64 (pickI (w64 (Int.tdiv a254 (2 : Int))) (0 : Nat) [Arr3_int.a0 (api_Pose.At a253), Arr3_int.a1 (api_Pose.At a253), Arr3_int.a2 (api_Pose.At a253)] + w64 ((1 : Int) - w64 ((2 : Int) * Int.tmod a254 (2 : Int)))) else Arr3_int.a2 (api_Pose.At a253))) (api_Pose.Turn a253)) r262)
    else
     Option.none
   else
    Option.none
  else
   bif decide ((0 : Int) ≤ api_Pose.Turn a253) && decide (api_Pose.Turn a253 < (↑(6 : Nat) : Int)) then
    bif decide ((0 : Int) ≤ w64 (a254 - (6 : Int))) && decide (w64 (a254 - (6 : Int)) < (↑(3 : Nat) : Int)) then
     bif decide ((0 : Int) ≤ w64 (a254 - (6 : Int))) && decide (w64 (a254 - (6 : Int)) < (↑(3 : Nat) : Int)) then
      bif decide ((0 : Int) ≤ pickI (w64 (a254 - (6 : Int))) (0 : Nat) [(1 : Int), (2 : Int), (2 : Int)]) && decide (pickI (w64 (a254 - (6 : Int))) (0 : Nat) [(1 : Int), (2 : Int), (2 : Int)] < (↑(3 : Nat) : Int)) then
       bif decide ((0 : Int) ≤ pickI (w64 (a254 - (6 : Int))) (0 : Nat) [(0 : Int), (0 : Int), (1 : Int)]) && decide (pickI (w64 (a254 - (6 : Int))) (0 : Nat) [(0 : Int), (0 : Int), (1 : Int)] < (↑(3 : Nat) : Int)) then
        bif decide ((0 : Int) ≤ pickI (w64 (a254 - (6 : Int))) (0 : Nat) [(0 : Int), (0 : Int), (1 : Int)]) && decide (pickI (w64 (a254 - (6 : Int))) (0 : Nat) [(0 : Int), (0 : Int), (1 : Int)] < (↑(3 : Nat) : Int)) then
         bif decide ((0 : Int) ≤ pickI (w64 (a254 - (6 : Int))) (0 : Nat) [(1 : Int), (2 : Int), (2 : Int)]) && decide (pickI (w64 (a254 - (6 : Int))) (0 : Nat) [(1 : Int), (2 : Int), (2 : Int)] < (↑(3 : Nat) : Int)) then
          slices_Index____3_int__3_int_ N (lst Arr3_intC (6 : Nat) (litC [] [[SV.int IntKind.i64 (0 : Int), SV.int IntKind.i64 (1 : Int), SV.int IntKind.i64 (2 : Int)], [SV.int IntKind.i64 (0 : Int), SV.int IntKind.i64 (2 : Int), SV.int IntKind.i64 (1 : Int)], [SV.int IntKind.i64 (1 : Int), SV.int IntKind.i64 (0 : Int), SV.int IntKind.i64 (2 : Int)], [SV.int IntKind.i64 (1 : Int), SV.int IntKind.i64 (2 : Int), SV.int IntKind.i64 (0 : Int)], [SV.int IntKind.i64 (2 : Int), SV.int IntKind.i64 (0 : Int), SV.int IntKind.i64 (1 : Int)], [SV.int IntKind.i64 (2 : Int), SV.int IntKind.i64 (1 : Int), SV.int IntKind.i64 (0 : Int)]])) (Arr3_int.mk (bif pickI (w64 (a254 - (6 : Int))) (0 : Nat) [(1 : Int), (2 : Int), (2 : Int)] == (↑(0 : Nat) : Int) then pickI (pickI (w64 (a254 - (6 : Int))) (0 : Nat) [(0 : Int), (0 : Int), (1 : Int)]) (0 : Nat) [pickI (api_Pose.Turn a253) (0 : Nat) [(0 : Int), (0 : Int), (1 : Int), (1 : Int), (2 : Int), (2 : Int)], pickI (api_Pose.Turn a253) (0 : Nat) [(1 : Int), (2 : Int), (0 : Int), (2 : Int), (0 : Int), (1 : Int)], pickI (api_Pose.Turn a253) (0 : Nat) [(2 : Int), (1 : Int), (2 : Int), (0 : Int), (1 : Int), (0 : Int)]] else bif pickI (w64 (a254 - (6 : Int))) (0 : Nat) [(0 : Int), (0 : Int), (1 : Int)] == (↑(0 : Nat) : Int) then pickI (pickI (w64 (a254 - (6 : Int))) (0 : Nat) [(1 : Int), (2 : Int), (2 : Int)]) (0 : Nat) [pickI (api_Pose.Turn a253) (0 : Nat) [(0 : Int), (0 : Int), (1 : Int), (1 : Int), (2 : Int), (2 : Int)], pickI (api_Pose.Turn a253) (0 : Nat) [(1 : Int), (2 : Int), (0 : Int), (2 : Int), (0 : Int), (1 : Int)], pickI (api_Pose.Turn a253) (0 : Nat) [(2 : Int), (1 : Int), (2 : Int), (0 : Int), (1 : Int), (0 : Int)]] else pickI (api_Pose.Turn a253) (0 : Nat) [(0 : Int), (0 : Int), (1 : Int), (1 : Int), (2 : Int), (2 : Int)]) (bif pickI (w64 (a254 - (6 : Int))) (0 : Nat) [(1 : Int), (2 : Int), (2 : Int)] == (↑((0 : Nat) + (1 : Nat)) : Int) then pickI (pickI (w64 (a254 - (6 : Int))) (0 : Nat) [(0 : Int), (0 : Int), (1 : Int)]) (0 : Nat) [pickI (api_Pose.Turn a253) (0 : Nat) [(0 : Int), (0 : Int), (1 : Int), (1 : Int), (2 : Int), (2 : Int)], pickI (api_Pose.Turn a253) (0 : Nat) [(1 : Int), (2 : Int), (0 : Int), (2 : Int), (0 : Int), (1 : Int)], pickI (api_Pose.Turn a253) (0 : Nat) [(2 : Int), (1 : Int), (2 : Int), (0 : Int), (1 : Int), (0 : Int)]] else bif pickI (w64 (a254 - (6 : Int))) (0 : Nat) [(0 : Int), (0 : Int), (1 : Int)] == (↑((0 : Nat) + (1 : Nat)) : Int) then pickI (pickI (w64 (a254 - (6 : Int))) (0 : Nat) [(1 : Int), (2 : Int), (2 : Int)]) (0 : Nat) [pickI (api_Pose.Turn a253) (0 : Nat) [(0 : Int), (0 : Int), (1 : Int), (1 : Int), (2 : Int), (2 : Int)], pickI (api_Pose.Turn a253) (0 : Nat) [(1 : Int), (2 : Int), (0 : Int), (2 : Int), (0 : Int), (1 : Int)], pickI (api_Pose.Turn a253) (0 : Nat) [(2 : Int), (1 : Int), (2 : Int), (0 : Int), (1 : Int), (0 : Int)]] else pickI (api_Pose.Turn a253) (0 : Nat) [(1 : Int), (2 : Int), (0 : Int), (2 : Int), (0 : Int), (1 : Int)]) (bif pickI (w64 (a254 - (6 : Int))) (0 : Nat) [(1 : Int), (2 : Int), (2 : Int)] == (↑((0 : Nat) + (1 : Nat) + (1 : Nat)) : Int) then pickI (pickI (w64 (a254 - (6 : Int))) (0 : Nat) [(0 : Int), (0 : Int), (1 : Int)]) (0 : Nat) [pickI (api_Pose.Turn a253) (0 : Nat) [(0 : Int), (0 : Int), (1 : Int), (1 : Int), (2 : Int), (2 : Int)], pickI (api_Pose.Turn a253) (0 : Nat) [(1 : Int), (2 : Int), (0 : Int), (2 : Int), (0 : Int), (1 : Int)], pickI (api_Pose.Turn a253) (0 : Nat) [(2 : Int), (1 : Int), (2 : Int), (0 : Int), (1 : Int), (0 : Int)]] else bif pickI (w64 (a254 - (6 : Int))) (0 : Nat) [(0 : Int), (0 : Int), (1 : Int)] == (↑((0 : Nat) + (1 : Nat) + (1 : Nat)) : Int) then pickI (pickI (w64 (a254 - (6 : Int))) (0 : Nat) [(1 : Int), (2 : Int), (2 : Int)]) (0 : Nat) [pickI (api_Pose.Turn a253) (0 : Nat) [(0 : Int), (0 : Int), (1 : Int), (1 : Int), (2 : Int), (2 : Int)], pickI (api_Pose.Turn a253) (0 : Nat) [(1 : Int), (2 : Int), (0 : Int), (2 : Int), (0 : Int), (1 : Int)], pickI (api_Pose.Turn a253) (0 : Nat) [(2 : Int), (1 : Int), (2 : Int), (0 : Int), (1 : Int), (0 : Int)]] else pickI (api_Pose.Turn a253) (0 : Nat) [(2 : Int), (1 : Int), (2 : Int), (0 : Int), (1 : Int), (0 : Int)])) (fun r270 =>
          shaft_crate_long N r270 a255 a256 a257 a258 a259 a260 a261 (fun r271 =>
          shaft_crate_long N (api_Pose.Turn a253) a255 a256 a257 a258 a259 a260 a261 (fun r272 =>
          shaft_crate_move_l10 N N (0 : Int) a255 a256 a257 a258 a259 a260 a261 a253 (api_Pose.mk (Arr3_int.mk (0 : Int) (0 : Int) (0 : Int)) (0 : Int)) (api_Pose.mk (api_Pose.At a253) r270) r271 r272 (fun r286 =>
           shaft_crate_free N (api_Pose.At a253) r286 a255 a256 a257 a258 a259 a260 a261 (fun r287 =>
           k (api_Pose.mk (api_Pose.At a253) r270) r287)))))
         else
          Option.none
        else
         Option.none
       else
        Option.none
      else
       Option.none
     else
      Option.none
    else
     Option.none
   else
    Option.none
noncomputable def shaft_crate_move {R : Type} : Nat → api_Pose → Int → Int → Int → Int → Int → Int → Int → Mp Arr3_int Unit → (api_Pose → Bool → Option R) → Option R := lock (@shaft_crate_move_m R)
theorem shaft_crate_move_def {R : Type} (N : Nat) (a253 : api_Pose) (a254 : Int) (a255 : Int) (a256 : Int) (a257 : Int) (a258 : Int) (a259 : Int) (a260 : Int) (a261 : Mp Arr3_int Unit) (k : api_Pose → Bool → Option R) : shaft_crate_move N a253 a254 a255 a256 a257 a258 a259 a260 a261 k = shaft_crate_move_m N a253 a254 a255 a256 a257 a258 a259 a260 a261 k := by unfold shaft_crate_move; rw [lock_eq]
def shaft_crate_move_sp : Sp := ⟨[rPtr 0 0, rAgg api_PoseC, rInt .i64], [(0, eBlk [rInt .i64, rInt .i64, rInt .i64, rInt .i64, rInt .i64, rInt .i64, rRow 1]), (1, eMp true true Arr3_intC unitC)]⟩
theorem shaft_crate_move_sp_ok : shaft_crate_move_sp.Ok := ⟨(allCons (rPtr_ok 0 0) (allCons (rAgg_ok api_PoseC_ok api_PoseC_len) (allCons (rInt_ok .i64) allNil))), (eCons (eBlk_ok (allCons (rInt_ok .i64) (allCons (rInt_ok .i64) (allCons (rInt_ok .i64) (allCons (rInt_ok .i64) (allCons (rInt_ok .i64) (allCons (rInt_ok .i64) (allCons (rRow_ok 1) allNil)))))))) (eCons (eMp_ok Arr3_intC_flat unitC_flat) eNil))⟩
def shaft_crate_move_rs : Sp := ⟨[rTup [rAgg api_PoseC, rBool]], [(0, eBlk [rInt .i64, rInt .i64, rInt .i64, rInt .i64, rInt .i64, rInt .i64, rRow 1]), (1, eMp true true Arr3_intC unitC)]⟩
theorem shaft_crate_move_rs_ok : shaft_crate_move_rs.Ok := ⟨(allCons (rTup_ok (allCons (rAgg_ok api_PoseC_ok api_PoseC_len) (allCons rBool_ok allNil))) allNil), (eCons (eBlk_ok (allCons (rInt_ok .i64) (allCons (rInt_ok .i64) (allCons (rInt_ok .i64) (allCons (rInt_ok .i64) (allCons (rInt_ok .i64) (allCons (rInt_ok .i64) (allCons (rRow_ok 1) allNil)))))))) (eCons (eMp_ok Arr3_intC_flat unitC_flat) eNil))⟩
def shaft_crate_move_run {R : Type} (N : Nat) (args : List SV) (T : Tab) (kf : SV × Tab → Option R) : Option R :=
  shaft_crate_move_m N (Cod.dec api_PoseC (lget (toCs (lget args 1)))) (toI (lget args 2)) (toI (lget (entCs (entAt T 0)) 0)) (toI (lget (entCs (entAt T 0)) 1)) (toI (lget (entCs (entAt T 0)) 2)) (toI (lget (entCs (entAt T 0)) 3)) (toI (lget (entCs (entAt T 0)) 4)) (toI (lget (entCs (entAt T 0)) 5)) (mpD Arr3_intC unitC (entHs (entAt T 1)) (entGt (entAt T 1))) (fun q0 q1 => kf (lget [.tup [.agg (Cod.enc api_PoseC q0), .bool q1]] 0, [(0, .blk [.int .i64 (toI (lget (entCs (entAt T 0)) 0)), .int .i64 (toI (lget (entCs (entAt T 0)) 1)), .int .i64 (toI (lget (entCs (entAt T 0)) 2)), .int .i64 (toI (lget (entCs (entAt T 0)) 3)), .int .i64 (toI (lget (entCs (entAt T 0)) 4)), .int .i64 (toI (lget (entCs (entAt T 0)) 5)), .row 1]), (1, mpE true true Arr3_intC unitC (mpD Arr3_intC unitC (entHs (entAt T 1)) (entGt (entAt T 1))))]))
def shaft_crate_move_d10 {R : Type} (N : Nat) (S0 : St) (k : Exit → St → Option R) : Option R :=
  shaft_crate_move_l10 N N (toI (lget S0.tmps 71)) (toI (lget (entCs (entAt S0.tab 0)) 0)) (toI (lget (entCs (entAt S0.tab 0)) 1)) (toI (lget (entCs (entAt S0.tab 0)) 2)) (toI (lget (entCs (entAt S0.tab 0)) 3)) (toI (lget (entCs (entAt S0.tab 0)) 4)) (toI (lget (entCs (entAt S0.tab 0)) 5)) (mpD Arr3_intC unitC (entHs (entAt S0.tab 1)) (entGt (entAt S0.tab 1))) (Cod.dec api_PoseC (lget (entCs (entAt S0.tab 2)))) (Cod.dec api_PoseC (lget (entCs (entAt S0.tab 3)))) (Cod.dec api_PoseC (lget (entCs (entAt S0.tab 4)))) (Cod.dec Arr3_intC (lget (entCs (entAt S0.tab 5)))) (Cod.dec Arr3_intC (lget (entCs (entAt S0.tab 6)))) (fun q10 => k (.exit 0) (shaft_crate_move_x10_0 (toI (lget (entCs (entAt S0.tab 0)) 0)) (toI (lget (entCs (entAt S0.tab 0)) 1)) (toI (lget (entCs (entAt S0.tab 0)) 2)) (toI (lget (entCs (entAt S0.tab 0)) 3)) (toI (lget (entCs (entAt S0.tab 0)) 4)) (toI (lget (entCs (entAt S0.tab 0)) 5)) (mpD Arr3_intC unitC (entHs (entAt S0.tab 1)) (entGt (entAt S0.tab 1))) (Cod.dec api_PoseC (lget (entCs (entAt S0.tab 2)))) (Cod.dec api_PoseC (lget (entCs (entAt S0.tab 3)))) (Cod.dec api_PoseC (lget (entCs (entAt S0.tab 4)))) q10))
def shaft_crate_move_lp {R : Type} (N : Nat) : Lp R := fun body S k => bif (Go.Sx.keyOf body).getD 0 == 10 then (shaft_crate_move_L10.head.raw 2 S (fun S0 => shaft_crate_move_d10 N S0 k)) else Option.none
theorem shaft_crate_move_l10_eq {R : Type} (N : Nat) (k : Exit → St → Option R) (n : Nat) : ∀ (v0 : Int) (v1 : Int) (v2 : Int) (v3 : Int) (v4 : Int) (v5 : Int) (v6 : Int) (v7 : Mp Arr3_int Unit) (v8 : api_Pose) (v9 : api_Pose) (v10 : api_Pose) (v11 : Arr3_int) (v12 : Arr3_int), loopM E.Θ (slices_Index____3_int__3_int__cal N) (shaft_crate_move_lp N) (noJn) 2 shaft_crate_move_L10 (bodyAt E 54 10) n (shaft_crate_move_h10 v0 v1 v2 v3 v4 v5 v6 v7 v8 v9 v10 v11 v12) k = shaft_crate_move_l10 N n v0 v1 v2 v3 v4 v5 v6 v7 v8 v9 v10 v11 v12 (fun q10 => k (.exit 0) (shaft_crate_move_x10_0 v1 v2 v3 v4 v5 v6 v7 v8 v9 v10 q10)) := by
  induction n with
  | zero => intro v0 v1 v2 v3 v4 v5 v6 v7 v8 v9 v10 v11 v12; rfl
  | succ n ih =>
    intro v0 v1 v2 v3 v4 v5 v6 v7 v8 v9 v10 v11 v12
    refine Eq.trans (b := shaft_crate_move_b10 N (fun v0 v1 v2 v3 v4 v5 v6 v7 v8 v9 v10 v11 v12 => loopM E.Θ (slices_Index____3_int__3_int__cal N) (shaft_crate_move_lp N) (noJn) 2 shaft_crate_move_L10 (bodyAt E 54 10) n (shaft_crate_move_h10 v0 v1 v2 v3 v4 v5 v6 v7 v8 v9 v10 v11 v12) k) v0 v1 v2 v3 v4 v5 v6 v7 v8 v9 v10 v11 v12 (fun q10 => k (.exit 0) (shaft_crate_move_x10_0 v1 v2 v3 v4 v5 v6 v7 v8 v9 v10 q10))) (by kernel_rfl) ?_
    have h : (fun (v0 : Int) (v1 : Int) (v2 : Int) (v3 : Int) (v4 : Int) (v5 : Int) (v6 : Int) (v7 : Mp Arr3_int Unit) (v8 : api_Pose) (v9 : api_Pose) (v10 : api_Pose) (v11 : Arr3_int) (v12 : Arr3_int) => loopM E.Θ (slices_Index____3_int__3_int__cal N) (shaft_crate_move_lp N) (noJn) 2 shaft_crate_move_L10 (bodyAt E 54 10) n (shaft_crate_move_h10 v0 v1 v2 v3 v4 v5 v6 v7 v8 v9 v10 v11 v12) k) = (fun (v0 : Int) (v1 : Int) (v2 : Int) (v3 : Int) (v4 : Int) (v5 : Int) (v6 : Int) (v7 : Mp Arr3_int Unit) (v8 : api_Pose) (v9 : api_Pose) (v10 : api_Pose) (v11 : Arr3_int) (v12 : Arr3_int) => shaft_crate_move_l10 N n v0 v1 v2 v3 v4 v5 v6 v7 v8 v9 v10 v11 v12 (fun q10 => k (.exit 0) (shaft_crate_move_x10_0 v1 v2 v3 v4 v5 v6 v7 v8 v9 v10 q10))) := funext fun v0 => funext fun v1 => funext fun v2 => funext fun v3 => funext fun v4 => funext fun v5 => funext fun v6 => funext fun v7 => funext fun v8 => funext fun v9 => funext fun v10 => funext fun v11 => funext fun v12 => ih v0 v1 v2 v3 v4 v5 v6 v7 v8 v9 v10 v11 v12
    rw [h]
    rfl
theorem shaft_crate_move_k10 {R : Type} (N : Nat) : LpKey (R := R) E 54 2 (shaft_crate_move_lp N) 10 :=
  lpKey_of hE (slices_Index____3_int__3_int__cal_ok N) (lp := shaft_crate_move_lp N) (jn := noJn) shaft_crate_move_L10_ok [] kNil (by kernel_rfl) [] jNil (by kernel_rfl) N fun S k =>
    Eq.trans (b := shaft_crate_move_L10.head.raw 2 S (fun S0 => shaft_crate_move_d10 N S0 k)) (by kernel_rfl) (congrArg (shaft_crate_move_L10.head.raw 2 S) (funext fun S0 => Eq.trans (shaft_crate_move_l10_eq N k N (toI (lget S0.tmps 71)) (toI (lget (entCs (entAt S0.tab 0)) 0)) (toI (lget (entCs (entAt S0.tab 0)) 1)) (toI (lget (entCs (entAt S0.tab 0)) 2)) (toI (lget (entCs (entAt S0.tab 0)) 3)) (toI (lget (entCs (entAt S0.tab 0)) 4)) (toI (lget (entCs (entAt S0.tab 0)) 5)) (mpD Arr3_intC unitC (entHs (entAt S0.tab 1)) (entGt (entAt S0.tab 1))) (Cod.dec api_PoseC (lget (entCs (entAt S0.tab 2)))) (Cod.dec api_PoseC (lget (entCs (entAt S0.tab 3)))) (Cod.dec api_PoseC (lget (entCs (entAt S0.tab 4)))) (Cod.dec Arr3_intC (lget (entCs (entAt S0.tab 5)))) (Cod.dec Arr3_intC (lget (entCs (entAt S0.tab 6))))).symm (by kernel_rfl)))
noncomputable def shaft_crate_move_go {R : Type} (N : Nat) (args : List SV) (T : Tab) (kf : SV × Tab → Option R) : Option R :=
  shaft_crate_move N (Cod.dec api_PoseC (lget (toCs (lget args 1)))) (toI (lget args 2)) (toI (lget (entCs (entAt T 0)) 0)) (toI (lget (entCs (entAt T 0)) 1)) (toI (lget (entCs (entAt T 0)) 2)) (toI (lget (entCs (entAt T 0)) 3)) (toI (lget (entCs (entAt T 0)) 4)) (toI (lget (entCs (entAt T 0)) 5)) (mpD Arr3_intC unitC (entHs (entAt T 1)) (entGt (entAt T 1))) (fun q0 q1 => kf (lget [.tup [.agg (Cod.enc api_PoseC q0), .bool q1]] 0, [(0, .blk [.int .i64 (toI (lget (entCs (entAt T 0)) 0)), .int .i64 (toI (lget (entCs (entAt T 0)) 1)), .int .i64 (toI (lget (entCs (entAt T 0)) 2)), .int .i64 (toI (lget (entCs (entAt T 0)) 3)), .int .i64 (toI (lget (entCs (entAt T 0)) 4)), .int .i64 (toI (lget (entCs (entAt T 0)) 5)), .row 1]), (1, mpE true true Arr3_intC unitC (mpD Arr3_intC unitC (entHs (entAt T 1)) (entGt (entAt T 1))))]))
noncomputable def shaft_crate_move_cal {R : Type} (N : Nat) : Cal R := callM (slices_Index____3_int__3_int__cal N) 54 2 shaft_crate_move_sp (shaft_crate_move_go N)
theorem shaft_crate_move_cal_ok {R : Type} (N : Nat) : CalOk E.P (shaft_crate_move_cal (R := R) N) :=
  callM_ok hE (slices_Index____3_int__3_int__cal_ok N) (lp := shaft_crate_move_lp N) (jn := noJn) (keys := [10]) (kCons (shaft_crate_move_k10 N) kNil) (by kernel_rfl) (js := []) jNil (by kernel_rfl) shaft_crate_move_sp_ok shaft_crate_move_rs_ok (fun args T kf => Eq.trans (shaft_crate_move_def N (Cod.dec api_PoseC (lget (toCs (lget args 1)))) (toI (lget args 2)) (toI (lget (entCs (entAt T 0)) 0)) (toI (lget (entCs (entAt T 0)) 1)) (toI (lget (entCs (entAt T 0)) 2)) (toI (lget (entCs (entAt T 0)) 3)) (toI (lget (entCs (entAt T 0)) 4)) (toI (lget (entCs (entAt T 0)) 5)) (mpD Arr3_intC unitC (entHs (entAt T 1)) (entGt (entAt T 1))) (fun q0 q1 => kf (lget [.tup [.agg (Cod.enc api_PoseC q0), .bool q1]] 0, [(0, .blk [.int .i64 (toI (lget (entCs (entAt T 0)) 0)), .int .i64 (toI (lget (entCs (entAt T 0)) 1)), .int .i64 (toI (lget (entCs (entAt T 0)) 2)), .int .i64 (toI (lget (entCs (entAt T 0)) 3)), .int .i64 (toI (lget (entCs (entAt T 0)) 4)), .int .i64 (toI (lget (entCs (entAt T 0)) 5)), .row 1]), (1, mpE true true Arr3_intC unitC (mpD Arr3_intC unitC (entHs (entAt T 1)) (entGt (entAt T 1))))]))) (by kernel_rfl : shaft_crate_move_run N args T kf = fnM E (slices_Index____3_int__3_int__cal N) (shaft_crate_move_lp N) (noJn) 54 (shaft_crate_move_sp.vs args) (shaft_crate_move_sp.tab T) 2 (resK shaft_crate_move_rs kf)))
end
end Go.Proofs.YtckkodiefpdmhaaDoor
