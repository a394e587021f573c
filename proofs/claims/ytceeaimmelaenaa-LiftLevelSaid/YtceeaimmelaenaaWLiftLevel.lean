/-
  The model of the statement LiftLevel, that it is what the code does (written by a program), and that it answers true.
-/
import Derived.Test.YtceeaimmelaenaaP9
set_option maxRecDepth 100000
set_option maxHeartbeats 0
set_option linter.unusedVariables false
set_option linter.unusedSimpArgs false
namespace Go.Proofs.Ytceeaimmelaenaa
open Go.Sx
noncomputable section

def newellaw05_LiftLevel_L9 : LoopSp := ⟨⟨[3, 7, 8, 10], ⟨(dr 3 ((rPtr 0 0) :: (dr 3 ((rRow 1) :: (rRow 2) :: (dr 1 ((rInt .i64) :: (dr 88 []))))))), [(0, eBlkC api_LiftC), (1, eRow intC), (2, eRow intC)]⟩, 3⟩, [(Option.none, ⟨[6], ⟨(dr 6 ((rBool) :: (dr 92 []))), []⟩, 0⟩), (some 0, ⟨[7, 8], ⟨(dr 7 ((rRow 0) :: (rRow 1) :: (dr 90 []))), [(0, eRow intC), (1, eRow intC)]⟩, 2⟩)]⟩
theorem newellaw05_LiftLevel_L9_ok : newellaw05_LiftLevel_L9.Ok := ⟨⟨(drCons 3 (allCons (rPtr_ok 0 0) (drCons 3 (allCons (rRow_ok 1) (allCons (rRow_ok 2) (drCons 1 (allCons (rInt_ok .i64) (drCons 88 allNil)))))))), (eCons (eBlkC_ok api_LiftC_ok api_LiftC_len) (eCons (eRow_ok intC_ok) (eCons (eRow_ok intC_ok) eNil)))⟩, (xCons ⟨(drCons 6 (allCons rBool_ok (drCons 92 allNil))), eNil⟩ (xCons ⟨(drCons 7 (allCons (rRow_ok 0) (allCons (rRow_ok 1) (drCons 90 allNil)))), (eCons (eRow_ok intC_ok) (eCons (eRow_ok intC_ok) eNil))⟩ xNil))⟩
def newellaw05_LiftLevel_h9 (v1266 : Int) (v1267 : api_Lift) (v1268 : Bool) (v1269 : Arr Int) (v1270 : Bool) (v1271 : Arr Int) : St := ⟨(un 3 ((.ptr 0 0) :: (un 3 ((.row 1) :: (.row 2) :: (un 1 ((.int .i64 v1266) :: (un 88 []))))))), [(0, .blk (Cod.enc api_LiftC v1267)), (1, rowE intC v1268 v1269), (2, rowE intC v1270 v1271)], 3⟩
def newellaw05_LiftLevel_x9_r (q0 : Bool) : St := ⟨(un 6 ((.bool q0) :: (un 92 []))), [], 0⟩
def newellaw05_LiftLevel_x9_0 (v1268 : Bool) (v1269 : Arr Int) (v1270 : Bool) (v1271 : Arr Int) : St := ⟨(un 7 ((.row 0) :: (.row 1) :: (un 90 []))), [(0, rowE intC v1268 v1269), (1, rowE intC v1270 v1271)], 2⟩
def newellaw05_LiftLevel_b9 {R : Type} (N : Nat) (rc : Int → api_Lift → Bool → Arr Int → Bool → Arr Int → Option R) (v1266 : Int) (v1267 : api_Lift) (v1268 : Bool) (v1269 : Arr Int) (v1270 : Bool) (v1271 : Arr Int) (kr : Bool → Option R) (k0 : Unit → Option R) : Option R :=
  bif decide (v1266 < (↑(Arr.n v1269) : Int)) then
   bif decide ((0 : Int) ≤ v1266) && decide (v1266 < (↑(Arr.n v1269) : Int)) then
    bif decide (Arr.f v1269 (Int.toNat v1266) > api_Lift.Level v1267) then
     kr false
    else
     bif decide ((0 : Int) ≤ v1266) && decide (v1266 < (↑(Arr.n v1269) : Int)) then
      bif decide (w64 ((0 : Int) - Arr.f v1269 (Int.toNat v1266)) > api_Lift.Level v1267) then
       kr false
      else
       rc (w64 (v1266 + (1 : Int))) v1267 v1268 v1269 v1270 v1271
     else
      Option.none
   else
    Option.none
  else
   k0 ()
def newellaw05_LiftLevel_l9 {R : Type} (N : Nat) : Nat → Int → api_Lift → Bool → Arr Int → Bool → Arr Int → (Bool → Option R) → (Unit → Option R) → Option R
  | 0, _, _, _, _, _, _, _, _ => Option.none
  | n + 1, v1266, v1267, v1268, v1269, v1270, v1271, kr, k0 => newellaw05_LiftLevel_b9 N (fun v1266 v1267 v1268 v1269 v1270 v1271 => newellaw05_LiftLevel_l9 N n v1266 v1267 v1268 v1269 v1270 v1271 kr k0) v1266 v1267 v1268 v1269 v1270 v1271 kr k0

def newellaw05_LiftLevel_L14 : LoopSp := ⟨⟨[7, 8, 11], ⟨(dr 7 ((rRow 0) :: (rRow 1) :: (dr 2 ((rInt .i64) :: (dr 87 []))))), [(0, eRow intC), (1, eRow intC)]⟩, 2⟩, [(Option.none, ⟨[6], ⟨(dr 6 ((rBool) :: (dr 92 []))), []⟩, 0⟩), (some 2, ⟨[], ⟨(dr 99 []), []⟩, 0⟩)]⟩
theorem newellaw05_LiftLevel_L14_ok : newellaw05_LiftLevel_L14.Ok := ⟨⟨(drCons 7 (allCons (rRow_ok 0) (allCons (rRow_ok 1) (drCons 2 (allCons (rInt_ok .i64) (drCons 87 allNil)))))), (eCons (eRow_ok intC_ok) (eCons (eRow_ok intC_ok) eNil))⟩, (xCons ⟨(drCons 6 (allCons rBool_ok (drCons 92 allNil))), eNil⟩ (xCons ⟨(drCons 99 allNil), eNil⟩ xNil))⟩
def newellaw05_LiftLevel_h14 (v1273 : Int) (v1274 : Bool) (v1275 : Arr Int) (v1276 : Bool) (v1277 : Arr Int) : St := ⟨(un 7 ((.row 0) :: (.row 1) :: (un 2 ((.int .i64 v1273) :: (un 87 []))))), [(0, rowE intC v1274 v1275), (1, rowE intC v1276 v1277)], 2⟩
def newellaw05_LiftLevel_x14_r (q0 : Bool) : St := ⟨(un 6 ((.bool q0) :: (un 92 []))), [], 0⟩
def newellaw05_LiftLevel_x14_2  : St := ⟨(un 99 []), [], 0⟩
def newellaw05_LiftLevel_b14 {R : Type} (N : Nat) (rc : Int → Bool → Arr Int → Bool → Arr Int → Option R) (v1273 : Int) (v1274 : Bool) (v1275 : Arr Int) (v1276 : Bool) (v1277 : Arr Int) (kr : Bool → Option R) (k2 : Unit → Option R) : Option R :=
  bif decide (v1273 < (↑(Arr.n v1277) : Int)) then
   bif decide ((0 : Int) ≤ v1273) && decide (v1273 < (↑(Arr.n v1277) : Int)) then
    bif decide (Arr.f v1277 (Int.toNat v1273) < (1 : Int)) then
     kr false
    else
     bif decide ((0 : Int) ≤ v1273) && decide (v1273 < (↑(Arr.n v1277) : Int)) then
      bif decide (Arr.f v1277 (Int.toNat v1273) ≥ (↑(Arr.n v1275) : Int)) then
       kr false
      else
       bif decide ((0 : Int) ≤ v1273) && decide (v1273 < (↑(Arr.n v1277) : Int)) then
        bif decide ((0 : Int) ≤ Arr.f v1277 (Int.toNat v1273)) && decide (Arr.f v1277 (Int.toNat v1273) < (↑(Arr.n v1275) : Int)) then
         bif Arr.f v1275 (Int.toNat (Arr.f v1277 (Int.toNat v1273))) != (0 : Int) then
          kr false
         else
          rc (w64 (v1273 + (1 : Int))) v1274 v1275 v1276 v1277
        else
         Option.none
       else
        Option.none
     else
      Option.none
   else
    Option.none
  else
   k2 ()
def newellaw05_LiftLevel_l14 {R : Type} (N : Nat) : Nat → Int → Bool → Arr Int → Bool → Arr Int → (Bool → Option R) → (Unit → Option R) → Option R
  | 0, _, _, _, _, _, _, _ => Option.none
  | n + 1, v1273, v1274, v1275, v1276, v1277, kr, k2 => newellaw05_LiftLevel_b14 N (fun v1273 v1274 v1275 v1276 v1277 => newellaw05_LiftLevel_l14 N n v1273 v1274 v1275 v1276 v1277 kr k2) v1273 v1274 v1275 v1276 v1277 kr k2


def newellaw05_LiftLevel_m {R : Type} (N : Nat) (a1252 : api_Lift) (a1253 : Int) (a1254 : Arr Int) (k : Bool → Option R) : Option R :=
  newellaw05_Far N a1252 (fun r1255 =>
  bif r1255 then
   newellaw05_works N  (fun r1256 =>
   k r1256)
  else
   bif decide ((↑(Arr.n a1254) : Int) > (80 : Int)) then
    newellaw05_works N  (fun r1257 =>
    k r1257)
   else
    newelref05_Check N a1252 (fun r1258 =>
    bif r1258 != (0 : Int) then
     newellaw05_works N  (fun r1259 =>
     k r1259)
    else
     lift_Levels N a1252 a1253 a1254 (fun r1260 r1261 r1262 r1263 r1264 =>
     bif r1260 != (0 : Int) then
      bif r1260 == (1 : Int) then
       newellaw05_works N  (fun r1265 =>
       k r1265)
      else
       k false
     else
      bif (↑(Arr.n r1262) : Int) != (↑(Arr.n a1254) : Int) then
       k false
      else
       newellaw05_LiftLevel_l9 N N (0 : Int) a1252 r1261 r1262 r1263 r1264 (fun r1272 =>
        k r1272) (fun (_ : Unit) =>
        newellaw05_LiftLevel_l14 N N (0 : Int) r1261 r1262 r1263 r1264 (fun r1278 =>
         k r1278) (fun (_ : Unit) =>
         newellaw05_works N  (fun r1279 =>
         k r1279))))))
noncomputable def newellaw05_LiftLevel {R : Type} : Nat → api_Lift → Int → Arr Int → (Bool → Option R) → Option R := lock (@newellaw05_LiftLevel_m R)
theorem newellaw05_LiftLevel_def {R : Type} (N : Nat) (a1252 : api_Lift) (a1253 : Int) (a1254 : Arr Int) (k : Bool → Option R) : newellaw05_LiftLevel N a1252 a1253 a1254 k = newellaw05_LiftLevel_m N a1252 a1253 a1254 k := by unfold newellaw05_LiftLevel; rw [lock_eq]
def newellaw05_LiftLevel_sp : Sp := ⟨[rAgg api_LiftC, rInt .i64, rSl intC], []⟩
theorem newellaw05_LiftLevel_sp_ok : newellaw05_LiftLevel_sp.Ok := ⟨(allCons (rAgg_ok api_LiftC_ok api_LiftC_len) (allCons (rInt_ok .i64) (allCons (rSl_ok intC_ok) allNil))), eNil⟩
def newellaw05_LiftLevel_rs : Sp := ⟨[rBool], []⟩
theorem newellaw05_LiftLevel_rs_ok : newellaw05_LiftLevel_rs.Ok := ⟨(allCons rBool_ok allNil), eNil⟩
def newellaw05_LiftLevel_run {R : Type} (N : Nat) (args : List SV) (T : Tab) (kf : SV × Tab → Option R) : Option R :=
  newellaw05_LiftLevel_m N (Cod.dec api_LiftC (lget (toCs (lget args 0)))) (toI (lget args 1)) (lstC intC (lget args 2)) (fun q0 => kf (lget [.bool q0] 0, []))
def newellaw05_LiftLevel_d14 {R : Type} (N : Nat) (S0 : St) (k : Exit → St → Option R) : Option R :=
  newellaw05_LiftLevel_l14 N N (toI (lget S0.tmps 11)) (entNl (entAt S0.tab 0)) (lst intC (entN (entAt S0.tab 0)) (entC (entAt S0.tab 0))) (entNl (entAt S0.tab 1)) (lst intC (entN (entAt S0.tab 1)) (entC (entAt S0.tab 1))) (fun q0 => k .ret (newellaw05_LiftLevel_x14_r q0)) (fun (_ : Unit) => k (.exit 2) (newellaw05_LiftLevel_x14_2 ))
def newellaw05_LiftLevel_d9 {R : Type} (N : Nat) (S0 : St) (k : Exit → St → Option R) : Option R :=
  newellaw05_LiftLevel_l9 N N (toI (lget S0.tmps 10)) (Cod.dec api_LiftC (lget (entCs (entAt S0.tab 0)))) (entNl (entAt S0.tab 1)) (lst intC (entN (entAt S0.tab 1)) (entC (entAt S0.tab 1))) (entNl (entAt S0.tab 2)) (lst intC (entN (entAt S0.tab 2)) (entC (entAt S0.tab 2))) (fun q0 => k .ret (newellaw05_LiftLevel_x9_r q0)) (fun (_ : Unit) => k (.exit 0) (newellaw05_LiftLevel_x9_0 (entNl (entAt S0.tab 1)) (lst intC (entN (entAt S0.tab 1)) (entC (entAt S0.tab 1))) (entNl (entAt S0.tab 2)) (lst intC (entN (entAt S0.tab 2)) (entC (entAt S0.tab 2)))))
def newellaw05_LiftLevel_lp {R : Type} (N : Nat) : Lp R := fun body S k => bif (Go.Sx.keyOf body).getD 0 == 9 then newellaw05_LiftLevel_L9.head.raw 0 S (fun S0 => newellaw05_LiftLevel_d9 N S0 k) else bif (Go.Sx.keyOf body).getD 0 == 14 then newellaw05_LiftLevel_L14.head.raw 0 S (fun S0 => newellaw05_LiftLevel_d14 N S0 k) else Option.none
theorem newellaw05_LiftLevel_l9_eq {R : Type} (N : Nat) (k : Exit → St → Option R) (n : Nat) : ∀ (v0 : Int) (v1 : api_Lift) (v2 : Bool) (v3 : Arr Int) (v4 : Bool) (v5 : Arr Int), loopM E.Θ (newellaw05_works_cal N) (newellaw05_LiftLevel_lp N) 0 newellaw05_LiftLevel_L9 (bodyAt E 11 9) n (newellaw05_LiftLevel_h9 v0 v1 v2 v3 v4 v5) k = newellaw05_LiftLevel_l9 N n v0 v1 v2 v3 v4 v5 (fun q0 => k .ret (newellaw05_LiftLevel_x9_r q0)) (fun (_ : Unit) => k (.exit 0) (newellaw05_LiftLevel_x9_0 v2 v3 v4 v5)) := by
  induction n with
  | zero => intro v0 v1 v2 v3 v4 v5; rfl
  | succ n ih =>
    intro v0 v1 v2 v3 v4 v5
    refine Eq.trans (b := newellaw05_LiftLevel_b9 N (fun v0 v1 v2 v3 v4 v5 => loopM E.Θ (newellaw05_works_cal N) (newellaw05_LiftLevel_lp N) 0 newellaw05_LiftLevel_L9 (bodyAt E 11 9) n (newellaw05_LiftLevel_h9 v0 v1 v2 v3 v4 v5) k) v0 v1 v2 v3 v4 v5 (fun q0 => k .ret (newellaw05_LiftLevel_x9_r q0)) (fun (_ : Unit) => k (.exit 0) (newellaw05_LiftLevel_x9_0 v2 v3 v4 v5))) (by kernel_rfl) ?_
    have h : (fun (v0 : Int) (v1 : api_Lift) (v2 : Bool) (v3 : Arr Int) (v4 : Bool) (v5 : Arr Int) => loopM E.Θ (newellaw05_works_cal N) (newellaw05_LiftLevel_lp N) 0 newellaw05_LiftLevel_L9 (bodyAt E 11 9) n (newellaw05_LiftLevel_h9 v0 v1 v2 v3 v4 v5) k) = (fun (v0 : Int) (v1 : api_Lift) (v2 : Bool) (v3 : Arr Int) (v4 : Bool) (v5 : Arr Int) => newellaw05_LiftLevel_l9 N n v0 v1 v2 v3 v4 v5 (fun q0 => k .ret (newellaw05_LiftLevel_x9_r q0)) (fun (_ : Unit) => k (.exit 0) (newellaw05_LiftLevel_x9_0 v2 v3 v4 v5))) := funext fun v0 => funext fun v1 => funext fun v2 => funext fun v3 => funext fun v4 => funext fun v5 => ih v0 v1 v2 v3 v4 v5
    rw [h]
    rfl
theorem newellaw05_LiftLevel_l14_eq {R : Type} (N : Nat) (k : Exit → St → Option R) (n : Nat) : ∀ (v0 : Int) (v1 : Bool) (v2 : Arr Int) (v3 : Bool) (v4 : Arr Int), loopM E.Θ (newellaw05_works_cal N) (newellaw05_LiftLevel_lp N) 0 newellaw05_LiftLevel_L14 (bodyAt E 11 14) n (newellaw05_LiftLevel_h14 v0 v1 v2 v3 v4) k = newellaw05_LiftLevel_l14 N n v0 v1 v2 v3 v4 (fun q0 => k .ret (newellaw05_LiftLevel_x14_r q0)) (fun (_ : Unit) => k (.exit 2) (newellaw05_LiftLevel_x14_2 )) := by
  induction n with
  | zero => intro v0 v1 v2 v3 v4; rfl
  | succ n ih =>
    intro v0 v1 v2 v3 v4
    refine Eq.trans (b := newellaw05_LiftLevel_b14 N (fun v0 v1 v2 v3 v4 => loopM E.Θ (newellaw05_works_cal N) (newellaw05_LiftLevel_lp N) 0 newellaw05_LiftLevel_L14 (bodyAt E 11 14) n (newellaw05_LiftLevel_h14 v0 v1 v2 v3 v4) k) v0 v1 v2 v3 v4 (fun q0 => k .ret (newellaw05_LiftLevel_x14_r q0)) (fun (_ : Unit) => k (.exit 2) (newellaw05_LiftLevel_x14_2 ))) (by kernel_rfl) ?_
    have h : (fun (v0 : Int) (v1 : Bool) (v2 : Arr Int) (v3 : Bool) (v4 : Arr Int) => loopM E.Θ (newellaw05_works_cal N) (newellaw05_LiftLevel_lp N) 0 newellaw05_LiftLevel_L14 (bodyAt E 11 14) n (newellaw05_LiftLevel_h14 v0 v1 v2 v3 v4) k) = (fun (v0 : Int) (v1 : Bool) (v2 : Arr Int) (v3 : Bool) (v4 : Arr Int) => newellaw05_LiftLevel_l14 N n v0 v1 v2 v3 v4 (fun q0 => k .ret (newellaw05_LiftLevel_x14_r q0)) (fun (_ : Unit) => k (.exit 2) (newellaw05_LiftLevel_x14_2 ))) := funext fun v0 => funext fun v1 => funext fun v2 => funext fun v3 => funext fun v4 => ih v0 v1 v2 v3 v4
    rw [h]
    rfl
theorem newellaw05_LiftLevel_k14 {R : Type} (N : Nat) : LpKey (R := R) E 11 0 (newellaw05_LiftLevel_lp N) 14 :=
  lpKey_of hE (newellaw05_works_cal_ok N) newellaw05_LiftLevel_L14_ok [] kNil (by kernel_rfl) N fun S k =>
    Eq.trans (b := newellaw05_LiftLevel_L14.head.raw 0 S (fun S0 => newellaw05_LiftLevel_d14 N S0 k)) (by kernel_rfl) (congrArg (newellaw05_LiftLevel_L14.head.raw 0 S) (funext fun S0 => Eq.trans (newellaw05_LiftLevel_l14_eq N k N (toI (lget S0.tmps 11)) (entNl (entAt S0.tab 0)) (lst intC (entN (entAt S0.tab 0)) (entC (entAt S0.tab 0))) (entNl (entAt S0.tab 1)) (lst intC (entN (entAt S0.tab 1)) (entC (entAt S0.tab 1)))).symm (by kernel_rfl)))
theorem newellaw05_LiftLevel_k9 {R : Type} (N : Nat) : LpKey (R := R) E 11 0 (newellaw05_LiftLevel_lp N) 9 :=
  lpKey_of hE (newellaw05_works_cal_ok N) newellaw05_LiftLevel_L9_ok [] kNil (by kernel_rfl) N fun S k =>
    Eq.trans (b := newellaw05_LiftLevel_L9.head.raw 0 S (fun S0 => newellaw05_LiftLevel_d9 N S0 k)) (by kernel_rfl) (congrArg (newellaw05_LiftLevel_L9.head.raw 0 S) (funext fun S0 => Eq.trans (newellaw05_LiftLevel_l9_eq N k N (toI (lget S0.tmps 10)) (Cod.dec api_LiftC (lget (entCs (entAt S0.tab 0)))) (entNl (entAt S0.tab 1)) (lst intC (entN (entAt S0.tab 1)) (entC (entAt S0.tab 1))) (entNl (entAt S0.tab 2)) (lst intC (entN (entAt S0.tab 2)) (entC (entAt S0.tab 2)))).symm (by kernel_rfl)))
noncomputable def newellaw05_LiftLevel_go {R : Type} (N : Nat) (args : List SV) (T : Tab) (kf : SV × Tab → Option R) : Option R :=
  newellaw05_LiftLevel N (Cod.dec api_LiftC (lget (toCs (lget args 0)))) (toI (lget args 1)) (lstC intC (lget args 2)) (fun q0 => kf (lget [.bool q0] 0, []))
noncomputable def newellaw05_LiftLevel_cal {R : Type} (N : Nat) : Cal R := callM (newellaw05_works_cal N) 11 0 newellaw05_LiftLevel_sp (newellaw05_LiftLevel_go N)
theorem newellaw05_LiftLevel_cal_ok {R : Type} (N : Nat) : CalOk E.P (newellaw05_LiftLevel_cal (R := R) N) :=
  callM_ok hE (newellaw05_works_cal_ok N) (lp := newellaw05_LiftLevel_lp N) (keys := [9, 14]) (kCons (newellaw05_LiftLevel_k9 N) (kCons (newellaw05_LiftLevel_k14 N) kNil)) (by kernel_rfl) newellaw05_LiftLevel_sp_ok newellaw05_LiftLevel_rs_ok (fun args T kf => Eq.trans (newellaw05_LiftLevel_def N (Cod.dec api_LiftC (lget (toCs (lget args 0)))) (toI (lget args 1)) (lstC intC (lget args 2)) (fun q0 => kf (lget [.bool q0] 0, []))) (by kernel_rfl : newellaw05_LiftLevel_run N args T kf = fnM E (newellaw05_works_cal N) (newellaw05_LiftLevel_lp N) 11 (newellaw05_LiftLevel_sp.vs args) (newellaw05_LiftLevel_sp.tab T) 0 (resK newellaw05_LiftLevel_rs kf)))

section
variable {R : Type}
theorem level_l9 {N : Nat} {l : api_Lift} (hl : 0 ≤ l.Level) (hl2 : l.Level ≤ 1000) (b c : Bool) {a g : Arr Int} (hn : a.n ≤ 100000) (hb : ∀ j, j < a.n → -l.Level ≤ a.f j ∧ a.f j ≤ l.Level) (kr : Bool → Option R) (k0 : Unit → Option R) : ∀ (r i n : Nat), i + r = a.n → r < n →
    newellaw05_LiftLevel_l9 N n (i : Int) l b a c g kr k0 = k0 () := by
  intro r
  induction r with
  | zero =>
    intro i n h1 h2
    obtain ⟨n, rfl⟩ : ∃ m, n = m + 1 := ⟨n - 1, by omega⟩
    unfold newellaw05_LiftLevel_l9 newellaw05_LiftLevel_b9
    have e1 : decide ((i : Int) < (a.n : Int)) = false := by simp; omega
    simp only [e1, cond_false]
  | succ r ih =>
    intro i n h1 h2
    obtain ⟨n, rfl⟩ : ∃ m, n = m + 1 := ⟨n - 1, by omega⟩
    unfold newellaw05_LiftLevel_l9 newellaw05_LiftLevel_b9
    have e1 : decide ((i : Int) < (a.n : Int)) = true := by simp; omega
    have hs := hb i (by omega)
    have e2 : decide (a.f i > l.Level) = false := by simp; omega
    have e3 : decide (w64 (0 - a.f i) > l.Level) = false := by rw [w64_eq (by omega) (by omega)]; simp; omega
    simp only [e1, nat_nonneg, Bool.and_self, cond_true, Int.toNat_natCast, e2, e3, cond_false, w64_succ (show i < 1000000000000 by omega)]
    exact ih (i + 1) n (by omega) (by omega)
theorem level_l14 {N : Nat} (b c : Bool) {a g : Arr Int} (hn : g.n ≤ 100000) (hb : ∀ j, j < g.n → 1 ≤ g.f j ∧ g.f j < (a.n : Int) ∧ a.f (g.f j).toNat = 0) (kr : Bool → Option R) (k0 : Unit → Option R) : ∀ (r i n : Nat), i + r = g.n → r < n →
    newellaw05_LiftLevel_l14 N n (i : Int) b a c g kr k0 = k0 () := by
  intro r
  induction r with
  | zero =>
    intro i n h1 h2
    obtain ⟨n, rfl⟩ : ∃ m, n = m + 1 := ⟨n - 1, by omega⟩
    unfold newellaw05_LiftLevel_l14 newellaw05_LiftLevel_b14
    have e1 : decide ((i : Int) < (g.n : Int)) = false := by simp; omega
    simp only [e1, cond_false]
  | succ r ih =>
    intro i n h1 h2
    obtain ⟨n, rfl⟩ : ∃ m, n = m + 1 := ⟨n - 1, by omega⟩
    unfold newellaw05_LiftLevel_l14 newellaw05_LiftLevel_b14
    have e1 : decide ((i : Int) < (g.n : Int)) = true := by simp; omega
    obtain ⟨h3, h4, h5⟩ := hb i (by omega)
    have e2 : decide (g.f i < 1) = false := by simp; omega
    have e3 : decide (g.f i ≥ (a.n : Int)) = false := by simp; omega
    have e4 : decide ((0 : Int) ≤ g.f i) = true := by simp; omega
    have e5 : decide (g.f i < (a.n : Int)) = true := by simp; omega
    have e6 : ((0 : Int) != 0) = false := rfl
    simp only [e1, nat_nonneg, Bool.and_self, cond_true, Int.toNat_natCast, e2, e3, e4, e5, h5, e6, cond_false, w64_succ (show i < 1000000000000 by omega)]
    exact ih (i + 1) n (by omega) (by omega)
end

theorem liftLevel_true (l : api_Lift) (floor : Int) (o : Arr Int) (hl : l.wf) (hw : i64 floor) (ho : o.n ≤ maxLen) (hoi : ∀ i, i < o.n → i64 (o.f i)) : ∃ N, newellaw05_LiftLevel N l floor o (fun q0 => okK (lget [.bool q0] 0, [])) = some () := by
  refine ⟨NN, ?_⟩
  have hNN : NN = 20000 := rfl
  rw [newellaw05_LiftLevel_def]
  unfold newellaw05_LiftLevel_m
  simp only [Far_eq, works_eq]
  cases decide ((l.Floors.n : Int) > 30)
  rotate_left
  · rfl
  by_cases hon : (o.n : Int) > 80
  · simp only [hon, decide_true, cond_true, cond_false]; rfl
  simp only [hon, decide_false, cond_false, refCheck_eq (show 20 ≤ NN by decide)]
  by_cases hv : VL l
  rotate_left
  · rw [checkV_ne hv]; rfl
  simp only [checkV_pos hv, bne_self_eq_false, cond_false, Levels_eq (show 61 ≤ NN by decide)]
  by_cases he : lvE l floor o = 0
  · have hk := lvV_ok he
    have hn := hk.n
    have hm := hk.m
    have e1 : ((o.n : Int) != (o.n : Int)) = false := by simp
    simp only [he, bne_self_eq_false, cond_false, hn, e1]
    refine Eq.trans (level_l9 hv.e1 hv.e2 _ _ (by omega) (by rw [hn]; exact hk.lev) _ _ _ 0 NN (Nat.zero_add _) (by omega)) ?_
    refine Eq.trans (level_l14 _ _ (by omega) (by rw [hn]; exact hk.ag) _ _ _ 0 NN (Nat.zero_add _) (by omega)) ?_
    rfl
  · have he1 : lvE l floor o = 1 := by
      unfold lvE at he ⊢
      rw [if_pos hv] at he ⊢
      by_cases hp : lvP l floor o
      · rw [if_pos hp] at he; omega
      · rw [if_neg hp]
    rw [he1]
    rfl
end
end Go.Proofs.Ytceeaimmelaenaa
