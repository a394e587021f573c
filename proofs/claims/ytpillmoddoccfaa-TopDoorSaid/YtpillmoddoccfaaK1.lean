import Derived.Test.YtpillmoddoccfaaCod
set_option maxRecDepth 100000
set_option maxHeartbeats 0
set_option linter.unusedVariables false
namespace Go.Proofs.Ytpillmoddoccfaa
open Go.Sx
noncomputable section
def r5_within_m {R : Type} (N : Nat) (a1 : Int) (a2 : Int) (a3 : Int) (k : Bool → Option R) : Option R :=
 bif decide (a1 ≥ a2) then
 k (decide (a1 ≤ a3))
 else
 k false
noncomputable def r5_within {R : Type} : Nat → Int → Int → Int → (Bool → Option R) → Option R := lock (@r5_within_m R)
theorem r5_within_def {R : Type} (N : Nat) (a1 : Int) (a2 : Int) (a3 : Int) (k : Bool → Option R) : r5_within N a1 a2 a3 k = r5_within_m N a1 a2 a3 k := by unfold r5_within; rw [lock_eq]
def r5_within_sp : Sp := ⟨[rInt .i64, rInt .i64, rInt .i64], []⟩
theorem r5_within_sp_ok : r5_within_sp.Ok := ⟨(allCons (rInt_ok .i64) (allCons (rInt_ok .i64) (allCons (rInt_ok .i64) allNil))), eNil⟩
def r5_within_rs : Sp := ⟨[rBool], []⟩
theorem r5_within_rs_ok : r5_within_rs.Ok := ⟨(allCons rBool_ok allNil), eNil⟩
def r5_within_run {R : Type} (N : Nat) (args : List SV) (T : Tab) (kf : SV × Tab → Option R) : Option R :=
  r5_within_m N (toI (lget args 0)) (toI (lget args 1)) (toI (lget args 2)) (fun q0 => kf (lget [.bool q0] 0, []))
def r5_within_lp {R : Type} (N : Nat) : Lp R := fun body S k => Option.none
noncomputable def r5_within_go {R : Type} (N : Nat) (args : List SV) (T : Tab) (kf : SV × Tab → Option R) : Option R :=
  r5_within N (toI (lget args 0)) (toI (lget args 1)) (toI (lget args 2)) (fun q0 => kf (lget [.bool q0] 0, []))
noncomputable def r5_within_cal {R : Type} (N : Nat) : Cal R := callM (noCal E) 70 0 r5_within_sp (r5_within_go N)
theorem r5_within_cal_ok {R : Type} (N : Nat) : CalOk E.P (r5_within_cal (R := R) N) :=
  callM_ok hE (noCal_ok E) (lp := r5_within_lp N) (jn := noJn) (keys := []) kNil (by kernel_rfl) (js := []) jNil (by kernel_rfl) r5_within_sp_ok r5_within_rs_ok (fun args T kf => Eq.trans (r5_within_def N (toI (lget args 0)) (toI (lget args 1)) (toI (lget args 2)) (fun q0 => kf (lget [.bool q0] 0, []))) (by kernel_rfl : r5_within_run N args T kf = fnM E (noCal E) (r5_within_lp N) (noJn) 70 (r5_within_sp.vs args) (r5_within_sp.tab T) 0 (resK r5_within_rs kf)))
def r5_CheckDoor_m {R : Type} (N : Nat) (a0 : pDo) (k : Int → Option R) : Option R :=
 r5_within N (pDo.Wide a0) (1 : Int) (50 : Int) (fun r4 =>
 bif !r4 then
 k (51 : Int)
 else
 r5_within N (pDo.Wait a0) (0 : Int) (200 : Int) (fun r5 =>
 bif !r5 then
 k (51 : Int)
 else
 k (0 : Int)))
noncomputable def r5_CheckDoor {R : Type} : Nat → pDo → (Int → Option R) → Option R := lock (@r5_CheckDoor_m R)
theorem r5_CheckDoor_def {R : Type} (N : Nat) (a0 : pDo) (k : Int → Option R) : r5_CheckDoor N a0 k = r5_CheckDoor_m N a0 k := by unfold r5_CheckDoor; rw [lock_eq]
def r5_CheckDoor_sp : Sp := ⟨[rAgg pDoC], []⟩
theorem r5_CheckDoor_sp_ok : r5_CheckDoor_sp.Ok := ⟨(allCons (rAgg_ok pDoC_ok pDoC_len) allNil), eNil⟩
def r5_CheckDoor_rs : Sp := ⟨[rInt .i64], []⟩
theorem r5_CheckDoor_rs_ok : r5_CheckDoor_rs.Ok := ⟨(allCons (rInt_ok .i64) allNil), eNil⟩
def r5_CheckDoor_run {R : Type} (N : Nat) (args : List SV) (T : Tab) (kf : SV × Tab → Option R) : Option R :=
  r5_CheckDoor_m N (Cod.dec pDoC (lget (toCs (lget args 0)))) (fun q0 => kf (lget [.int .i64 q0] 0, []))
def r5_CheckDoor_lp {R : Type} (N : Nat) : Lp R := fun body S k => Option.none
noncomputable def r5_CheckDoor_go {R : Type} (N : Nat) (args : List SV) (T : Tab) (kf : SV × Tab → Option R) : Option R :=
  r5_CheckDoor N (Cod.dec pDoC (lget (toCs (lget args 0)))) (fun q0 => kf (lget [.int .i64 q0] 0, []))
noncomputable def r5_CheckDoor_cal {R : Type} (N : Nat) : Cal R := callM (r5_within_cal N) 19 0 r5_CheckDoor_sp (r5_CheckDoor_go N)
theorem r5_CheckDoor_cal_ok {R : Type} (N : Nat) : CalOk E.P (r5_CheckDoor_cal (R := R) N) :=
  callM_ok hE (r5_within_cal_ok N) (lp := r5_CheckDoor_lp N) (jn := noJn) (keys := []) kNil (by kernel_rfl) (js := []) jNil (by kernel_rfl) r5_CheckDoor_sp_ok r5_CheckDoor_rs_ok (fun args T kf => Eq.trans (r5_CheckDoor_def N (Cod.dec pDoC (lget (toCs (lget args 0)))) (fun q0 => kf (lget [.int .i64 q0] 0, []))) (by kernel_rfl : r5_CheckDoor_run N args T kf = fnM E (r5_within_cal N) (r5_CheckDoor_lp N) (noJn) 19 (r5_CheckDoor_sp.vs args) (r5_CheckDoor_sp.tab T) 0 (resK r5_CheckDoor_rs kf)))
def r5_Breaks_L3 : LoopSp := ⟨⟨[0, 3, 4], ⟨((rSl intC) :: (dr 2 ((rInt .i64) :: (rInt .i64) :: (dr 21 [])))), []⟩, 0⟩, [(Option.none, ⟨[2], ⟨(dr 2 ((rBool) :: (dr 23 []))), []⟩, 0⟩), (some 0, ⟨[0], ⟨((rSl intC) :: (dr 25 [])), []⟩, 0⟩)]⟩
theorem r5_Breaks_L3_ok : r5_Breaks_L3.Ok := ⟨⟨(allCons (rSl_ok intC_ok) (drCons 2 (allCons (rInt_ok .i64) (allCons (rInt_ok .i64) (drCons 21 allNil))))), eNil⟩, (xCons ⟨(drCons 2 (allCons rBool_ok (drCons 23 allNil))), eNil⟩ (xCons ⟨(allCons (rSl_ok intC_ok) (drCons 25 allNil)), eNil⟩ xNil))⟩
def r5_Breaks_h3 (v7 : Arr Int) (v8 : Int) (v9 : Int) : St := ⟨((slC intC v7) :: (un 2 ((.int .i64 v8) :: (.int .i64 v9) :: (un 21 [])))), [], 0⟩
def r5_Breaks_x3_r (q0 : Bool) : St := ⟨(un 2 ((.bool q0) :: (un 23 []))), [], 0⟩
def r5_Breaks_x3_0 (v7 : Arr Int) : St := ⟨((slC intC v7) :: (un 25 [])), [], 0⟩
def r5_Breaks_b3 {R : Type} (N : Nat) (rc : Arr Int → Int → Int → Option R) (v7 : Arr Int) (v8 : Int) (v9 : Int) (kr : Bool → Option R) (k0 : Unit → Option R) : Option R :=
 bif decide (v9 < (↑(Arr.n v7) : Int)) then
 bif decide ((0 : Int) ≤ v9) && decide (v9 < (↑(Arr.n v7) : Int)) then
 r5_within N (Arr.f v7 (Int.toNat v9)) (w64 (v8 + (1 : Int))) (100000 : Int) (fun r10 =>
 bif !r10 then
 kr false
 else
 bif decide ((0 : Int) ≤ v9) && decide (v9 < (↑(Arr.n v7) : Int)) then
 rc v7 (Arr.f v7 (Int.toNat v9)) (w64 (v9 + (1 : Int)))
 else
 Option.none)
 else
 Option.none
 else
 k0 ()
def r5_Breaks_l3 {R : Type} (N : Nat) : Nat → Arr Int → Int → Int → (Bool → Option R) → (Unit → Option R) → Option R
  | 0, _, _, _, _, _ => Option.none
  | n + 1, v7, v8, v9, kr, k0 => r5_Breaks_b3 N (fun v7 v8 v9 => r5_Breaks_l3 N n v7 v8 v9 kr k0) v7 v8 v9 kr k0
def r5_Breaks_m {R : Type} (N : Nat) (a6 : Arr Int) (k : Bool → Option R) : Option R :=
 r5_Breaks_l3 N N a6 (-1 : Int) (0 : Int) (fun r11 =>
 k r11) (fun (_ : Unit) =>
 k (decide ((↑(Arr.n a6) : Int) ≤ (20 : Int))))
noncomputable def r5_Breaks {R : Type} : Nat → Arr Int → (Bool → Option R) → Option R := lock (@r5_Breaks_m R)
theorem r5_Breaks_def {R : Type} (N : Nat) (a6 : Arr Int) (k : Bool → Option R) : r5_Breaks N a6 k = r5_Breaks_m N a6 k := by unfold r5_Breaks; rw [lock_eq]
def r5_Breaks_sp : Sp := ⟨[rSl intC], []⟩
theorem r5_Breaks_sp_ok : r5_Breaks_sp.Ok := ⟨(allCons (rSl_ok intC_ok) allNil), eNil⟩
def r5_Breaks_rs : Sp := ⟨[rBool], []⟩
theorem r5_Breaks_rs_ok : r5_Breaks_rs.Ok := ⟨(allCons rBool_ok allNil), eNil⟩
def r5_Breaks_run {R : Type} (N : Nat) (args : List SV) (T : Tab) (kf : SV × Tab → Option R) : Option R :=
  r5_Breaks_m N (lstC intC (lget args 0)) (fun q0 => kf (lget [.bool q0] 0, []))
def r5_Breaks_d3 {R : Type} (N : Nat) (S0 : St) (k : Exit → St → Option R) : Option R :=
  r5_Breaks_l3 N N (lstC intC (lget S0.tmps 0)) (toI (lget S0.tmps 3)) (toI (lget S0.tmps 4)) (fun q0 => k .ret (r5_Breaks_x3_r q0)) (fun (_ : Unit) => k (.exit 0) (r5_Breaks_x3_0 (lstC intC (lget S0.tmps 0))))
def r5_Breaks_lp {R : Type} (N : Nat) : Lp R := fun body S k => bif (Go.Sx.keyOf body).getD 0 == 3 then (r5_Breaks_L3.head.raw 0 S (fun S0 => r5_Breaks_d3 N S0 k)) else Option.none
theorem r5_Breaks_l3_eq {R : Type} (N : Nat) (k : Exit → St → Option R) (n : Nat) : ∀ (v0 : Arr Int) (v1 : Int) (v2 : Int), loopM E.Θ (r5_CheckDoor_cal N) (r5_Breaks_lp N) (noJn) 0 r5_Breaks_L3 (bodyAt E 20 3) n (r5_Breaks_h3 v0 v1 v2) k = r5_Breaks_l3 N n v0 v1 v2 (fun q0 => k .ret (r5_Breaks_x3_r q0)) (fun (_ : Unit) => k (.exit 0) (r5_Breaks_x3_0 v0)) := by
  induction n with
  | zero => intro v0 v1 v2; rfl
  | succ n ih =>
    intro v0 v1 v2
    refine Eq.trans (b := r5_Breaks_b3 N (fun v0 v1 v2 => loopM E.Θ (r5_CheckDoor_cal N) (r5_Breaks_lp N) (noJn) 0 r5_Breaks_L3 (bodyAt E 20 3) n (r5_Breaks_h3 v0 v1 v2) k) v0 v1 v2 (fun q0 => k .ret (r5_Breaks_x3_r q0)) (fun (_ : Unit) => k (.exit 0) (r5_Breaks_x3_0 v0))) (by kernel_rfl) ?_
    have h : (fun (v0 : Arr Int) (v1 : Int) (v2 : Int) => loopM E.Θ (r5_CheckDoor_cal N) (r5_Breaks_lp N) (noJn) 0 r5_Breaks_L3 (bodyAt E 20 3) n (r5_Breaks_h3 v0 v1 v2) k) = (fun (v0 : Arr Int) (v1 : Int) (v2 : Int) => r5_Breaks_l3 N n v0 v1 v2 (fun q0 => k .ret (r5_Breaks_x3_r q0)) (fun (_ : Unit) => k (.exit 0) (r5_Breaks_x3_0 v0))) := funext fun v0 => funext fun v1 => funext fun v2 => ih v0 v1 v2
    rw [h]
    rfl
theorem r5_Breaks_k3 {R : Type} (N : Nat) : LpKey (R := R) E 20 0 (r5_Breaks_lp N) 3 :=
  lpKey_of hE (r5_CheckDoor_cal_ok N) (lp := r5_Breaks_lp N) (jn := noJn) r5_Breaks_L3_ok [] kNil (by kernel_rfl) [] jNil (by kernel_rfl) N fun S k =>
    Eq.trans (b := r5_Breaks_L3.head.raw 0 S (fun S0 => r5_Breaks_d3 N S0 k)) (by kernel_rfl) (congrArg (r5_Breaks_L3.head.raw 0 S) (funext fun S0 => Eq.trans (r5_Breaks_l3_eq N k N (lstC intC (lget S0.tmps 0)) (toI (lget S0.tmps 3)) (toI (lget S0.tmps 4))).symm (by kernel_rfl)))
noncomputable def r5_Breaks_go {R : Type} (N : Nat) (args : List SV) (T : Tab) (kf : SV × Tab → Option R) : Option R :=
  r5_Breaks N (lstC intC (lget args 0)) (fun q0 => kf (lget [.bool q0] 0, []))
noncomputable def r5_Breaks_cal {R : Type} (N : Nat) : Cal R := callM (r5_CheckDoor_cal N) 20 0 r5_Breaks_sp (r5_Breaks_go N)
theorem r5_Breaks_cal_ok {R : Type} (N : Nat) : CalOk E.P (r5_Breaks_cal (R := R) N) :=
  callM_ok hE (r5_CheckDoor_cal_ok N) (lp := r5_Breaks_lp N) (jn := noJn) (keys := [3]) (kCons (r5_Breaks_k3 N) kNil) (by kernel_rfl) (js := []) jNil (by kernel_rfl) r5_Breaks_sp_ok r5_Breaks_rs_ok (fun args T kf => Eq.trans (r5_Breaks_def N (lstC intC (lget args 0)) (fun q0 => kf (lget [.bool q0] 0, []))) (by kernel_rfl : r5_Breaks_run N args T kf = fnM E (r5_CheckDoor_cal N) (r5_Breaks_lp N) (noJn) 20 (r5_Breaks_sp.vs args) (r5_Breaks_sp.tab T) 0 (resK r5_Breaks_rs kf)))
def nT_letter_m {R : Type} (N : Nat) (a42 : ByteArray) (a43 : Int) (k : ByteArray → Option R) : Option R :=
 bif Nat.ble (ByteArray.size a42 + ByteArray.size (Utf8.encode (IntKind.wrap IntKind.i32 (w64 ((97 : Int) + a43))))) (1073741824 : Nat) then
 k (ByteArray.mk (Array.mk (Array.toList (ByteArray.data a42) ++ Array.toList (ByteArray.data (Utf8.encode (IntKind.wrap IntKind.i32 (w64 ((97 : Int) + a43))))))))
 else
 Option.none
noncomputable def nT_letter {R : Type} : Nat → ByteArray → Int → (ByteArray → Option R) → Option R := lock (@nT_letter_m R)
theorem nT_letter_def {R : Type} (N : Nat) (a42 : ByteArray) (a43 : Int) (k : ByteArray → Option R) : nT_letter N a42 a43 k = nT_letter_m N a42 a43 k := by unfold nT_letter; rw [lock_eq]
def nT_letter_sp : Sp := ⟨[rStr, rInt .i64], []⟩
theorem nT_letter_sp_ok : nT_letter_sp.Ok := ⟨(allCons rStr_ok (allCons (rInt_ok .i64) allNil)), eNil⟩
def nT_letter_rs : Sp := ⟨[rStr], []⟩
theorem nT_letter_rs_ok : nT_letter_rs.Ok := ⟨(allCons rStr_ok allNil), eNil⟩
def nT_letter_run {R : Type} (N : Nat) (args : List SV) (T : Tab) (kf : SV × Tab → Option R) : Option R :=
  nT_letter_m N (toS (lget args 0)) (toI (lget args 1)) (fun q0 => kf (lget [.str q0] 0, []))
def nT_letter_lp {R : Type} (N : Nat) : Lp R := fun body S k => Option.none
noncomputable def nT_letter_go {R : Type} (N : Nat) (args : List SV) (T : Tab) (kf : SV × Tab → Option R) : Option R :=
  nT_letter N (toS (lget args 0)) (toI (lget args 1)) (fun q0 => kf (lget [.str q0] 0, []))
noncomputable def nT_letter_cal {R : Type} (N : Nat) : Cal R := callM (r5_Breaks_cal N) 71 0 nT_letter_sp (nT_letter_go N)
theorem nT_letter_cal_ok {R : Type} (N : Nat) : CalOk E.P (nT_letter_cal (R := R) N) :=
  callM_ok hE (r5_Breaks_cal_ok N) (lp := nT_letter_lp N) (jn := noJn) (keys := []) kNil (by kernel_rfl) (js := []) jNil (by kernel_rfl) nT_letter_sp_ok nT_letter_rs_ok (fun args T kf => Eq.trans (nT_letter_def N (toS (lget args 0)) (toI (lget args 1)) (fun q0 => kf (lget [.str q0] 0, []))) (by kernel_rfl : nT_letter_run N args T kf = fnM E (r5_Breaks_cal N) (nT_letter_lp N) (noJn) 71 (nT_letter_sp.vs args) (nT_letter_sp.tab T) 0 (resK nT_letter_rs kf)))
end
end Go.Proofs.Ytpillmoddoccfaa
