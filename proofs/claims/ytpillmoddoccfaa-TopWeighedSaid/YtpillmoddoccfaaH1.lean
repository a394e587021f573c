/-
  Models of the functions, and that they are what the code does. Written by a program.
-/
import Derived.Test.YtpillmoddoccfaaCod
set_option maxRecDepth 100000
set_option maxHeartbeats 0
set_option linter.unusedVariables false
namespace Go.Proofs.Ytpillmoddoccfaa
open Go.Sx
noncomputable section

def newelref02_from_m {R : Type} (N : Nat) (a2 : Int) (a3 : Int) (a4 : Int) (k : Bool → Option R) : Option R :=
  bif decide (a2 ≥ a3) then
   k (decide (a2 ≤ a4))
  else
   k false
noncomputable def newelref02_from {R : Type} : Nat → Int → Int → Int → (Bool → Option R) → Option R := lock (@newelref02_from_m R)
theorem newelref02_from_def {R : Type} (N : Nat) (a2 : Int) (a3 : Int) (a4 : Int) (k : Bool → Option R) : newelref02_from N a2 a3 a4 k = newelref02_from_m N a2 a3 a4 k := by unfold newelref02_from; rw [lock_eq]
def newelref02_from_sp : Sp := ⟨[rInt .i64, rInt .i64, rInt .i64], []⟩
theorem newelref02_from_sp_ok : newelref02_from_sp.Ok := ⟨(allCons (rInt_ok .i64) (allCons (rInt_ok .i64) (allCons (rInt_ok .i64) allNil))), eNil⟩
def newelref02_from_rs : Sp := ⟨[rBool], []⟩
theorem newelref02_from_rs_ok : newelref02_from_rs.Ok := ⟨(allCons rBool_ok allNil), eNil⟩
def newelref02_from_run {R : Type} (N : Nat) (args : List SV) (T : Tab) (kf : SV × Tab → Option R) : Option R :=
  newelref02_from_m N (toI (lget args 0)) (toI (lget args 1)) (toI (lget args 2)) (fun q0 => kf (lget [.bool q0] 0, []))
def newelref02_from_lp {R : Type} (N : Nat) : Lp R := fun body S k => Option.none
noncomputable def newelref02_from_go {R : Type} (N : Nat) (args : List SV) (T : Tab) (kf : SV × Tab → Option R) : Option R :=
  newelref02_from N (toI (lget args 0)) (toI (lget args 1)) (toI (lget args 2)) (fun q0 => kf (lget [.bool q0] 0, []))
noncomputable def newelref02_from_cal {R : Type} (N : Nat) : Cal R := callM (noCal E) 92 0 newelref02_from_sp (newelref02_from_go N)
theorem newelref02_from_cal_ok {R : Type} (N : Nat) : CalOk E.P (newelref02_from_cal (R := R) N) :=
  callM_ok hE (noCal_ok E) (lp := newelref02_from_lp N) (jn := noJn) (keys := []) kNil (by kernel_rfl) (js := []) jNil (by kernel_rfl) newelref02_from_sp_ok newelref02_from_rs_ok (fun args T kf => Eq.trans (newelref02_from_def N (toI (lget args 0)) (toI (lget args 1)) (toI (lget args 2)) (fun q0 => kf (lget [.bool q0] 0, []))) (by kernel_rfl : newelref02_from_run N args T kf = fnM E (noCal E) (newelref02_from_lp N) (noJn) 92 (newelref02_from_sp.vs args) (newelref02_from_sp.tab T) 0 (resK newelref02_from_rs kf)))

def newelref02_CheckPart_L4 : LoopSp := ⟨⟨[1, 2, 5], ⟨(dr 1 ((rSl api_UseC) :: (rPtr 0 0) :: (dr 2 ((rInt .i64) :: (dr 132 []))))), [(0, eBlkC api_PartC)]⟩, 1⟩, [(Option.none, ⟨[4], ⟨(dr 4 ((rInt .i64) :: (dr 133 []))), []⟩, 0⟩), (some 0, ⟨[1, 2], ⟨(dr 1 ((rSl api_UseC) :: (rPtr 0 0) :: (dr 135 []))), [(0, eBlkC api_PartC)]⟩, 1⟩)]⟩
theorem newelref02_CheckPart_L4_ok : newelref02_CheckPart_L4.Ok := ⟨⟨(drCons 1 (allCons (rSl_ok api_UseC_ok) (allCons (rPtr_ok 0 0) (drCons 2 (allCons (rInt_ok .i64) (drCons 132 allNil)))))), (eCons (eBlkC_ok api_PartC_ok api_PartC_len) eNil)⟩, (xCons ⟨(drCons 4 (allCons (rInt_ok .i64) (drCons 133 allNil))), eNil⟩ (xCons ⟨(drCons 1 (allCons (rSl_ok api_UseC_ok) (allCons (rPtr_ok 0 0) (drCons 135 allNil)))), (eCons (eBlkC_ok api_PartC_ok api_PartC_len) eNil)⟩ xNil))⟩
def newelref02_CheckPart_h4 (v9 : Arr api_Use) (v10 : Int) (v11 : api_Part) : St := ⟨(un 1 ((slC api_UseC v9) :: (.ptr 0 0) :: (un 2 ((.int .i64 v10) :: (un 132 []))))), [(0, .blk (Cod.enc api_PartC v11))], 1⟩
def newelref02_CheckPart_x4_r (q0 : Int) : St := ⟨(un 4 ((.int .i64 q0) :: (un 133 []))), [], 0⟩
def newelref02_CheckPart_x4_0 (v9 : Arr api_Use) (v11 : api_Part) : St := ⟨(un 1 ((slC api_UseC v9) :: (.ptr 0 0) :: (un 135 []))), [(0, .blk (Cod.enc api_PartC v11))], 1⟩
def newelref02_CheckPart_b4 {R : Type} (N : Nat) (rc : Arr api_Use → Int → api_Part → Option R) (v9 : Arr api_Use) (v10 : Int) (v11 : api_Part) (kr : Int → Option R) (k0 : Unit → Option R) : Option R :=
  bif decide (v10 < (↑(Arr.n (api_Part.Rates v11)) : Int)) then
   bif decide ((0 : Int) ≤ v10) && decide (v10 < (↑(Arr.n (api_Part.Rates v11)) : Int)) then
    bif decide ((0 : Int) ≤ v10) && decide (v10 < (↑(Arr.n (api_Part.Rates v11)) : Int)) then
     newelref02_from N (api_Span.Low (Arr.f (api_Part.Rates v11) (Int.toNat v10))) (0 : Int) (api_Span.High (Arr.f (api_Part.Rates v11) (Int.toNat v10))) (fun r12 =>
     bif !r12 then
      kr (22 : Int)
     else
      bif decide ((0 : Int) ≤ v10) && decide (v10 < (↑(Arr.n (api_Part.Rates v11)) : Int)) then
       bif decide (api_Span.High (Arr.f (api_Part.Rates v11) (Int.toNat v10)) > (1000000 : Int)) then
        kr (22 : Int)
       else
        rc v9 (w64 (v10 + (1 : Int))) v11
      else
       Option.none)
    else
     Option.none
   else
    Option.none
  else
   k0 ()
def newelref02_CheckPart_l4 {R : Type} (N : Nat) : Nat → Arr api_Use → Int → api_Part → (Int → Option R) → (Unit → Option R) → Option R
  | 0, _, _, _, _, _ => Option.none
  | n + 1, v9, v10, v11, kr, k0 => newelref02_CheckPart_b4 N (fun v9 v10 v11 => newelref02_CheckPart_l4 N n v9 v10 v11 kr k0) v9 v10 v11 kr k0

def newelref02_CheckPart_L11 : LoopSp := ⟨⟨[1, 2, 6], ⟨(dr 1 ((rSl api_UseC) :: (rPtr 0 0) :: (dr 3 ((rInt .i64) :: (dr 131 []))))), [(0, eBlkC api_PartC)]⟩, 1⟩, [(Option.none, ⟨[4], ⟨(dr 4 ((rInt .i64) :: (dr 133 []))), []⟩, 0⟩), (some 2, ⟨[], ⟨(dr 138 []), []⟩, 0⟩)]⟩
theorem newelref02_CheckPart_L11_ok : newelref02_CheckPart_L11.Ok := ⟨⟨(drCons 1 (allCons (rSl_ok api_UseC_ok) (allCons (rPtr_ok 0 0) (drCons 3 (allCons (rInt_ok .i64) (drCons 131 allNil)))))), (eCons (eBlkC_ok api_PartC_ok api_PartC_len) eNil)⟩, (xCons ⟨(drCons 4 (allCons (rInt_ok .i64) (drCons 133 allNil))), eNil⟩ (xCons ⟨(drCons 138 allNil), eNil⟩ xNil))⟩
def newelref02_CheckPart_h11 (v14 : Arr api_Use) (v15 : Int) (v16 : api_Part) : St := ⟨(un 1 ((slC api_UseC v14) :: (.ptr 0 0) :: (un 3 ((.int .i64 v15) :: (un 131 []))))), [(0, .blk (Cod.enc api_PartC v16))], 1⟩
def newelref02_CheckPart_x11_r (q0 : Int) : St := ⟨(un 4 ((.int .i64 q0) :: (un 133 []))), [], 0⟩
def newelref02_CheckPart_x11_2  : St := ⟨(un 138 []), [], 0⟩
def newelref02_CheckPart_b11 {R : Type} (N : Nat) (rc : Arr api_Use → Int → api_Part → Option R) (v14 : Arr api_Use) (v15 : Int) (v16 : api_Part) (kr : Int → Option R) (k2 : Unit → Option R) : Option R :=
  bif decide (v15 < (↑(Arr.n v14) : Int)) then
   bif decide ((0 : Int) ≤ v15) && decide (v15 < (↑(Arr.n v14) : Int)) then
    newelref02_from N (api_Use.Day (Arr.f v14 (Int.toNat v15))) (0 : Int) (100000 : Int) (fun r17 =>
    bif !r17 then
     kr (23 : Int)
    else
     bif decide (v15 > (0 : Int)) then
      bif decide ((0 : Int) ≤ w64 (v15 - (1 : Int))) && decide (w64 (v15 - (1 : Int)) < (↑(Arr.n v14) : Int)) then
       bif decide (api_Use.Day (Arr.f v14 (Int.toNat v15)) < api_Use.Day (Arr.f v14 (Int.toNat (w64 (v15 - (1 : Int)))))) then
        kr (23 : Int)
       else
        newelref02_from N (api_Use.Turns (Arr.f v14 (Int.toNat v15))) (0 : Int) (1000000 : Int) (fun r18 =>
        bif !r18 then
         kr (23 : Int)
        else
         newelref02_from N (api_Use.Class (Arr.f v14 (Int.toNat v15))) (0 : Int) (w64 ((↑(Arr.n (api_Part.Rates v16)) : Int) - (1 : Int))) (fun r19 =>
         bif !r19 then
          kr (23 : Int)
         else
          bif api_Use.Measured (Arr.f v14 (Int.toNat v15)) then
           newelref02_from N (api_Span.Low (api_Use.Says (Arr.f v14 (Int.toNat v15)))) (0 : Int) (api_Span.High (api_Use.Says (Arr.f v14 (Int.toNat v15)))) (fun r20 =>
           bif !r20 then
            kr (23 : Int)
           else
            bif decide (api_Span.High (api_Use.Says (Arr.f v14 (Int.toNat v15))) > (2000000000 : Int)) then
             kr (23 : Int)
            else
             bif !api_Use.Measured (Arr.f v14 (Int.toNat v15)) then
              bif !(api_Span.Low (api_Use.Says (Arr.f v14 (Int.toNat v15))) == (0 : Int) && (api_Span.High (api_Use.Says (Arr.f v14 (Int.toNat v15))) == (0 : Int) && true)) then
               kr (23 : Int)
              else
               rc v14 (w64 (v15 + (1 : Int))) v16
             else
              rc v14 (w64 (v15 + (1 : Int))) v16)
          else
           bif !api_Use.Measured (Arr.f v14 (Int.toNat v15)) then
            bif !(api_Span.Low (api_Use.Says (Arr.f v14 (Int.toNat v15))) == (0 : Int) && (api_Span.High (api_Use.Says (Arr.f v14 (Int.toNat v15))) == (0 : Int) && true)) then
             kr (23 : Int)
            else
             rc v14 (w64 (v15 + (1 : Int))) v16
           else
            rc v14 (w64 (v15 + (1 : Int))) v16))
      else
       Option.none
     else
      newelref02_from N (api_Use.Turns (Arr.f v14 (Int.toNat v15))) (0 : Int) (1000000 : Int) (fun r21 =>
      bif !r21 then
       kr (23 : Int)
      else
       newelref02_from N (api_Use.Class (Arr.f v14 (Int.toNat v15))) (0 : Int) (w64 ((↑(Arr.n (api_Part.Rates v16)) : Int) - (1 : Int))) (fun r22 =>
       bif !r22 then
        kr (23 : Int)
       else
        bif api_Use.Measured (Arr.f v14 (Int.toNat v15)) then
         newelref02_from N (api_Span.Low (api_Use.Says (Arr.f v14 (Int.toNat v15)))) (0 : Int) (api_Span.High (api_Use.Says (Arr.f v14 (Int.toNat v15)))) (fun r23 =>
         bif !r23 then
          kr (23 : Int)
         else
          bif decide (api_Span.High (api_Use.Says (Arr.f v14 (Int.toNat v15))) > (2000000000 : Int)) then
           kr (23 : Int)
          else
           bif !api_Use.Measured (Arr.f v14 (Int.toNat v15)) then
            bif !(api_Span.Low (api_Use.Says (Arr.f v14 (Int.toNat v15))) == (0 : Int) && (api_Span.High (api_Use.Says (Arr.f v14 (Int.toNat v15))) == (0 : Int) && true)) then
             kr (23 : Int)
            else
             rc v14 (w64 (v15 + (1 : Int))) v16
           else
            rc v14 (w64 (v15 + (1 : Int))) v16)
        else
         bif !api_Use.Measured (Arr.f v14 (Int.toNat v15)) then
          bif !(api_Span.Low (api_Use.Says (Arr.f v14 (Int.toNat v15))) == (0 : Int) && (api_Span.High (api_Use.Says (Arr.f v14 (Int.toNat v15))) == (0 : Int) && true)) then
           kr (23 : Int)
          else
           rc v14 (w64 (v15 + (1 : Int))) v16
         else
          rc v14 (w64 (v15 + (1 : Int))) v16)))
   else
    Option.none
  else
   k2 ()
def newelref02_CheckPart_l11 {R : Type} (N : Nat) : Nat → Arr api_Use → Int → api_Part → (Int → Option R) → (Unit → Option R) → Option R
  | 0, _, _, _, _, _ => Option.none
  | n + 1, v14, v15, v16, kr, k2 => newelref02_CheckPart_b11 N (fun v14 v15 v16 => newelref02_CheckPart_l11 N n v14 v15 v16 kr k2) v14 v15 v16 kr k2


def newelref02_CheckPart_m {R : Type} (N : Nat) (a0 : api_Part) (a1 : Arr api_Use) (k : Int → Option R) : Option R :=
  newelref02_from N ((↑(Arr.n (api_Part.Rates a0)) : Int)) (1 : Int) (4 : Int) (fun r5 =>
  bif !r5 then
   k (22 : Int)
  else
   newelref02_from N (api_Part.Worn a0) (0 : Int) (1000 : Int) (fun r6 =>
   bif !r6 then
    k (22 : Int)
   else
    newelref02_from N (api_Part.Turns a0) (0 : Int) (1000000 : Int) (fun r7 =>
    bif !r7 then
     k (22 : Int)
    else
     newelref02_from N (api_Part.Age a0) (0 : Int) (100000 : Int) (fun r8 =>
     bif !r8 then
      k (22 : Int)
     else
      newelref02_CheckPart_l4 N N a1 (0 : Int) a0 (fun r13 =>
       k r13) (fun (_ : Unit) =>
       bif decide ((↑(Arr.n a1) : Int) > (40 : Int)) then
        k (23 : Int)
       else
        newelref02_CheckPart_l11 N N a1 (0 : Int) a0 (fun r24 =>
         k r24) (fun (_ : Unit) =>
         k (0 : Int)))))))
noncomputable def newelref02_CheckPart {R : Type} : Nat → api_Part → Arr api_Use → (Int → Option R) → Option R := lock (@newelref02_CheckPart_m R)
theorem newelref02_CheckPart_def {R : Type} (N : Nat) (a0 : api_Part) (a1 : Arr api_Use) (k : Int → Option R) : newelref02_CheckPart N a0 a1 k = newelref02_CheckPart_m N a0 a1 k := by unfold newelref02_CheckPart; rw [lock_eq]
def newelref02_CheckPart_sp : Sp := ⟨[rAgg api_PartC, rSl api_UseC], []⟩
theorem newelref02_CheckPart_sp_ok : newelref02_CheckPart_sp.Ok := ⟨(allCons (rAgg_ok api_PartC_ok api_PartC_len) (allCons (rSl_ok api_UseC_ok) allNil)), eNil⟩
def newelref02_CheckPart_rs : Sp := ⟨[rInt .i64], []⟩
theorem newelref02_CheckPart_rs_ok : newelref02_CheckPart_rs.Ok := ⟨(allCons (rInt_ok .i64) allNil), eNil⟩
def newelref02_CheckPart_run {R : Type} (N : Nat) (args : List SV) (T : Tab) (kf : SV × Tab → Option R) : Option R :=
  newelref02_CheckPart_m N (Cod.dec api_PartC (lget (toCs (lget args 0)))) (lstC api_UseC (lget args 1)) (fun q0 => kf (lget [.int .i64 q0] 0, []))
def newelref02_CheckPart_d11 {R : Type} (N : Nat) (S0 : St) (k : Exit → St → Option R) : Option R :=
  newelref02_CheckPart_l11 N N (lstC api_UseC (lget S0.tmps 1)) (toI (lget S0.tmps 6)) (Cod.dec api_PartC (lget (entCs (entAt S0.tab 0)))) (fun q0 => k .ret (newelref02_CheckPart_x11_r q0)) (fun (_ : Unit) => k (.exit 2) (newelref02_CheckPart_x11_2 ))
def newelref02_CheckPart_d4 {R : Type} (N : Nat) (S0 : St) (k : Exit → St → Option R) : Option R :=
  newelref02_CheckPart_l4 N N (lstC api_UseC (lget S0.tmps 1)) (toI (lget S0.tmps 5)) (Cod.dec api_PartC (lget (entCs (entAt S0.tab 0)))) (fun q0 => k .ret (newelref02_CheckPart_x4_r q0)) (fun (_ : Unit) => k (.exit 0) (newelref02_CheckPart_x4_0 (lstC api_UseC (lget S0.tmps 1)) (Cod.dec api_PartC (lget (entCs (entAt S0.tab 0))))))
def newelref02_CheckPart_lp {R : Type} (N : Nat) : Lp R := fun body S k => bif (Go.Sx.keyOf body).getD 0 == 4 then newelref02_CheckPart_L4.head.raw 0 S (fun S0 => newelref02_CheckPart_d4 N S0 k) else bif (Go.Sx.keyOf body).getD 0 == 11 then newelref02_CheckPart_L11.head.raw 0 S (fun S0 => newelref02_CheckPart_d11 N S0 k) else Option.none
theorem newelref02_CheckPart_l4_eq {R : Type} (N : Nat) (k : Exit → St → Option R) (n : Nat) : ∀ (v0 : Arr api_Use) (v1 : Int) (v2 : api_Part), loopM E.Θ (newelref02_from_cal N) (newelref02_CheckPart_lp N) (noJn) 0 newelref02_CheckPart_L4 (bodyAt E 39 4) n (newelref02_CheckPart_h4 v0 v1 v2) k = newelref02_CheckPart_l4 N n v0 v1 v2 (fun q0 => k .ret (newelref02_CheckPart_x4_r q0)) (fun (_ : Unit) => k (.exit 0) (newelref02_CheckPart_x4_0 v0 v2)) := by
  induction n with
  | zero => intro v0 v1 v2; rfl
  | succ n ih =>
    intro v0 v1 v2
    refine Eq.trans (b := newelref02_CheckPart_b4 N (fun v0 v1 v2 => loopM E.Θ (newelref02_from_cal N) (newelref02_CheckPart_lp N) (noJn) 0 newelref02_CheckPart_L4 (bodyAt E 39 4) n (newelref02_CheckPart_h4 v0 v1 v2) k) v0 v1 v2 (fun q0 => k .ret (newelref02_CheckPart_x4_r q0)) (fun (_ : Unit) => k (.exit 0) (newelref02_CheckPart_x4_0 v0 v2))) (by kernel_rfl) ?_
    have h : (fun (v0 : Arr api_Use) (v1 : Int) (v2 : api_Part) => loopM E.Θ (newelref02_from_cal N) (newelref02_CheckPart_lp N) (noJn) 0 newelref02_CheckPart_L4 (bodyAt E 39 4) n (newelref02_CheckPart_h4 v0 v1 v2) k) = (fun (v0 : Arr api_Use) (v1 : Int) (v2 : api_Part) => newelref02_CheckPart_l4 N n v0 v1 v2 (fun q0 => k .ret (newelref02_CheckPart_x4_r q0)) (fun (_ : Unit) => k (.exit 0) (newelref02_CheckPart_x4_0 v0 v2))) := funext fun v0 => funext fun v1 => funext fun v2 => ih v0 v1 v2
    rw [h]
    rfl
theorem newelref02_CheckPart_l11_eq {R : Type} (N : Nat) (k : Exit → St → Option R) (n : Nat) : ∀ (v0 : Arr api_Use) (v1 : Int) (v2 : api_Part), loopM E.Θ (newelref02_from_cal N) (newelref02_CheckPart_lp N) (noJn) 0 newelref02_CheckPart_L11 (bodyAt E 39 11) n (newelref02_CheckPart_h11 v0 v1 v2) k = newelref02_CheckPart_l11 N n v0 v1 v2 (fun q0 => k .ret (newelref02_CheckPart_x11_r q0)) (fun (_ : Unit) => k (.exit 2) (newelref02_CheckPart_x11_2 )) := by
  induction n with
  | zero => intro v0 v1 v2; rfl
  | succ n ih =>
    intro v0 v1 v2
    refine Eq.trans (b := newelref02_CheckPart_b11 N (fun v0 v1 v2 => loopM E.Θ (newelref02_from_cal N) (newelref02_CheckPart_lp N) (noJn) 0 newelref02_CheckPart_L11 (bodyAt E 39 11) n (newelref02_CheckPart_h11 v0 v1 v2) k) v0 v1 v2 (fun q0 => k .ret (newelref02_CheckPart_x11_r q0)) (fun (_ : Unit) => k (.exit 2) (newelref02_CheckPart_x11_2 ))) (by kernel_rfl) ?_
    have h : (fun (v0 : Arr api_Use) (v1 : Int) (v2 : api_Part) => loopM E.Θ (newelref02_from_cal N) (newelref02_CheckPart_lp N) (noJn) 0 newelref02_CheckPart_L11 (bodyAt E 39 11) n (newelref02_CheckPart_h11 v0 v1 v2) k) = (fun (v0 : Arr api_Use) (v1 : Int) (v2 : api_Part) => newelref02_CheckPart_l11 N n v0 v1 v2 (fun q0 => k .ret (newelref02_CheckPart_x11_r q0)) (fun (_ : Unit) => k (.exit 2) (newelref02_CheckPart_x11_2 ))) := funext fun v0 => funext fun v1 => funext fun v2 => ih v0 v1 v2
    rw [h]
    rfl
theorem newelref02_CheckPart_k4 {R : Type} (N : Nat) : LpKey (R := R) E 39 0 (newelref02_CheckPart_lp N) 4 :=
  lpKey_of hE (newelref02_from_cal_ok N) (jn := noJn) newelref02_CheckPart_L4_ok [] kNil (by kernel_rfl) [] jNil (by kernel_rfl) N fun S k =>
    Eq.trans (b := newelref02_CheckPart_L4.head.raw 0 S (fun S0 => newelref02_CheckPart_d4 N S0 k)) (by kernel_rfl) (congrArg (newelref02_CheckPart_L4.head.raw 0 S) (funext fun S0 => Eq.trans (newelref02_CheckPart_l4_eq N k N (lstC api_UseC (lget S0.tmps 1)) (toI (lget S0.tmps 5)) (Cod.dec api_PartC (lget (entCs (entAt S0.tab 0))))).symm (by kernel_rfl)))
theorem newelref02_CheckPart_k11 {R : Type} (N : Nat) : LpKey (R := R) E 39 0 (newelref02_CheckPart_lp N) 11 :=
  lpKey_of hE (newelref02_from_cal_ok N) (jn := noJn) newelref02_CheckPart_L11_ok [] kNil (by kernel_rfl) [] jNil (by kernel_rfl) N fun S k =>
    Eq.trans (b := newelref02_CheckPart_L11.head.raw 0 S (fun S0 => newelref02_CheckPart_d11 N S0 k)) (by kernel_rfl) (congrArg (newelref02_CheckPart_L11.head.raw 0 S) (funext fun S0 => Eq.trans (newelref02_CheckPart_l11_eq N k N (lstC api_UseC (lget S0.tmps 1)) (toI (lget S0.tmps 6)) (Cod.dec api_PartC (lget (entCs (entAt S0.tab 0))))).symm (by kernel_rfl)))
noncomputable def newelref02_CheckPart_go {R : Type} (N : Nat) (args : List SV) (T : Tab) (kf : SV × Tab → Option R) : Option R :=
  newelref02_CheckPart N (Cod.dec api_PartC (lget (toCs (lget args 0)))) (lstC api_UseC (lget args 1)) (fun q0 => kf (lget [.int .i64 q0] 0, []))
noncomputable def newelref02_CheckPart_cal {R : Type} (N : Nat) : Cal R := callM (newelref02_from_cal N) 39 0 newelref02_CheckPart_sp (newelref02_CheckPart_go N)
theorem newelref02_CheckPart_cal_ok {R : Type} (N : Nat) : CalOk E.P (newelref02_CheckPart_cal (R := R) N) :=
  callM_ok hE (newelref02_from_cal_ok N) (lp := newelref02_CheckPart_lp N) (jn := noJn) (keys := [4, 11]) (kCons (newelref02_CheckPart_k4 N) (kCons (newelref02_CheckPart_k11 N) kNil)) (by kernel_rfl) (js := []) jNil (by kernel_rfl) newelref02_CheckPart_sp_ok newelref02_CheckPart_rs_ok (fun args T kf => Eq.trans (newelref02_CheckPart_def N (Cod.dec api_PartC (lget (toCs (lget args 0)))) (lstC api_UseC (lget args 1)) (fun q0 => kf (lget [.int .i64 q0] 0, []))) (by kernel_rfl : newelref02_CheckPart_run N args T kf = fnM E (newelref02_from_cal N) (newelref02_CheckPart_lp N) (noJn) 39 (newelref02_CheckPart_sp.vs args) (newelref02_CheckPart_sp.tab T) 0 (resK newelref02_CheckPart_rs kf)))

def newellaw02_History_L5 : LoopSp := ⟨⟨[1, 2, 3, 7, 8], ⟨(dr 1 ((rSl api_UseC) :: (rSl intC) :: (rPtr 0 0) :: (dr 3 ((rInt .i64) :: (rInt .i64) :: (dr 88 []))))), [(0, eBlkC api_PartC)]⟩, 1⟩, [(Option.none, ⟨[6], ⟨(dr 6 ((rBool) :: (dr 90 []))), []⟩, 0⟩), (some 0, ⟨[], ⟨(dr 97 []), []⟩, 0⟩)]⟩
theorem newellaw02_History_L5_ok : newellaw02_History_L5.Ok := ⟨⟨(drCons 1 (allCons (rSl_ok api_UseC_ok) (allCons (rSl_ok intC_ok) (allCons (rPtr_ok 0 0) (drCons 3 (allCons (rInt_ok .i64) (allCons (rInt_ok .i64) (drCons 88 allNil)))))))), (eCons (eBlkC_ok api_PartC_ok api_PartC_len) eNil)⟩, (xCons ⟨(drCons 6 (allCons rBool_ok (drCons 90 allNil))), eNil⟩ (xCons ⟨(drCons 97 allNil), eNil⟩ xNil))⟩
def newellaw02_History_h5 (v28 : Arr api_Use) (v29 : Arr Int) (v30 : Int) (v31 : Int) (v32 : api_Part) : St := ⟨(un 1 ((slC api_UseC v28) :: (slC intC v29) :: (.ptr 0 0) :: (un 3 ((.int .i64 v30) :: (.int .i64 v31) :: (un 88 []))))), [(0, .blk (Cod.enc api_PartC v32))], 1⟩
def newellaw02_History_x5_r (q0 : Bool) : St := ⟨(un 6 ((.bool q0) :: (un 90 []))), [], 0⟩
def newellaw02_History_x5_0  : St := ⟨(un 97 []), [], 0⟩
def newellaw02_History_b5 {R : Type} (N : Nat) (rc : Arr api_Use → Arr Int → Int → Int → api_Part → Option R) (v28 : Arr api_Use) (v29 : Arr Int) (v30 : Int) (v31 : Int) (v32 : api_Part) (kr : Bool → Option R) (k0 : Unit → Option R) : Option R :=
  bif decide (v31 < (↑(Arr.n v28) : Int)) then
   bif decide ((0 : Int) ≤ v31) && decide (v31 < (↑(Arr.n v28) : Int)) then
    bif decide ((0 : Int) ≤ api_Use.Class (Arr.f v28 (Int.toNat v31))) && decide (api_Use.Class (Arr.f v28 (Int.toNat v31)) < (↑(Arr.n (api_Part.Rates v32)) : Int)) then
     bif decide ((0 : Int) ≤ v31) && decide (v31 < (↑(Arr.n v29) : Int)) then
      bif decide ((0 : Int) ≤ v31) && decide (v31 < (↑(Arr.n v28) : Int)) then
       bif decide (Arr.f v29 (Int.toNat v31) < w64 (v30 + w64 (api_Use.Turns (Arr.f v28 (Int.toNat v31)) * api_Span.Low (Arr.f (api_Part.Rates v32) (Int.toNat (api_Use.Class (Arr.f v28 (Int.toNat v31)))))))) then
        kr false
       else
        bif decide ((0 : Int) ≤ v31) && decide (v31 < (↑(Arr.n v29) : Int)) then
         bif decide ((0 : Int) ≤ v31) && decide (v31 < (↑(Arr.n v28) : Int)) then
          bif decide (Arr.f v29 (Int.toNat v31) > w64 (v30 + w64 (api_Use.Turns (Arr.f v28 (Int.toNat v31)) * api_Span.High (Arr.f (api_Part.Rates v32) (Int.toNat (api_Use.Class (Arr.f v28 (Int.toNat v31)))))))) then
           kr false
          else
           bif decide ((0 : Int) ≤ v31) && decide (v31 < (↑(Arr.n v28) : Int)) then
            bif api_Use.Measured (Arr.f v28 (Int.toNat v31)) then
             bif decide ((0 : Int) ≤ v31) && decide (v31 < (↑(Arr.n v29) : Int)) then
              bif decide ((0 : Int) ≤ v31) && decide (v31 < (↑(Arr.n v28) : Int)) then
               bif decide (Arr.f v29 (Int.toNat v31) < api_Span.Low (api_Use.Says (Arr.f v28 (Int.toNat v31)))) then
                kr false
               else
                bif decide ((0 : Int) ≤ v31) && decide (v31 < (↑(Arr.n v29) : Int)) then
                 bif decide ((0 : Int) ≤ v31) && decide (v31 < (↑(Arr.n v28) : Int)) then
                  bif decide (Arr.f v29 (Int.toNat v31) > api_Span.High (api_Use.Says (Arr.f v28 (Int.toNat v31)))) then
                   kr false
                  else
                   bif decide ((0 : Int) ≤ v31) && decide (v31 < (↑(Arr.n v29) : Int)) then
                    rc v28 v29 (Arr.f v29 (Int.toNat v31)) (w64 (v31 + (1 : Int))) v32
                   else
                    Option.none
                 else
                  Option.none
                else
                 Option.none
              else
               Option.none
             else
              Option.none
            else
             bif decide ((0 : Int) ≤ v31) && decide (v31 < (↑(Arr.n v29) : Int)) then
              rc v28 v29 (Arr.f v29 (Int.toNat v31)) (w64 (v31 + (1 : Int))) v32
             else
              Option.none
           else
            Option.none
         else
          Option.none
        else
         Option.none
      else
       Option.none
     else
      Option.none
    else
     Option.none
   else
    Option.none
  else
   k0 ()
def newellaw02_History_l5 {R : Type} (N : Nat) : Nat → Arr api_Use → Arr Int → Int → Int → api_Part → (Bool → Option R) → (Unit → Option R) → Option R
  | 0, _, _, _, _, _, _, _ => Option.none
  | n + 1, v28, v29, v30, v31, v32, kr, k0 => newellaw02_History_b5 N (fun v28 v29 v30 v31 v32 => newellaw02_History_l5 N n v28 v29 v30 v31 v32 kr k0) v28 v29 v30 v31 v32 kr k0


def newellaw02_History_m {R : Type} (N : Nat) (a25 : api_Part) (a26 : Arr api_Use) (a27 : Arr Int) (k : Bool → Option R) : Option R :=
  bif (↑(Arr.n a27) : Int) != (↑(Arr.n a26) : Int) then
   k false
  else
   newellaw02_History_l5 N N a26 a27 (0 : Int) (0 : Int) a25 (fun r33 =>
    k r33) (fun (_ : Unit) =>
    k true)
noncomputable def newellaw02_History {R : Type} : Nat → api_Part → Arr api_Use → Arr Int → (Bool → Option R) → Option R := lock (@newellaw02_History_m R)
theorem newellaw02_History_def {R : Type} (N : Nat) (a25 : api_Part) (a26 : Arr api_Use) (a27 : Arr Int) (k : Bool → Option R) : newellaw02_History N a25 a26 a27 k = newellaw02_History_m N a25 a26 a27 k := by unfold newellaw02_History; rw [lock_eq]
def newellaw02_History_sp : Sp := ⟨[rAgg api_PartC, rSl api_UseC, rSl intC], []⟩
theorem newellaw02_History_sp_ok : newellaw02_History_sp.Ok := ⟨(allCons (rAgg_ok api_PartC_ok api_PartC_len) (allCons (rSl_ok api_UseC_ok) (allCons (rSl_ok intC_ok) allNil))), eNil⟩
def newellaw02_History_rs : Sp := ⟨[rBool], []⟩
theorem newellaw02_History_rs_ok : newellaw02_History_rs.Ok := ⟨(allCons rBool_ok allNil), eNil⟩
def newellaw02_History_run {R : Type} (N : Nat) (args : List SV) (T : Tab) (kf : SV × Tab → Option R) : Option R :=
  newellaw02_History_m N (Cod.dec api_PartC (lget (toCs (lget args 0)))) (lstC api_UseC (lget args 1)) (lstC intC (lget args 2)) (fun q0 => kf (lget [.bool q0] 0, []))
def newellaw02_History_d5 {R : Type} (N : Nat) (S0 : St) (k : Exit → St → Option R) : Option R :=
  newellaw02_History_l5 N N (lstC api_UseC (lget S0.tmps 1)) (lstC intC (lget S0.tmps 2)) (toI (lget S0.tmps 7)) (toI (lget S0.tmps 8)) (Cod.dec api_PartC (lget (entCs (entAt S0.tab 0)))) (fun q0 => k .ret (newellaw02_History_x5_r q0)) (fun (_ : Unit) => k (.exit 0) (newellaw02_History_x5_0 ))
def newellaw02_History_lp {R : Type} (N : Nat) : Lp R := fun body S k => bif (Go.Sx.keyOf body).getD 0 == 5 then newellaw02_History_L5.head.raw 0 S (fun S0 => newellaw02_History_d5 N S0 k) else Option.none
theorem newellaw02_History_l5_eq {R : Type} (N : Nat) (k : Exit → St → Option R) (n : Nat) : ∀ (v0 : Arr api_Use) (v1 : Arr Int) (v2 : Int) (v3 : Int) (v4 : api_Part), loopM E.Θ (newelref02_CheckPart_cal N) (newellaw02_History_lp N) (noJn) 0 newellaw02_History_L5 (bodyAt E 40 5) n (newellaw02_History_h5 v0 v1 v2 v3 v4) k = newellaw02_History_l5 N n v0 v1 v2 v3 v4 (fun q0 => k .ret (newellaw02_History_x5_r q0)) (fun (_ : Unit) => k (.exit 0) (newellaw02_History_x5_0 )) := by
  induction n with
  | zero => intro v0 v1 v2 v3 v4; rfl
  | succ n ih =>
    intro v0 v1 v2 v3 v4
    refine Eq.trans (b := newellaw02_History_b5 N (fun v0 v1 v2 v3 v4 => loopM E.Θ (newelref02_CheckPart_cal N) (newellaw02_History_lp N) (noJn) 0 newellaw02_History_L5 (bodyAt E 40 5) n (newellaw02_History_h5 v0 v1 v2 v3 v4) k) v0 v1 v2 v3 v4 (fun q0 => k .ret (newellaw02_History_x5_r q0)) (fun (_ : Unit) => k (.exit 0) (newellaw02_History_x5_0 ))) (by kernel_rfl) ?_
    have h : (fun (v0 : Arr api_Use) (v1 : Arr Int) (v2 : Int) (v3 : Int) (v4 : api_Part) => loopM E.Θ (newelref02_CheckPart_cal N) (newellaw02_History_lp N) (noJn) 0 newellaw02_History_L5 (bodyAt E 40 5) n (newellaw02_History_h5 v0 v1 v2 v3 v4) k) = (fun (v0 : Arr api_Use) (v1 : Arr Int) (v2 : Int) (v3 : Int) (v4 : api_Part) => newellaw02_History_l5 N n v0 v1 v2 v3 v4 (fun q0 => k .ret (newellaw02_History_x5_r q0)) (fun (_ : Unit) => k (.exit 0) (newellaw02_History_x5_0 ))) := funext fun v0 => funext fun v1 => funext fun v2 => funext fun v3 => funext fun v4 => ih v0 v1 v2 v3 v4
    rw [h]
    rfl
theorem newellaw02_History_k5 {R : Type} (N : Nat) : LpKey (R := R) E 40 0 (newellaw02_History_lp N) 5 :=
  lpKey_of hE (newelref02_CheckPart_cal_ok N) (jn := noJn) newellaw02_History_L5_ok [] kNil (by kernel_rfl) [] jNil (by kernel_rfl) N fun S k =>
    Eq.trans (b := newellaw02_History_L5.head.raw 0 S (fun S0 => newellaw02_History_d5 N S0 k)) (by kernel_rfl) (congrArg (newellaw02_History_L5.head.raw 0 S) (funext fun S0 => Eq.trans (newellaw02_History_l5_eq N k N (lstC api_UseC (lget S0.tmps 1)) (lstC intC (lget S0.tmps 2)) (toI (lget S0.tmps 7)) (toI (lget S0.tmps 8)) (Cod.dec api_PartC (lget (entCs (entAt S0.tab 0))))).symm (by kernel_rfl)))
noncomputable def newellaw02_History_go {R : Type} (N : Nat) (args : List SV) (T : Tab) (kf : SV × Tab → Option R) : Option R :=
  newellaw02_History N (Cod.dec api_PartC (lget (toCs (lget args 0)))) (lstC api_UseC (lget args 1)) (lstC intC (lget args 2)) (fun q0 => kf (lget [.bool q0] 0, []))
noncomputable def newellaw02_History_cal {R : Type} (N : Nat) : Cal R := callM (newelref02_CheckPart_cal N) 40 0 newellaw02_History_sp (newellaw02_History_go N)
theorem newellaw02_History_cal_ok {R : Type} (N : Nat) : CalOk E.P (newellaw02_History_cal (R := R) N) :=
  callM_ok hE (newelref02_CheckPart_cal_ok N) (lp := newellaw02_History_lp N) (jn := noJn) (keys := [5]) (kCons (newellaw02_History_k5 N) kNil) (by kernel_rfl) (js := []) jNil (by kernel_rfl) newellaw02_History_sp_ok newellaw02_History_rs_ok (fun args T kf => Eq.trans (newellaw02_History_def N (Cod.dec api_PartC (lget (toCs (lget args 0)))) (lstC api_UseC (lget args 1)) (lstC intC (lget args 2)) (fun q0 => kf (lget [.bool q0] 0, []))) (by kernel_rfl : newellaw02_History_run N args T kf = fnM E (newelref02_CheckPart_cal N) (newellaw02_History_lp N) (noJn) 40 (newellaw02_History_sp.vs args) (newellaw02_History_sp.tab T) 0 (resK newellaw02_History_rs kf)))


def newelref10_from_m {R : Type} (N : Nat) (a39 : Int) (a40 : Int) (a41 : Int) (k : Bool → Option R) : Option R :=
  bif decide (a39 ≥ a40) then
   k (decide (a39 ≤ a41))
  else
   k false
noncomputable def newelref10_from {R : Type} : Nat → Int → Int → Int → (Bool → Option R) → Option R := lock (@newelref10_from_m R)
theorem newelref10_from_def {R : Type} (N : Nat) (a39 : Int) (a40 : Int) (a41 : Int) (k : Bool → Option R) : newelref10_from N a39 a40 a41 k = newelref10_from_m N a39 a40 a41 k := by unfold newelref10_from; rw [lock_eq]
def newelref10_from_sp : Sp := ⟨[rInt .i64, rInt .i64, rInt .i64], []⟩
theorem newelref10_from_sp_ok : newelref10_from_sp.Ok := ⟨(allCons (rInt_ok .i64) (allCons (rInt_ok .i64) (allCons (rInt_ok .i64) allNil))), eNil⟩
def newelref10_from_rs : Sp := ⟨[rBool], []⟩
theorem newelref10_from_rs_ok : newelref10_from_rs.Ok := ⟨(allCons rBool_ok allNil), eNil⟩
def newelref10_from_run {R : Type} (N : Nat) (args : List SV) (T : Tab) (kf : SV × Tab → Option R) : Option R :=
  newelref10_from_m N (toI (lget args 0)) (toI (lget args 1)) (toI (lget args 2)) (fun q0 => kf (lget [.bool q0] 0, []))
def newelref10_from_lp {R : Type} (N : Nat) : Lp R := fun body S k => Option.none
noncomputable def newelref10_from_go {R : Type} (N : Nat) (args : List SV) (T : Tab) (kf : SV × Tab → Option R) : Option R :=
  newelref10_from N (toI (lget args 0)) (toI (lget args 1)) (toI (lget args 2)) (fun q0 => kf (lget [.bool q0] 0, []))
noncomputable def newelref10_from_cal {R : Type} (N : Nat) : Cal R := callM (newellaw02_History_cal N) 129 0 newelref10_from_sp (newelref10_from_go N)
theorem newelref10_from_cal_ok {R : Type} (N : Nat) : CalOk E.P (newelref10_from_cal (R := R) N) :=
  callM_ok hE (newellaw02_History_cal_ok N) (lp := newelref10_from_lp N) (jn := noJn) (keys := []) kNil (by kernel_rfl) (js := []) jNil (by kernel_rfl) newelref10_from_sp_ok newelref10_from_rs_ok (fun args T kf => Eq.trans (newelref10_from_def N (toI (lget args 0)) (toI (lget args 1)) (toI (lget args 2)) (fun q0 => kf (lget [.bool q0] 0, []))) (by kernel_rfl : newelref10_from_run N args T kf = fnM E (newellaw02_History_cal N) (newelref10_from_lp N) (noJn) 129 (newelref10_from_sp.vs args) (newelref10_from_sp.tab T) 0 (resK newelref10_from_rs kf)))

def newelref10_Check_L4 : LoopSp := ⟨⟨[0, 3], ⟨((rSl api_ReadingC) :: (dr 2 ((rInt .i64) :: (dr 43 [])))), []⟩, 0⟩, [(Option.none, ⟨[2], ⟨(dr 2 ((rInt .i64) :: (dr 44 []))), []⟩, 0⟩), (some 0, ⟨[], ⟨(dr 47 []), []⟩, 0⟩)]⟩
theorem newelref10_Check_L4_ok : newelref10_Check_L4.Ok := ⟨⟨(allCons (rSl_ok api_ReadingC_ok) (drCons 2 (allCons (rInt_ok .i64) (drCons 43 allNil)))), eNil⟩, (xCons ⟨(drCons 2 (allCons (rInt_ok .i64) (drCons 44 allNil))), eNil⟩ (xCons ⟨(drCons 47 allNil), eNil⟩ xNil))⟩
def newelref10_Check_h4 (v37 : Arr api_Reading) (v38 : Int) : St := ⟨((slC api_ReadingC v37) :: (un 2 ((.int .i64 v38) :: (un 43 [])))), [], 0⟩
def newelref10_Check_x4_r (q0 : Int) : St := ⟨(un 2 ((.int .i64 q0) :: (un 44 []))), [], 0⟩
def newelref10_Check_x4_0  : St := ⟨(un 47 []), [], 0⟩
def newelref10_Check_b4 {R : Type} (N : Nat) (rc : Arr api_Reading → Int → Option R) (v37 : Arr api_Reading) (v38 : Int) (kr : Int → Option R) (k0 : Unit → Option R) : Option R :=
  bif decide (v38 < (↑(Arr.n v37) : Int)) then
   bif decide ((0 : Int) ≤ v38) && decide (v38 < (↑(Arr.n v37) : Int)) then
    newelref10_from N (api_Reading.Says (Arr.f v37 (Int.toNat v38))) (-100000 : Int) (100000 : Int) (fun r42 =>
    bif !r42 then
     kr (100 : Int)
    else
     bif decide ((0 : Int) ≤ v38) && decide (v38 < (↑(Arr.n v37) : Int)) then
      newelref10_from N (api_Reading.Error (Arr.f v37 (Int.toNat v38))) (0 : Int) (1000 : Int) (fun r43 =>
      bif !r43 then
       kr (100 : Int)
      else
       bif decide ((0 : Int) ≤ v38) && decide (v38 < (↑(Arr.n v37) : Int)) then
        newelref10_from N (api_Reading.Drift (Arr.f v37 (Int.toNat v38))) (0 : Int) (1000 : Int) (fun r44 =>
        bif !r44 then
         kr (100 : Int)
        else
         bif decide ((0 : Int) ≤ v38) && decide (v38 < (↑(Arr.n v37) : Int)) then
          newelref10_from N (api_Reading.Days (Arr.f v37 (Int.toNat v38))) (0 : Int) (1000 : Int) (fun r45 =>
          bif !r45 then
           kr (100 : Int)
          else
           rc v37 (w64 (v38 + (1 : Int))))
         else
          Option.none)
       else
        Option.none)
     else
      Option.none)
   else
    Option.none
  else
   k0 ()
def newelref10_Check_l4 {R : Type} (N : Nat) : Nat → Arr api_Reading → Int → (Int → Option R) → (Unit → Option R) → Option R
  | 0, _, _, _, _ => Option.none
  | n + 1, v37, v38, kr, k0 => newelref10_Check_b4 N (fun v37 v38 => newelref10_Check_l4 N n v37 v38 kr k0) v37 v38 kr k0


def newelref10_Check_m {R : Type} (N : Nat) (a36 : Arr api_Reading) (k : Int → Option R) : Option R :=
  bif decide ((↑(Arr.n a36) : Int) > (12 : Int)) then
   k (2 : Int)
  else
   newelref10_Check_l4 N N a36 (0 : Int) (fun r46 =>
    k r46) (fun (_ : Unit) =>
    k (0 : Int))
noncomputable def newelref10_Check {R : Type} : Nat → Arr api_Reading → (Int → Option R) → Option R := lock (@newelref10_Check_m R)
theorem newelref10_Check_def {R : Type} (N : Nat) (a36 : Arr api_Reading) (k : Int → Option R) : newelref10_Check N a36 k = newelref10_Check_m N a36 k := by unfold newelref10_Check; rw [lock_eq]
def newelref10_Check_sp : Sp := ⟨[rSl api_ReadingC], []⟩
theorem newelref10_Check_sp_ok : newelref10_Check_sp.Ok := ⟨(allCons (rSl_ok api_ReadingC_ok) allNil), eNil⟩
def newelref10_Check_rs : Sp := ⟨[rInt .i64], []⟩
theorem newelref10_Check_rs_ok : newelref10_Check_rs.Ok := ⟨(allCons (rInt_ok .i64) allNil), eNil⟩
def newelref10_Check_run {R : Type} (N : Nat) (args : List SV) (T : Tab) (kf : SV × Tab → Option R) : Option R :=
  newelref10_Check_m N (lstC api_ReadingC (lget args 0)) (fun q0 => kf (lget [.int .i64 q0] 0, []))
def newelref10_Check_d4 {R : Type} (N : Nat) (S0 : St) (k : Exit → St → Option R) : Option R :=
  newelref10_Check_l4 N N (lstC api_ReadingC (lget S0.tmps 0)) (toI (lget S0.tmps 3)) (fun q0 => k .ret (newelref10_Check_x4_r q0)) (fun (_ : Unit) => k (.exit 0) (newelref10_Check_x4_0 ))
def newelref10_Check_lp {R : Type} (N : Nat) : Lp R := fun body S k => bif (Go.Sx.keyOf body).getD 0 == 4 then newelref10_Check_L4.head.raw 0 S (fun S0 => newelref10_Check_d4 N S0 k) else Option.none
theorem newelref10_Check_l4_eq {R : Type} (N : Nat) (k : Exit → St → Option R) (n : Nat) : ∀ (v0 : Arr api_Reading) (v1 : Int), loopM E.Θ (newelref10_from_cal N) (newelref10_Check_lp N) (noJn) 0 newelref10_Check_L4 (bodyAt E 93 4) n (newelref10_Check_h4 v0 v1) k = newelref10_Check_l4 N n v0 v1 (fun q0 => k .ret (newelref10_Check_x4_r q0)) (fun (_ : Unit) => k (.exit 0) (newelref10_Check_x4_0 )) := by
  induction n with
  | zero => intro v0 v1; rfl
  | succ n ih =>
    intro v0 v1
    refine Eq.trans (b := newelref10_Check_b4 N (fun v0 v1 => loopM E.Θ (newelref10_from_cal N) (newelref10_Check_lp N) (noJn) 0 newelref10_Check_L4 (bodyAt E 93 4) n (newelref10_Check_h4 v0 v1) k) v0 v1 (fun q0 => k .ret (newelref10_Check_x4_r q0)) (fun (_ : Unit) => k (.exit 0) (newelref10_Check_x4_0 ))) (by kernel_rfl) ?_
    have h : (fun (v0 : Arr api_Reading) (v1 : Int) => loopM E.Θ (newelref10_from_cal N) (newelref10_Check_lp N) (noJn) 0 newelref10_Check_L4 (bodyAt E 93 4) n (newelref10_Check_h4 v0 v1) k) = (fun (v0 : Arr api_Reading) (v1 : Int) => newelref10_Check_l4 N n v0 v1 (fun q0 => k .ret (newelref10_Check_x4_r q0)) (fun (_ : Unit) => k (.exit 0) (newelref10_Check_x4_0 ))) := funext fun v0 => funext fun v1 => ih v0 v1
    rw [h]
    rfl
theorem newelref10_Check_k4 {R : Type} (N : Nat) : LpKey (R := R) E 93 0 (newelref10_Check_lp N) 4 :=
  lpKey_of hE (newelref10_from_cal_ok N) (jn := noJn) newelref10_Check_L4_ok [] kNil (by kernel_rfl) [] jNil (by kernel_rfl) N fun S k =>
    Eq.trans (b := newelref10_Check_L4.head.raw 0 S (fun S0 => newelref10_Check_d4 N S0 k)) (by kernel_rfl) (congrArg (newelref10_Check_L4.head.raw 0 S) (funext fun S0 => Eq.trans (newelref10_Check_l4_eq N k N (lstC api_ReadingC (lget S0.tmps 0)) (toI (lget S0.tmps 3))).symm (by kernel_rfl)))
noncomputable def newelref10_Check_go {R : Type} (N : Nat) (args : List SV) (T : Tab) (kf : SV × Tab → Option R) : Option R :=
  newelref10_Check N (lstC api_ReadingC (lget args 0)) (fun q0 => kf (lget [.int .i64 q0] 0, []))
noncomputable def newelref10_Check_cal {R : Type} (N : Nat) : Cal R := callM (newelref10_from_cal N) 93 0 newelref10_Check_sp (newelref10_Check_go N)
theorem newelref10_Check_cal_ok {R : Type} (N : Nat) : CalOk E.P (newelref10_Check_cal (R := R) N) :=
  callM_ok hE (newelref10_from_cal_ok N) (lp := newelref10_Check_lp N) (jn := noJn) (keys := [4]) (kCons (newelref10_Check_k4 N) kNil) (by kernel_rfl) (js := []) jNil (by kernel_rfl) newelref10_Check_sp_ok newelref10_Check_rs_ok (fun args T kf => Eq.trans (newelref10_Check_def N (lstC api_ReadingC (lget args 0)) (fun q0 => kf (lget [.int .i64 q0] 0, []))) (by kernel_rfl : newelref10_Check_run N args T kf = fnM E (newelref10_from_cal N) (newelref10_Check_lp N) (noJn) 93 (newelref10_Check_sp.vs args) (newelref10_Check_sp.tab T) 0 (resK newelref10_Check_rs kf)))


def newelref10_Allows_m {R : Type} (N : Nat) (a51 : api_Reading) (k : api_Span → Option R) : Option R :=
  k (api_Span.mk (w64 (api_Reading.Says a51 - w64 (api_Reading.Error a51 + w64 (api_Reading.Drift a51 * api_Reading.Days a51)))) (w64 (api_Reading.Says a51 + w64 (api_Reading.Error a51 + w64 (api_Reading.Drift a51 * api_Reading.Days a51)))))
noncomputable def newelref10_Allows {R : Type} : Nat → api_Reading → (api_Span → Option R) → Option R := lock (@newelref10_Allows_m R)
theorem newelref10_Allows_def {R : Type} (N : Nat) (a51 : api_Reading) (k : api_Span → Option R) : newelref10_Allows N a51 k = newelref10_Allows_m N a51 k := by unfold newelref10_Allows; rw [lock_eq]
def newelref10_Allows_sp : Sp := ⟨[rAgg api_ReadingC], []⟩
theorem newelref10_Allows_sp_ok : newelref10_Allows_sp.Ok := ⟨(allCons (rAgg_ok api_ReadingC_ok api_ReadingC_len) allNil), eNil⟩
def newelref10_Allows_rs : Sp := ⟨[rAgg api_SpanC], []⟩
theorem newelref10_Allows_rs_ok : newelref10_Allows_rs.Ok := ⟨(allCons (rAgg_ok api_SpanC_ok api_SpanC_len) allNil), eNil⟩
def newelref10_Allows_run {R : Type} (N : Nat) (args : List SV) (T : Tab) (kf : SV × Tab → Option R) : Option R :=
  newelref10_Allows_m N (Cod.dec api_ReadingC (lget (toCs (lget args 0)))) (fun q0 => kf (lget [.agg (Cod.enc api_SpanC q0)] 0, []))
def newelref10_Allows_lp {R : Type} (N : Nat) : Lp R := fun body S k => Option.none
noncomputable def newelref10_Allows_go {R : Type} (N : Nat) (args : List SV) (T : Tab) (kf : SV × Tab → Option R) : Option R :=
  newelref10_Allows N (Cod.dec api_ReadingC (lget (toCs (lget args 0)))) (fun q0 => kf (lget [.agg (Cod.enc api_SpanC q0)] 0, []))
noncomputable def newelref10_Allows_cal {R : Type} (N : Nat) : Cal R := callM (newelref10_Check_cal N) 94 0 newelref10_Allows_sp (newelref10_Allows_go N)
theorem newelref10_Allows_cal_ok {R : Type} (N : Nat) : CalOk E.P (newelref10_Allows_cal (R := R) N) :=
  callM_ok hE (newelref10_Check_cal_ok N) (lp := newelref10_Allows_lp N) (jn := noJn) (keys := []) kNil (by kernel_rfl) (js := []) jNil (by kernel_rfl) newelref10_Allows_sp_ok newelref10_Allows_rs_ok (fun args T kf => Eq.trans (newelref10_Allows_def N (Cod.dec api_ReadingC (lget (toCs (lget args 0)))) (fun q0 => kf (lget [.agg (Cod.enc api_SpanC q0)] 0, []))) (by kernel_rfl : newelref10_Allows_run N args T kf = fnM E (newelref10_Check_cal N) (newelref10_Allows_lp N) (noJn) 94 (newelref10_Allows_sp.vs args) (newelref10_Allows_sp.tab T) 0 (resK newelref10_Allows_rs kf)))

def neweltop_allow_L4 : LoopSp := ⟨⟨[0, 1, 5], ⟨((rSl api_ReadingC) :: (rInt .i64) :: (dr 3 ((rInt .i64) :: (dr 35 [])))), []⟩, 0⟩, [(Option.none, ⟨[4], ⟨(dr 4 ((rBool) :: (dr 36 []))), []⟩, 0⟩), (some 0, ⟨[], ⟨(dr 41 []), []⟩, 0⟩)]⟩
theorem neweltop_allow_L4_ok : neweltop_allow_L4.Ok := ⟨⟨(allCons (rSl_ok api_ReadingC_ok) (allCons (rInt_ok .i64) (drCons 3 (allCons (rInt_ok .i64) (drCons 35 allNil))))), eNil⟩, (xCons ⟨(drCons 4 (allCons rBool_ok (drCons 36 allNil))), eNil⟩ (xCons ⟨(drCons 41 allNil), eNil⟩ xNil))⟩
def neweltop_allow_h4 (v48 : Arr api_Reading) (v49 : Int) (v50 : Int) : St := ⟨((slC api_ReadingC v48) :: (.int .i64 v49) :: (un 3 ((.int .i64 v50) :: (un 35 [])))), [], 0⟩
def neweltop_allow_x4_r (q0 : Bool) : St := ⟨(un 4 ((.bool q0) :: (un 36 []))), [], 0⟩
def neweltop_allow_x4_0  : St := ⟨(un 41 []), [], 0⟩
def neweltop_allow_b4 {R : Type} (N : Nat) (rc : Arr api_Reading → Int → Int → Option R) (v48 : Arr api_Reading) (v49 : Int) (v50 : Int) (kr : Bool → Option R) (k0 : Unit → Option R) : Option R :=
  bif decide (v50 < (↑(Arr.n v48) : Int)) then
   bif decide ((0 : Int) ≤ v50) && decide (v50 < (↑(Arr.n v48) : Int)) then
    newelref10_Allows N (Arr.f v48 (Int.toNat v50)) (fun r52 =>
    bif decide (v49 < api_Span.Low r52) then
     kr false
    else
     bif decide (v49 > api_Span.High r52) then
      kr false
     else
      rc v48 v49 (w64 (v50 + (1 : Int))))
   else
    Option.none
  else
   k0 ()
def neweltop_allow_l4 {R : Type} (N : Nat) : Nat → Arr api_Reading → Int → Int → (Bool → Option R) → (Unit → Option R) → Option R
  | 0, _, _, _, _, _ => Option.none
  | n + 1, v48, v49, v50, kr, k0 => neweltop_allow_b4 N (fun v48 v49 v50 => neweltop_allow_l4 N n v48 v49 v50 kr k0) v48 v49 v50 kr k0


def neweltop_allow_m {R : Type} (N : Nat) (a34 : Arr api_Reading) (a35 : Int) (k : Bool → Option R) : Option R :=
  bif (↑(Arr.n a34) : Int) == (0 : Int) then
   k false
  else
   bif decide ((↑(Arr.n a34) : Int) > (8 : Int)) then
    k false
   else
    newelref10_Check N a34 (fun r47 =>
    bif r47 != (0 : Int) then
     k false
    else
     neweltop_allow_l4 N N a34 a35 (0 : Int) (fun r53 =>
      k r53) (fun (_ : Unit) =>
      k true))
noncomputable def neweltop_allow {R : Type} : Nat → Arr api_Reading → Int → (Bool → Option R) → Option R := lock (@neweltop_allow_m R)
theorem neweltop_allow_def {R : Type} (N : Nat) (a34 : Arr api_Reading) (a35 : Int) (k : Bool → Option R) : neweltop_allow N a34 a35 k = neweltop_allow_m N a34 a35 k := by unfold neweltop_allow; rw [lock_eq]
def neweltop_allow_sp : Sp := ⟨[rSl api_ReadingC, rInt .i64], []⟩
theorem neweltop_allow_sp_ok : neweltop_allow_sp.Ok := ⟨(allCons (rSl_ok api_ReadingC_ok) (allCons (rInt_ok .i64) allNil)), eNil⟩
def neweltop_allow_rs : Sp := ⟨[rBool], []⟩
theorem neweltop_allow_rs_ok : neweltop_allow_rs.Ok := ⟨(allCons rBool_ok allNil), eNil⟩
def neweltop_allow_run {R : Type} (N : Nat) (args : List SV) (T : Tab) (kf : SV × Tab → Option R) : Option R :=
  neweltop_allow_m N (lstC api_ReadingC (lget args 0)) (toI (lget args 1)) (fun q0 => kf (lget [.bool q0] 0, []))
def neweltop_allow_d4 {R : Type} (N : Nat) (S0 : St) (k : Exit → St → Option R) : Option R :=
  neweltop_allow_l4 N N (lstC api_ReadingC (lget S0.tmps 0)) (toI (lget S0.tmps 1)) (toI (lget S0.tmps 5)) (fun q0 => k .ret (neweltop_allow_x4_r q0)) (fun (_ : Unit) => k (.exit 0) (neweltop_allow_x4_0 ))
def neweltop_allow_lp {R : Type} (N : Nat) : Lp R := fun body S k => bif (Go.Sx.keyOf body).getD 0 == 4 then neweltop_allow_L4.head.raw 0 S (fun S0 => neweltop_allow_d4 N S0 k) else Option.none
theorem neweltop_allow_l4_eq {R : Type} (N : Nat) (k : Exit → St → Option R) (n : Nat) : ∀ (v0 : Arr api_Reading) (v1 : Int) (v2 : Int), loopM E.Θ (newelref10_Allows_cal N) (neweltop_allow_lp N) (noJn) 0 neweltop_allow_L4 (bodyAt E 41 4) n (neweltop_allow_h4 v0 v1 v2) k = neweltop_allow_l4 N n v0 v1 v2 (fun q0 => k .ret (neweltop_allow_x4_r q0)) (fun (_ : Unit) => k (.exit 0) (neweltop_allow_x4_0 )) := by
  induction n with
  | zero => intro v0 v1 v2; rfl
  | succ n ih =>
    intro v0 v1 v2
    refine Eq.trans (b := neweltop_allow_b4 N (fun v0 v1 v2 => loopM E.Θ (newelref10_Allows_cal N) (neweltop_allow_lp N) (noJn) 0 neweltop_allow_L4 (bodyAt E 41 4) n (neweltop_allow_h4 v0 v1 v2) k) v0 v1 v2 (fun q0 => k .ret (neweltop_allow_x4_r q0)) (fun (_ : Unit) => k (.exit 0) (neweltop_allow_x4_0 ))) (by kernel_rfl) ?_
    have h : (fun (v0 : Arr api_Reading) (v1 : Int) (v2 : Int) => loopM E.Θ (newelref10_Allows_cal N) (neweltop_allow_lp N) (noJn) 0 neweltop_allow_L4 (bodyAt E 41 4) n (neweltop_allow_h4 v0 v1 v2) k) = (fun (v0 : Arr api_Reading) (v1 : Int) (v2 : Int) => neweltop_allow_l4 N n v0 v1 v2 (fun q0 => k .ret (neweltop_allow_x4_r q0)) (fun (_ : Unit) => k (.exit 0) (neweltop_allow_x4_0 ))) := funext fun v0 => funext fun v1 => funext fun v2 => ih v0 v1 v2
    rw [h]
    rfl
theorem neweltop_allow_k4 {R : Type} (N : Nat) : LpKey (R := R) E 41 0 (neweltop_allow_lp N) 4 :=
  lpKey_of hE (newelref10_Allows_cal_ok N) (jn := noJn) neweltop_allow_L4_ok [] kNil (by kernel_rfl) [] jNil (by kernel_rfl) N fun S k =>
    Eq.trans (b := neweltop_allow_L4.head.raw 0 S (fun S0 => neweltop_allow_d4 N S0 k)) (by kernel_rfl) (congrArg (neweltop_allow_L4.head.raw 0 S) (funext fun S0 => Eq.trans (neweltop_allow_l4_eq N k N (lstC api_ReadingC (lget S0.tmps 0)) (toI (lget S0.tmps 1)) (toI (lget S0.tmps 5))).symm (by kernel_rfl)))
noncomputable def neweltop_allow_go {R : Type} (N : Nat) (args : List SV) (T : Tab) (kf : SV × Tab → Option R) : Option R :=
  neweltop_allow N (lstC api_ReadingC (lget args 0)) (toI (lget args 1)) (fun q0 => kf (lget [.bool q0] 0, []))
noncomputable def neweltop_allow_cal {R : Type} (N : Nat) : Cal R := callM (newelref10_Allows_cal N) 41 0 neweltop_allow_sp (neweltop_allow_go N)
theorem neweltop_allow_cal_ok {R : Type} (N : Nat) : CalOk E.P (neweltop_allow_cal (R := R) N) :=
  callM_ok hE (newelref10_Allows_cal_ok N) (lp := neweltop_allow_lp N) (jn := noJn) (keys := [4]) (kCons (neweltop_allow_k4 N) kNil) (by kernel_rfl) (js := []) jNil (by kernel_rfl) neweltop_allow_sp_ok neweltop_allow_rs_ok (fun args T kf => Eq.trans (neweltop_allow_def N (lstC api_ReadingC (lget args 0)) (toI (lget args 1)) (fun q0 => kf (lget [.bool q0] 0, []))) (by kernel_rfl : neweltop_allow_run N args T kf = fnM E (newelref10_Allows_cal N) (neweltop_allow_lp N) (noJn) 41 (neweltop_allow_sp.vs args) (neweltop_allow_sp.tab T) 0 (resK neweltop_allow_rs kf)))


def faults_within_m {R : Type} (N : Nat) (a59 : Int) (a60 : Int) (a61 : Int) (k : Bool → Option R) : Option R :=
  bif decide (a59 ≥ a60) then
   k (decide (a59 ≤ a61))
  else
   k false
noncomputable def faults_within {R : Type} : Nat → Int → Int → Int → (Bool → Option R) → Option R := lock (@faults_within_m R)
theorem faults_within_def {R : Type} (N : Nat) (a59 : Int) (a60 : Int) (a61 : Int) (k : Bool → Option R) : faults_within N a59 a60 a61 k = faults_within_m N a59 a60 a61 k := by unfold faults_within; rw [lock_eq]
def faults_within_sp : Sp := ⟨[rInt .i64, rInt .i64, rInt .i64], []⟩
theorem faults_within_sp_ok : faults_within_sp.Ok := ⟨(allCons (rInt_ok .i64) (allCons (rInt_ok .i64) (allCons (rInt_ok .i64) allNil))), eNil⟩
def faults_within_rs : Sp := ⟨[rBool], []⟩
theorem faults_within_rs_ok : faults_within_rs.Ok := ⟨(allCons rBool_ok allNil), eNil⟩
def faults_within_run {R : Type} (N : Nat) (args : List SV) (T : Tab) (kf : SV × Tab → Option R) : Option R :=
  faults_within_m N (toI (lget args 0)) (toI (lget args 1)) (toI (lget args 2)) (fun q0 => kf (lget [.bool q0] 0, []))
def faults_within_lp {R : Type} (N : Nat) : Lp R := fun body S k => Option.none
noncomputable def faults_within_go {R : Type} (N : Nat) (args : List SV) (T : Tab) (kf : SV × Tab → Option R) : Option R :=
  faults_within N (toI (lget args 0)) (toI (lget args 1)) (toI (lget args 2)) (fun q0 => kf (lget [.bool q0] 0, []))
noncomputable def faults_within_cal {R : Type} (N : Nat) : Cal R := callM (neweltop_allow_cal N) 130 0 faults_within_sp (faults_within_go N)
theorem faults_within_cal_ok {R : Type} (N : Nat) : CalOk E.P (faults_within_cal (R := R) N) :=
  callM_ok hE (neweltop_allow_cal_ok N) (lp := faults_within_lp N) (jn := noJn) (keys := []) kNil (by kernel_rfl) (js := []) jNil (by kernel_rfl) faults_within_sp_ok faults_within_rs_ok (fun args T kf => Eq.trans (faults_within_def N (toI (lget args 0)) (toI (lget args 1)) (toI (lget args 2)) (fun q0 => kf (lget [.bool q0] 0, []))) (by kernel_rfl : faults_within_run N args T kf = fnM E (neweltop_allow_cal N) (faults_within_lp N) (noJn) 130 (faults_within_sp.vs args) (faults_within_sp.tab T) 0 (resK faults_within_rs kf)))

def faults_readings_L4 : LoopSp := ⟨⟨[8, 9, 10], ⟨(dr 8 ((rSl api_ReadingC) :: (rInt .i64) :: (rInt .i64) :: (dr 26 []))), []⟩, 0⟩, [(Option.none, ⟨[2], ⟨(dr 2 ((rInt .i64) :: (dr 34 []))), []⟩, 0⟩), (some 0, ⟨[], ⟨(dr 37 []), []⟩, 0⟩)]⟩
theorem faults_readings_L4_ok : faults_readings_L4.Ok := ⟨⟨(drCons 8 (allCons (rSl_ok api_ReadingC_ok) (allCons (rInt_ok .i64) (allCons (rInt_ok .i64) (drCons 26 allNil))))), eNil⟩, (xCons ⟨(drCons 2 (allCons (rInt_ok .i64) (drCons 34 allNil))), eNil⟩ (xCons ⟨(drCons 37 allNil), eNil⟩ xNil))⟩
def faults_readings_h4 (v56 : Arr api_Reading) (v57 : Int) (v58 : Int) : St := ⟨(un 8 ((slC api_ReadingC v56) :: (.int .i64 v57) :: (.int .i64 v58) :: (un 26 []))), [], 0⟩
def faults_readings_x4_r (q0 : Int) : St := ⟨(un 2 ((.int .i64 q0) :: (un 34 []))), [], 0⟩
def faults_readings_x4_0  : St := ⟨(un 37 []), [], 0⟩
def faults_readings_b4 {R : Type} (N : Nat) (rc : Arr api_Reading → Int → Int → Option R) (v56 : Arr api_Reading) (v57 : Int) (v58 : Int) (kr : Int → Option R) (k0 : Unit → Option R) : Option R :=
  bif decide (v58 < v57) then
   bif decide ((0 : Int) ≤ v58) && decide (v58 < (↑(Arr.n v56) : Int)) then
    faults_within N (api_Reading.Says (Arr.f v56 (Int.toNat v58))) (-100000 : Int) (100000 : Int) (fun r62 =>
    bif !r62 then
     kr (100 : Int)
    else
     faults_within N (api_Reading.Error (Arr.f v56 (Int.toNat v58))) (0 : Int) (1000 : Int) (fun r63 =>
     bif !r63 then
      kr (100 : Int)
     else
      faults_within N (api_Reading.Drift (Arr.f v56 (Int.toNat v58))) (0 : Int) (1000 : Int) (fun r64 =>
      bif !r64 then
       kr (100 : Int)
      else
       faults_within N (api_Reading.Days (Arr.f v56 (Int.toNat v58))) (0 : Int) (1000 : Int) (fun r65 =>
       bif !r65 then
        kr (100 : Int)
       else
        rc v56 v57 (w64 (v58 + (1 : Int)))))))
   else
    Option.none
  else
   k0 ()
def faults_readings_l4 {R : Type} (N : Nat) : Nat → Arr api_Reading → Int → Int → (Int → Option R) → (Unit → Option R) → Option R
  | 0, _, _, _, _, _ => Option.none
  | n + 1, v56, v57, v58, kr, k0 => faults_readings_b4 N (fun v56 v57 v58 => faults_readings_l4 N n v56 v57 v58 kr k0) v56 v57 v58 kr k0


def faults_readings_m {R : Type} (N : Nat) (a55 : Arr api_Reading) (k : Int → Option R) : Option R :=
  bif decide ((↑(Arr.n a55) : Int) > (12 : Int)) then
   k (2 : Int)
  else
   faults_readings_l4 N N a55 ((↑(Arr.n a55) : Int)) (0 : Int) (fun r66 =>
    k r66) (fun (_ : Unit) =>
    k (0 : Int))
noncomputable def faults_readings {R : Type} : Nat → Arr api_Reading → (Int → Option R) → Option R := lock (@faults_readings_m R)
theorem faults_readings_def {R : Type} (N : Nat) (a55 : Arr api_Reading) (k : Int → Option R) : faults_readings N a55 k = faults_readings_m N a55 k := by unfold faults_readings; rw [lock_eq]
def faults_readings_sp : Sp := ⟨[rSl api_ReadingC], []⟩
theorem faults_readings_sp_ok : faults_readings_sp.Ok := ⟨(allCons (rSl_ok api_ReadingC_ok) allNil), eNil⟩
def faults_readings_rs : Sp := ⟨[rInt .i64], []⟩
theorem faults_readings_rs_ok : faults_readings_rs.Ok := ⟨(allCons (rInt_ok .i64) allNil), eNil⟩
def faults_readings_run {R : Type} (N : Nat) (args : List SV) (T : Tab) (kf : SV × Tab → Option R) : Option R :=
  faults_readings_m N (lstC api_ReadingC (lget args 0)) (fun q0 => kf (lget [.int .i64 q0] 0, []))
def faults_readings_d4 {R : Type} (N : Nat) (S0 : St) (k : Exit → St → Option R) : Option R :=
  faults_readings_l4 N N (lstC api_ReadingC (lget S0.tmps 8)) (toI (lget S0.tmps 9)) (toI (lget S0.tmps 10)) (fun q0 => k .ret (faults_readings_x4_r q0)) (fun (_ : Unit) => k (.exit 0) (faults_readings_x4_0 ))
def faults_readings_lp {R : Type} (N : Nat) : Lp R := fun body S k => bif (Go.Sx.keyOf body).getD 0 == 4 then faults_readings_L4.head.raw 0 S (fun S0 => faults_readings_d4 N S0 k) else Option.none
theorem faults_readings_l4_eq {R : Type} (N : Nat) (k : Exit → St → Option R) (n : Nat) : ∀ (v0 : Arr api_Reading) (v1 : Int) (v2 : Int), loopM E.Θ (faults_within_cal N) (faults_readings_lp N) (noJn) 0 faults_readings_L4 (bodyAt E 95 4) n (faults_readings_h4 v0 v1 v2) k = faults_readings_l4 N n v0 v1 v2 (fun q0 => k .ret (faults_readings_x4_r q0)) (fun (_ : Unit) => k (.exit 0) (faults_readings_x4_0 )) := by
  induction n with
  | zero => intro v0 v1 v2; rfl
  | succ n ih =>
    intro v0 v1 v2
    refine Eq.trans (b := faults_readings_b4 N (fun v0 v1 v2 => loopM E.Θ (faults_within_cal N) (faults_readings_lp N) (noJn) 0 faults_readings_L4 (bodyAt E 95 4) n (faults_readings_h4 v0 v1 v2) k) v0 v1 v2 (fun q0 => k .ret (faults_readings_x4_r q0)) (fun (_ : Unit) => k (.exit 0) (faults_readings_x4_0 ))) (by kernel_rfl) ?_
    have h : (fun (v0 : Arr api_Reading) (v1 : Int) (v2 : Int) => loopM E.Θ (faults_within_cal N) (faults_readings_lp N) (noJn) 0 faults_readings_L4 (bodyAt E 95 4) n (faults_readings_h4 v0 v1 v2) k) = (fun (v0 : Arr api_Reading) (v1 : Int) (v2 : Int) => faults_readings_l4 N n v0 v1 v2 (fun q0 => k .ret (faults_readings_x4_r q0)) (fun (_ : Unit) => k (.exit 0) (faults_readings_x4_0 ))) := funext fun v0 => funext fun v1 => funext fun v2 => ih v0 v1 v2
    rw [h]
    rfl
theorem faults_readings_k4 {R : Type} (N : Nat) : LpKey (R := R) E 95 0 (faults_readings_lp N) 4 :=
  lpKey_of hE (faults_within_cal_ok N) (jn := noJn) faults_readings_L4_ok [] kNil (by kernel_rfl) [] jNil (by kernel_rfl) N fun S k =>
    Eq.trans (b := faults_readings_L4.head.raw 0 S (fun S0 => faults_readings_d4 N S0 k)) (by kernel_rfl) (congrArg (faults_readings_L4.head.raw 0 S) (funext fun S0 => Eq.trans (faults_readings_l4_eq N k N (lstC api_ReadingC (lget S0.tmps 8)) (toI (lget S0.tmps 9)) (toI (lget S0.tmps 10))).symm (by kernel_rfl)))
noncomputable def faults_readings_go {R : Type} (N : Nat) (args : List SV) (T : Tab) (kf : SV × Tab → Option R) : Option R :=
  faults_readings N (lstC api_ReadingC (lget args 0)) (fun q0 => kf (lget [.int .i64 q0] 0, []))
noncomputable def faults_readings_cal {R : Type} (N : Nat) : Cal R := callM (faults_within_cal N) 95 0 faults_readings_sp (faults_readings_go N)
theorem faults_readings_cal_ok {R : Type} (N : Nat) : CalOk E.P (faults_readings_cal (R := R) N) :=
  callM_ok hE (faults_within_cal_ok N) (lp := faults_readings_lp N) (jn := noJn) (keys := [4]) (kCons (faults_readings_k4 N) kNil) (by kernel_rfl) (js := []) jNil (by kernel_rfl) faults_readings_sp_ok faults_readings_rs_ok (fun args T kf => Eq.trans (faults_readings_def N (lstC api_ReadingC (lget args 0)) (fun q0 => kf (lget [.int .i64 q0] 0, []))) (by kernel_rfl : faults_readings_run N args T kf = fnM E (faults_within_cal N) (faults_readings_lp N) (noJn) 95 (faults_readings_sp.vs args) (faults_readings_sp.tab T) 0 (resK faults_readings_rs kf)))

def faults_common_L3 : LoopSp := ⟨⟨[1, 4, 6, 11, 12, 13], ⟨(dr 1 ((rInt .i64) :: (dr 2 ((rPtr 0 0) :: (dr 1 ((rPtr 1 0) :: (dr 4 ((rSl api_ReadingC) :: (rInt .i64) :: (rInt .i64) :: (dr 39 []))))))))), [(0, eBlkC api_SpanC), (1, eBlkC api_SpanC)]⟩, 2⟩, [(some 0, ⟨[4, 6], ⟨(dr 4 ((rPtr 0 0) :: (dr 1 ((rPtr 1 0) :: (dr 46 []))))), [(0, eBlkC api_SpanC), (1, eBlkC api_SpanC)]⟩, 2⟩)]⟩
theorem faults_common_L3_ok : faults_common_L3.Ok := ⟨⟨(drCons 1 (allCons (rInt_ok .i64) (drCons 2 (allCons (rPtr_ok 0 0) (drCons 1 (allCons (rPtr_ok 1 0) (drCons 4 (allCons (rSl_ok api_ReadingC_ok) (allCons (rInt_ok .i64) (allCons (rInt_ok .i64) (drCons 39 allNil))))))))))), (eCons (eBlkC_ok api_SpanC_ok api_SpanC_len) (eCons (eBlkC_ok api_SpanC_ok api_SpanC_len) eNil))⟩, (xCons ⟨(drCons 4 (allCons (rPtr_ok 0 0) (drCons 1 (allCons (rPtr_ok 1 0) (drCons 46 allNil))))), (eCons (eBlkC_ok api_SpanC_ok api_SpanC_len) (eCons (eBlkC_ok api_SpanC_ok api_SpanC_len) eNil))⟩ xNil)⟩
def faults_common_h3 (v70 : Int) (v71 : Arr api_Reading) (v72 : Int) (v73 : Int) (v74 : api_Span) (v75 : api_Span) : St := ⟨(un 1 ((.int .i64 v70) :: (un 2 ((.ptr 0 0) :: (un 1 ((.ptr 1 0) :: (un 4 ((slC api_ReadingC v71) :: (.int .i64 v72) :: (.int .i64 v73) :: (un 39 []))))))))), [(0, .blk (Cod.enc api_SpanC v74)), (1, .blk (Cod.enc api_SpanC v75))], 2⟩
def faults_common_x3_0 (v74 : api_Span) (q1 : api_Span) : St := ⟨(un 4 ((.ptr 0 0) :: (un 1 ((.ptr 1 0) :: (un 46 []))))), [(0, .blk (Cod.enc api_SpanC v74)), (1, .blk (Cod.enc api_SpanC q1))], 2⟩
def faults_common_b3 {R : Type} (N : Nat) (rc : Int → Arr api_Reading → Int → Int → api_Span → api_Span → Option R) (v70 : Int) (v71 : Arr api_Reading) (v72 : Int) (v73 : Int) (v74 : api_Span) (v75 : api_Span) (k0 : api_Span → Option R) : Option R :=
  bif decide (v73 < v72) then
   bif decide ((0 : Int) ≤ v73) && decide (v73 < (↑(Arr.n v71) : Int)) then
    bif decide (v73 < (0 : Int)) then
     Option.none
    else
     bif w64 (↑(BitVec.toNat (BitVec.ofInt (IntKind.bits IntKind.i64) (Int.fdiv v70 ((2 : Int) ^ min (Int.toNat v73) (IntKind.bits IntKind.i64))) &&& BitVec.ofInt (IntKind.bits IntKind.i64) (1 : Int))) : Int) == (0 : Int) then
      rc v70 v71 v72 (w64 (v73 + (1 : Int))) v74 (api_Span.mk (if w64 (api_Reading.Says (Arr.f v71 (Int.toNat v73)) - w64 (api_Reading.Error (Arr.f v71 (Int.toNat v73)) + w64 (api_Reading.Drift (Arr.f v71 (Int.toNat v73)) * api_Reading.Days (Arr.f v71 (Int.toNat v73))))) > api_Span.Low v75 then w64 (api_Reading.Says (Arr.f v71 (Int.toNat v73)) - w64 (api_Reading.Error (Arr.f v71 (Int.toNat v73)) + w64 (api_Reading.Drift (Arr.f v71 (Int.toNat v73)) * api_Reading.Days (Arr.f v71 (Int.toNat v73))))) else api_Span.Low v75) (if w64 (api_Reading.Says (Arr.f v71 (Int.toNat v73)) + w64 (api_Reading.Error (Arr.f v71 (Int.toNat v73)) + w64 (api_Reading.Drift (Arr.f v71 (Int.toNat v73)) * api_Reading.Days (Arr.f v71 (Int.toNat v73))))) < api_Span.High v75 then w64 (api_Reading.Says (Arr.f v71 (Int.toNat v73)) + w64 (api_Reading.Error (Arr.f v71 (Int.toNat v73)) + w64 (api_Reading.Drift (Arr.f v71 (Int.toNat v73)) * api_Reading.Days (Arr.f v71 (Int.toNat v73))))) else api_Span.High v75))
     else
      rc v70 v71 v72 (w64 (v73 + (1 : Int))) v74 v75
   else
    Option.none
  else
   k0 v75
def faults_common_l3 {R : Type} (N : Nat) : Nat → Int → Arr api_Reading → Int → Int → api_Span → api_Span → (api_Span → Option R) → Option R
  | 0, _, _, _, _, _, _, _ => Option.none
  | n + 1, v70, v71, v72, v73, v74, v75, k0 => faults_common_b3 N (fun v70 v71 v72 v73 v74 v75 => faults_common_l3 N n v70 v71 v72 v73 v74 v75 k0) v70 v71 v72 v73 v74 v75 k0


def faults_common_m {R : Type} (N : Nat) (a68 : Arr api_Reading) (a69 : Int) (k : api_Span → Bool → Option R) : Option R :=
  faults_common_l3 N N a69 a68 ((↑(Arr.n a68) : Int)) (0 : Int) (api_Span.mk (0 : Int) (0 : Int)) (api_Span.mk (-1099511627776 : Int) (1099511627776 : Int)) (fun r76 =>
   k r76 (decide (api_Span.Low r76 ≤ api_Span.High r76)))
noncomputable def faults_common {R : Type} : Nat → Arr api_Reading → Int → (api_Span → Bool → Option R) → Option R := lock (@faults_common_m R)
theorem faults_common_def {R : Type} (N : Nat) (a68 : Arr api_Reading) (a69 : Int) (k : api_Span → Bool → Option R) : faults_common N a68 a69 k = faults_common_m N a68 a69 k := by unfold faults_common; rw [lock_eq]
def faults_common_sp : Sp := ⟨[rSl api_ReadingC, rInt .i64], []⟩
theorem faults_common_sp_ok : faults_common_sp.Ok := ⟨(allCons (rSl_ok api_ReadingC_ok) (allCons (rInt_ok .i64) allNil)), eNil⟩
def faults_common_rs : Sp := ⟨[rTup [rAgg api_SpanC, rBool]], []⟩
theorem faults_common_rs_ok : faults_common_rs.Ok := ⟨(allCons (rTup_ok (allCons (rAgg_ok api_SpanC_ok api_SpanC_len) (allCons rBool_ok allNil))) allNil), eNil⟩
def faults_common_run {R : Type} (N : Nat) (args : List SV) (T : Tab) (kf : SV × Tab → Option R) : Option R :=
  faults_common_m N (lstC api_ReadingC (lget args 0)) (toI (lget args 1)) (fun q0 q1 => kf (lget [.tup [.agg (Cod.enc api_SpanC q0), .bool q1]] 0, []))
def faults_common_d3 {R : Type} (N : Nat) (S0 : St) (k : Exit → St → Option R) : Option R :=
  faults_common_l3 N N (toI (lget S0.tmps 1)) (lstC api_ReadingC (lget S0.tmps 11)) (toI (lget S0.tmps 12)) (toI (lget S0.tmps 13)) (Cod.dec api_SpanC (lget (entCs (entAt S0.tab 0)))) (Cod.dec api_SpanC (lget (entCs (entAt S0.tab 1)))) (fun q1 => k (.exit 0) (faults_common_x3_0 (Cod.dec api_SpanC (lget (entCs (entAt S0.tab 0)))) q1))
def faults_common_lp {R : Type} (N : Nat) : Lp R := fun body S k => bif (Go.Sx.keyOf body).getD 0 == 3 then faults_common_L3.head.raw 0 S (fun S0 => faults_common_d3 N S0 k) else Option.none
theorem faults_common_l3_eq {R : Type} (N : Nat) (k : Exit → St → Option R) (n : Nat) : ∀ (v0 : Int) (v1 : Arr api_Reading) (v2 : Int) (v3 : Int) (v4 : api_Span) (v5 : api_Span), loopM E.Θ (faults_readings_cal N) (faults_common_lp N) (noJn) 0 faults_common_L3 (bodyAt E 96 3) n (faults_common_h3 v0 v1 v2 v3 v4 v5) k = faults_common_l3 N n v0 v1 v2 v3 v4 v5 (fun q1 => k (.exit 0) (faults_common_x3_0 v4 q1)) := by
  induction n with
  | zero => intro v0 v1 v2 v3 v4 v5; rfl
  | succ n ih =>
    intro v0 v1 v2 v3 v4 v5
    refine Eq.trans (b := faults_common_b3 N (fun v0 v1 v2 v3 v4 v5 => loopM E.Θ (faults_readings_cal N) (faults_common_lp N) (noJn) 0 faults_common_L3 (bodyAt E 96 3) n (faults_common_h3 v0 v1 v2 v3 v4 v5) k) v0 v1 v2 v3 v4 v5 (fun q1 => k (.exit 0) (faults_common_x3_0 v4 q1))) (by kernel_rfl) ?_
    have h : (fun (v0 : Int) (v1 : Arr api_Reading) (v2 : Int) (v3 : Int) (v4 : api_Span) (v5 : api_Span) => loopM E.Θ (faults_readings_cal N) (faults_common_lp N) (noJn) 0 faults_common_L3 (bodyAt E 96 3) n (faults_common_h3 v0 v1 v2 v3 v4 v5) k) = (fun (v0 : Int) (v1 : Arr api_Reading) (v2 : Int) (v3 : Int) (v4 : api_Span) (v5 : api_Span) => faults_common_l3 N n v0 v1 v2 v3 v4 v5 (fun q1 => k (.exit 0) (faults_common_x3_0 v4 q1))) := funext fun v0 => funext fun v1 => funext fun v2 => funext fun v3 => funext fun v4 => funext fun v5 => ih v0 v1 v2 v3 v4 v5
    rw [h]
    rfl
theorem faults_common_k3 {R : Type} (N : Nat) : LpKey (R := R) E 96 0 (faults_common_lp N) 3 :=
  lpKey_of hE (faults_readings_cal_ok N) (jn := noJn) faults_common_L3_ok [] kNil (by kernel_rfl) [] jNil (by kernel_rfl) N fun S k =>
    Eq.trans (b := faults_common_L3.head.raw 0 S (fun S0 => faults_common_d3 N S0 k)) (by kernel_rfl) (congrArg (faults_common_L3.head.raw 0 S) (funext fun S0 => Eq.trans (faults_common_l3_eq N k N (toI (lget S0.tmps 1)) (lstC api_ReadingC (lget S0.tmps 11)) (toI (lget S0.tmps 12)) (toI (lget S0.tmps 13)) (Cod.dec api_SpanC (lget (entCs (entAt S0.tab 0)))) (Cod.dec api_SpanC (lget (entCs (entAt S0.tab 1))))).symm (by kernel_rfl)))
noncomputable def faults_common_go {R : Type} (N : Nat) (args : List SV) (T : Tab) (kf : SV × Tab → Option R) : Option R :=
  faults_common N (lstC api_ReadingC (lget args 0)) (toI (lget args 1)) (fun q0 q1 => kf (lget [.tup [.agg (Cod.enc api_SpanC q0), .bool q1]] 0, []))
noncomputable def faults_common_cal {R : Type} (N : Nat) : Cal R := callM (faults_readings_cal N) 96 0 faults_common_sp (faults_common_go N)
theorem faults_common_cal_ok {R : Type} (N : Nat) : CalOk E.P (faults_common_cal (R := R) N) :=
  callM_ok hE (faults_readings_cal_ok N) (lp := faults_common_lp N) (jn := noJn) (keys := [3]) (kCons (faults_common_k3 N) kNil) (by kernel_rfl) (js := []) jNil (by kernel_rfl) faults_common_sp_ok faults_common_rs_ok (fun args T kf => Eq.trans (faults_common_def N (lstC api_ReadingC (lget args 0)) (toI (lget args 1)) (fun q0 q1 => kf (lget [.tup [.agg (Cod.enc api_SpanC q0), .bool q1]] 0, []))) (by kernel_rfl : faults_common_run N args T kf = fnM E (faults_readings_cal N) (faults_common_lp N) (noJn) 96 (faults_common_sp.vs args) (faults_common_sp.tab T) 0 (resK faults_common_rs kf)))


def faults_Truth_m {R : Type} (N : Nat) (a54 : Arr api_Reading) (k : api_Span → Int → Option R) : Option R :=
  faults_readings N a54 (fun r67 =>
  bif r67 != (0 : Int) then
   k (api_Span.mk (0 : Int) (0 : Int)) r67
  else
   faults_common N a54 (0 : Int) (fun r77 r78 =>
   bif (↑(Arr.n a54) : Int) == (0 : Int) then
    k (api_Span.mk (0 : Int) (0 : Int)) (3 : Int)
   else
    bif !r78 then
     k (api_Span.mk (0 : Int) (0 : Int)) (3 : Int)
    else
     k r77 (0 : Int)))
noncomputable def faults_Truth {R : Type} : Nat → Arr api_Reading → (api_Span → Int → Option R) → Option R := lock (@faults_Truth_m R)
theorem faults_Truth_def {R : Type} (N : Nat) (a54 : Arr api_Reading) (k : api_Span → Int → Option R) : faults_Truth N a54 k = faults_Truth_m N a54 k := by unfold faults_Truth; rw [lock_eq]
def faults_Truth_sp : Sp := ⟨[rSl api_ReadingC], []⟩
theorem faults_Truth_sp_ok : faults_Truth_sp.Ok := ⟨(allCons (rSl_ok api_ReadingC_ok) allNil), eNil⟩
def faults_Truth_rs : Sp := ⟨[rTup [rAgg api_SpanC, rInt .i64]], []⟩
theorem faults_Truth_rs_ok : faults_Truth_rs.Ok := ⟨(allCons (rTup_ok (allCons (rAgg_ok api_SpanC_ok api_SpanC_len) (allCons (rInt_ok .i64) allNil))) allNil), eNil⟩
def faults_Truth_run {R : Type} (N : Nat) (args : List SV) (T : Tab) (kf : SV × Tab → Option R) : Option R :=
  faults_Truth_m N (lstC api_ReadingC (lget args 0)) (fun q0 q1 => kf (lget [.tup [.agg (Cod.enc api_SpanC q0), .int .i64 q1]] 0, []))
def faults_Truth_lp {R : Type} (N : Nat) : Lp R := fun body S k => Option.none
noncomputable def faults_Truth_go {R : Type} (N : Nat) (args : List SV) (T : Tab) (kf : SV × Tab → Option R) : Option R :=
  faults_Truth N (lstC api_ReadingC (lget args 0)) (fun q0 q1 => kf (lget [.tup [.agg (Cod.enc api_SpanC q0), .int .i64 q1]] 0, []))
noncomputable def faults_Truth_cal {R : Type} (N : Nat) : Cal R := callM (faults_common_cal N) 42 0 faults_Truth_sp (faults_Truth_go N)
theorem faults_Truth_cal_ok {R : Type} (N : Nat) : CalOk E.P (faults_Truth_cal (R := R) N) :=
  callM_ok hE (faults_common_cal_ok N) (lp := faults_Truth_lp N) (jn := noJn) (keys := []) kNil (by kernel_rfl) (js := []) jNil (by kernel_rfl) faults_Truth_sp_ok faults_Truth_rs_ok (fun args T kf => Eq.trans (faults_Truth_def N (lstC api_ReadingC (lget args 0)) (fun q0 q1 => kf (lget [.tup [.agg (Cod.enc api_SpanC q0), .int .i64 q1]] 0, []))) (by kernel_rfl : faults_Truth_run N args T kf = fnM E (faults_common_cal N) (faults_Truth_lp N) (noJn) 42 (faults_Truth_sp.vs args) (faults_Truth_sp.tab T) 0 (resK faults_Truth_rs kf)))


def newelref02_CopyUses_m {R : Type} (N : Nat) (a79 : Arr api_Use) (k : Bool → Arr api_Use → Option R) : Option R :=
  bif room ((0 : Nat) + Arr.n a79) then
   k (bif Arr.n a79 == (0 : Nat) then false else false) (lst api_UseC ((0 : Nat) + Arr.n a79) (catC (0 : Nat) (litC [SV.int IntKind.i64 (0 : Int), SV.int IntKind.i64 (0 : Int), SV.int IntKind.i64 (0 : Int), SV.bool false, SV.int IntKind.i64 (0 : Int), SV.int IntKind.i64 (0 : Int)] []) (Cod.cell api_UseC (Arr.f a79))))
  else
   Option.none
noncomputable def newelref02_CopyUses {R : Type} : Nat → Arr api_Use → (Bool → Arr api_Use → Option R) → Option R := lock (@newelref02_CopyUses_m R)
theorem newelref02_CopyUses_def {R : Type} (N : Nat) (a79 : Arr api_Use) (k : Bool → Arr api_Use → Option R) : newelref02_CopyUses N a79 k = newelref02_CopyUses_m N a79 k := by unfold newelref02_CopyUses; rw [lock_eq]
def newelref02_CopyUses_sp : Sp := ⟨[rSl api_UseC], []⟩
theorem newelref02_CopyUses_sp_ok : newelref02_CopyUses_sp.Ok := ⟨(allCons (rSl_ok api_UseC_ok) allNil), eNil⟩
def newelref02_CopyUses_rs : Sp := ⟨[rRow 0], [(0, eRow api_UseC)]⟩
theorem newelref02_CopyUses_rs_ok : newelref02_CopyUses_rs.Ok := ⟨(allCons (rRow_ok 0) allNil), (eCons (eRow_ok api_UseC_ok) eNil)⟩
def newelref02_CopyUses_run {R : Type} (N : Nat) (args : List SV) (T : Tab) (kf : SV × Tab → Option R) : Option R :=
  newelref02_CopyUses_m N (lstC api_UseC (lget args 0)) (fun q0 q1 => kf (lget [.row 0] 0, [(0, rowE api_UseC q0 q1)]))
def newelref02_CopyUses_lp {R : Type} (N : Nat) : Lp R := fun body S k => Option.none
noncomputable def newelref02_CopyUses_go {R : Type} (N : Nat) (args : List SV) (T : Tab) (kf : SV × Tab → Option R) : Option R :=
  newelref02_CopyUses N (lstC api_UseC (lget args 0)) (fun q0 q1 => kf (lget [.row 0] 0, [(0, rowE api_UseC q0 q1)]))
noncomputable def newelref02_CopyUses_cal {R : Type} (N : Nat) : Cal R := callM (faults_Truth_cal N) 43 0 newelref02_CopyUses_sp (newelref02_CopyUses_go N)
theorem newelref02_CopyUses_cal_ok {R : Type} (N : Nat) : CalOk E.P (newelref02_CopyUses_cal (R := R) N) :=
  callM_ok hE (faults_Truth_cal_ok N) (lp := newelref02_CopyUses_lp N) (jn := noJn) (keys := []) kNil (by kernel_rfl) (js := []) jNil (by kernel_rfl) newelref02_CopyUses_sp_ok newelref02_CopyUses_rs_ok (fun args T kf => Eq.trans (newelref02_CopyUses_def N (lstC api_UseC (lget args 0)) (fun q0 q1 => kf (lget [.row 0] 0, [(0, rowE api_UseC q0 q1)]))) (by kernel_rfl : newelref02_CopyUses_run N args T kf = fnM E (faults_Truth_cal N) (newelref02_CopyUses_lp N) (noJn) 43 (newelref02_CopyUses_sp.vs args) (newelref02_CopyUses_sp.tab T) 0 (resK newelref02_CopyUses_rs kf)))


def chain_within_m {R : Type} (N : Nat) (a84 : Int) (a85 : Int) (a86 : Int) (k : Bool → Option R) : Option R :=
  bif decide (a84 ≥ a85) then
   k (decide (a84 ≤ a86))
  else
   k false
noncomputable def chain_within {R : Type} : Nat → Int → Int → Int → (Bool → Option R) → Option R := lock (@chain_within_m R)
theorem chain_within_def {R : Type} (N : Nat) (a84 : Int) (a85 : Int) (a86 : Int) (k : Bool → Option R) : chain_within N a84 a85 a86 k = chain_within_m N a84 a85 a86 k := by unfold chain_within; rw [lock_eq]
def chain_within_sp : Sp := ⟨[rInt .i64, rInt .i64, rInt .i64], []⟩
theorem chain_within_sp_ok : chain_within_sp.Ok := ⟨(allCons (rInt_ok .i64) (allCons (rInt_ok .i64) (allCons (rInt_ok .i64) allNil))), eNil⟩
def chain_within_rs : Sp := ⟨[rBool], []⟩
theorem chain_within_rs_ok : chain_within_rs.Ok := ⟨(allCons rBool_ok allNil), eNil⟩
def chain_within_run {R : Type} (N : Nat) (args : List SV) (T : Tab) (kf : SV × Tab → Option R) : Option R :=
  chain_within_m N (toI (lget args 0)) (toI (lget args 1)) (toI (lget args 2)) (fun q0 => kf (lget [.bool q0] 0, []))
def chain_within_lp {R : Type} (N : Nat) : Lp R := fun body S k => Option.none
noncomputable def chain_within_go {R : Type} (N : Nat) (args : List SV) (T : Tab) (kf : SV × Tab → Option R) : Option R :=
  chain_within N (toI (lget args 0)) (toI (lget args 1)) (toI (lget args 2)) (fun q0 => kf (lget [.bool q0] 0, []))
noncomputable def chain_within_cal {R : Type} (N : Nat) : Cal R := callM (newelref02_CopyUses_cal N) 131 0 chain_within_sp (chain_within_go N)
theorem chain_within_cal_ok {R : Type} (N : Nat) : CalOk E.P (chain_within_cal (R := R) N) :=
  callM_ok hE (newelref02_CopyUses_cal_ok N) (lp := chain_within_lp N) (jn := noJn) (keys := []) kNil (by kernel_rfl) (js := []) jNil (by kernel_rfl) chain_within_sp_ok chain_within_rs_ok (fun args T kf => Eq.trans (chain_within_def N (toI (lget args 0)) (toI (lget args 1)) (toI (lget args 2)) (fun q0 => kf (lget [.bool q0] 0, []))) (by kernel_rfl : chain_within_run N args T kf = fnM E (newelref02_CopyUses_cal N) (chain_within_lp N) (noJn) 131 (chain_within_sp.vs args) (chain_within_sp.tab T) 0 (resK chain_within_rs kf)))

def chain_CheckPart_L4 : LoopSp := ⟨⟨[1, 2, 34, 35, 36], ⟨(dr 1 ((rSl api_UseC) :: (rPtr 0 0) :: (dr 31 ((rSl api_SpanC) :: (rInt .i64) :: (rInt .i64) :: (dr 82 []))))), [(0, eBlkC api_PartC)]⟩, 1⟩, [(Option.none, ⟨[4], ⟨(dr 4 ((rInt .i64) :: (dr 114 []))), []⟩, 0⟩), (some 0, ⟨[1, 2], ⟨(dr 1 ((rSl api_UseC) :: (rPtr 0 0) :: (dr 116 []))), [(0, eBlkC api_PartC)]⟩, 1⟩)]⟩
theorem chain_CheckPart_L4_ok : chain_CheckPart_L4.Ok := ⟨⟨(drCons 1 (allCons (rSl_ok api_UseC_ok) (allCons (rPtr_ok 0 0) (drCons 31 (allCons (rSl_ok api_SpanC_ok) (allCons (rInt_ok .i64) (allCons (rInt_ok .i64) (drCons 82 allNil)))))))), (eCons (eBlkC_ok api_PartC_ok api_PartC_len) eNil)⟩, (xCons ⟨(drCons 4 (allCons (rInt_ok .i64) (drCons 114 allNil))), eNil⟩ (xCons ⟨(drCons 1 (allCons (rSl_ok api_UseC_ok) (allCons (rPtr_ok 0 0) (drCons 116 allNil)))), (eCons (eBlkC_ok api_PartC_ok api_PartC_len) eNil)⟩ xNil))⟩
def chain_CheckPart_h4 (v91 : Arr api_Use) (v92 : Arr api_Span) (v93 : Int) (v94 : Int) (v95 : api_Part) : St := ⟨(un 1 ((slC api_UseC v91) :: (.ptr 0 0) :: (un 31 ((slC api_SpanC v92) :: (.int .i64 v93) :: (.int .i64 v94) :: (un 82 []))))), [(0, .blk (Cod.enc api_PartC v95))], 1⟩
def chain_CheckPart_x4_r (q0 : Int) : St := ⟨(un 4 ((.int .i64 q0) :: (un 114 []))), [], 0⟩
def chain_CheckPart_x4_0 (v91 : Arr api_Use) (v95 : api_Part) : St := ⟨(un 1 ((slC api_UseC v91) :: (.ptr 0 0) :: (un 116 []))), [(0, .blk (Cod.enc api_PartC v95))], 1⟩
def chain_CheckPart_b4 {R : Type} (N : Nat) (rc : Arr api_Use → Arr api_Span → Int → Int → api_Part → Option R) (v91 : Arr api_Use) (v92 : Arr api_Span) (v93 : Int) (v94 : Int) (v95 : api_Part) (kr : Int → Option R) (k0 : Unit → Option R) : Option R :=
  bif decide (v94 < v93) then
   bif decide ((0 : Int) ≤ v94) && decide (v94 < (↑(Arr.n v92) : Int)) then
    bif decide (api_Span.Low (Arr.f v92 (Int.toNat v94)) < (0 : Int)) then
     kr (22 : Int)
    else
     bif decide (api_Span.High (Arr.f v92 (Int.toNat v94)) < api_Span.Low (Arr.f v92 (Int.toNat v94))) then
      kr (22 : Int)
     else
      bif decide (api_Span.High (Arr.f v92 (Int.toNat v94)) > (1000000 : Int)) then
       kr (22 : Int)
      else
       rc v91 v92 v93 (w64 (v94 + (1 : Int))) v95
   else
    Option.none
  else
   k0 ()
def chain_CheckPart_l4 {R : Type} (N : Nat) : Nat → Arr api_Use → Arr api_Span → Int → Int → api_Part → (Int → Option R) → (Unit → Option R) → Option R
  | 0, _, _, _, _, _, _, _ => Option.none
  | n + 1, v91, v92, v93, v94, v95, kr, k0 => chain_CheckPart_b4 N (fun v91 v92 v93 v94 v95 => chain_CheckPart_l4 N n v91 v92 v93 v94 v95 kr k0) v91 v92 v93 v94 v95 kr k0

def chain_CheckPart_L13 : LoopSp := ⟨⟨[2, 7, 59, 60, 61], ⟨(dr 2 ((rPtr 0 0) :: (dr 4 ((rInt .i64) :: (dr 51 ((rSl api_UseC) :: (rInt .i64) :: (rInt .i64) :: (dr 57 []))))))), [(0, eBlkC api_PartC)]⟩, 1⟩, [(Option.none, ⟨[4], ⟨(dr 4 ((rInt .i64) :: (dr 114 []))), []⟩, 0⟩), (some 2, ⟨[], ⟨(dr 119 []), []⟩, 0⟩)]⟩
theorem chain_CheckPart_L13_ok : chain_CheckPart_L13.Ok := ⟨⟨(drCons 2 (allCons (rPtr_ok 0 0) (drCons 4 (allCons (rInt_ok .i64) (drCons 51 (allCons (rSl_ok api_UseC_ok) (allCons (rInt_ok .i64) (allCons (rInt_ok .i64) (drCons 57 allNil))))))))), (eCons (eBlkC_ok api_PartC_ok api_PartC_len) eNil)⟩, (xCons ⟨(drCons 4 (allCons (rInt_ok .i64) (drCons 114 allNil))), eNil⟩ (xCons ⟨(drCons 119 allNil), eNil⟩ xNil))⟩
def chain_CheckPart_h13 (v97 : Int) (v98 : Arr api_Use) (v99 : Int) (v100 : Int) (v101 : api_Part) : St := ⟨(un 2 ((.ptr 0 0) :: (un 4 ((.int .i64 v97) :: (un 51 ((slC api_UseC v98) :: (.int .i64 v99) :: (.int .i64 v100) :: (un 57 []))))))), [(0, .blk (Cod.enc api_PartC v101))], 1⟩
def chain_CheckPart_x13_r (q0 : Int) : St := ⟨(un 4 ((.int .i64 q0) :: (un 114 []))), [], 0⟩
def chain_CheckPart_x13_2  : St := ⟨(un 119 []), [], 0⟩
def chain_CheckPart_b13 {R : Type} (N : Nat) (rc : Int → Arr api_Use → Int → Int → api_Part → Option R) (v97 : Int) (v98 : Arr api_Use) (v99 : Int) (v100 : Int) (v101 : api_Part) (kr : Int → Option R) (k2 : Unit → Option R) : Option R :=
  bif decide (v100 < v99) then
   bif decide ((0 : Int) ≤ v100) && decide (v100 < (↑(Arr.n v98) : Int)) then
    chain_within N (api_Use.Day (Arr.f v98 (Int.toNat v100))) v97 (100000 : Int) (fun r102 =>
    bif !r102 then
     kr (23 : Int)
    else
     chain_within N (api_Use.Turns (Arr.f v98 (Int.toNat v100))) (0 : Int) (1000000 : Int) (fun r103 =>
     bif !r103 then
      kr (23 : Int)
     else
      chain_within N (api_Use.Class (Arr.f v98 (Int.toNat v100))) (0 : Int) (w64 ((↑(Arr.n (api_Part.Rates v101)) : Int) - (1 : Int))) (fun r104 =>
      bif !r104 then
       kr (23 : Int)
      else
       bif decide (api_Span.Low (api_Use.Says (Arr.f v98 (Int.toNat v100))) < (0 : Int)) then
        kr (23 : Int)
       else
        bif decide (api_Span.High (api_Use.Says (Arr.f v98 (Int.toNat v100))) < api_Span.Low (api_Use.Says (Arr.f v98 (Int.toNat v100)))) then
         kr (23 : Int)
        else
         bif decide (api_Span.High (api_Use.Says (Arr.f v98 (Int.toNat v100))) > (2000000000 : Int)) then
          kr (23 : Int)
         else
          bif !api_Use.Measured (Arr.f v98 (Int.toNat v100)) then
           bif !(api_Span.Low (api_Use.Says (Arr.f v98 (Int.toNat v100))) == (0 : Int) && (api_Span.High (api_Use.Says (Arr.f v98 (Int.toNat v100))) == (0 : Int) && true)) then
            kr (23 : Int)
           else
            rc (api_Use.Day (Arr.f v98 (Int.toNat v100))) v98 v99 (w64 (v100 + (1 : Int))) v101
          else
           rc (api_Use.Day (Arr.f v98 (Int.toNat v100))) v98 v99 (w64 (v100 + (1 : Int))) v101)))
   else
    Option.none
  else
   k2 ()
def chain_CheckPart_l13 {R : Type} (N : Nat) : Nat → Int → Arr api_Use → Int → Int → api_Part → (Int → Option R) → (Unit → Option R) → Option R
  | 0, _, _, _, _, _, _, _ => Option.none
  | n + 1, v97, v98, v99, v100, v101, kr, k2 => chain_CheckPart_b13 N (fun v97 v98 v99 v100 v101 => chain_CheckPart_l13 N n v97 v98 v99 v100 v101 kr k2) v97 v98 v99 v100 v101 kr k2


def chain_CheckPart_m {R : Type} (N : Nat) (a82 : api_Part) (a83 : Arr api_Use) (k : Int → Option R) : Option R :=
  chain_within N ((↑(Arr.n (api_Part.Rates a82)) : Int)) (1 : Int) (4 : Int) (fun r87 =>
  bif !r87 then
   k (22 : Int)
  else
   chain_within N (api_Part.Worn a82) (0 : Int) (1000 : Int) (fun r88 =>
   bif !r88 then
    k (22 : Int)
   else
    chain_within N (api_Part.Turns a82) (0 : Int) (1000000 : Int) (fun r89 =>
    bif !r89 then
     k (22 : Int)
    else
     chain_within N (api_Part.Age a82) (0 : Int) (100000 : Int) (fun r90 =>
     bif !r90 then
      k (22 : Int)
     else
      chain_CheckPart_l4 N N a83 (api_Part.Rates a82) ((↑(Arr.n (api_Part.Rates a82)) : Int)) (0 : Int) a82 (fun r96 =>
       k r96) (fun (_ : Unit) =>
       bif decide ((↑(Arr.n a83) : Int) > (40 : Int)) then
        k (23 : Int)
       else
        chain_CheckPart_l13 N N (0 : Int) a83 ((↑(Arr.n a83) : Int)) (0 : Int) a82 (fun r105 =>
         k r105) (fun (_ : Unit) =>
         k (0 : Int)))))))
noncomputable def chain_CheckPart {R : Type} : Nat → api_Part → Arr api_Use → (Int → Option R) → Option R := lock (@chain_CheckPart_m R)
theorem chain_CheckPart_def {R : Type} (N : Nat) (a82 : api_Part) (a83 : Arr api_Use) (k : Int → Option R) : chain_CheckPart N a82 a83 k = chain_CheckPart_m N a82 a83 k := by unfold chain_CheckPart; rw [lock_eq]
def chain_CheckPart_sp : Sp := ⟨[rAgg api_PartC, rSl api_UseC], []⟩
theorem chain_CheckPart_sp_ok : chain_CheckPart_sp.Ok := ⟨(allCons (rAgg_ok api_PartC_ok api_PartC_len) (allCons (rSl_ok api_UseC_ok) allNil)), eNil⟩
def chain_CheckPart_rs : Sp := ⟨[rInt .i64], []⟩
theorem chain_CheckPart_rs_ok : chain_CheckPart_rs.Ok := ⟨(allCons (rInt_ok .i64) allNil), eNil⟩
def chain_CheckPart_run {R : Type} (N : Nat) (args : List SV) (T : Tab) (kf : SV × Tab → Option R) : Option R :=
  chain_CheckPart_m N (Cod.dec api_PartC (lget (toCs (lget args 0)))) (lstC api_UseC (lget args 1)) (fun q0 => kf (lget [.int .i64 q0] 0, []))
def chain_CheckPart_d13 {R : Type} (N : Nat) (S0 : St) (k : Exit → St → Option R) : Option R :=
  chain_CheckPart_l13 N N (toI (lget S0.tmps 7)) (lstC api_UseC (lget S0.tmps 59)) (toI (lget S0.tmps 60)) (toI (lget S0.tmps 61)) (Cod.dec api_PartC (lget (entCs (entAt S0.tab 0)))) (fun q0 => k .ret (chain_CheckPart_x13_r q0)) (fun (_ : Unit) => k (.exit 2) (chain_CheckPart_x13_2 ))
def chain_CheckPart_d4 {R : Type} (N : Nat) (S0 : St) (k : Exit → St → Option R) : Option R :=
  chain_CheckPart_l4 N N (lstC api_UseC (lget S0.tmps 1)) (lstC api_SpanC (lget S0.tmps 34)) (toI (lget S0.tmps 35)) (toI (lget S0.tmps 36)) (Cod.dec api_PartC (lget (entCs (entAt S0.tab 0)))) (fun q0 => k .ret (chain_CheckPart_x4_r q0)) (fun (_ : Unit) => k (.exit 0) (chain_CheckPart_x4_0 (lstC api_UseC (lget S0.tmps 1)) (Cod.dec api_PartC (lget (entCs (entAt S0.tab 0))))))
def chain_CheckPart_lp {R : Type} (N : Nat) : Lp R := fun body S k => bif (Go.Sx.keyOf body).getD 0 == 4 then chain_CheckPart_L4.head.raw 0 S (fun S0 => chain_CheckPart_d4 N S0 k) else bif (Go.Sx.keyOf body).getD 0 == 13 then chain_CheckPart_L13.head.raw 0 S (fun S0 => chain_CheckPart_d13 N S0 k) else Option.none
theorem chain_CheckPart_l4_eq {R : Type} (N : Nat) (k : Exit → St → Option R) (n : Nat) : ∀ (v0 : Arr api_Use) (v1 : Arr api_Span) (v2 : Int) (v3 : Int) (v4 : api_Part), loopM E.Θ (chain_within_cal N) (chain_CheckPart_lp N) (noJn) 0 chain_CheckPart_L4 (bodyAt E 97 4) n (chain_CheckPart_h4 v0 v1 v2 v3 v4) k = chain_CheckPart_l4 N n v0 v1 v2 v3 v4 (fun q0 => k .ret (chain_CheckPart_x4_r q0)) (fun (_ : Unit) => k (.exit 0) (chain_CheckPart_x4_0 v0 v4)) := by
  induction n with
  | zero => intro v0 v1 v2 v3 v4; rfl
  | succ n ih =>
    intro v0 v1 v2 v3 v4
    refine Eq.trans (b := chain_CheckPart_b4 N (fun v0 v1 v2 v3 v4 => loopM E.Θ (chain_within_cal N) (chain_CheckPart_lp N) (noJn) 0 chain_CheckPart_L4 (bodyAt E 97 4) n (chain_CheckPart_h4 v0 v1 v2 v3 v4) k) v0 v1 v2 v3 v4 (fun q0 => k .ret (chain_CheckPart_x4_r q0)) (fun (_ : Unit) => k (.exit 0) (chain_CheckPart_x4_0 v0 v4))) (by kernel_rfl) ?_
    have h : (fun (v0 : Arr api_Use) (v1 : Arr api_Span) (v2 : Int) (v3 : Int) (v4 : api_Part) => loopM E.Θ (chain_within_cal N) (chain_CheckPart_lp N) (noJn) 0 chain_CheckPart_L4 (bodyAt E 97 4) n (chain_CheckPart_h4 v0 v1 v2 v3 v4) k) = (fun (v0 : Arr api_Use) (v1 : Arr api_Span) (v2 : Int) (v3 : Int) (v4 : api_Part) => chain_CheckPart_l4 N n v0 v1 v2 v3 v4 (fun q0 => k .ret (chain_CheckPart_x4_r q0)) (fun (_ : Unit) => k (.exit 0) (chain_CheckPart_x4_0 v0 v4))) := funext fun v0 => funext fun v1 => funext fun v2 => funext fun v3 => funext fun v4 => ih v0 v1 v2 v3 v4
    rw [h]
    rfl
theorem chain_CheckPart_l13_eq {R : Type} (N : Nat) (k : Exit → St → Option R) (n : Nat) : ∀ (v0 : Int) (v1 : Arr api_Use) (v2 : Int) (v3 : Int) (v4 : api_Part), loopM E.Θ (chain_within_cal N) (chain_CheckPart_lp N) (noJn) 0 chain_CheckPart_L13 (bodyAt E 97 13) n (chain_CheckPart_h13 v0 v1 v2 v3 v4) k = chain_CheckPart_l13 N n v0 v1 v2 v3 v4 (fun q0 => k .ret (chain_CheckPart_x13_r q0)) (fun (_ : Unit) => k (.exit 2) (chain_CheckPart_x13_2 )) := by
  induction n with
  | zero => intro v0 v1 v2 v3 v4; rfl
  | succ n ih =>
    intro v0 v1 v2 v3 v4
    refine Eq.trans (b := chain_CheckPart_b13 N (fun v0 v1 v2 v3 v4 => loopM E.Θ (chain_within_cal N) (chain_CheckPart_lp N) (noJn) 0 chain_CheckPart_L13 (bodyAt E 97 13) n (chain_CheckPart_h13 v0 v1 v2 v3 v4) k) v0 v1 v2 v3 v4 (fun q0 => k .ret (chain_CheckPart_x13_r q0)) (fun (_ : Unit) => k (.exit 2) (chain_CheckPart_x13_2 ))) (by kernel_rfl) ?_
    have h : (fun (v0 : Int) (v1 : Arr api_Use) (v2 : Int) (v3 : Int) (v4 : api_Part) => loopM E.Θ (chain_within_cal N) (chain_CheckPart_lp N) (noJn) 0 chain_CheckPart_L13 (bodyAt E 97 13) n (chain_CheckPart_h13 v0 v1 v2 v3 v4) k) = (fun (v0 : Int) (v1 : Arr api_Use) (v2 : Int) (v3 : Int) (v4 : api_Part) => chain_CheckPart_l13 N n v0 v1 v2 v3 v4 (fun q0 => k .ret (chain_CheckPart_x13_r q0)) (fun (_ : Unit) => k (.exit 2) (chain_CheckPart_x13_2 ))) := funext fun v0 => funext fun v1 => funext fun v2 => funext fun v3 => funext fun v4 => ih v0 v1 v2 v3 v4
    rw [h]
    rfl
theorem chain_CheckPart_k4 {R : Type} (N : Nat) : LpKey (R := R) E 97 0 (chain_CheckPart_lp N) 4 :=
  lpKey_of hE (chain_within_cal_ok N) (jn := noJn) chain_CheckPart_L4_ok [] kNil (by kernel_rfl) [] jNil (by kernel_rfl) N fun S k =>
    Eq.trans (b := chain_CheckPart_L4.head.raw 0 S (fun S0 => chain_CheckPart_d4 N S0 k)) (by kernel_rfl) (congrArg (chain_CheckPart_L4.head.raw 0 S) (funext fun S0 => Eq.trans (chain_CheckPart_l4_eq N k N (lstC api_UseC (lget S0.tmps 1)) (lstC api_SpanC (lget S0.tmps 34)) (toI (lget S0.tmps 35)) (toI (lget S0.tmps 36)) (Cod.dec api_PartC (lget (entCs (entAt S0.tab 0))))).symm (by kernel_rfl)))
theorem chain_CheckPart_k13 {R : Type} (N : Nat) : LpKey (R := R) E 97 0 (chain_CheckPart_lp N) 13 :=
  lpKey_of hE (chain_within_cal_ok N) (jn := noJn) chain_CheckPart_L13_ok [] kNil (by kernel_rfl) [] jNil (by kernel_rfl) N fun S k =>
    Eq.trans (b := chain_CheckPart_L13.head.raw 0 S (fun S0 => chain_CheckPart_d13 N S0 k)) (by kernel_rfl) (congrArg (chain_CheckPart_L13.head.raw 0 S) (funext fun S0 => Eq.trans (chain_CheckPart_l13_eq N k N (toI (lget S0.tmps 7)) (lstC api_UseC (lget S0.tmps 59)) (toI (lget S0.tmps 60)) (toI (lget S0.tmps 61)) (Cod.dec api_PartC (lget (entCs (entAt S0.tab 0))))).symm (by kernel_rfl)))
noncomputable def chain_CheckPart_go {R : Type} (N : Nat) (args : List SV) (T : Tab) (kf : SV × Tab → Option R) : Option R :=
  chain_CheckPart N (Cod.dec api_PartC (lget (toCs (lget args 0)))) (lstC api_UseC (lget args 1)) (fun q0 => kf (lget [.int .i64 q0] 0, []))
noncomputable def chain_CheckPart_cal {R : Type} (N : Nat) : Cal R := callM (chain_within_cal N) 97 0 chain_CheckPart_sp (chain_CheckPart_go N)
theorem chain_CheckPart_cal_ok {R : Type} (N : Nat) : CalOk E.P (chain_CheckPart_cal (R := R) N) :=
  callM_ok hE (chain_within_cal_ok N) (lp := chain_CheckPart_lp N) (jn := noJn) (keys := [4, 13]) (kCons (chain_CheckPart_k4 N) (kCons (chain_CheckPart_k13 N) kNil)) (by kernel_rfl) (js := []) jNil (by kernel_rfl) chain_CheckPart_sp_ok chain_CheckPart_rs_ok (fun args T kf => Eq.trans (chain_CheckPart_def N (Cod.dec api_PartC (lget (toCs (lget args 0)))) (lstC api_UseC (lget args 1)) (fun q0 => kf (lget [.int .i64 q0] 0, []))) (by kernel_rfl : chain_CheckPart_run N args T kf = fnM E (chain_within_cal N) (chain_CheckPart_lp N) (noJn) 97 (chain_CheckPart_sp.vs args) (chain_CheckPart_sp.tab T) 0 (resK chain_CheckPart_rs kf)))


def chain_grown_m {R : Type} (N : Nat) (a117 : api_Part) (a118 : api_Use) (k : api_Span → Option R) : Option R :=
  bif decide ((0 : Int) ≤ api_Use.Class a118) && decide (api_Use.Class a118 < (↑(Arr.n (api_Part.Rates a117)) : Int)) then
   k (api_Span.mk (w64 (api_Use.Turns a118 * api_Span.Low (Arr.f (api_Part.Rates a117) (Int.toNat (api_Use.Class a118))))) (w64 (api_Use.Turns a118 * api_Span.High (Arr.f (api_Part.Rates a117) (Int.toNat (api_Use.Class a118))))))
  else
   Option.none
noncomputable def chain_grown {R : Type} : Nat → api_Part → api_Use → (api_Span → Option R) → Option R := lock (@chain_grown_m R)
theorem chain_grown_def {R : Type} (N : Nat) (a117 : api_Part) (a118 : api_Use) (k : api_Span → Option R) : chain_grown N a117 a118 k = chain_grown_m N a117 a118 k := by unfold chain_grown; rw [lock_eq]
def chain_grown_sp : Sp := ⟨[rAgg api_PartC, rAgg api_UseC], []⟩
theorem chain_grown_sp_ok : chain_grown_sp.Ok := ⟨(allCons (rAgg_ok api_PartC_ok api_PartC_len) (allCons (rAgg_ok api_UseC_ok api_UseC_len) allNil)), eNil⟩
def chain_grown_rs : Sp := ⟨[rAgg api_SpanC], []⟩
theorem chain_grown_rs_ok : chain_grown_rs.Ok := ⟨(allCons (rAgg_ok api_SpanC_ok api_SpanC_len) allNil), eNil⟩
def chain_grown_run {R : Type} (N : Nat) (args : List SV) (T : Tab) (kf : SV × Tab → Option R) : Option R :=
  chain_grown_m N (Cod.dec api_PartC (lget (toCs (lget args 0)))) (Cod.dec api_UseC (lget (toCs (lget args 1)))) (fun q0 => kf (lget [.agg (Cod.enc api_SpanC q0)] 0, []))
def chain_grown_lp {R : Type} (N : Nat) : Lp R := fun body S k => Option.none
noncomputable def chain_grown_go {R : Type} (N : Nat) (args : List SV) (T : Tab) (kf : SV × Tab → Option R) : Option R :=
  chain_grown N (Cod.dec api_PartC (lget (toCs (lget args 0)))) (Cod.dec api_UseC (lget (toCs (lget args 1)))) (fun q0 => kf (lget [.agg (Cod.enc api_SpanC q0)] 0, []))
noncomputable def chain_grown_cal {R : Type} (N : Nat) : Cal R := callM (chain_CheckPart_cal N) 132 0 chain_grown_sp (chain_grown_go N)
theorem chain_grown_cal_ok {R : Type} (N : Nat) : CalOk E.P (chain_grown_cal (R := R) N) :=
  callM_ok hE (chain_CheckPart_cal_ok N) (lp := chain_grown_lp N) (jn := noJn) (keys := []) kNil (by kernel_rfl) (js := []) jNil (by kernel_rfl) chain_grown_sp_ok chain_grown_rs_ok (fun args T kf => Eq.trans (chain_grown_def N (Cod.dec api_PartC (lget (toCs (lget args 0)))) (Cod.dec api_UseC (lget (toCs (lget args 1)))) (fun q0 => kf (lget [.agg (Cod.enc api_SpanC q0)] 0, []))) (by kernel_rfl : chain_grown_run N args T kf = fnM E (chain_CheckPart_cal N) (chain_grown_lp N) (noJn) 132 (chain_grown_sp.vs args) (chain_grown_sp.tab T) 0 (resK chain_grown_rs kf)))


def chain_meet_m {R : Type} (N : Nat) (a120 : api_Span) (a121 : api_Span) (k : api_Span → Bool → Option R) : Option R :=
  k (api_Span.mk (if api_Span.Low a121 > api_Span.Low a120 then api_Span.Low a121 else api_Span.Low a120) (if api_Span.High a121 < api_Span.High a120 then api_Span.High a121 else api_Span.High a120)) (decide ((if api_Span.Low a121 > api_Span.Low a120 then api_Span.Low a121 else api_Span.Low a120) ≤ if api_Span.High a121 < api_Span.High a120 then api_Span.High a121 else api_Span.High a120))
noncomputable def chain_meet {R : Type} : Nat → api_Span → api_Span → (api_Span → Bool → Option R) → Option R := lock (@chain_meet_m R)
theorem chain_meet_def {R : Type} (N : Nat) (a120 : api_Span) (a121 : api_Span) (k : api_Span → Bool → Option R) : chain_meet N a120 a121 k = chain_meet_m N a120 a121 k := by unfold chain_meet; rw [lock_eq]
def chain_meet_sp : Sp := ⟨[rAgg api_SpanC, rAgg api_SpanC], []⟩
theorem chain_meet_sp_ok : chain_meet_sp.Ok := ⟨(allCons (rAgg_ok api_SpanC_ok api_SpanC_len) (allCons (rAgg_ok api_SpanC_ok api_SpanC_len) allNil)), eNil⟩
def chain_meet_rs : Sp := ⟨[rTup [rAgg api_SpanC, rBool]], []⟩
theorem chain_meet_rs_ok : chain_meet_rs.Ok := ⟨(allCons (rTup_ok (allCons (rAgg_ok api_SpanC_ok api_SpanC_len) (allCons rBool_ok allNil))) allNil), eNil⟩
def chain_meet_run {R : Type} (N : Nat) (args : List SV) (T : Tab) (kf : SV × Tab → Option R) : Option R :=
  chain_meet_m N (Cod.dec api_SpanC (lget (toCs (lget args 0)))) (Cod.dec api_SpanC (lget (toCs (lget args 1)))) (fun q0 q1 => kf (lget [.tup [.agg (Cod.enc api_SpanC q0), .bool q1]] 0, []))
def chain_meet_lp {R : Type} (N : Nat) : Lp R := fun body S k => Option.none
noncomputable def chain_meet_go {R : Type} (N : Nat) (args : List SV) (T : Tab) (kf : SV × Tab → Option R) : Option R :=
  chain_meet N (Cod.dec api_SpanC (lget (toCs (lget args 0)))) (Cod.dec api_SpanC (lget (toCs (lget args 1)))) (fun q0 q1 => kf (lget [.tup [.agg (Cod.enc api_SpanC q0), .bool q1]] 0, []))
noncomputable def chain_meet_cal {R : Type} (N : Nat) : Cal R := callM (chain_grown_cal N) 133 0 chain_meet_sp (chain_meet_go N)
theorem chain_meet_cal_ok {R : Type} (N : Nat) : CalOk E.P (chain_meet_cal (R := R) N) :=
  callM_ok hE (chain_grown_cal_ok N) (lp := chain_meet_lp N) (jn := noJn) (keys := []) kNil (by kernel_rfl) (js := []) jNil (by kernel_rfl) chain_meet_sp_ok chain_meet_rs_ok (fun args T kf => Eq.trans (chain_meet_def N (Cod.dec api_SpanC (lget (toCs (lget args 0)))) (Cod.dec api_SpanC (lget (toCs (lget args 1)))) (fun q0 q1 => kf (lget [.tup [.agg (Cod.enc api_SpanC q0), .bool q1]] 0, []))) (by kernel_rfl : chain_meet_run N args T kf = fnM E (chain_grown_cal N) (chain_meet_lp N) (noJn) 133 (chain_meet_sp.vs args) (chain_meet_sp.tab T) 0 (resK chain_meet_rs kf)))

def chain_forth_L3 : LoopSp := ⟨⟨[1, 2, 4, 6, 11, 12, 13], ⟨(dr 1 ((rSl api_UseC) :: (rPtr 0 0) :: (dr 1 ((rRow 1) :: (dr 1 ((rPtr 2 0) :: (dr 4 ((rSl api_UseC) :: (rInt .i64) :: (rInt .i64) :: (dr 39 []))))))))), [(0, eBlkC api_PartC), (1, eRow api_SpanC), (2, eBlkC api_SpanC)]⟩, 3⟩, [(Option.none, ⟨[4, 5], ⟨(dr 4 ((rRow 0) :: (rInt .i64) :: (dr 47 []))), [(0, eRow api_SpanC)]⟩, 1⟩), (some 0, ⟨[1, 4], ⟨(dr 1 ((rSl api_UseC) :: (dr 2 ((rRow 0) :: (dr 48 []))))), [(0, eRow api_SpanC)]⟩, 1⟩)]⟩
theorem chain_forth_L3_ok : chain_forth_L3.Ok := ⟨⟨(drCons 1 (allCons (rSl_ok api_UseC_ok) (allCons (rPtr_ok 0 0) (drCons 1 (allCons (rRow_ok 1) (drCons 1 (allCons (rPtr_ok 2 0) (drCons 4 (allCons (rSl_ok api_UseC_ok) (allCons (rInt_ok .i64) (allCons (rInt_ok .i64) (drCons 39 allNil)))))))))))), (eCons (eBlkC_ok api_PartC_ok api_PartC_len) (eCons (eRow_ok api_SpanC_ok) (eCons (eBlkC_ok api_SpanC_ok api_SpanC_len) eNil)))⟩, (xCons ⟨(drCons 4 (allCons (rRow_ok 0) (allCons (rInt_ok .i64) (drCons 47 allNil)))), (eCons (eRow_ok api_SpanC_ok) eNil)⟩ (xCons ⟨(drCons 1 (allCons (rSl_ok api_UseC_ok) (drCons 2 (allCons (rRow_ok 0) (drCons 48 allNil))))), (eCons (eRow_ok api_SpanC_ok) eNil)⟩ xNil))⟩
def chain_forth_h3 (v109 : Arr api_Use) (v110 : Arr api_Use) (v111 : Int) (v112 : Int) (v113 : api_Part) (v114 : Bool) (v115 : Arr api_Span) (v116 : api_Span) : St := ⟨(un 1 ((slC api_UseC v109) :: (.ptr 0 0) :: (un 1 ((.row 1) :: (un 1 ((.ptr 2 0) :: (un 4 ((slC api_UseC v110) :: (.int .i64 v111) :: (.int .i64 v112) :: (un 39 []))))))))), [(0, .blk (Cod.enc api_PartC v113)), (1, rowE api_SpanC v114 v115), (2, .blk (Cod.enc api_SpanC v116))], 3⟩
def chain_forth_x3_r (q0 : Int) (q1 : Bool) (q2 : Arr api_Span) : St := ⟨(un 4 ((.row 0) :: (.int .i64 q0) :: (un 47 []))), [(0, rowE api_SpanC q1 q2)], 1⟩
def chain_forth_x3_0 (v109 : Arr api_Use) (q1 : Bool) (q2 : Arr api_Span) : St := ⟨(un 1 ((slC api_UseC v109) :: (un 2 ((.row 0) :: (un 48 []))))), [(0, rowE api_SpanC q1 q2)], 1⟩
def chain_forth_b3 {R : Type} (N : Nat) (rc : Arr api_Use → Arr api_Use → Int → Int → api_Part → Bool → Arr api_Span → api_Span → Option R) (v109 : Arr api_Use) (v110 : Arr api_Use) (v111 : Int) (v112 : Int) (v113 : api_Part) (v114 : Bool) (v115 : Arr api_Span) (v116 : api_Span) (kr : Int → Bool → Arr api_Span → Option R) (k0 : Bool → Arr api_Span → Option R) : Option R :=
  bif decide (v112 < v111) then
   bif decide ((0 : Int) ≤ v112) && decide (v112 < (↑(Arr.n v110) : Int)) then
    chain_grown N v113 (Arr.f v110 (Int.toNat v112)) (fun r119 =>
    bif api_Use.Measured (Arr.f v110 (Int.toNat v112)) then
     chain_meet N (api_Span.mk (w64 (api_Span.Low v116 + api_Span.Low r119)) (w64 (api_Span.High v116 + api_Span.High r119))) (api_Use.Says (Arr.f v110 (Int.toNat v112))) (fun r122 r123 =>
     bif !r123 then
      kr v112 v114 v115
     else
      bif room (Arr.n v115 + (1 : Nat)) then
       rc v109 v110 v111 (w64 (v112 + (1 : Int))) v113 false (lst api_SpanC (Arr.n v115 + (1 : Nat)) (catC (Arr.n v115) (Cod.cell api_SpanC (Arr.f v115)) (litC [SV.int IntKind.i64 (0 : Int), SV.int IntKind.i64 (0 : Int)] [[SV.int IntKind.i64 (api_Span.Low r122), SV.int IntKind.i64 (api_Span.High r122)]]))) r122
      else
       Option.none)
    else
     bif room (Arr.n v115 + (1 : Nat)) then
      rc v109 v110 v111 (w64 (v112 + (1 : Int))) v113 false (lst api_SpanC (Arr.n v115 + (1 : Nat)) (catC (Arr.n v115) (Cod.cell api_SpanC (Arr.f v115)) (litC [SV.int IntKind.i64 (0 : Int), SV.int IntKind.i64 (0 : Int)] [[SV.int IntKind.i64 (w64 (api_Span.Low v116 + api_Span.Low r119)), SV.int IntKind.i64 (w64 (api_Span.High v116 + api_Span.High r119))]]))) (api_Span.mk (w64 (api_Span.Low v116 + api_Span.Low r119)) (w64 (api_Span.High v116 + api_Span.High r119)))
     else
      Option.none)
   else
    Option.none
  else
   k0 v114 v115
def chain_forth_l3 {R : Type} (N : Nat) : Nat → Arr api_Use → Arr api_Use → Int → Int → api_Part → Bool → Arr api_Span → api_Span → (Int → Bool → Arr api_Span → Option R) → (Bool → Arr api_Span → Option R) → Option R
  | 0, _, _, _, _, _, _, _, _, _, _ => Option.none
  | n + 1, v109, v110, v111, v112, v113, v114, v115, v116, kr, k0 => chain_forth_b3 N (fun v109 v110 v111 v112 v113 v114 v115 v116 => chain_forth_l3 N n v109 v110 v111 v112 v113 v114 v115 v116 kr k0) v109 v110 v111 v112 v113 v114 v115 v116 kr k0


def chain_forth_m {R : Type} (N : Nat) (a107 : api_Part) (a108 : Arr api_Use) (k : Int → Bool → Arr api_Span → Option R) : Option R :=
  chain_forth_l3 N N a108 a108 ((↑(Arr.n a108) : Int)) (0 : Int) a107 true (lst api_SpanC (0 : Nat) (zeroC [SV.int IntKind.i64 (0 : Int), SV.int IntKind.i64 (0 : Int)])) (api_Span.mk (0 : Int) (0 : Int)) (fun r124 r125 r126 =>
   k r124 r125 r126) (fun r127 r128 =>
   k ((↑(Arr.n a108) : Int)) r127 r128)
noncomputable def chain_forth {R : Type} : Nat → api_Part → Arr api_Use → (Int → Bool → Arr api_Span → Option R) → Option R := lock (@chain_forth_m R)
theorem chain_forth_def {R : Type} (N : Nat) (a107 : api_Part) (a108 : Arr api_Use) (k : Int → Bool → Arr api_Span → Option R) : chain_forth N a107 a108 k = chain_forth_m N a107 a108 k := by unfold chain_forth; rw [lock_eq]
def chain_forth_sp : Sp := ⟨[rAgg api_PartC, rSl api_UseC], []⟩
theorem chain_forth_sp_ok : chain_forth_sp.Ok := ⟨(allCons (rAgg_ok api_PartC_ok api_PartC_len) (allCons (rSl_ok api_UseC_ok) allNil)), eNil⟩
def chain_forth_rs : Sp := ⟨[rTup [rRow 0, rInt .i64]], [(0, eRow api_SpanC)]⟩
theorem chain_forth_rs_ok : chain_forth_rs.Ok := ⟨(allCons (rTup_ok (allCons (rRow_ok 0) (allCons (rInt_ok .i64) allNil))) allNil), (eCons (eRow_ok api_SpanC_ok) eNil)⟩
def chain_forth_run {R : Type} (N : Nat) (args : List SV) (T : Tab) (kf : SV × Tab → Option R) : Option R :=
  chain_forth_m N (Cod.dec api_PartC (lget (toCs (lget args 0)))) (lstC api_UseC (lget args 1)) (fun q0 q1 q2 => kf (lget [.tup [.row 0, .int .i64 q0]] 0, [(0, rowE api_SpanC q1 q2)]))
def chain_forth_d3 {R : Type} (N : Nat) (S0 : St) (k : Exit → St → Option R) : Option R :=
  chain_forth_l3 N N (lstC api_UseC (lget S0.tmps 1)) (lstC api_UseC (lget S0.tmps 11)) (toI (lget S0.tmps 12)) (toI (lget S0.tmps 13)) (Cod.dec api_PartC (lget (entCs (entAt S0.tab 0)))) (entNl (entAt S0.tab 1)) (lst api_SpanC (entN (entAt S0.tab 1)) (entC (entAt S0.tab 1))) (Cod.dec api_SpanC (lget (entCs (entAt S0.tab 2)))) (fun q0 q1 q2 => k .ret (chain_forth_x3_r q0 q1 q2)) (fun q1 q2 => k (.exit 0) (chain_forth_x3_0 (lstC api_UseC (lget S0.tmps 1)) q1 q2))
def chain_forth_lp {R : Type} (N : Nat) : Lp R := fun body S k => bif (Go.Sx.keyOf body).getD 0 == 3 then chain_forth_L3.head.raw 0 S (fun S0 => chain_forth_d3 N S0 k) else Option.none
theorem chain_forth_l3_eq {R : Type} (N : Nat) (k : Exit → St → Option R) (n : Nat) : ∀ (v0 : Arr api_Use) (v1 : Arr api_Use) (v2 : Int) (v3 : Int) (v4 : api_Part) (v5 : Bool) (v6 : Arr api_Span) (v7 : api_Span), loopM E.Θ (chain_meet_cal N) (chain_forth_lp N) (noJn) 0 chain_forth_L3 (bodyAt E 98 3) n (chain_forth_h3 v0 v1 v2 v3 v4 v5 v6 v7) k = chain_forth_l3 N n v0 v1 v2 v3 v4 v5 v6 v7 (fun q0 q1 q2 => k .ret (chain_forth_x3_r q0 q1 q2)) (fun q1 q2 => k (.exit 0) (chain_forth_x3_0 v0 q1 q2)) := by
  induction n with
  | zero => intro v0 v1 v2 v3 v4 v5 v6 v7; rfl
  | succ n ih =>
    intro v0 v1 v2 v3 v4 v5 v6 v7
    refine Eq.trans (b := chain_forth_b3 N (fun v0 v1 v2 v3 v4 v5 v6 v7 => loopM E.Θ (chain_meet_cal N) (chain_forth_lp N) (noJn) 0 chain_forth_L3 (bodyAt E 98 3) n (chain_forth_h3 v0 v1 v2 v3 v4 v5 v6 v7) k) v0 v1 v2 v3 v4 v5 v6 v7 (fun q0 q1 q2 => k .ret (chain_forth_x3_r q0 q1 q2)) (fun q1 q2 => k (.exit 0) (chain_forth_x3_0 v0 q1 q2))) (by kernel_rfl) ?_
    have h : (fun (v0 : Arr api_Use) (v1 : Arr api_Use) (v2 : Int) (v3 : Int) (v4 : api_Part) (v5 : Bool) (v6 : Arr api_Span) (v7 : api_Span) => loopM E.Θ (chain_meet_cal N) (chain_forth_lp N) (noJn) 0 chain_forth_L3 (bodyAt E 98 3) n (chain_forth_h3 v0 v1 v2 v3 v4 v5 v6 v7) k) = (fun (v0 : Arr api_Use) (v1 : Arr api_Use) (v2 : Int) (v3 : Int) (v4 : api_Part) (v5 : Bool) (v6 : Arr api_Span) (v7 : api_Span) => chain_forth_l3 N n v0 v1 v2 v3 v4 v5 v6 v7 (fun q0 q1 q2 => k .ret (chain_forth_x3_r q0 q1 q2)) (fun q1 q2 => k (.exit 0) (chain_forth_x3_0 v0 q1 q2))) := funext fun v0 => funext fun v1 => funext fun v2 => funext fun v3 => funext fun v4 => funext fun v5 => funext fun v6 => funext fun v7 => ih v0 v1 v2 v3 v4 v5 v6 v7
    rw [h]
    rfl
theorem chain_forth_k3 {R : Type} (N : Nat) : LpKey (R := R) E 98 0 (chain_forth_lp N) 3 :=
  lpKey_of hE (chain_meet_cal_ok N) (jn := noJn) chain_forth_L3_ok [] kNil (by kernel_rfl) [] jNil (by kernel_rfl) N fun S k =>
    Eq.trans (b := chain_forth_L3.head.raw 0 S (fun S0 => chain_forth_d3 N S0 k)) (by kernel_rfl) (congrArg (chain_forth_L3.head.raw 0 S) (funext fun S0 => Eq.trans (chain_forth_l3_eq N k N (lstC api_UseC (lget S0.tmps 1)) (lstC api_UseC (lget S0.tmps 11)) (toI (lget S0.tmps 12)) (toI (lget S0.tmps 13)) (Cod.dec api_PartC (lget (entCs (entAt S0.tab 0)))) (entNl (entAt S0.tab 1)) (lst api_SpanC (entN (entAt S0.tab 1)) (entC (entAt S0.tab 1))) (Cod.dec api_SpanC (lget (entCs (entAt S0.tab 2))))).symm (by kernel_rfl)))
noncomputable def chain_forth_go {R : Type} (N : Nat) (args : List SV) (T : Tab) (kf : SV × Tab → Option R) : Option R :=
  chain_forth N (Cod.dec api_PartC (lget (toCs (lget args 0)))) (lstC api_UseC (lget args 1)) (fun q0 q1 q2 => kf (lget [.tup [.row 0, .int .i64 q0]] 0, [(0, rowE api_SpanC q1 q2)]))
noncomputable def chain_forth_cal {R : Type} (N : Nat) : Cal R := callM (chain_meet_cal N) 98 0 chain_forth_sp (chain_forth_go N)
theorem chain_forth_cal_ok {R : Type} (N : Nat) : CalOk E.P (chain_forth_cal (R := R) N) :=
  callM_ok hE (chain_meet_cal_ok N) (lp := chain_forth_lp N) (jn := noJn) (keys := [3]) (kCons (chain_forth_k3 N) kNil) (by kernel_rfl) (js := []) jNil (by kernel_rfl) chain_forth_sp_ok chain_forth_rs_ok (fun args T kf => Eq.trans (chain_forth_def N (Cod.dec api_PartC (lget (toCs (lget args 0)))) (lstC api_UseC (lget args 1)) (fun q0 q1 q2 => kf (lget [.tup [.row 0, .int .i64 q0]] 0, [(0, rowE api_SpanC q1 q2)]))) (by kernel_rfl : chain_forth_run N args T kf = fnM E (chain_meet_cal N) (chain_forth_lp N) (noJn) 98 (chain_forth_sp.vs args) (chain_forth_sp.tab T) 0 (resK chain_forth_rs kf)))


def chain_Refuted_m {R : Type} (N : Nat) (a80 : api_Part) (a81 : Arr api_Use) (k : Int → Bool → Int → Option R) : Option R :=
  chain_CheckPart N a80 a81 (fun r106 =>
  bif r106 != (0 : Int) then
   k (0 : Int) false r106
  else
   chain_forth N a80 a81 (fun r129 r130 r131 =>
   bif decide (r129 < (↑(Arr.n a81) : Int)) then
    k r129 true (0 : Int)
   else
    k (0 : Int) false (0 : Int)))
noncomputable def chain_Refuted {R : Type} : Nat → api_Part → Arr api_Use → (Int → Bool → Int → Option R) → Option R := lock (@chain_Refuted_m R)
theorem chain_Refuted_def {R : Type} (N : Nat) (a80 : api_Part) (a81 : Arr api_Use) (k : Int → Bool → Int → Option R) : chain_Refuted N a80 a81 k = chain_Refuted_m N a80 a81 k := by unfold chain_Refuted; rw [lock_eq]
def chain_Refuted_sp : Sp := ⟨[rAgg api_PartC, rSl api_UseC], []⟩
theorem chain_Refuted_sp_ok : chain_Refuted_sp.Ok := ⟨(allCons (rAgg_ok api_PartC_ok api_PartC_len) (allCons (rSl_ok api_UseC_ok) allNil)), eNil⟩
def chain_Refuted_rs : Sp := ⟨[rTup [rInt .i64, rBool, rInt .i64]], []⟩
theorem chain_Refuted_rs_ok : chain_Refuted_rs.Ok := ⟨(allCons (rTup_ok (allCons (rInt_ok .i64) (allCons rBool_ok (allCons (rInt_ok .i64) allNil)))) allNil), eNil⟩
def chain_Refuted_run {R : Type} (N : Nat) (args : List SV) (T : Tab) (kf : SV × Tab → Option R) : Option R :=
  chain_Refuted_m N (Cod.dec api_PartC (lget (toCs (lget args 0)))) (lstC api_UseC (lget args 1)) (fun q0 q1 q2 => kf (lget [.tup [.int .i64 q0, .bool q1, .int .i64 q2]] 0, []))
def chain_Refuted_lp {R : Type} (N : Nat) : Lp R := fun body S k => Option.none
noncomputable def chain_Refuted_go {R : Type} (N : Nat) (args : List SV) (T : Tab) (kf : SV × Tab → Option R) : Option R :=
  chain_Refuted N (Cod.dec api_PartC (lget (toCs (lget args 0)))) (lstC api_UseC (lget args 1)) (fun q0 q1 q2 => kf (lget [.tup [.int .i64 q0, .bool q1, .int .i64 q2]] 0, []))
noncomputable def chain_Refuted_cal {R : Type} (N : Nat) : Cal R := callM (chain_forth_cal N) 44 0 chain_Refuted_sp (chain_Refuted_go N)
theorem chain_Refuted_cal_ok {R : Type} (N : Nat) : CalOk E.P (chain_Refuted_cal (R := R) N) :=
  callM_ok hE (chain_forth_cal_ok N) (lp := chain_Refuted_lp N) (jn := noJn) (keys := []) kNil (by kernel_rfl) (js := []) jNil (by kernel_rfl) chain_Refuted_sp_ok chain_Refuted_rs_ok (fun args T kf => Eq.trans (chain_Refuted_def N (Cod.dec api_PartC (lget (toCs (lget args 0)))) (lstC api_UseC (lget args 1)) (fun q0 q1 q2 => kf (lget [.tup [.int .i64 q0, .bool q1, .int .i64 q2]] 0, []))) (by kernel_rfl : chain_Refuted_run N args T kf = fnM E (chain_forth_cal N) (chain_Refuted_lp N) (noJn) 44 (chain_Refuted_sp.vs args) (chain_Refuted_sp.tab T) 0 (resK chain_Refuted_rs kf)))

def chain_worn_L5 : LoopSp := ⟨⟨[1, 2, 6, 8], ⟨(dr 1 ((rSl api_UseC) :: (rPtr 0 0) :: (dr 3 ((rRow 1) :: (dr 1 ((rInt .i64) :: (dr 54 []))))))), [(0, eBlkC api_PartC), (1, eRow api_SpanC)]⟩, 2⟩, [(some 0, ⟨[6], ⟨(dr 6 ((rRow 0) :: (dr 56 []))), [(0, eRow api_SpanC)]⟩, 1⟩)]⟩
theorem chain_worn_L5_ok : chain_worn_L5.Ok := ⟨⟨(drCons 1 (allCons (rSl_ok api_UseC_ok) (allCons (rPtr_ok 0 0) (drCons 3 (allCons (rRow_ok 1) (drCons 1 (allCons (rInt_ok .i64) (drCons 54 allNil)))))))), (eCons (eBlkC_ok api_PartC_ok api_PartC_len) (eCons (eRow_ok api_SpanC_ok) eNil))⟩, (xCons ⟨(drCons 6 (allCons (rRow_ok 0) (drCons 56 allNil))), (eCons (eRow_ok api_SpanC_ok) eNil)⟩ xNil)⟩
def chain_worn_h5 (v140 : Arr api_Use) (v141 : Int) (v142 : api_Part) (v143 : Bool) (v144 : Arr api_Span) : St := ⟨(un 1 ((slC api_UseC v140) :: (.ptr 0 0) :: (un 3 ((.row 1) :: (un 1 ((.int .i64 v141) :: (un 54 []))))))), [(0, .blk (Cod.enc api_PartC v142)), (1, rowE api_SpanC v143 v144)], 2⟩
def chain_worn_x5_0 (v143 : Bool) (q1 : Arr api_Span) : St := ⟨(un 6 ((.row 0) :: (un 56 []))), [(0, rowE api_SpanC v143 q1)], 1⟩
def chain_worn_b5 {R : Type} (N : Nat) (rc : Arr api_Use → Int → api_Part → Bool → Arr api_Span → Option R) (v140 : Arr api_Use) (v141 : Int) (v142 : api_Part) (v143 : Bool) (v144 : Arr api_Span) (k0 : Arr api_Span → Option R) : Option R :=
  bif decide (v141 ≥ (0 : Int)) then
   bif decide ((0 : Int) ≤ w64 (v141 + (1 : Int))) && decide (w64 (v141 + (1 : Int)) < (↑(Arr.n v140) : Int)) then
    chain_grown N v142 (Arr.f v140 (Int.toNat (w64 (v141 + (1 : Int))))) (fun r145 =>
    bif decide ((0 : Int) ≤ w64 (v141 + (1 : Int))) && decide (w64 (v141 + (1 : Int)) < (↑(Arr.n v144) : Int)) then
     bif decide ((0 : Int) ≤ v141) && decide (v141 < (↑(Arr.n v144) : Int)) then
      chain_meet N (Arr.f v144 (Int.toNat v141)) (api_Span.mk (w64 (api_Span.Low (Arr.f v144 (Int.toNat (w64 (v141 + (1 : Int))))) - api_Span.High r145)) (w64 (api_Span.High (Arr.f v144 (Int.toNat (w64 (v141 + (1 : Int))))) - api_Span.Low r145))) (fun r146 r147 =>
      bif decide ((0 : Int) ≤ v141) && decide (v141 < (↑(Arr.n v144) : Int)) then
       rc v140 (w64 (v141 - (1 : Int))) v142 v143 (lst api_SpanC (Arr.n v144) (setCs (Int.toNat v141) (0 : Nat) (Cod.cell api_SpanC (Arr.f v144)) [SV.int IntKind.i64 (api_Span.Low r146), SV.int IntKind.i64 (api_Span.High r146)]))
      else
       Option.none)
     else
      Option.none
    else
     Option.none)
   else
    Option.none
  else
   k0 v144
def chain_worn_l5 {R : Type} (N : Nat) : Nat → Arr api_Use → Int → api_Part → Bool → Arr api_Span → (Arr api_Span → Option R) → Option R
  | 0, _, _, _, _, _, _ => Option.none
  | n + 1, v140, v141, v142, v143, v144, k0 => chain_worn_b5 N (fun v140 v141 v142 v143 v144 => chain_worn_l5 N n v140 v141 v142 v143 v144 k0) v140 v141 v142 v143 v144 k0


def chain_worn_m {R : Type} (N : Nat) (a135 : api_Part) (a136 : Arr api_Use) (k : Bool → Bool → Arr api_Span → Option R) : Option R :=
  chain_forth N a135 a136 (fun r137 r138 r139 =>
  bif decide (r137 < (↑(Arr.n a136) : Int)) then
   k false true (lst api_SpanC (0 : Nat) (zeroC [SV.int IntKind.i64 (0 : Int), SV.int IntKind.i64 (0 : Int)]))
  else
   chain_worn_l5 N N a136 (w64 ((↑(Arr.n a136) : Int) - (2 : Int))) a135 r138 r139 (fun r148 =>
    k true r138 r148))
noncomputable def chain_worn {R : Type} : Nat → api_Part → Arr api_Use → (Bool → Bool → Arr api_Span → Option R) → Option R := lock (@chain_worn_m R)
theorem chain_worn_def {R : Type} (N : Nat) (a135 : api_Part) (a136 : Arr api_Use) (k : Bool → Bool → Arr api_Span → Option R) : chain_worn N a135 a136 k = chain_worn_m N a135 a136 k := by unfold chain_worn; rw [lock_eq]
def chain_worn_sp : Sp := ⟨[rAgg api_PartC, rSl api_UseC], []⟩
theorem chain_worn_sp_ok : chain_worn_sp.Ok := ⟨(allCons (rAgg_ok api_PartC_ok api_PartC_len) (allCons (rSl_ok api_UseC_ok) allNil)), eNil⟩
def chain_worn_rs : Sp := ⟨[rTup [rRow 0, rBool]], [(0, eRow api_SpanC)]⟩
theorem chain_worn_rs_ok : chain_worn_rs.Ok := ⟨(allCons (rTup_ok (allCons (rRow_ok 0) (allCons rBool_ok allNil))) allNil), (eCons (eRow_ok api_SpanC_ok) eNil)⟩
def chain_worn_run {R : Type} (N : Nat) (args : List SV) (T : Tab) (kf : SV × Tab → Option R) : Option R :=
  chain_worn_m N (Cod.dec api_PartC (lget (toCs (lget args 0)))) (lstC api_UseC (lget args 1)) (fun q0 q1 q2 => kf (lget [.tup [.row 0, .bool q0]] 0, [(0, rowE api_SpanC q1 q2)]))
def chain_worn_d5 {R : Type} (N : Nat) (S0 : St) (k : Exit → St → Option R) : Option R :=
  chain_worn_l5 N N (lstC api_UseC (lget S0.tmps 1)) (toI (lget S0.tmps 8)) (Cod.dec api_PartC (lget (entCs (entAt S0.tab 0)))) (entNl (entAt S0.tab 1)) (lst api_SpanC (entN (entAt S0.tab 1)) (entC (entAt S0.tab 1))) (fun q1 => k (.exit 0) (chain_worn_x5_0 (entNl (entAt S0.tab 1)) q1))
def chain_worn_lp {R : Type} (N : Nat) : Lp R := fun body S k => bif (Go.Sx.keyOf body).getD 0 == 5 then chain_worn_L5.head.raw 0 S (fun S0 => chain_worn_d5 N S0 k) else Option.none
theorem chain_worn_l5_eq {R : Type} (N : Nat) (k : Exit → St → Option R) (n : Nat) : ∀ (v0 : Arr api_Use) (v1 : Int) (v2 : api_Part) (v3 : Bool) (v4 : Arr api_Span), loopM E.Θ (chain_Refuted_cal N) (chain_worn_lp N) (noJn) 0 chain_worn_L5 (bodyAt E 99 5) n (chain_worn_h5 v0 v1 v2 v3 v4) k = chain_worn_l5 N n v0 v1 v2 v3 v4 (fun q1 => k (.exit 0) (chain_worn_x5_0 v3 q1)) := by
  induction n with
  | zero => intro v0 v1 v2 v3 v4; rfl
  | succ n ih =>
    intro v0 v1 v2 v3 v4
    refine Eq.trans (b := chain_worn_b5 N (fun v0 v1 v2 v3 v4 => loopM E.Θ (chain_Refuted_cal N) (chain_worn_lp N) (noJn) 0 chain_worn_L5 (bodyAt E 99 5) n (chain_worn_h5 v0 v1 v2 v3 v4) k) v0 v1 v2 v3 v4 (fun q1 => k (.exit 0) (chain_worn_x5_0 v3 q1))) (by kernel_rfl) ?_
    have h : (fun (v0 : Arr api_Use) (v1 : Int) (v2 : api_Part) (v3 : Bool) (v4 : Arr api_Span) => loopM E.Θ (chain_Refuted_cal N) (chain_worn_lp N) (noJn) 0 chain_worn_L5 (bodyAt E 99 5) n (chain_worn_h5 v0 v1 v2 v3 v4) k) = (fun (v0 : Arr api_Use) (v1 : Int) (v2 : api_Part) (v3 : Bool) (v4 : Arr api_Span) => chain_worn_l5 N n v0 v1 v2 v3 v4 (fun q1 => k (.exit 0) (chain_worn_x5_0 v3 q1))) := funext fun v0 => funext fun v1 => funext fun v2 => funext fun v3 => funext fun v4 => ih v0 v1 v2 v3 v4
    rw [h]
    rfl
theorem chain_worn_k5 {R : Type} (N : Nat) : LpKey (R := R) E 99 0 (chain_worn_lp N) 5 :=
  lpKey_of hE (chain_Refuted_cal_ok N) (jn := noJn) chain_worn_L5_ok [] kNil (by kernel_rfl) [] jNil (by kernel_rfl) N fun S k =>
    Eq.trans (b := chain_worn_L5.head.raw 0 S (fun S0 => chain_worn_d5 N S0 k)) (by kernel_rfl) (congrArg (chain_worn_L5.head.raw 0 S) (funext fun S0 => Eq.trans (chain_worn_l5_eq N k N (lstC api_UseC (lget S0.tmps 1)) (toI (lget S0.tmps 8)) (Cod.dec api_PartC (lget (entCs (entAt S0.tab 0)))) (entNl (entAt S0.tab 1)) (lst api_SpanC (entN (entAt S0.tab 1)) (entC (entAt S0.tab 1)))).symm (by kernel_rfl)))
noncomputable def chain_worn_go {R : Type} (N : Nat) (args : List SV) (T : Tab) (kf : SV × Tab → Option R) : Option R :=
  chain_worn N (Cod.dec api_PartC (lget (toCs (lget args 0)))) (lstC api_UseC (lget args 1)) (fun q0 q1 q2 => kf (lget [.tup [.row 0, .bool q0]] 0, [(0, rowE api_SpanC q1 q2)]))
noncomputable def chain_worn_cal {R : Type} (N : Nat) : Cal R := callM (chain_Refuted_cal N) 99 0 chain_worn_sp (chain_worn_go N)
theorem chain_worn_cal_ok {R : Type} (N : Nat) : CalOk E.P (chain_worn_cal (R := R) N) :=
  callM_ok hE (chain_Refuted_cal_ok N) (lp := chain_worn_lp N) (jn := noJn) (keys := [5]) (kCons (chain_worn_k5 N) kNil) (by kernel_rfl) (js := []) jNil (by kernel_rfl) chain_worn_sp_ok chain_worn_rs_ok (fun args T kf => Eq.trans (chain_worn_def N (Cod.dec api_PartC (lget (toCs (lget args 0)))) (lstC api_UseC (lget args 1)) (fun q0 q1 q2 => kf (lget [.tup [.row 0, .bool q0]] 0, [(0, rowE api_SpanC q1 q2)]))) (by kernel_rfl : chain_worn_run N args T kf = fnM E (chain_Refuted_cal N) (chain_worn_lp N) (noJn) 99 (chain_worn_sp.vs args) (chain_worn_sp.tab T) 0 (resK chain_worn_rs kf)))


def chain_Wear_m {R : Type} (N : Nat) (a132 : api_Part) (a133 : Arr api_Use) (k : Int → Bool → Arr api_Span → Option R) : Option R :=
  chain_CheckPart N a132 a133 (fun r134 =>
  bif r134 != (0 : Int) then
   k r134 true (lst api_SpanC (0 : Nat) (zeroC [SV.int IntKind.i64 (0 : Int), SV.int IntKind.i64 (0 : Int)]))
  else
   chain_worn N a132 a133 (fun r149 r150 r151 =>
   bif !r149 then
    k (3 : Int) true (lst api_SpanC (0 : Nat) (zeroC [SV.int IntKind.i64 (0 : Int), SV.int IntKind.i64 (0 : Int)]))
   else
    k (0 : Int) r150 r151))
noncomputable def chain_Wear {R : Type} : Nat → api_Part → Arr api_Use → (Int → Bool → Arr api_Span → Option R) → Option R := lock (@chain_Wear_m R)
theorem chain_Wear_def {R : Type} (N : Nat) (a132 : api_Part) (a133 : Arr api_Use) (k : Int → Bool → Arr api_Span → Option R) : chain_Wear N a132 a133 k = chain_Wear_m N a132 a133 k := by unfold chain_Wear; rw [lock_eq]
def chain_Wear_sp : Sp := ⟨[rAgg api_PartC, rSl api_UseC], []⟩
theorem chain_Wear_sp_ok : chain_Wear_sp.Ok := ⟨(allCons (rAgg_ok api_PartC_ok api_PartC_len) (allCons (rSl_ok api_UseC_ok) allNil)), eNil⟩
def chain_Wear_rs : Sp := ⟨[rTup [rRow 0, rInt .i64]], [(0, eRow api_SpanC)]⟩
theorem chain_Wear_rs_ok : chain_Wear_rs.Ok := ⟨(allCons (rTup_ok (allCons (rRow_ok 0) (allCons (rInt_ok .i64) allNil))) allNil), (eCons (eRow_ok api_SpanC_ok) eNil)⟩
def chain_Wear_run {R : Type} (N : Nat) (args : List SV) (T : Tab) (kf : SV × Tab → Option R) : Option R :=
  chain_Wear_m N (Cod.dec api_PartC (lget (toCs (lget args 0)))) (lstC api_UseC (lget args 1)) (fun q0 q1 q2 => kf (lget [.tup [.row 0, .int .i64 q0]] 0, [(0, rowE api_SpanC q1 q2)]))
def chain_Wear_lp {R : Type} (N : Nat) : Lp R := fun body S k => Option.none
noncomputable def chain_Wear_go {R : Type} (N : Nat) (args : List SV) (T : Tab) (kf : SV × Tab → Option R) : Option R :=
  chain_Wear N (Cod.dec api_PartC (lget (toCs (lget args 0)))) (lstC api_UseC (lget args 1)) (fun q0 q1 q2 => kf (lget [.tup [.row 0, .int .i64 q0]] 0, [(0, rowE api_SpanC q1 q2)]))
noncomputable def chain_Wear_cal {R : Type} (N : Nat) : Cal R := callM (chain_worn_cal N) 45 0 chain_Wear_sp (chain_Wear_go N)
theorem chain_Wear_cal_ok {R : Type} (N : Nat) : CalOk E.P (chain_Wear_cal (R := R) N) :=
  callM_ok hE (chain_worn_cal_ok N) (lp := chain_Wear_lp N) (jn := noJn) (keys := []) kNil (by kernel_rfl) (js := []) jNil (by kernel_rfl) chain_Wear_sp_ok chain_Wear_rs_ok (fun args T kf => Eq.trans (chain_Wear_def N (Cod.dec api_PartC (lget (toCs (lget args 0)))) (lstC api_UseC (lget args 1)) (fun q0 q1 q2 => kf (lget [.tup [.row 0, .int .i64 q0]] 0, [(0, rowE api_SpanC q1 q2)]))) (by kernel_rfl : chain_Wear_run N args T kf = fnM E (chain_worn_cal N) (chain_Wear_lp N) (noJn) 45 (chain_Wear_sp.vs args) (chain_Wear_sp.tab T) 0 (resK chain_Wear_rs kf)))


def chain_Beyond_1_m {R : Type} (N : Nat) (a166 : api_Span) (k : Int → Option R) : Option R :=
  k (api_Span.High a166)
noncomputable def chain_Beyond_1 {R : Type} : Nat → api_Span → (Int → Option R) → Option R := lock (@chain_Beyond_1_m R)
theorem chain_Beyond_1_def {R : Type} (N : Nat) (a166 : api_Span) (k : Int → Option R) : chain_Beyond_1 N a166 k = chain_Beyond_1_m N a166 k := by unfold chain_Beyond_1; rw [lock_eq]
def chain_Beyond_1_sp : Sp := ⟨[rAgg api_SpanC], []⟩
theorem chain_Beyond_1_sp_ok : chain_Beyond_1_sp.Ok := ⟨(allCons (rAgg_ok api_SpanC_ok api_SpanC_len) allNil), eNil⟩
def chain_Beyond_1_rs : Sp := ⟨[rInt .i64], []⟩
theorem chain_Beyond_1_rs_ok : chain_Beyond_1_rs.Ok := ⟨(allCons (rInt_ok .i64) allNil), eNil⟩
def chain_Beyond_1_run {R : Type} (N : Nat) (args : List SV) (T : Tab) (kf : SV × Tab → Option R) : Option R :=
  chain_Beyond_1_m N (Cod.dec api_SpanC (lget (toCs (lget args 0)))) (fun q0 => kf (lget [.int .i64 q0] 0, []))
def chain_Beyond_1_lp {R : Type} (N : Nat) : Lp R := fun body S k => Option.none
noncomputable def chain_Beyond_1_go {R : Type} (N : Nat) (args : List SV) (T : Tab) (kf : SV × Tab → Option R) : Option R :=
  chain_Beyond_1 N (Cod.dec api_SpanC (lget (toCs (lget args 0)))) (fun q0 => kf (lget [.int .i64 q0] 0, []))
noncomputable def chain_Beyond_1_cal {R : Type} (N : Nat) : Cal R := callM (chain_Wear_cal N) 101 0 chain_Beyond_1_sp (chain_Beyond_1_go N)
theorem chain_Beyond_1_cal_ok {R : Type} (N : Nat) : CalOk E.P (chain_Beyond_1_cal (R := R) N) :=
  callM_ok hE (chain_Wear_cal_ok N) (lp := chain_Beyond_1_lp N) (jn := noJn) (keys := []) kNil (by kernel_rfl) (js := []) jNil (by kernel_rfl) chain_Beyond_1_sp_ok chain_Beyond_1_rs_ok (fun args T kf => Eq.trans (chain_Beyond_1_def N (Cod.dec api_SpanC (lget (toCs (lget args 0)))) (fun q0 => kf (lget [.int .i64 q0] 0, []))) (by kernel_rfl : chain_Beyond_1_run N args T kf = fnM E (chain_Wear_cal N) (chain_Beyond_1_lp N) (noJn) 101 (chain_Beyond_1_sp.vs args) (chain_Beyond_1_sp.tab T) 0 (resK chain_Beyond_1_rs kf)))

def chain_first_L6 : LoopSp := ⟨⟨[2, 3, 8, 10, 22, 23, 24], ⟨(dr 2 ((rFunc 101 0 []) :: (rPtr 0 0) :: (dr 4 ((rRow 1) :: (dr 1 ((rInt .i64) :: (dr 11 ((rSl api_UseC) :: (rInt .i64) :: (rInt .i64) :: (dr 33 []))))))))), [(0, eBlkC api_PartC), (1, eRow api_SpanC)]⟩, 2⟩, [(Option.none, ⟨[6, 7], ⟨(dr 6 ((rInt .i64) :: (rInt .i64) :: (dr 50 []))), []⟩, 0⟩), (some 0, ⟨[], ⟨(dr 58 []), []⟩, 0⟩)]⟩
theorem chain_first_L6_ok : chain_first_L6.Ok := ⟨⟨(drCons 2 (allCons (rFunc_ok 101 0 allNil) (allCons (rPtr_ok 0 0) (drCons 4 (allCons (rRow_ok 1) (drCons 1 (allCons (rInt_ok .i64) (drCons 11 (allCons (rSl_ok api_UseC_ok) (allCons (rInt_ok .i64) (allCons (rInt_ok .i64) (drCons 33 allNil)))))))))))), (eCons (eBlkC_ok api_PartC_ok api_PartC_len) (eCons (eRow_ok api_SpanC_ok) eNil))⟩, (xCons ⟨(drCons 6 (allCons (rInt_ok .i64) (allCons (rInt_ok .i64) (drCons 50 allNil)))), eNil⟩ (xCons ⟨(drCons 58 allNil), eNil⟩ xNil))⟩
def chain_first_h6 (v159 : Int) (v160 : Arr api_Use) (v161 : Int) (v162 : Int) (v163 : api_Part) (v164 : Bool) (v165 : Arr api_Span) : St := ⟨(un 2 ((.func 101 0 []) :: (.ptr 0 0) :: (un 4 ((.row 1) :: (un 1 ((.int .i64 v159) :: (un 11 ((slC api_UseC v160) :: (.int .i64 v161) :: (.int .i64 v162) :: (un 33 []))))))))), [(0, .blk (Cod.enc api_PartC v163)), (1, rowE api_SpanC v164 v165)], 2⟩
def chain_first_x6_r (q0 : Int) (q1 : Int) : St := ⟨(un 6 ((.int .i64 q0) :: (.int .i64 q1) :: (un 50 []))), [], 0⟩
def chain_first_x6_0  : St := ⟨(un 58 []), [], 0⟩
def chain_first_b6 {R : Type} (N : Nat) (rc : Int → Arr api_Use → Int → Int → api_Part → Bool → Arr api_Span → Option R) (v159 : Int) (v160 : Arr api_Use) (v161 : Int) (v162 : Int) (v163 : api_Part) (v164 : Bool) (v165 : Arr api_Span) (kr : Int → Int → Option R) (k0 : Unit → Option R) : Option R :=
  bif decide (v162 < v161) then
   bif decide ((0 : Int) ≤ v162) && decide (v162 < (↑(Arr.n v160) : Int)) then
    bif decide (w64 (v159 + api_Use.Turns (Arr.f v160 (Int.toNat v162))) > api_Part.Turns v163) then
     kr v162 (0 : Int)
    else
     bif decide (api_Use.Day (Arr.f v160 (Int.toNat v162)) > api_Part.Age v163) then
      kr v162 (0 : Int)
     else
      bif decide ((0 : Int) ≤ v162) && decide (v162 < (↑(Arr.n v165) : Int)) then
       chain_Beyond_1 N (Arr.f v165 (Int.toNat v162)) (fun r167 =>
       bif decide (r167 > w64 (api_Part.Worn v163 * (1000000 : Int))) then
        kr v162 (0 : Int)
       else
        rc (w64 (v159 + api_Use.Turns (Arr.f v160 (Int.toNat v162)))) v160 v161 (w64 (v162 + (1 : Int))) v163 v164 v165)
      else
       Option.none
   else
    Option.none
  else
   k0 ()
def chain_first_l6 {R : Type} (N : Nat) : Nat → Int → Arr api_Use → Int → Int → api_Part → Bool → Arr api_Span → (Int → Int → Option R) → (Unit → Option R) → Option R
  | 0, _, _, _, _, _, _, _, _, _ => Option.none
  | n + 1, v159, v160, v161, v162, v163, v164, v165, kr, k0 => chain_first_b6 N (fun v159 v160 v161 v162 v163 v164 v165 => chain_first_l6 N n v159 v160 v161 v162 v163 v164 v165 kr k0) v159 v160 v161 v162 v163 v164 v165 kr k0


def chain_first_m {R : Type} (N : Nat) (a154 : api_Part) (a155 : Arr api_Use) (k : Int → Int → Option R) : Option R :=
  chain_Wear N a154 a155 (fun r156 r157 r158 =>
  bif r156 != (0 : Int) then
   k (0 : Int) r156
  else
   chain_first_l6 N N (0 : Int) a155 ((↑(Arr.n a155) : Int)) (0 : Int) a154 r157 r158 (fun r168 r169 =>
    k r168 r169) (fun (_ : Unit) =>
    k (-1 : Int) (0 : Int)))
noncomputable def chain_first {R : Type} : Nat → api_Part → Arr api_Use → (Int → Int → Option R) → Option R := lock (@chain_first_m R)
theorem chain_first_def {R : Type} (N : Nat) (a154 : api_Part) (a155 : Arr api_Use) (k : Int → Int → Option R) : chain_first N a154 a155 k = chain_first_m N a154 a155 k := by unfold chain_first; rw [lock_eq]
def chain_first_sp : Sp := ⟨[rAgg api_PartC, rSl api_UseC, rFunc 101 0 []], []⟩
theorem chain_first_sp_ok : chain_first_sp.Ok := ⟨(allCons (rAgg_ok api_PartC_ok api_PartC_len) (allCons (rSl_ok api_UseC_ok) (allCons (rFunc_ok 101 0 allNil) allNil))), eNil⟩
def chain_first_rs : Sp := ⟨[rTup [rInt .i64, rInt .i64]], []⟩
theorem chain_first_rs_ok : chain_first_rs.Ok := ⟨(allCons (rTup_ok (allCons (rInt_ok .i64) (allCons (rInt_ok .i64) allNil))) allNil), eNil⟩
def chain_first_run {R : Type} (N : Nat) (args : List SV) (T : Tab) (kf : SV × Tab → Option R) : Option R :=
  chain_first_m N (Cod.dec api_PartC (lget (toCs (lget args 0)))) (lstC api_UseC (lget args 1)) (fun q0 q1 => kf (lget [.tup [.int .i64 q0, .int .i64 q1]] 0, []))
def chain_first_d6 {R : Type} (N : Nat) (S0 : St) (k : Exit → St → Option R) : Option R :=
  chain_first_l6 N N (toI (lget S0.tmps 10)) (lstC api_UseC (lget S0.tmps 22)) (toI (lget S0.tmps 23)) (toI (lget S0.tmps 24)) (Cod.dec api_PartC (lget (entCs (entAt S0.tab 0)))) (entNl (entAt S0.tab 1)) (lst api_SpanC (entN (entAt S0.tab 1)) (entC (entAt S0.tab 1))) (fun q0 q1 => k .ret (chain_first_x6_r q0 q1)) (fun (_ : Unit) => k (.exit 0) (chain_first_x6_0 ))
def chain_first_lp {R : Type} (N : Nat) : Lp R := fun body S k => bif (Go.Sx.keyOf body).getD 0 == 6 then chain_first_L6.head.raw 0 S (fun S0 => chain_first_d6 N S0 k) else Option.none
theorem chain_first_l6_eq {R : Type} (N : Nat) (k : Exit → St → Option R) (n : Nat) : ∀ (v0 : Int) (v1 : Arr api_Use) (v2 : Int) (v3 : Int) (v4 : api_Part) (v5 : Bool) (v6 : Arr api_Span), loopM E.Θ (chain_Beyond_1_cal N) (chain_first_lp N) (noJn) 0 chain_first_L6 (bodyAt E 100 6) n (chain_first_h6 v0 v1 v2 v3 v4 v5 v6) k = chain_first_l6 N n v0 v1 v2 v3 v4 v5 v6 (fun q0 q1 => k .ret (chain_first_x6_r q0 q1)) (fun (_ : Unit) => k (.exit 0) (chain_first_x6_0 )) := by
  induction n with
  | zero => intro v0 v1 v2 v3 v4 v5 v6; rfl
  | succ n ih =>
    intro v0 v1 v2 v3 v4 v5 v6
    refine Eq.trans (b := chain_first_b6 N (fun v0 v1 v2 v3 v4 v5 v6 => loopM E.Θ (chain_Beyond_1_cal N) (chain_first_lp N) (noJn) 0 chain_first_L6 (bodyAt E 100 6) n (chain_first_h6 v0 v1 v2 v3 v4 v5 v6) k) v0 v1 v2 v3 v4 v5 v6 (fun q0 q1 => k .ret (chain_first_x6_r q0 q1)) (fun (_ : Unit) => k (.exit 0) (chain_first_x6_0 ))) (by kernel_rfl) ?_
    have h : (fun (v0 : Int) (v1 : Arr api_Use) (v2 : Int) (v3 : Int) (v4 : api_Part) (v5 : Bool) (v6 : Arr api_Span) => loopM E.Θ (chain_Beyond_1_cal N) (chain_first_lp N) (noJn) 0 chain_first_L6 (bodyAt E 100 6) n (chain_first_h6 v0 v1 v2 v3 v4 v5 v6) k) = (fun (v0 : Int) (v1 : Arr api_Use) (v2 : Int) (v3 : Int) (v4 : api_Part) (v5 : Bool) (v6 : Arr api_Span) => chain_first_l6 N n v0 v1 v2 v3 v4 v5 v6 (fun q0 q1 => k .ret (chain_first_x6_r q0 q1)) (fun (_ : Unit) => k (.exit 0) (chain_first_x6_0 ))) := funext fun v0 => funext fun v1 => funext fun v2 => funext fun v3 => funext fun v4 => funext fun v5 => funext fun v6 => ih v0 v1 v2 v3 v4 v5 v6
    rw [h]
    rfl
theorem chain_first_k6 {R : Type} (N : Nat) : LpKey (R := R) E 100 0 (chain_first_lp N) 6 :=
  lpKey_of hE (chain_Beyond_1_cal_ok N) (jn := noJn) chain_first_L6_ok [] kNil (by kernel_rfl) [] jNil (by kernel_rfl) N fun S k =>
    Eq.trans (b := chain_first_L6.head.raw 0 S (fun S0 => chain_first_d6 N S0 k)) (by kernel_rfl) (congrArg (chain_first_L6.head.raw 0 S) (funext fun S0 => Eq.trans (chain_first_l6_eq N k N (toI (lget S0.tmps 10)) (lstC api_UseC (lget S0.tmps 22)) (toI (lget S0.tmps 23)) (toI (lget S0.tmps 24)) (Cod.dec api_PartC (lget (entCs (entAt S0.tab 0)))) (entNl (entAt S0.tab 1)) (lst api_SpanC (entN (entAt S0.tab 1)) (entC (entAt S0.tab 1)))).symm (by kernel_rfl)))
noncomputable def chain_first_go {R : Type} (N : Nat) (args : List SV) (T : Tab) (kf : SV × Tab → Option R) : Option R :=
  chain_first N (Cod.dec api_PartC (lget (toCs (lget args 0)))) (lstC api_UseC (lget args 1)) (fun q0 q1 => kf (lget [.tup [.int .i64 q0, .int .i64 q1]] 0, []))
noncomputable def chain_first_cal {R : Type} (N : Nat) : Cal R := callM (chain_Beyond_1_cal N) 100 0 chain_first_sp (chain_first_go N)
theorem chain_first_cal_ok {R : Type} (N : Nat) : CalOk E.P (chain_first_cal (R := R) N) :=
  callM_ok hE (chain_Beyond_1_cal_ok N) (lp := chain_first_lp N) (jn := noJn) (keys := [6]) (kCons (chain_first_k6 N) kNil) (by kernel_rfl) (js := []) jNil (by kernel_rfl) chain_first_sp_ok chain_first_rs_ok (fun args T kf => Eq.trans (chain_first_def N (Cod.dec api_PartC (lget (toCs (lget args 0)))) (lstC api_UseC (lget args 1)) (fun q0 q1 => kf (lget [.tup [.int .i64 q0, .int .i64 q1]] 0, []))) (by kernel_rfl : chain_first_run N args T kf = fnM E (chain_Beyond_1_cal N) (chain_first_lp N) (noJn) 100 (chain_first_sp.vs args) (chain_first_sp.tab T) 0 (resK chain_first_rs kf)))


def chain_Beyond_m {R : Type} (N : Nat) (a152 : api_Part) (a153 : Arr api_Use) (k : Int → Int → Option R) : Option R :=
  chain_first N a152 a153 (fun r170 r171 =>
  k r170 r171)
noncomputable def chain_Beyond {R : Type} : Nat → api_Part → Arr api_Use → (Int → Int → Option R) → Option R := lock (@chain_Beyond_m R)
theorem chain_Beyond_def {R : Type} (N : Nat) (a152 : api_Part) (a153 : Arr api_Use) (k : Int → Int → Option R) : chain_Beyond N a152 a153 k = chain_Beyond_m N a152 a153 k := by unfold chain_Beyond; rw [lock_eq]
def chain_Beyond_sp : Sp := ⟨[rAgg api_PartC, rSl api_UseC], []⟩
theorem chain_Beyond_sp_ok : chain_Beyond_sp.Ok := ⟨(allCons (rAgg_ok api_PartC_ok api_PartC_len) (allCons (rSl_ok api_UseC_ok) allNil)), eNil⟩
def chain_Beyond_rs : Sp := ⟨[rTup [rInt .i64, rInt .i64]], []⟩
theorem chain_Beyond_rs_ok : chain_Beyond_rs.Ok := ⟨(allCons (rTup_ok (allCons (rInt_ok .i64) (allCons (rInt_ok .i64) allNil))) allNil), eNil⟩
def chain_Beyond_run {R : Type} (N : Nat) (args : List SV) (T : Tab) (kf : SV × Tab → Option R) : Option R :=
  chain_Beyond_m N (Cod.dec api_PartC (lget (toCs (lget args 0)))) (lstC api_UseC (lget args 1)) (fun q0 q1 => kf (lget [.tup [.int .i64 q0, .int .i64 q1]] 0, []))
def chain_Beyond_lp {R : Type} (N : Nat) : Lp R := fun body S k => Option.none
noncomputable def chain_Beyond_go {R : Type} (N : Nat) (args : List SV) (T : Tab) (kf : SV × Tab → Option R) : Option R :=
  chain_Beyond N (Cod.dec api_PartC (lget (toCs (lget args 0)))) (lstC api_UseC (lget args 1)) (fun q0 q1 => kf (lget [.tup [.int .i64 q0, .int .i64 q1]] 0, []))
noncomputable def chain_Beyond_cal {R : Type} (N : Nat) : Cal R := callM (chain_first_cal N) 46 0 chain_Beyond_sp (chain_Beyond_go N)
theorem chain_Beyond_cal_ok {R : Type} (N : Nat) : CalOk E.P (chain_Beyond_cal (R := R) N) :=
  callM_ok hE (chain_first_cal_ok N) (lp := chain_Beyond_lp N) (jn := noJn) (keys := []) kNil (by kernel_rfl) (js := []) jNil (by kernel_rfl) chain_Beyond_sp_ok chain_Beyond_rs_ok (fun args T kf => Eq.trans (chain_Beyond_def N (Cod.dec api_PartC (lget (toCs (lget args 0)))) (lstC api_UseC (lget args 1)) (fun q0 q1 => kf (lget [.tup [.int .i64 q0, .int .i64 q1]] 0, []))) (by kernel_rfl : chain_Beyond_run N args T kf = fnM E (chain_first_cal N) (chain_Beyond_lp N) (noJn) 46 (chain_Beyond_sp.vs args) (chain_Beyond_sp.tab T) 0 (resK chain_Beyond_rs kf)))



end
end Go.Proofs.Ytpillmoddoccfaa
