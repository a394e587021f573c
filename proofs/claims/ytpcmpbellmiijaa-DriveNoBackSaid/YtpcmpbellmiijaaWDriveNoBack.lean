/-
  The model of the statement DriveNoBack, that it is what the code does (written by a program), and that it answers true.
-/
import Derived.Test.YtpcmpbellmiijaaP7
set_option maxRecDepth 100000
set_option maxHeartbeats 0
set_option linter.unusedVariables false
set_option linter.unusedSimpArgs false
namespace Go.Proofs.Ytpcmpbellmiijaa
open Go.Sx
noncomputable section

def newellaw01_DriveNoBack_L12 : LoopSp := ⟨⟨[3, 4, 7, 9, 10, 13, 14], ⟨(dr 3 ((rPtr 0 0) :: (rPtr 1 0) :: (dr 2 ((rRow 2) :: (dr 1 ((rInt .i64) :: (rInt .i64) :: (dr 2 ((rBool) :: (rInt .i64) :: (dr 129 []))))))))), [(0, eBlkC api_EscalatorC), (1, eBlkC api_StopC), (2, eRow intC)]⟩, 3⟩, [(some 0, ⟨[4, 7, 9, 10, 13], ⟨(dr 4 ((rPtr 0 0) :: (dr 2 ((rRow 1) :: (dr 1 ((rInt .i64) :: (rInt .i64) :: (dr 2 ((rBool) :: (dr 130 []))))))))), [(0, eBlkC api_StopC), (1, eRow intC)]⟩, 2⟩)]⟩
theorem newellaw01_DriveNoBack_L12_ok : newellaw01_DriveNoBack_L12.Ok := ⟨⟨(drCons 3 (allCons (rPtr_ok 0 0) (allCons (rPtr_ok 1 0) (drCons 2 (allCons (rRow_ok 2) (drCons 1 (allCons (rInt_ok .i64) (allCons (rInt_ok .i64) (drCons 2 (allCons rBool_ok (allCons (rInt_ok .i64) (drCons 129 allNil)))))))))))), (eCons (eBlkC_ok api_EscalatorC_ok api_EscalatorC_len) (eCons (eBlkC_ok api_StopC_ok api_StopC_len) (eCons (eRow_ok intC_ok) eNil)))⟩, (xCons ⟨(drCons 4 (allCons (rPtr_ok 0 0) (drCons 2 (allCons (rRow_ok 1) (drCons 1 (allCons (rInt_ok .i64) (allCons (rInt_ok .i64) (drCons 2 (allCons rBool_ok (drCons 130 allNil)))))))))), (eCons (eBlkC_ok api_StopC_ok api_StopC_len) (eCons (eRow_ok intC_ok) eNil))⟩ xNil)⟩
def newellaw01_DriveNoBack_h12 (v630 : Int) (v631 : Int) (v632 : Bool) (v633 : Int) (v634 : api_Escalator) (v635 : api_Stop) (v636 : Bool) (v637 : Arr Int) : St := ⟨(un 3 ((.ptr 0 0) :: (.ptr 1 0) :: (un 2 ((.row 2) :: (un 1 ((.int .i64 v630) :: (.int .i64 v631) :: (un 2 ((.bool v632) :: (.int .i64 v633) :: (un 129 []))))))))), [(0, .blk (Cod.enc api_EscalatorC v634)), (1, .blk (Cod.enc api_StopC v635)), (2, rowE intC v636 v637)], 3⟩
def newellaw01_DriveNoBack_x12_0 (v630 : Int) (v631 : Int) (v635 : api_Stop) (v636 : Bool) (v637 : Arr Int) (q2 : Bool) : St := ⟨(un 4 ((.ptr 0 0) :: (un 2 ((.row 1) :: (un 1 ((.int .i64 v630) :: (.int .i64 v631) :: (un 2 ((.bool q2) :: (un 130 []))))))))), [(0, .blk (Cod.enc api_StopC v635)), (1, rowE intC v636 v637)], 2⟩
def newellaw01_DriveNoBack_b12 {R : Type} (N : Nat) (rc : Int → Int → Bool → Int → api_Escalator → api_Stop → Bool → Arr Int → Option R) (v630 : Int) (v631 : Int) (v632 : Bool) (v633 : Int) (v634 : api_Escalator) (v635 : api_Stop) (v636 : Bool) (v637 : Arr Int) (k0 : Bool → Option R) : Option R :=
  bif decide (v633 < (↑(Arr.n (api_Escalator.Brakes v634)) : Int)) then
   bif v632 then
    bif decide ((0 : Int) ≤ v633) && decide (v633 < (↑(Arr.n (api_Escalator.Brakes v634)) : Int)) then
     bif api_Brake.Delay (Arr.f (api_Escalator.Brakes v634) (Int.toNat v633)) == (0 : Int) then
      rc v630 v631 true (w64 (v633 + (1 : Int))) v634 v635 v636 v637
     else
      bif decide (IntKind.wrap IntKind.u64 v633 < (0 : Int)) then
       Option.none
      else
       rc v630 v631 (w64 (↑(BitVec.toNat (BitVec.ofInt (IntKind.bits IntKind.i64) (Int.fdiv (api_Stop.Fail v635) ((2 : Int) ^ min (Int.toNat (IntKind.wrap IntKind.u64 v633)) (IntKind.bits IntKind.i64))) &&& BitVec.ofInt (IntKind.bits IntKind.i64) (1 : Int))) : Int) == (1 : Int)) (w64 (v633 + (1 : Int))) v634 v635 v636 v637
    else
     Option.none
   else
    rc v630 v631 false (w64 (v633 + (1 : Int))) v634 v635 v636 v637
  else
   k0 v632
def newellaw01_DriveNoBack_l12 {R : Type} (N : Nat) : Nat → Int → Int → Bool → Int → api_Escalator → api_Stop → Bool → Arr Int → (Bool → Option R) → Option R
  | 0, _, _, _, _, _, _, _, _, _ => Option.none
  | n + 1, v630, v631, v632, v633, v634, v635, v636, v637, k0 => newellaw01_DriveNoBack_b12 N (fun v630 v631 v632 v633 v634 v635 v636 v637 => newellaw01_DriveNoBack_l12 N n v630 v631 v632 v633 v634 v635 v636 v637 k0) v630 v631 v632 v633 v634 v635 v636 v637 k0

def newellaw01_DriveNoBack_L21 : LoopSp := ⟨⟨[7, 15, 16], ⟨(dr 7 ((rRow 0) :: (dr 7 ((rBool) :: (rInt .i64) :: (dr 127 []))))), [(0, eRow intC)]⟩, 1⟩, [(Option.none, ⟨[6], ⟨(dr 6 ((rBool) :: (dr 137 []))), []⟩, 0⟩), (some 2, ⟨[], ⟨(dr 144 []), []⟩, 0⟩)]⟩
theorem newellaw01_DriveNoBack_L21_ok : newellaw01_DriveNoBack_L21.Ok := ⟨⟨(drCons 7 (allCons (rRow_ok 0) (drCons 7 (allCons rBool_ok (allCons (rInt_ok .i64) (drCons 127 allNil)))))), (eCons (eRow_ok intC_ok) eNil)⟩, (xCons ⟨(drCons 6 (allCons rBool_ok (drCons 137 allNil))), eNil⟩ (xCons ⟨(drCons 144 allNil), eNil⟩ xNil))⟩
def newellaw01_DriveNoBack_h21 (v640 : Bool) (v641 : Int) (v642 : Bool) (v643 : Arr Int) : St := ⟨(un 7 ((.row 0) :: (un 7 ((.bool v640) :: (.int .i64 v641) :: (un 127 []))))), [(0, rowE intC v642 v643)], 1⟩
def newellaw01_DriveNoBack_x21_r (q0 : Bool) : St := ⟨(un 6 ((.bool q0) :: (un 137 []))), [], 0⟩
def newellaw01_DriveNoBack_x21_2  : St := ⟨(un 144 []), [], 0⟩
def newellaw01_DriveNoBack_b21 {R : Type} (N : Nat) (rc : Bool → Int → Bool → Arr Int → Option R) (v640 : Bool) (v641 : Int) (v642 : Bool) (v643 : Arr Int) (kr : Bool → Option R) (k2 : Unit → Option R) : Option R :=
  bif decide (v641 < (↑(Arr.n v643) : Int)) then
   bif v640 then
    bif decide ((0 : Int) ≤ v641) && decide (v641 < (↑(Arr.n v643) : Int)) then
     bif Arr.f v643 (Int.toNat v641) != (0 : Int) then
      kr false
     else
      bif decide ((0 : Int) ≤ v641) && decide (v641 < (↑(Arr.n v643) : Int)) then
       rc (Arr.f v643 (Int.toNat v641) == (0 : Int)) (w64 (v641 + (1 : Int))) v642 v643
      else
       Option.none
    else
     Option.none
   else
    bif decide ((0 : Int) ≤ v641) && decide (v641 < (↑(Arr.n v643) : Int)) then
     rc (Arr.f v643 (Int.toNat v641) == (0 : Int)) (w64 (v641 + (1 : Int))) v642 v643
    else
     Option.none
  else
   k2 ()
def newellaw01_DriveNoBack_l21 {R : Type} (N : Nat) : Nat → Bool → Int → Bool → Arr Int → (Bool → Option R) → (Unit → Option R) → Option R
  | 0, _, _, _, _, _, _ => Option.none
  | n + 1, v640, v641, v642, v643, kr, k2 => newellaw01_DriveNoBack_b21 N (fun v640 v641 v642 v643 => newellaw01_DriveNoBack_l21 N n v640 v641 v642 v643 kr k2) v640 v641 v642 v643 kr k2


def newellaw01_DriveNoBack_m {R : Type} (N : Nat) (a612 : api_Escalator) (a613 : api_Stop) (a614 : Arr Int) (k : Bool → Option R) : Option R :=
  newellaw01_Far N a612 (fun r615 =>
  bif r615 then
   newellaw01_works N  (fun r616 =>
   k r616)
  else
   bif decide ((↑(Arr.n a614) : Int) > (100 : Int)) then
    newellaw01_works N  (fun r617 =>
    k r617)
   else
    newelref01_CheckStop N a612 a613 (fun r618 =>
    bif r618 != (0 : Int) then
     newellaw01_works N  (fun r619 =>
     k r619)
    else
     newelref01_History N a613 a614 (fun r620 =>
     bif !r620 then
      newellaw01_works N  (fun r621 =>
      k r621)
     else
      drive_Play N a612 a613 a614 (fun r622 r623 r624 =>
      drive_Back N a612 a613 (fun r625 r626 =>
      drive_Holds N a612 a613 (fun r627 r628 =>
      bif r622 != (0 : Int) then
       k false
      else
       bif r628 != (0 : Int) then
        k false
       else
        bif (↑(Arr.n r624) : Int) != (↑(Arr.n a614) : Int) then
         k false
        else
         bif r626 != (0 : Int) then
          bif r626 != (12 : Int) then
           k false
          else
           bif r626 == (0 : Int) then
            newelref01_Behind N r624 (fun r629 =>
            bif decide (r629 > r625) then
             k false
            else
             newellaw01_DriveNoBack_l12 N N r625 r626 r627 (0 : Int) a612 a613 r623 r624 (fun r638 =>
              bif !r638 then
               newellaw01_works N  (fun r639 =>
               k r639)
              else
               bif r626 != (0 : Int) then
                k false
               else
                bif r625 != (0 : Int) then
                 k false
                else
                 newellaw01_DriveNoBack_l21 N N (api_Stop.Speed a613 == (0 : Int)) (0 : Int) r623 r624 (fun r644 =>
                  k r644) (fun (_ : Unit) =>
                  newellaw01_works N  (fun r645 =>
                  k r645))))
           else
            newellaw01_DriveNoBack_l12 N N r625 r626 r627 (0 : Int) a612 a613 r623 r624 (fun r646 =>
             bif !r646 then
              newellaw01_works N  (fun r647 =>
              k r647)
             else
              bif r626 != (0 : Int) then
               k false
              else
               bif r625 != (0 : Int) then
                k false
               else
                newellaw01_DriveNoBack_l21 N N (api_Stop.Speed a613 == (0 : Int)) (0 : Int) r623 r624 (fun r648 =>
                 k r648) (fun (_ : Unit) =>
                 newellaw01_works N  (fun r649 =>
                 k r649)))
         else
          bif r626 == (0 : Int) then
           newelref01_Behind N r624 (fun r650 =>
           bif decide (r650 > r625) then
            k false
           else
            newellaw01_DriveNoBack_l12 N N r625 r626 r627 (0 : Int) a612 a613 r623 r624 (fun r651 =>
             bif !r651 then
              newellaw01_works N  (fun r652 =>
              k r652)
             else
              bif r626 != (0 : Int) then
               k false
              else
               bif r625 != (0 : Int) then
                k false
               else
                newellaw01_DriveNoBack_l21 N N (api_Stop.Speed a613 == (0 : Int)) (0 : Int) r623 r624 (fun r653 =>
                 k r653) (fun (_ : Unit) =>
                 newellaw01_works N  (fun r654 =>
                 k r654))))
          else
           newellaw01_DriveNoBack_l12 N N r625 r626 r627 (0 : Int) a612 a613 r623 r624 (fun r655 =>
            bif !r655 then
             newellaw01_works N  (fun r656 =>
             k r656)
            else
             bif r626 != (0 : Int) then
              k false
             else
              bif r625 != (0 : Int) then
               k false
              else
               newellaw01_DriveNoBack_l21 N N (api_Stop.Speed a613 == (0 : Int)) (0 : Int) r623 r624 (fun r657 =>
                k r657) (fun (_ : Unit) =>
                newellaw01_works N  (fun r658 =>
                k r658)))))))))
noncomputable def newellaw01_DriveNoBack {R : Type} : Nat → api_Escalator → api_Stop → Arr Int → (Bool → Option R) → Option R := lock (@newellaw01_DriveNoBack_m R)
theorem newellaw01_DriveNoBack_def {R : Type} (N : Nat) (a612 : api_Escalator) (a613 : api_Stop) (a614 : Arr Int) (k : Bool → Option R) : newellaw01_DriveNoBack N a612 a613 a614 k = newellaw01_DriveNoBack_m N a612 a613 a614 k := by unfold newellaw01_DriveNoBack; rw [lock_eq]
def newellaw01_DriveNoBack_sp : Sp := ⟨[rAgg api_EscalatorC, rAgg api_StopC, rSl intC], []⟩
theorem newellaw01_DriveNoBack_sp_ok : newellaw01_DriveNoBack_sp.Ok := ⟨(allCons (rAgg_ok api_EscalatorC_ok api_EscalatorC_len) (allCons (rAgg_ok api_StopC_ok api_StopC_len) (allCons (rSl_ok intC_ok) allNil))), eNil⟩
def newellaw01_DriveNoBack_rs : Sp := ⟨[rBool], []⟩
theorem newellaw01_DriveNoBack_rs_ok : newellaw01_DriveNoBack_rs.Ok := ⟨(allCons rBool_ok allNil), eNil⟩
def newellaw01_DriveNoBack_run {R : Type} (N : Nat) (args : List SV) (T : Tab) (kf : SV × Tab → Option R) : Option R :=
  newellaw01_DriveNoBack_m N (Cod.dec api_EscalatorC (lget (toCs (lget args 0)))) (Cod.dec api_StopC (lget (toCs (lget args 1)))) (lstC intC (lget args 2)) (fun q0 => kf (lget [.bool q0] 0, []))
def newellaw01_DriveNoBack_d21 {R : Type} (N : Nat) (S0 : St) (k : Exit → St → Option R) : Option R :=
  newellaw01_DriveNoBack_l21 N N (toB (lget S0.tmps 15)) (toI (lget S0.tmps 16)) (entNl (entAt S0.tab 0)) (lst intC (entN (entAt S0.tab 0)) (entC (entAt S0.tab 0))) (fun q0 => k .ret (newellaw01_DriveNoBack_x21_r q0)) (fun (_ : Unit) => k (.exit 2) (newellaw01_DriveNoBack_x21_2 ))
def newellaw01_DriveNoBack_d12 {R : Type} (N : Nat) (S0 : St) (k : Exit → St → Option R) : Option R :=
  newellaw01_DriveNoBack_l12 N N (toI (lget S0.tmps 9)) (toI (lget S0.tmps 10)) (toB (lget S0.tmps 13)) (toI (lget S0.tmps 14)) (Cod.dec api_EscalatorC (lget (entCs (entAt S0.tab 0)))) (Cod.dec api_StopC (lget (entCs (entAt S0.tab 1)))) (entNl (entAt S0.tab 2)) (lst intC (entN (entAt S0.tab 2)) (entC (entAt S0.tab 2))) (fun q2 => k (.exit 0) (newellaw01_DriveNoBack_x12_0 (toI (lget S0.tmps 9)) (toI (lget S0.tmps 10)) (Cod.dec api_StopC (lget (entCs (entAt S0.tab 1)))) (entNl (entAt S0.tab 2)) (lst intC (entN (entAt S0.tab 2)) (entC (entAt S0.tab 2))) q2))
def newellaw01_DriveNoBack_lp {R : Type} (N : Nat) : Lp R := fun body S k => bif (Go.Sx.keyOf body).getD 0 == 12 then newellaw01_DriveNoBack_L12.head.raw 0 S (fun S0 => newellaw01_DriveNoBack_d12 N S0 k) else bif (Go.Sx.keyOf body).getD 0 == 21 then newellaw01_DriveNoBack_L21.head.raw 0 S (fun S0 => newellaw01_DriveNoBack_d21 N S0 k) else Option.none
theorem newellaw01_DriveNoBack_l12_eq {R : Type} (N : Nat) (k : Exit → St → Option R) (n : Nat) : ∀ (v0 : Int) (v1 : Int) (v2 : Bool) (v3 : Int) (v4 : api_Escalator) (v5 : api_Stop) (v6 : Bool) (v7 : Arr Int), loopM E.Θ (newelref01_Legal_cal N) (newellaw01_DriveNoBack_lp N) 0 newellaw01_DriveNoBack_L12 (bodyAt E 12 12) n (newellaw01_DriveNoBack_h12 v0 v1 v2 v3 v4 v5 v6 v7) k = newellaw01_DriveNoBack_l12 N n v0 v1 v2 v3 v4 v5 v6 v7 (fun q2 => k (.exit 0) (newellaw01_DriveNoBack_x12_0 v0 v1 v5 v6 v7 q2)) := by
  induction n with
  | zero => intro v0 v1 v2 v3 v4 v5 v6 v7; rfl
  | succ n ih =>
    intro v0 v1 v2 v3 v4 v5 v6 v7
    refine Eq.trans (b := newellaw01_DriveNoBack_b12 N (fun v0 v1 v2 v3 v4 v5 v6 v7 => loopM E.Θ (newelref01_Legal_cal N) (newellaw01_DriveNoBack_lp N) 0 newellaw01_DriveNoBack_L12 (bodyAt E 12 12) n (newellaw01_DriveNoBack_h12 v0 v1 v2 v3 v4 v5 v6 v7) k) v0 v1 v2 v3 v4 v5 v6 v7 (fun q2 => k (.exit 0) (newellaw01_DriveNoBack_x12_0 v0 v1 v5 v6 v7 q2))) (by kernel_rfl) ?_
    have h : (fun (v0 : Int) (v1 : Int) (v2 : Bool) (v3 : Int) (v4 : api_Escalator) (v5 : api_Stop) (v6 : Bool) (v7 : Arr Int) => loopM E.Θ (newelref01_Legal_cal N) (newellaw01_DriveNoBack_lp N) 0 newellaw01_DriveNoBack_L12 (bodyAt E 12 12) n (newellaw01_DriveNoBack_h12 v0 v1 v2 v3 v4 v5 v6 v7) k) = (fun (v0 : Int) (v1 : Int) (v2 : Bool) (v3 : Int) (v4 : api_Escalator) (v5 : api_Stop) (v6 : Bool) (v7 : Arr Int) => newellaw01_DriveNoBack_l12 N n v0 v1 v2 v3 v4 v5 v6 v7 (fun q2 => k (.exit 0) (newellaw01_DriveNoBack_x12_0 v0 v1 v5 v6 v7 q2))) := funext fun v0 => funext fun v1 => funext fun v2 => funext fun v3 => funext fun v4 => funext fun v5 => funext fun v6 => funext fun v7 => ih v0 v1 v2 v3 v4 v5 v6 v7
    rw [h]
    rfl
theorem newellaw01_DriveNoBack_l21_eq {R : Type} (N : Nat) (k : Exit → St → Option R) (n : Nat) : ∀ (v0 : Bool) (v1 : Int) (v2 : Bool) (v3 : Arr Int), loopM E.Θ (newelref01_Legal_cal N) (newellaw01_DriveNoBack_lp N) 0 newellaw01_DriveNoBack_L21 (bodyAt E 12 21) n (newellaw01_DriveNoBack_h21 v0 v1 v2 v3) k = newellaw01_DriveNoBack_l21 N n v0 v1 v2 v3 (fun q0 => k .ret (newellaw01_DriveNoBack_x21_r q0)) (fun (_ : Unit) => k (.exit 2) (newellaw01_DriveNoBack_x21_2 )) := by
  induction n with
  | zero => intro v0 v1 v2 v3; rfl
  | succ n ih =>
    intro v0 v1 v2 v3
    refine Eq.trans (b := newellaw01_DriveNoBack_b21 N (fun v0 v1 v2 v3 => loopM E.Θ (newelref01_Legal_cal N) (newellaw01_DriveNoBack_lp N) 0 newellaw01_DriveNoBack_L21 (bodyAt E 12 21) n (newellaw01_DriveNoBack_h21 v0 v1 v2 v3) k) v0 v1 v2 v3 (fun q0 => k .ret (newellaw01_DriveNoBack_x21_r q0)) (fun (_ : Unit) => k (.exit 2) (newellaw01_DriveNoBack_x21_2 ))) (by kernel_rfl) ?_
    have h : (fun (v0 : Bool) (v1 : Int) (v2 : Bool) (v3 : Arr Int) => loopM E.Θ (newelref01_Legal_cal N) (newellaw01_DriveNoBack_lp N) 0 newellaw01_DriveNoBack_L21 (bodyAt E 12 21) n (newellaw01_DriveNoBack_h21 v0 v1 v2 v3) k) = (fun (v0 : Bool) (v1 : Int) (v2 : Bool) (v3 : Arr Int) => newellaw01_DriveNoBack_l21 N n v0 v1 v2 v3 (fun q0 => k .ret (newellaw01_DriveNoBack_x21_r q0)) (fun (_ : Unit) => k (.exit 2) (newellaw01_DriveNoBack_x21_2 ))) := funext fun v0 => funext fun v1 => funext fun v2 => funext fun v3 => ih v0 v1 v2 v3
    rw [h]
    rfl
theorem newellaw01_DriveNoBack_k21 {R : Type} (N : Nat) : LpKey (R := R) E 12 0 (newellaw01_DriveNoBack_lp N) 21 :=
  lpKey_of hE (newelref01_Legal_cal_ok N) newellaw01_DriveNoBack_L21_ok [] kNil (by kernel_rfl) N fun S k =>
    Eq.trans (b := newellaw01_DriveNoBack_L21.head.raw 0 S (fun S0 => newellaw01_DriveNoBack_d21 N S0 k)) (by kernel_rfl) (congrArg (newellaw01_DriveNoBack_L21.head.raw 0 S) (funext fun S0 => Eq.trans (newellaw01_DriveNoBack_l21_eq N k N (toB (lget S0.tmps 15)) (toI (lget S0.tmps 16)) (entNl (entAt S0.tab 0)) (lst intC (entN (entAt S0.tab 0)) (entC (entAt S0.tab 0)))).symm (by kernel_rfl)))
theorem newellaw01_DriveNoBack_k12 {R : Type} (N : Nat) : LpKey (R := R) E 12 0 (newellaw01_DriveNoBack_lp N) 12 :=
  lpKey_of hE (newelref01_Legal_cal_ok N) newellaw01_DriveNoBack_L12_ok [] kNil (by kernel_rfl) N fun S k =>
    Eq.trans (b := newellaw01_DriveNoBack_L12.head.raw 0 S (fun S0 => newellaw01_DriveNoBack_d12 N S0 k)) (by kernel_rfl) (congrArg (newellaw01_DriveNoBack_L12.head.raw 0 S) (funext fun S0 => Eq.trans (newellaw01_DriveNoBack_l12_eq N k N (toI (lget S0.tmps 9)) (toI (lget S0.tmps 10)) (toB (lget S0.tmps 13)) (toI (lget S0.tmps 14)) (Cod.dec api_EscalatorC (lget (entCs (entAt S0.tab 0)))) (Cod.dec api_StopC (lget (entCs (entAt S0.tab 1)))) (entNl (entAt S0.tab 2)) (lst intC (entN (entAt S0.tab 2)) (entC (entAt S0.tab 2)))).symm (by kernel_rfl)))
noncomputable def newellaw01_DriveNoBack_go {R : Type} (N : Nat) (args : List SV) (T : Tab) (kf : SV × Tab → Option R) : Option R :=
  newellaw01_DriveNoBack N (Cod.dec api_EscalatorC (lget (toCs (lget args 0)))) (Cod.dec api_StopC (lget (toCs (lget args 1)))) (lstC intC (lget args 2)) (fun q0 => kf (lget [.bool q0] 0, []))
noncomputable def newellaw01_DriveNoBack_cal {R : Type} (N : Nat) : Cal R := callM (newelref01_Legal_cal N) 12 0 newellaw01_DriveNoBack_sp (newellaw01_DriveNoBack_go N)
theorem newellaw01_DriveNoBack_cal_ok {R : Type} (N : Nat) : CalOk E.P (newellaw01_DriveNoBack_cal (R := R) N) :=
  callM_ok hE (newelref01_Legal_cal_ok N) (lp := newellaw01_DriveNoBack_lp N) (keys := [12, 21]) (kCons (newellaw01_DriveNoBack_k12 N) (kCons (newellaw01_DriveNoBack_k21 N) kNil)) (by kernel_rfl) newellaw01_DriveNoBack_sp_ok newellaw01_DriveNoBack_rs_ok (fun args T kf => Eq.trans (newellaw01_DriveNoBack_def N (Cod.dec api_EscalatorC (lget (toCs (lget args 0)))) (Cod.dec api_StopC (lget (toCs (lget args 1)))) (lstC intC (lget args 2)) (fun q0 => kf (lget [.bool q0] 0, []))) (by kernel_rfl : newellaw01_DriveNoBack_run N args T kf = fnM E (newelref01_Legal_cal N) (newellaw01_DriveNoBack_lp N) 12 (newellaw01_DriveNoBack_sp.vs args) (newellaw01_DriveNoBack_sp.tab T) 0 (resK newellaw01_DriveNoBack_rs kf)))

theorem bit_eq1 {a : Int} (h0 : 0 ≤ a) (h1 : a < 9223372036854775808) {i : Nat} (hi : i < 64) :
    (w64 (↑(BitVec.toNat (BitVec.ofInt (IntKind.bits IntKind.i64) (Int.fdiv a ((2 : Int) ^ min i (IntKind.bits IntKind.i64))) &&& BitVec.ofInt (IntKind.bits IntKind.i64) (1 : Int))) : Int) == (1 : Int)) = a.toNat.testBit i := by
  have := bit64 h0 h1 hi
  unfold w64
  rw [this]
  cases a.toNat.testBit i <;> rfl
/-- All brakes from one on grip at once, or fail. -/
def onceP (e : api_Escalator) (fail : Int) (i : Nat) : Prop := ∀ j, i ≤ j → j < e.Brakes.n → (e.Brakes.f j).Delay = 0 ∨ fail.toNat.testBit j = true
open Classical in
theorem once_l12 {R : Type} (N : Nat) {e : api_Escalator} {s : api_Stop} (h1 : VE e) (h2 : VS e s) (x y : Int) (nl : Bool) (a : Arr Int) (k0 : Bool → Option R) : ∀ (n i : Nat) (b : Bool), i ≤ e.Brakes.n → e.Brakes.n < n + i →
    newellaw01_DriveNoBack_l12 N n x y b (i : Int) e s nl a k0 = k0 (b && decide (onceP e s.Fail i)) := by
  have hn := h1.n
  have hf := (h2.ls h1).f2
  have hf1 := h2.f1
  intro n
  induction n with
  | zero => intro i b h1 h2; omega
  | succ n ih =>
    intro i b hi1 hi2
    unfold newellaw01_DriveNoBack_l12 newellaw01_DriveNoBack_b12
    by_cases hi : i < e.Brakes.n
    · have e1 : decide ((i : Int) < (e.Brakes.n : Int)) = true := by simpa using hi
      have e2 : decide ((i : Int) < 0) = false := by simp
      simp only [e1, e2, u64_nat (show i < 1000000000 by omega), nat_nonneg, Bool.and_self, cond_true, cond_false, Int.toNat_natCast, bit_eq1 hf1 (show s.Fail < 9223372036854775808 by omega) (show i < 64 by omega), w64_succ (show i < 1000000000000 by omega)]
      have hstep : onceP e s.Fail i ↔ (((e.Brakes.f i).Delay = 0 ∨ s.Fail.toNat.testBit i = true) ∧ onceP e s.Fail (i + 1)) := by
        constructor
        · intro h; exact ⟨h i (Nat.le_refl _) hi, fun j hj hj2 => h j (by omega) hj2⟩
        · rintro ⟨ha, hb⟩ j hj hj2
          by_cases e : j = i
          · subst e; exact ha
          · exact hb j (by omega) hj2
      simp only [ih (i + 1) _ (by omega) (by omega), hstep]
      cases b
      · simp
      · simp only [cond_true, Bool.true_and]
        by_cases hd : (e.Brakes.f i).Delay = 0
        · simp [hd]
        · have hd' : ((e.Brakes.f i).Delay == 0) = false := by simpa using hd
          simp only [hd', cond_false, hd, false_or]
          cases s.Fail.toNat.testBit i <;> simp
    · have e1 : decide ((i : Int) < (e.Brakes.n : Int)) = false := by simpa using hi
      simp only [e1, cond_false]
      have : onceP e s.Fail i := fun j hj hj2 => by omega
      simp [this]
theorem rest_l21 {R : Type} (N : Nat) {v : Nat → Int} {m : Nat} (hm : m ≤ 1000) (hv : ∀ t, t < m → v t = 0 → v (t + 1) = 0) {a : Arr Int} (ha : a.Is m (fun i => v (i + 1))) (nl : Bool) (kr : Bool → Option R) (k2 : Unit → Option R) : ∀ (n i : Nat), i ≤ m → m < n + i →
    newellaw01_DriveNoBack_l21 N n (v i == 0) (i : Int) nl a kr k2 = k2 () := by
  intro n
  induction n with
  | zero => intro i h1 h2; omega
  | succ n ih =>
    intro i h1 h2
    unfold newellaw01_DriveNoBack_l21 newellaw01_DriveNoBack_b21
    by_cases hi : i < m
    · have e1 : decide ((i : Int) < (a.n : Int)) = true := by rw [ha.len]; simpa using hi
      simp only [e1, nat_nonneg, Bool.and_self, cond_true, Int.toNat_natCast, ha.get i hi, w64_succ (show i < 1000000000000 by omega), ih (i + 1) (by omega) (by omega)]
      by_cases hz : v i = 0
      · have h3 := hv i hi hz
        simp [hz, h3]
      · have hz' : (v i == 0) = false := by simpa using hz
        simp [hz']
    · have e1 : decide ((i : Int) < (a.n : Int)) = false := by rw [ha.len]; simpa using hi
      simp only [e1, cond_false]
theorem grip_once {e : api_Escalator} {fail : Int} (h : onceP e fail 0) {t : Int} (ht : 0 ≤ t) : gripE e fail t = gripE e fail 20 := by
  have key : ∀ i, i ≤ e.Brakes.n → gripS e.Brakes fail t i = gripS e.Brakes fail 20 i := by
    intro i
    induction i with
    | zero => intro _; rfl
    | succ i ih =>
      intro hi
      simp only [gripS, ih (by omega)]
      congr 1
      rcases h i (by omega) (by omega) with hd | hb
      · have a1 : (e.Brakes.f i).Delay ≤ t := by omega
        have a2 : (e.Brakes.f i).Delay ≤ 20 := by omega
        simp only [a1, a2]
      · simp [hb]
  exact key _ (Nat.le_refl _)
theorem tick_stays {e : api_Escalator} {s : api_Stop} (h1 : VE e) (h2 : VS e s) (ho : onceP e s.Fail 0) (hh : e.Pull * s.Loads.High ≤ e.Drag + gripE e s.Fail 20) {t L : Int} (ht : 0 ≤ t) (hl : s.Loads.Low ≤ L) (hl2 : L ≤ s.Loads.High) : tickS e 0 L (gripE e s.Fail t) = 0 := by
  have e1 := h1.e1; have l1 := h2.l1; have d1 := h1.d1
  have hg := gripE_bounds h1 s.Fail 20
  rw [grip_once ho ht]
  have q := Int.mul_nonneg h1.p1 (show 0 ≤ L by omega)
  have m : e.Pull * L ≤ e.Pull * s.Loads.High := Int.mul_le_mul_of_nonneg_left hl2 h1.p1
  have d : (e.Pull * L - (e.Drag + gripE e s.Fail 20)) / (e.Empty + L) < 1 := by rw [Int.ediv_lt_iff_lt_mul (by omega)]; omega
  cases hu : e.Up
  · rw [tick_down hu q]
    simp only [Int.lt_irrefl, if_false]
    omega
  · rw [tick_up hu (by omega) (by omega) q]
    simp only [Int.le_refl, if_true]
    omega
theorem driveNoBack_true (e : api_Escalator) (s : api_Stop) (a : Arr Int) (he : e.wf) (hs : s.wf) (ha : a.n ≤ maxLen) (ha2 : ∀ i, i < a.n → i64 (a.f i)) : ∃ N, newellaw01_DriveNoBack N e s a (fun q0 => okK (lget [.bool q0] 0, [])) = some () := by
  refine ⟨NN, ?_⟩
  rw [newellaw01_DriveNoBack_def]
  unfold newellaw01_DriveNoBack_m
  simp only [Far_eq, works_eq, refCheckStop_eq (show 10 ≤ NN by decide)]
  by_cases h1 : (e.Brakes.n : Int) > 10
  · simp only [h1, decide_true, cond_true]; rfl
  simp only [h1, decide_false, cond_false]
  by_cases h2 : (a.n : Int) > 100
  · simp only [h2, decide_true, cond_true]; rfl
  simp only [h2, decide_false, cond_false, History_eq (show 2000 ≤ NN by decide) (show a.n ≤ 1000 by omega)]
  by_cases h3 : stopV e s = 0
  case neg =>
    have : (stopV e s != 0) = true := by simpa using h3
    simp only [this, cond_true]; rfl
  obtain ⟨hV, hS⟩ := stopV_zero h3
  simp only [h3, bne_self_eq_false, cond_false]
  cases hv : histV s a
  · rfl
  have hH : HistOk e s a := ⟨hV, hS, (histV_iff.1 hv).1, by omega⟩
  obtain ⟨l, b, hb, hk⟩ := Play_eq (N := NN) (by decide) e s a
  rw [playE_of hH, if_pos rfl] at hb
  have hplay := playE_of hH
  have hhold : holdsV e s = (decide (e.Pull * s.Loads.High ≤ e.Drag + gripE e s.Fail 20), 0) := by unfold holdsV; rw [h3]; simp
  have hback : backV e s = if pathV e s false 100 < 0 then (0, 12) else (backS (pathV e s false) 100, 0) := by unfold backV; rw [h3]; simp
  have hn := hV.n
  simp only [Bool.not_true, cond_false, hk, hplay, Back_eq (show 200 ≤ NN by decide), Holds_eq (show 200 ≤ NN by decide), hhold, bne_self_eq_false, hb.len,
    Behind_eq (show 2000 ≤ NN by decide) (show a.n ≤ 1000 by omega) (play_B hH) hb]
  have hbt := play_between hH
  have hle : backS (playV e s a.f) a.n ≤ backS (pathV e s false) 100 := by
    have a1 := back_le (u := playV e s a.f) (v := pathV e s false) (n := a.n) (fun t ht => (hbt t ht).1) a.n (Nat.le_refl _)
    have a2 := back_mono (v := pathV e s false) (a := a.n) (b := 100) (by omega)
    omega
  have hloop := fun (x y : Int) (bb : Bool) (k0 : Bool → Option Unit) => once_l12 (R := Unit) NN hV hS x y l b k0 NN 0 bb (by omega) (by show _ < 5000 + 0; omega)
  simp only [Int.natCast_zero] at hloop
  have hstay : (decide (e.Pull * s.Loads.High ≤ e.Drag + gripE e s.Fail 20) && @decide (onceP e s.Fail 0) (Classical.propDecidable _)) = true → (∀ t, 0 ≤ pathV e s false t) ∧ backS (pathV e s false) 100 = 0 ∧ ∀ t, t < a.n → playV e s a.f t = 0 → playV e s a.f (t + 1) = 0 := by
    intro hb2
    rw [Bool.and_eq_true] at hb2
    have hh := of_decide_eq_true hb2.1
    have ho : onceP e s.Fail 0 := @of_decide_eq_true _ (Classical.propDecidable _) hb2.2
    have hp : ∀ t, 0 ≤ pathV e s false t := by
      intro t
      induction t with
      | zero => exact hS.s1
      | succ t ih =>
        by_cases hz : pathV e s false t = 0
        · have a1 := tick_stays hV hS ho hh (t := (t : Int)) (by omega) (Int.le_refl _) hS.l2
          have a2 := tick_stays hV hS ho hh (t := (t : Int)) (by omega) hS.l2 (Int.le_refl _)
          simp only [pathV, edgeV, hz, Bool.false_eq_true, if_false, a1, a2]
          omega
        · exact edge_soft false (by omega)
    refine ⟨hp, ?_, fun t ht hz => ?_⟩
    · have : ∀ t, backS (pathV e s false) t = 0 := by
        intro t
        induction t with
        | zero => rfl
        | succ t ih => simp only [backS, ih]; have := hp (t + 1); omega
      exact this 100
    · have hl := hH.h t (by omega) ht
      simp only [playV, hz]
      exact tick_stays hV hS ho hh (by omega) hl.1 hl.2
  simp only [hloop]
  by_cases hb0 : pathV e s false 100 < 0
  · rw [hback, if_pos hb0]
    have : (decide (e.Pull * s.Loads.High ≤ e.Drag + gripE e s.Fail 20) && @decide (onceP e s.Fail 0) (Classical.propDecidable _)) = false := by
      cases hc : (decide (e.Pull * s.Loads.High ≤ e.Drag + gripE e s.Fail 20) && @decide (onceP e s.Fail 0) (Classical.propDecidable _))
      · rfl
      · exfalso; have := (hstay hc).1 100; omega
    simp only [this]
    rfl
  · rw [hback, if_neg hb0]
    have c1 : ¬ (backS (playV e s a.f) a.n > backS (pathV e s false) 100) := by omega
    simp only [bne_self_eq_false, cond_false, BEq.rfl, cond_true, c1, decide_false]
    cases hc : (decide (e.Pull * s.Loads.High ≤ e.Drag + gripE e s.Fail 20) && @decide (onceP e s.Fail 0) (Classical.propDecidable _))
    · rfl
    · obtain ⟨s1, s2, s3⟩ := hstay hc
      simp only [Bool.not_true, cond_false, s2, bne_self_eq_false]
      have := rest_l21 (R := Unit) NN (v := playV e s a.f) (m := a.n) (by omega) s3 hb l (fun r => okK (lget [.bool r] 0, [])) (fun _ => okK (lget [.bool true] 0, [])) NN 0 (by omega) (by show _ < 5000 + 0; omega)
      exact this
end
end Go.Proofs.Ytpcmpbellmiijaa
