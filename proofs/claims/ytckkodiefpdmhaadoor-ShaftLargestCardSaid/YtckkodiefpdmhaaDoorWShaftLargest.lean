import Derived.Test.YtckkodiefpdmhaaDoorQ2
set_option maxRecDepth 100000
set_option maxHeartbeats 0
set_option linter.unusedVariables false
set_option linter.unusedSimpArgs false
namespace Go.Proofs.YtckkodiefpdmhaaDoor
open Go.Sx
noncomputable section
def newellaw09_ShaftLargest_L8 : LoopSp := ⟨⟨[3, 4, 5, 7, 8, 9, 10], ⟨(dr 3 ((rPtr 0 0) :: (rPtr 1 0) :: (rPtr 2 0) :: (dr 1 ((rInt .i64) :: (rInt .i64) :: (rPtr 3 0) :: (rInt .i64) :: (dr 118 []))))), [(0, eBlkC api_ShaftC), (1, eBlkC newellaw09_CrateC), (2, eBlkC api_PoseC), (3, eBlkC Arr3_intC)]⟩, 4⟩, [(Option.none, ⟨[6], ⟨(dr 6 ((rBool) :: (dr 122 []))), []⟩, 0⟩), (some 0, ⟨[], ⟨(dr 129 []), []⟩, 0⟩)]⟩
theorem newellaw09_ShaftLargest_L8_ok : newellaw09_ShaftLargest_L8.Ok := ⟨⟨(drCons 3 (allCons (rPtr_ok 0 0) (allCons (rPtr_ok 1 0) (allCons (rPtr_ok 2 0) (drCons 1 (allCons (rInt_ok .i64) (allCons (rInt_ok .i64) (allCons (rPtr_ok 3 0) (allCons (rInt_ok .i64) (drCons 118 allNil)))))))))), (eCons (eBlkC_ok api_ShaftC_ok api_ShaftC_len) (eCons (eBlkC_ok newellaw09_CrateC_ok newellaw09_CrateC_len) (eCons (eBlkC_ok api_PoseC_ok api_PoseC_len) (eCons (eBlkC_ok Arr3_intC_ok Arr3_intC_len) eNil))))⟩, (xCons ⟨(drCons 6 (allCons rBool_ok (drCons 122 allNil))), eNil⟩ (xCons ⟨(drCons 129 allNil), eNil⟩ xNil))⟩
def newellaw09_ShaftLargest_h8 (v1632 : Int) (v1633 : Int) (v1634 : Int) (v1635 : api_Shaft) (v1636 : newellaw09_Crate) (v1637 : api_Pose) (v1638 : Arr3_int) : St := ⟨(un 3 ((.ptr 0 0) :: (.ptr 1 0) :: (.ptr 2 0) :: (un 1 ((.int .i64 v1632) :: (.int .i64 v1633) :: (.ptr 3 0) :: (.int .i64 v1634) :: (un 118 []))))), [(0, .blk (Cod.enc api_ShaftC v1635)), (1, .blk (Cod.enc newellaw09_CrateC v1636)), (2, .blk (Cod.enc api_PoseC v1637)), (3, .blk (Cod.enc Arr3_intC v1638))], 4⟩
def newellaw09_ShaftLargest_x8_r (q0 : Bool) : St := ⟨(un 6 ((.bool q0) :: (un 122 []))), [], 0⟩
def newellaw09_ShaftLargest_x8_0  : St := ⟨(un 129 []), [], 0⟩
def newellaw09_ShaftLargest_b8 {R : Type} (N : Nat) (rc : Int → Int → Int → api_Shaft → newellaw09_Crate → api_Pose → Arr3_int → Option R) (v1632 : Int) (v1633 : Int) (v1634 : Int) (v1635 : api_Shaft) (v1636 : newellaw09_Crate) (v1637 : api_Pose) (v1638 : Arr3_int) (kr : Bool → Option R) (k0 : Unit → Option R) : Option R :=
  bif decide (v1634 ≤ (8 : Int)) then
   bif decide ((0 : Int) ≤ newellaw09_Crate.Move v1636) && decide (newellaw09_Crate.Move v1636 < (↑(3 : Nat) : Int)) then
    shaft_Carry N v1635 (Arr3_int.mk (bif newellaw09_Crate.Move v1636 == (↑(0 : Nat) : Int) then v1634 else Arr3_int.a0 v1638) (bif newellaw09_Crate.Move v1636 == (↑((0 : Nat) + (1 : Nat)) : Int) then v1634 else Arr3_int.a1 v1638) (bif newellaw09_Crate.Move v1636 == (↑((0 : Nat) + (1 : Nat) + (1 : Nat)) : Int) then v1634 else Arr3_int.a2 v1638)) (newellaw09_Crate.Pose v1636) v1637 (fun r1639 r1640 r1641 =>
    bif r1639 == (0 : Int) then
     bif v1633 != (0 : Int) then
      kr false
     else
      bif decide (v1634 > v1632) then
       kr false
      else
       bif r1639 != (0 : Int) then
        bif v1633 == (0 : Int) then
         bif v1634 == v1632 then
          kr false
         else
          rc v1632 v1633 (w64 (v1634 + (1 : Int))) v1635 v1636 v1637 (Arr3_int.mk (bif newellaw09_Crate.Move v1636 == (↑(0 : Nat) : Int) then v1634 else Arr3_int.a0 v1638) (bif newellaw09_Crate.Move v1636 == (↑((0 : Nat) + (1 : Nat)) : Int) then v1634 else Arr3_int.a1 v1638) (bif newellaw09_Crate.Move v1636 == (↑((0 : Nat) + (1 : Nat) + (1 : Nat)) : Int) then v1634 else Arr3_int.a2 v1638))
        else
         rc v1632 v1633 (w64 (v1634 + (1 : Int))) v1635 v1636 v1637 (Arr3_int.mk (bif newellaw09_Crate.Move v1636 == (↑(0 : Nat) : Int) then v1634 else Arr3_int.a0 v1638) (bif newellaw09_Crate.Move v1636 == (↑((0 : Nat) + (1 : Nat)) : Int) then v1634 else Arr3_int.a1 v1638) (bif newellaw09_Crate.Move v1636 == (↑((0 : Nat) + (1 : Nat) + (1 : Nat)) : Int) then v1634 else Arr3_int.a2 v1638))
       else
        rc v1632 v1633 (w64 (v1634 + (1 : Int))) v1635 v1636 v1637 (Arr3_int.mk (bif newellaw09_Crate.Move v1636 == (↑(0 : Nat) : Int) then v1634 else Arr3_int.a0 v1638) (bif newellaw09_Crate.Move v1636 == (↑((0 : Nat) + (1 : Nat)) : Int) then v1634 else Arr3_int.a1 v1638) (bif newellaw09_Crate.Move v1636 == (↑((0 : Nat) + (1 : Nat) + (1 : Nat)) : Int) then v1634 else Arr3_int.a2 v1638))
    else
     bif r1639 != (0 : Int) then
      bif v1633 == (0 : Int) then
       bif v1634 == v1632 then
        kr false
       else
        rc v1632 v1633 (w64 (v1634 + (1 : Int))) v1635 v1636 v1637 (Arr3_int.mk (bif newellaw09_Crate.Move v1636 == (↑(0 : Nat) : Int) then v1634 else Arr3_int.a0 v1638) (bif newellaw09_Crate.Move v1636 == (↑((0 : Nat) + (1 : Nat)) : Int) then v1634 else Arr3_int.a1 v1638) (bif newellaw09_Crate.Move v1636 == (↑((0 : Nat) + (1 : Nat) + (1 : Nat)) : Int) then v1634 else Arr3_int.a2 v1638))
      else
       rc v1632 v1633 (w64 (v1634 + (1 : Int))) v1635 v1636 v1637 (Arr3_int.mk (bif newellaw09_Crate.Move v1636 == (↑(0 : Nat) : Int) then v1634 else Arr3_int.a0 v1638) (bif newellaw09_Crate.Move v1636 == (↑((0 : Nat) + (1 : Nat)) : Int) then v1634 else Arr3_int.a1 v1638) (bif newellaw09_Crate.Move v1636 == (↑((0 : Nat) + (1 : Nat) + (1 : Nat)) : Int) then v1634 else Arr3_int.a2 v1638))
     else
      rc v1632 v1633 (w64 (v1634 + (1 : Int))) v1635 v1636 v1637 (Arr3_int.mk (bif newellaw09_Crate.Move v1636 == (↑(0 : Nat) : Int) then v1634 else Arr3_int.a0 v1638) (bif newellaw09_Crate.Move v1636 == (↑((0 : Nat) + (1 : Nat)) : Int) then v1634 else Arr3_int.a1 v1638) (bif newellaw09_Crate.Move v1636 == (↑((0 : Nat) + (1 : Nat) + (1 : Nat)) : Int) then v1634 else Arr3_int.a2 v1638)))
   else
    Option.none
  else
   k0 ()
def newellaw09_ShaftLargest_l8 {R : Type} (N : Nat) : Nat → Int → Int → Int → api_Shaft → newellaw09_Crate → api_Pose → Arr3_int → (Bool → Option R) → (Unit → Option R) → Option R
  | 0, _, _, _, _, _, _, _, _, _ => Option.none
  | n + 1, v1632, v1633, v1634, v1635, v1636, v1637, v1638, kr, k0 => newellaw09_ShaftLargest_b8 N (fun v1632 v1633 v1634 v1635 v1636 v1637 v1638 => newellaw09_ShaftLargest_l8 N n v1632 v1633 v1634 v1635 v1636 v1637 v1638 kr k0) v1632 v1633 v1634 v1635 v1636 v1637 v1638 kr k0
def newellaw09_ShaftLargest_m {R : Type} (N : Nat) (a1617 : api_Shaft) (a1618 : newellaw09_Crate) (a1619 : api_Pose) (k : Bool → Option R) : Option R :=
  newellaw09_Far N a1617 (fun r1620 =>
  bif r1620 then
   newellaw09_works N  (fun r1621 =>
   k r1621)
  else
   newelref09_CheckCrate N a1617 (newellaw09_Crate.Edges a1618) (fun r1622 =>
   bif r1622 != (0 : Int) then
    newellaw09_works N  (fun r1623 =>
    k r1623)
   else
    bif decide (newellaw09_Crate.Move a1618 < (0 : Int)) then
     newellaw09_works N  (fun r1624 =>
     k r1624)
    else
     bif decide (newellaw09_Crate.Move a1618 > (2 : Int)) then
      newellaw09_works N  (fun r1625 =>
      k r1625)
     else
      bif decide (api_Pose.Turn (newellaw09_Crate.Pose a1618) < (0 : Int)) then
       newellaw09_works N  (fun r1626 =>
       k r1626)
      else
       bif decide (api_Pose.Turn (newellaw09_Crate.Pose a1618) > (5 : Int)) then
        newellaw09_works N  (fun r1627 =>
        k r1627)
       else
        bif decide (api_Pose.Turn a1619 < (0 : Int)) then
         newellaw09_works N  (fun r1628 =>
         k r1628)
        else
         bif decide (api_Pose.Turn a1619 > (5 : Int)) then
          newellaw09_works N  (fun r1629 =>
          k r1629)
         else
          shaft_Largest N a1617 (newellaw09_Crate.Edges a1618) (newellaw09_Crate.Pose a1618) a1619 (newellaw09_Crate.Move a1618) (fun r1630 r1631 =>
          bif r1631 != (0 : Int) then
           bif r1631 != (3 : Int) then
            k false
           else
            bif r1631 == (0 : Int) then
             bif decide (r1630 < (1 : Int)) then
              k false
             else
              bif decide (r1630 > (8 : Int)) then
               k false
              else
               newellaw09_ShaftLargest_l8 N N r1630 r1631 (1 : Int) a1617 a1618 a1619 (newellaw09_Crate.Edges a1618) (fun r1642 =>
                k r1642) (fun (_ : Unit) =>
                newellaw09_works N  (fun r1643 =>
                k r1643))
            else
             newellaw09_ShaftLargest_l8 N N r1630 r1631 (1 : Int) a1617 a1618 a1619 (newellaw09_Crate.Edges a1618) (fun r1644 =>
              k r1644) (fun (_ : Unit) =>
              newellaw09_works N  (fun r1645 =>
              k r1645))
          else
           bif r1631 == (0 : Int) then
            bif decide (r1630 < (1 : Int)) then
             k false
            else
             bif decide (r1630 > (8 : Int)) then
              k false
             else
              newellaw09_ShaftLargest_l8 N N r1630 r1631 (1 : Int) a1617 a1618 a1619 (newellaw09_Crate.Edges a1618) (fun r1646 =>
               k r1646) (fun (_ : Unit) =>
               newellaw09_works N  (fun r1647 =>
               k r1647))
           else
            newellaw09_ShaftLargest_l8 N N r1630 r1631 (1 : Int) a1617 a1618 a1619 (newellaw09_Crate.Edges a1618) (fun r1648 =>
             k r1648) (fun (_ : Unit) =>
             newellaw09_works N  (fun r1649 =>
             k r1649)))))
noncomputable def newellaw09_ShaftLargest {R : Type} : Nat → api_Shaft → newellaw09_Crate → api_Pose → (Bool → Option R) → Option R := lock (@newellaw09_ShaftLargest_m R)
theorem newellaw09_ShaftLargest_def {R : Type} (N : Nat) (a1617 : api_Shaft) (a1618 : newellaw09_Crate) (a1619 : api_Pose) (k : Bool → Option R) : newellaw09_ShaftLargest N a1617 a1618 a1619 k = newellaw09_ShaftLargest_m N a1617 a1618 a1619 k := by unfold newellaw09_ShaftLargest; rw [lock_eq]
def newellaw09_ShaftLargest_sp : Sp := ⟨[rAgg api_ShaftC, rAgg newellaw09_CrateC, rAgg api_PoseC], []⟩
theorem newellaw09_ShaftLargest_sp_ok : newellaw09_ShaftLargest_sp.Ok := ⟨(allCons (rAgg_ok api_ShaftC_ok api_ShaftC_len) (allCons (rAgg_ok newellaw09_CrateC_ok newellaw09_CrateC_len) (allCons (rAgg_ok api_PoseC_ok api_PoseC_len) allNil))), eNil⟩
def newellaw09_ShaftLargest_rs : Sp := ⟨[rBool], []⟩
theorem newellaw09_ShaftLargest_rs_ok : newellaw09_ShaftLargest_rs.Ok := ⟨(allCons rBool_ok allNil), eNil⟩
def newellaw09_ShaftLargest_run {R : Type} (N : Nat) (args : List SV) (T : Tab) (kf : SV × Tab → Option R) : Option R :=
  newellaw09_ShaftLargest_m N (Cod.dec api_ShaftC (lget (toCs (lget args 0)))) (Cod.dec newellaw09_CrateC (lget (toCs (lget args 1)))) (Cod.dec api_PoseC (lget (toCs (lget args 2)))) (fun q0 => kf (lget [.bool q0] 0, []))
def newellaw09_ShaftLargest_d8 {R : Type} (N : Nat) (S0 : St) (k : Exit → St → Option R) : Option R :=
  newellaw09_ShaftLargest_l8 N N (toI (lget S0.tmps 7)) (toI (lget S0.tmps 8)) (toI (lget S0.tmps 10)) (Cod.dec api_ShaftC (lget (entCs (entAt S0.tab 0)))) (Cod.dec newellaw09_CrateC (lget (entCs (entAt S0.tab 1)))) (Cod.dec api_PoseC (lget (entCs (entAt S0.tab 2)))) (Cod.dec Arr3_intC (lget (entCs (entAt S0.tab 3)))) (fun q0 => k .ret (newellaw09_ShaftLargest_x8_r q0)) (fun (_ : Unit) => k (.exit 0) (newellaw09_ShaftLargest_x8_0 ))
def newellaw09_ShaftLargest_lp {R : Type} (N : Nat) : Lp R := fun body S k => bif (Go.Sx.keyOf body).getD 0 == 8 then (newellaw09_ShaftLargest_L8.head.raw 0 S (fun S0 => newellaw09_ShaftLargest_d8 N S0 k)) else Option.none
theorem newellaw09_ShaftLargest_l8_eq {R : Type} (N : Nat) (k : Exit → St → Option R) (n : Nat) : ∀ (v0 : Int) (v1 : Int) (v2 : Int) (v3 : api_Shaft) (v4 : newellaw09_Crate) (v5 : api_Pose) (v6 : Arr3_int), loopM E.Θ (newellaw09_ready_cal N) (newellaw09_ShaftLargest_lp N) (noJn) 0 newellaw09_ShaftLargest_L8 (bodyAt E 12 8) n (newellaw09_ShaftLargest_h8 v0 v1 v2 v3 v4 v5 v6) k = newellaw09_ShaftLargest_l8 N n v0 v1 v2 v3 v4 v5 v6 (fun q0 => k .ret (newellaw09_ShaftLargest_x8_r q0)) (fun (_ : Unit) => k (.exit 0) (newellaw09_ShaftLargest_x8_0 )) := by
  induction n with
  | zero => intro v0 v1 v2 v3 v4 v5 v6; rfl
  | succ n ih =>
    intro v0 v1 v2 v3 v4 v5 v6
    refine Eq.trans (b := newellaw09_ShaftLargest_b8 N (fun v0 v1 v2 v3 v4 v5 v6 => loopM E.Θ (newellaw09_ready_cal N) (newellaw09_ShaftLargest_lp N) (noJn) 0 newellaw09_ShaftLargest_L8 (bodyAt E 12 8) n (newellaw09_ShaftLargest_h8 v0 v1 v2 v3 v4 v5 v6) k) v0 v1 v2 v3 v4 v5 v6 (fun q0 => k .ret (newellaw09_ShaftLargest_x8_r q0)) (fun (_ : Unit) => k (.exit 0) (newellaw09_ShaftLargest_x8_0 ))) (by kernel_rfl) ?_
    have h : (fun (v0 : Int) (v1 : Int) (v2 : Int) (v3 : api_Shaft) (v4 : newellaw09_Crate) (v5 : api_Pose) (v6 : Arr3_int) => loopM E.Θ (newellaw09_ready_cal N) (newellaw09_ShaftLargest_lp N) (noJn) 0 newellaw09_ShaftLargest_L8 (bodyAt E 12 8) n (newellaw09_ShaftLargest_h8 v0 v1 v2 v3 v4 v5 v6) k) = (fun (v0 : Int) (v1 : Int) (v2 : Int) (v3 : api_Shaft) (v4 : newellaw09_Crate) (v5 : api_Pose) (v6 : Arr3_int) => newellaw09_ShaftLargest_l8 N n v0 v1 v2 v3 v4 v5 v6 (fun q0 => k .ret (newellaw09_ShaftLargest_x8_r q0)) (fun (_ : Unit) => k (.exit 0) (newellaw09_ShaftLargest_x8_0 ))) := funext fun v0 => funext fun v1 => funext fun v2 => funext fun v3 => funext fun v4 => funext fun v5 => funext fun v6 => ih v0 v1 v2 v3 v4 v5 v6
    rw [h]
    rfl
theorem newellaw09_ShaftLargest_k8 {R : Type} (N : Nat) : LpKey (R := R) E 12 0 (newellaw09_ShaftLargest_lp N) 8 :=
  lpKey_of hE (newellaw09_ready_cal_ok N) (lp := newellaw09_ShaftLargest_lp N) (jn := noJn) newellaw09_ShaftLargest_L8_ok [] kNil (by kernel_rfl) [] jNil (by kernel_rfl) N fun S k =>
    Eq.trans (b := newellaw09_ShaftLargest_L8.head.raw 0 S (fun S0 => newellaw09_ShaftLargest_d8 N S0 k)) (by kernel_rfl) (congrArg (newellaw09_ShaftLargest_L8.head.raw 0 S) (funext fun S0 => Eq.trans (newellaw09_ShaftLargest_l8_eq N k N (toI (lget S0.tmps 7)) (toI (lget S0.tmps 8)) (toI (lget S0.tmps 10)) (Cod.dec api_ShaftC (lget (entCs (entAt S0.tab 0)))) (Cod.dec newellaw09_CrateC (lget (entCs (entAt S0.tab 1)))) (Cod.dec api_PoseC (lget (entCs (entAt S0.tab 2)))) (Cod.dec Arr3_intC (lget (entCs (entAt S0.tab 3))))).symm (by kernel_rfl)))
noncomputable def newellaw09_ShaftLargest_go {R : Type} (N : Nat) (args : List SV) (T : Tab) (kf : SV × Tab → Option R) : Option R :=
  newellaw09_ShaftLargest N (Cod.dec api_ShaftC (lget (toCs (lget args 0)))) (Cod.dec newellaw09_CrateC (lget (toCs (lget args 1)))) (Cod.dec api_PoseC (lget (toCs (lget args 2)))) (fun q0 => kf (lget [.bool q0] 0, []))
noncomputable def newellaw09_ShaftLargest_cal {R : Type} (N : Nat) : Cal R := callM (newellaw09_ready_cal N) 12 0 newellaw09_ShaftLargest_sp (newellaw09_ShaftLargest_go N)
theorem newellaw09_ShaftLargest_cal_ok {R : Type} (N : Nat) : CalOk E.P (newellaw09_ShaftLargest_cal (R := R) N) :=
  callM_ok hE (newellaw09_ready_cal_ok N) (lp := newellaw09_ShaftLargest_lp N) (jn := noJn) (keys := [8]) (kCons (newellaw09_ShaftLargest_k8 N) kNil) (by kernel_rfl) (js := []) jNil (by kernel_rfl) newellaw09_ShaftLargest_sp_ok newellaw09_ShaftLargest_rs_ok (fun args T kf => Eq.trans (newellaw09_ShaftLargest_def N (Cod.dec api_ShaftC (lget (toCs (lget args 0)))) (Cod.dec newellaw09_CrateC (lget (toCs (lget args 1)))) (Cod.dec api_PoseC (lget (toCs (lget args 2)))) (fun q0 => kf (lget [.bool q0] 0, []))) (by kernel_rfl : newellaw09_ShaftLargest_run N args T kf = fnM E (newellaw09_ready_cal N) (newellaw09_ShaftLargest_lp N) (noJn) 12 (newellaw09_ShaftLargest_sp.vs args) (newellaw09_ShaftLargest_sp.tab T) 0 (resK newellaw09_ShaftLargest_rs kf)))
section
open Classical
variable {R : Type}
theorem big_l8 {s : api_Shaft} (c : newellaw09_Crate) (b : api_Pose) {L E : Int} (hk : c.Move = 0 ∨ c.Move = 1 ∨ c.Move = 2) (N : Nat) (hN : 4000 ≤ N) (kr : Bool → Option R) (k0 : Unit → Option R)
    (hA : ∀ n : Nat, 1 ≤ n → n ≤ 8 → carE s (setE c.Edges c.Move (n : Int)) c.Pose b = 0 → E = 0 ∧ (n : Int) ≤ L) (hB : E = 0 → carE s (setE c.Edges c.Move L) c.Pose b = 0) :
    ∀ (q i n : Nat) (e' : Arr3_int), i + q = 9 → 1 ≤ i → q < n → (∀ m, setE e' c.Move m = setE c.Edges c.Move m) → newellaw09_ShaftLargest_l8 N n L E (i : Int) s c b e' kr k0 = k0 () := by
  intro q
  induction q with
  | zero =>
    intro i n e' h1 h2 h3 h4
    obtain ⟨n, rfl⟩ : ∃ m, n = m + 1 := ⟨n - 1, by omega⟩
    unfold newellaw09_ShaftLargest_l8 newellaw09_ShaftLargest_b8
    rw [decide_eq_false (show ¬ (i : Int) ≤ 8 by omega), cond_false]
  | succ q ih =>
    intro i n e' h1 h2 h3 h4
    obtain ⟨n, rfl⟩ : ∃ m, n = m + 1 := ⟨n - 1, by omega⟩
    have hrec := ih (i + 1) n (setE c.Edges c.Move (i : Int)) (by omega) (by omega) (by omega) (fun m => setE_set hk)
    have kk : (decide ((0 : Int) ≤ c.Move) && decide (c.Move < ((3 : Nat) : Int))) = true := by rcases hk with h | h | h <;> rw [h] <;> rfl
    unfold newellaw09_ShaftLargest_l8 newellaw09_ShaftLargest_b8
    rw [decide_eq_true (show (i : Int) ≤ 8 by omega), cond_true, kk, cond_true, w64_eq (show -9223372036854775808 ≤ (i : Int) + 1 by omega) (by omega), show (i : Int) + 1 = ((i + 1 : Nat) : Int) by omega]
    try dsimp only
    rw [show (Arr3_int.mk (bif c.Move == ((0 : Nat) : Int) then (i : Int) else e'.a0) (bif c.Move == ((0 + 1 : Nat) : Int) then (i : Int) else e'.a1) (bif c.Move == ((0 + 1 + 1 : Nat) : Int) then (i : Int) else e'.a2)) = setE c.Edges c.Move (i : Int) from h4 (i : Int), hrec]
    refine viaCarry hN (fun nl arr ha => ?_)
    by_cases h5 : carE s (setE c.Edges c.Move (i : Int)) c.Pose b = 0
    · obtain ⟨g1, g2⟩ := hA i h2 (by omega) h5
      simp only [h5, g1, beq_self_eq_true, bne_self_eq_false, cond_true, cond_false]
      rw [decide_eq_false (show ¬ (i : Int) > L by omega), cond_false]
    · rw [show (carE s (setE c.Edges c.Move (i : Int)) c.Pose b == (0 : Int)) = false by simpa using h5, bne0 h5]
      simp only [cond_true, cond_false]
      by_cases h6 : E = 0
      · have : ¬ (i : Int) = L := fun g => h5 (by rw [g]; exact hB h6)
        rw [h6, beq_self_eq_true, cond_true, show ((i : Int) == L) = false by simpa using this, cond_false]
      · rw [show (E == (0 : Int)) = false by simpa using h6, cond_false]
theorem shaftLargest_true (s : api_Shaft) (c : newellaw09_Crate) (b : api_Pose) (hs : s.wf) (hc : c.wf) (hb : b.wf) : ∃ N, newellaw09_ShaftLargest N s c b (fun q0 => okK (lget [.bool q0] 0, [])) = some () := by
  refine ⟨200200, ?_⟩
  rw [newellaw09_ShaftLargest_def]
  unfold newellaw09_ShaftLargest_m
  have hM : (200100 : Nat) ≤ 200200 := by omega
  have h4 : (4000 : Nat) ≤ 200200 := by omega
  simp only [farS_eq, works_eq _ hM, refCrate_eq _ _ _ (show 300 ≤ 200200 by omega), sLargest_eq _ _ _ _ _ _ h4]
  cases decide (((s.Walls.n : Nat) : Int) > 300)
  rotate_left
  · rfl
  rw [cond_false]
  by_cases h0 : errC s c.Edges = 0
  rotate_left
  · rw [bne0 h0]; rfl
  rw [h0, show ((0 : Int) != 0) = false from rfl, cond_false]
  by_cases g1 : c.Move < 0
  · rw [decide_eq_true g1]; rfl
  rw [decide_eq_false g1, cond_false]
  by_cases g2 : c.Move > 2
  · rw [decide_eq_true g2]; rfl
  rw [decide_eq_false g2, cond_false]
  by_cases g3 : c.Pose.Turn < 0
  · rw [decide_eq_true g3]; rfl
  rw [decide_eq_false g3, cond_false]
  by_cases g4 : c.Pose.Turn > 5
  · rw [decide_eq_true g4]; rfl
  rw [decide_eq_false g4, cond_false]
  by_cases g5 : b.Turn < 0
  · rw [decide_eq_true g5]; rfl
  rw [decide_eq_false g5, cond_false]
  by_cases g6 : b.Turn > 5
  · rw [decide_eq_true g6]; rfl
  rw [decide_eq_false g6, cond_false]
  have hk := k3 g1 g2
  have hE : lgE s c.Edges c.Pose b c.Move = match fndD (canL s c.Edges c.Pose b c.Move) 8 with | some _ => 0 | none => 3 := by
    unfold lgE
    rw [if_neg (by simpa using h0), if_neg (show ¬ ¬ (0 ≤ c.Move ∧ c.Move ≤ 2) from fun h => h ⟨by omega, by omega⟩), if_neg (show ¬ ¬ T6 c.Pose.Turn from fun h => h ⟨by omega, by omega⟩), if_neg (show ¬ ¬ T6 b.Turn from fun h => h ⟨by omega, by omega⟩)]
    cases fndD (canL s c.Edges c.Pose b c.Move) 8 <;> rfl
  have hL : lgV s c.Edges c.Pose b c.Move = if lgE s c.Edges c.Pose b c.Move = 0 then (match fndD (canL s c.Edges c.Pose b c.Move) 8 with | some n => (n : Int) | none => 0) else 0 := rfl
  cases hf : fndD (canL s c.Edges c.Pose b c.Move) 8 with
  | none =>
    rw [hf] at hE hL
    simp only at hE hL
    rw [hE] at hL
    rw [if_neg (by omega)] at hL
    rw [hE, hL]
    have := big_l8 (R := Unit) (s := s) c b (L := 0) (E := 3) hk 200200 h4 (fun r1644 => okK (lget [SV.bool r1644] 0, [])) (fun _ => okK (lget [SV.bool true] 0, [])) (fun n h1 h2 h3 => absurd h3 (fndD_none hf n h1 h2)) (fun h => by omega) 8 1 200200 c.Edges rfl (by omega) (by omega) (fun m => rfl)
    exact this
  | some m =>
    rw [hf] at hE hL
    simp only at hE hL
    rw [hE] at hL
    rw [if_pos rfl] at hL
    obtain ⟨f1, f2, f3, f4⟩ := fndD_some hf
    rw [hE, hL]
    have := big_l8 (R := Unit) (s := s) c b (L := (m : Int)) (E := 0) hk 200200 h4 (fun r1644 => okK (lget [SV.bool r1644] 0, [])) (fun _ => okK (lget [SV.bool true] 0, [])) (fun n h1 h2 h3 => ⟨rfl, by
      by_cases g : n ≤ m
      · omega
      · exact absurd h3 (f4 n (by omega) h2)⟩) (fun h => f1) 8 1 200200 c.Edges rfl (by omega) (by omega) (fun m => rfl)
    rw [show ((0 : Int) != 0) = false from rfl, cond_false, show ((0 : Int) == 0) = true from rfl, cond_true, decide_eq_false (show ¬ (m : Int) < 1 by omega), cond_false, decide_eq_false (show ¬ (m : Int) > 8 by omega), cond_false]
    exact this
end
end
end Go.Proofs.YtckkodiefpdmhaaDoor
