/-
  The model of the statement EnergyHonest, that it is what the code does (written by a program), and that it answers true.
-/
import Derived.Test.YtfaefhegfcidpaaP5
set_option maxRecDepth 100000
set_option maxHeartbeats 0
set_option linter.unusedVariables false
set_option linter.unusedSimpArgs false
namespace Go.Proofs.Ytfaefhegfcidpaa
open Go.Sx
noncomputable section

def newellaw11_EnergyHonest_L15 : LoopSp := ⟨⟨[3, 4, 5, 7, 8, 11, 12, 13, 14], ⟨(dr 3 ((rPtr 0 0) :: (rPtr 1 0) :: (rPtr 2 0) :: (dr 1 ((rRow 3) :: (rInt .i64) :: (dr 2 ((rRow 4) :: (rInt .i64) :: (rBool) :: (rInt .i64) :: (dr 122 []))))))), [(0, eBlkC api_BandC), (1, eBlkC api_TimesC), (2, eBlkC newellaw11_PaidC), (3, eRow api_SpanC), (4, eRow intC)]⟩, 5⟩, [(some 2, ⟨[3, 4, 5, 7, 8, 12, 13], ⟨(dr 3 ((rPtr 0 0) :: (rPtr 1 0) :: (rPtr 2 0) :: (dr 1 ((rRow 3) :: (rInt .i64) :: (dr 3 ((rInt .i64) :: (rBool) :: (dr 123 []))))))), [(0, eBlkC api_BandC), (1, eBlkC api_TimesC), (2, eBlkC newellaw11_PaidC), (3, eRow api_SpanC)]⟩, 4⟩)]⟩
theorem newellaw11_EnergyHonest_L15_ok : newellaw11_EnergyHonest_L15.Ok := ⟨⟨(drCons 3 (allCons (rPtr_ok 0 0) (allCons (rPtr_ok 1 0) (allCons (rPtr_ok 2 0) (drCons 1 (allCons (rRow_ok 3) (allCons (rInt_ok .i64) (drCons 2 (allCons (rRow_ok 4) (allCons (rInt_ok .i64) (allCons rBool_ok (allCons (rInt_ok .i64) (drCons 122 allNil))))))))))))), (eCons (eBlkC_ok api_BandC_ok api_BandC_len) (eCons (eBlkC_ok api_TimesC_ok api_TimesC_len) (eCons (eBlkC_ok newellaw11_PaidC_ok newellaw11_PaidC_len) (eCons (eRow_ok api_SpanC_ok) (eCons (eRow_ok intC_ok) eNil)))))⟩, (xCons ⟨(drCons 3 (allCons (rPtr_ok 0 0) (allCons (rPtr_ok 1 0) (allCons (rPtr_ok 2 0) (drCons 1 (allCons (rRow_ok 3) (allCons (rInt_ok .i64) (drCons 3 (allCons (rInt_ok .i64) (allCons rBool_ok (drCons 123 allNil))))))))))), (eCons (eBlkC_ok api_BandC_ok api_BandC_len) (eCons (eBlkC_ok api_TimesC_ok api_TimesC_len) (eCons (eBlkC_ok newellaw11_PaidC_ok newellaw11_PaidC_len) (eCons (eRow_ok api_SpanC_ok) eNil))))⟩ xNil)⟩
def newellaw11_EnergyHonest_h15 (v681 : Int) (v682 : Int) (v683 : Bool) (v684 : Int) (v685 : api_Band) (v686 : api_Times) (v687 : newellaw11_Paid) (v688 : Bool) (v689 : Arr api_Span) (v690 : Bool) (v691 : Arr Int) : St := ⟨(un 3 ((.ptr 0 0) :: (.ptr 1 0) :: (.ptr 2 0) :: (un 1 ((.row 3) :: (.int .i64 v681) :: (un 2 ((.row 4) :: (.int .i64 v682) :: (.bool v683) :: (.int .i64 v684) :: (un 122 []))))))), [(0, .blk (Cod.enc api_BandC v685)), (1, .blk (Cod.enc api_TimesC v686)), (2, .blk (Cod.enc newellaw11_PaidC v687)), (3, rowE api_SpanC v688 v689), (4, rowE intC v690 v691)], 5⟩
def newellaw11_EnergyHonest_x15_2 (v681 : Int) (v682 : Int) (v685 : api_Band) (v686 : api_Times) (v687 : newellaw11_Paid) (v688 : Bool) (v689 : Arr api_Span) (q2 : Bool) : St := ⟨(un 3 ((.ptr 0 0) :: (.ptr 1 0) :: (.ptr 2 0) :: (un 1 ((.row 3) :: (.int .i64 v681) :: (un 3 ((.int .i64 v682) :: (.bool q2) :: (un 123 []))))))), [(0, .blk (Cod.enc api_BandC v685)), (1, .blk (Cod.enc api_TimesC v686)), (2, .blk (Cod.enc newellaw11_PaidC v687)), (3, rowE api_SpanC v688 v689)], 4⟩
def newellaw11_EnergyHonest_b15 {R : Type} (N : Nat) (rc : Int → Int → Bool → Int → api_Band → api_Times → newellaw11_Paid → Bool → Arr api_Span → Bool → Arr Int → Option R) (v681 : Int) (v682 : Int) (v683 : Bool) (v684 : Int) (v685 : api_Band) (v686 : api_Times) (v687 : newellaw11_Paid) (v688 : Bool) (v689 : Arr api_Span) (v690 : Bool) (v691 : Arr Int) (k2 : Bool → Option R) : Option R :=
  bif decide (v684 < (↑(Arr.n v691) : Int)) then
   bif v683 then
    rc v681 v682 true (w64 (v684 + (1 : Int))) v685 v686 v687 v688 v689 v690 v691
   else
    bif decide ((0 : Int) ≤ v684) && decide (v684 < (↑(Arr.n v691) : Int)) then
     bif decide ((0 : Int) ≤ v681) && decide (v681 < (↑(Arr.n (newellaw11_Paid.Flows v687)) : Int)) then
      rc v681 v682 (Arr.f v691 (Int.toNat v684) == Arr.f (newellaw11_Paid.Flows v687) (Int.toNat v681)) (w64 (v684 + (1 : Int))) v685 v686 v687 v688 v689 v690 v691
     else
      Option.none
    else
     Option.none
  else
   k2 v683
def newellaw11_EnergyHonest_l15 {R : Type} (N : Nat) : Nat → Int → Int → Bool → Int → api_Band → api_Times → newellaw11_Paid → Bool → Arr api_Span → Bool → Arr Int → (Bool → Option R) → Option R
  | 0, _, _, _, _, _, _, _, _, _, _, _, _ => Option.none
  | n + 1, v681, v682, v683, v684, v685, v686, v687, v688, v689, v690, v691, k2 => newellaw11_EnergyHonest_b15 N (fun v681 v682 v683 v684 v685 v686 v687 v688 v689 v690 v691 => newellaw11_EnergyHonest_l15 N n v681 v682 v683 v684 v685 v686 v687 v688 v689 v690 v691 k2) v681 v682 v683 v684 v685 v686 v687 v688 v689 v690 v691 k2

def newellaw11_EnergyHonest_L5 : LoopSp := ⟨⟨[3, 4, 5, 7, 8], ⟨(dr 3 ((rPtr 0 0) :: (rPtr 1 0) :: (rPtr 2 0) :: (dr 1 ((rRow 3) :: (rInt .i64) :: (dr 128 []))))), [(0, eBlkC api_BandC), (1, eBlkC api_TimesC), (2, eBlkC newellaw11_PaidC), (3, eRow api_SpanC)]⟩, 4⟩, [(Option.none, ⟨[6], ⟨(dr 6 ((rBool) :: (dr 130 []))), []⟩, 0⟩), (some 0, ⟨[3, 4, 5, 7], ⟨(dr 3 ((rPtr 0 0) :: (rPtr 1 0) :: (rPtr 2 0) :: (dr 1 ((rRow 3) :: (dr 129 []))))), [(0, eBlkC api_BandC), (1, eBlkC api_TimesC), (2, eBlkC newellaw11_PaidC), (3, eRow api_SpanC)]⟩, 4⟩)]⟩
theorem newellaw11_EnergyHonest_L5_ok : newellaw11_EnergyHonest_L5.Ok := ⟨⟨(drCons 3 (allCons (rPtr_ok 0 0) (allCons (rPtr_ok 1 0) (allCons (rPtr_ok 2 0) (drCons 1 (allCons (rRow_ok 3) (allCons (rInt_ok .i64) (drCons 128 allNil)))))))), (eCons (eBlkC_ok api_BandC_ok api_BandC_len) (eCons (eBlkC_ok api_TimesC_ok api_TimesC_len) (eCons (eBlkC_ok newellaw11_PaidC_ok newellaw11_PaidC_len) (eCons (eRow_ok api_SpanC_ok) eNil))))⟩, (xCons ⟨(drCons 6 (allCons rBool_ok (drCons 130 allNil))), eNil⟩ (xCons ⟨(drCons 3 (allCons (rPtr_ok 0 0) (allCons (rPtr_ok 1 0) (allCons (rPtr_ok 2 0) (drCons 1 (allCons (rRow_ok 3) (drCons 129 allNil))))))), (eCons (eBlkC_ok api_BandC_ok api_BandC_len) (eCons (eBlkC_ok api_TimesC_ok api_TimesC_len) (eCons (eBlkC_ok newellaw11_PaidC_ok newellaw11_PaidC_len) (eCons (eRow_ok api_SpanC_ok) eNil))))⟩ xNil))⟩
def newellaw11_EnergyHonest_h5 (v670 : Int) (v671 : api_Band) (v672 : api_Times) (v673 : newellaw11_Paid) (v674 : Bool) (v675 : Arr api_Span) : St := ⟨(un 3 ((.ptr 0 0) :: (.ptr 1 0) :: (.ptr 2 0) :: (un 1 ((.row 3) :: (.int .i64 v670) :: (un 128 []))))), [(0, .blk (Cod.enc api_BandC v671)), (1, .blk (Cod.enc api_TimesC v672)), (2, .blk (Cod.enc newellaw11_PaidC v673)), (3, rowE api_SpanC v674 v675)], 4⟩
def newellaw11_EnergyHonest_x5_r (q0 : Bool) : St := ⟨(un 6 ((.bool q0) :: (un 130 []))), [], 0⟩
def newellaw11_EnergyHonest_x5_0 (v671 : api_Band) (v672 : api_Times) (v673 : newellaw11_Paid) (q3 : Bool) (q4 : Arr api_Span) : St := ⟨(un 3 ((.ptr 0 0) :: (.ptr 1 0) :: (.ptr 2 0) :: (un 1 ((.row 3) :: (un 129 []))))), [(0, .blk (Cod.enc api_BandC v671)), (1, .blk (Cod.enc api_TimesC v672)), (2, .blk (Cod.enc newellaw11_PaidC v673)), (3, rowE api_SpanC q3 q4)], 4⟩
def newellaw11_EnergyHonest_b5 {R : Type} (N : Nat) (rc : Int → api_Band → api_Times → newellaw11_Paid → Bool → Arr api_Span → Option R) (v670 : Int) (v671 : api_Band) (v672 : api_Times) (v673 : newellaw11_Paid) (v674 : Bool) (v675 : Arr api_Span) (kr : Bool → Option R) (k0 : Bool → Arr api_Span → Option R) : Option R :=
  bif decide (v670 < (↑(Arr.n (newellaw11_Paid.Plan v673)) : Int)) then
   bif decide ((0 : Int) ≤ v670) && decide (v670 < (↑(Arr.n (newellaw11_Paid.Flows v673)) : Int)) then
    bif decide ((0 : Int) ≤ v670) && decide (v670 < (↑(Arr.n (newellaw11_Paid.Plan v673)) : Int)) then
     energy_Power N v671 (Arr.f (newellaw11_Paid.Flows v673) (Int.toNat v670)) (Arr.f (newellaw11_Paid.Plan v673) (Int.toNat v670)) (fun r676 r677 =>
     bif r677 != (0 : Int) then
      kr false
     else
      bif decide ((0 : Int) ≤ v670) && decide (v670 < (↑(Arr.n (api_Times.Periods v672)) : Int)) then
       bif room (Arr.n v675 + (1 : Nat)) then
        bif decide ((0 : Int) ≤ v670) && decide (v670 < (↑(Arr.n v675 + (1 : Nat)) : Int)) then
         energy_Flows N v671 v672 (newellaw11_Paid.Plan v673) v670 (api_Span.mk (toI (catC (Arr.n v675) (Cod.cell api_SpanC (Arr.f v675)) (litC [SV.int IntKind.i64 (0 : Int), SV.int IntKind.i64 (0 : Int)] [[SV.int IntKind.i64 (w64 (w64 (r676 * api_Period.Lasts (Arr.f (api_Times.Periods v672) (Int.toNat v670))) - v670)), SV.int IntKind.i64 (w64 (w64 (r676 * api_Period.Lasts (Arr.f (api_Times.Periods v672) (Int.toNat v670))) + (2 : Int)))]]) (Int.toNat v670) (0 : Nat))) (toI (catC (Arr.n v675) (Cod.cell api_SpanC (Arr.f v675)) (litC [SV.int IntKind.i64 (0 : Int), SV.int IntKind.i64 (0 : Int)] [[SV.int IntKind.i64 (w64 (w64 (r676 * api_Period.Lasts (Arr.f (api_Times.Periods v672) (Int.toNat v670))) - v670)), SV.int IntKind.i64 (w64 (w64 (r676 * api_Period.Lasts (Arr.f (api_Times.Periods v672) (Int.toNat v670))) + (2 : Int)))]]) (Int.toNat v670) (1 : Nat)))) (fun r678 r679 r680 =>
         newellaw11_EnergyHonest_l15 N N v670 r678 false (0 : Int) v671 v672 v673 false (lst api_SpanC (Arr.n v675 + (1 : Nat)) (catC (Arr.n v675) (Cod.cell api_SpanC (Arr.f v675)) (litC [SV.int IntKind.i64 (0 : Int), SV.int IntKind.i64 (0 : Int)] [[SV.int IntKind.i64 (w64 (w64 (r676 * api_Period.Lasts (Arr.f (api_Times.Periods v672) (Int.toNat v670))) - v670)), SV.int IntKind.i64 (w64 (w64 (r676 * api_Period.Lasts (Arr.f (api_Times.Periods v672) (Int.toNat v670))) + (2 : Int)))]]))) r679 r680 (fun r692 =>
          bif r678 != (0 : Int) then
           kr false
          else
           bif !r692 then
            kr false
           else
            rc (w64 (v670 + (1 : Int))) v671 v672 v673 false (lst api_SpanC (Arr.n v675 + (1 : Nat)) (catC (Arr.n v675) (Cod.cell api_SpanC (Arr.f v675)) (litC [SV.int IntKind.i64 (0 : Int), SV.int IntKind.i64 (0 : Int)] [[SV.int IntKind.i64 (w64 (w64 (r676 * api_Period.Lasts (Arr.f (api_Times.Periods v672) (Int.toNat v670))) - v670)), SV.int IntKind.i64 (w64 (w64 (r676 * api_Period.Lasts (Arr.f (api_Times.Periods v672) (Int.toNat v670))) + (2 : Int)))]])))))
        else
         Option.none
       else
        Option.none
      else
       Option.none)
    else
     Option.none
   else
    Option.none
  else
   k0 v674 v675
def newellaw11_EnergyHonest_l5 {R : Type} (N : Nat) : Nat → Int → api_Band → api_Times → newellaw11_Paid → Bool → Arr api_Span → (Bool → Option R) → (Bool → Arr api_Span → Option R) → Option R
  | 0, _, _, _, _, _, _, _, _ => Option.none
  | n + 1, v670, v671, v672, v673, v674, v675, kr, k0 => newellaw11_EnergyHonest_b5 N (fun v670 v671 v672 v673 v674 v675 => newellaw11_EnergyHonest_l5 N n v670 v671 v672 v673 v674 v675 kr k0) v670 v671 v672 v673 v674 v675 kr k0


def newellaw11_EnergyHonest_m {R : Type} (N : Nat) (a659 : api_Band) (a660 : api_Times) (a661 : newellaw11_Paid) (k : Bool → Option R) : Option R :=
  newellaw11_Far N a659 (fun r662 =>
  bif r662 then
   newellaw11_works N  (fun r663 =>
   k r663)
  else
   newellaw11_FarTimes N a660 (fun r664 =>
   bif r664 then
    newellaw11_works N  (fun r665 =>
    k r665)
   else
    newelref11_CheckPlan N a659 a660 (newellaw11_Paid.Plan a661) (fun r666 =>
    bif r666 != (0 : Int) then
     newellaw11_works N  (fun r667 =>
     k r667)
    else
     newelref11_Are N a660 (newellaw11_Paid.Flows a661) (fun r668 =>
     bif !r668 then
      newellaw11_works N  (fun r669 =>
      k r669)
     else
      newellaw11_EnergyHonest_l5 N N (0 : Int) a659 a660 a661 true (lst api_SpanC (0 : Nat) (zeroC [SV.int IntKind.i64 (0 : Int), SV.int IntKind.i64 (0 : Int)])) (fun r693 =>
       k r693) (fun r694 r695 =>
       energy_Explains N a659 a660 (newellaw11_Paid.Plan a661) r695 (fun r696 r697 r698 =>
       bif r698 == (0 : Int) then
        bif r697 then
         newellaw11_works N  (fun r699 =>
         k r699)
        else
         k false
       else
        k false))))))
noncomputable def newellaw11_EnergyHonest {R : Type} : Nat → api_Band → api_Times → newellaw11_Paid → (Bool → Option R) → Option R := lock (@newellaw11_EnergyHonest_m R)
theorem newellaw11_EnergyHonest_def {R : Type} (N : Nat) (a659 : api_Band) (a660 : api_Times) (a661 : newellaw11_Paid) (k : Bool → Option R) : newellaw11_EnergyHonest N a659 a660 a661 k = newellaw11_EnergyHonest_m N a659 a660 a661 k := by unfold newellaw11_EnergyHonest; rw [lock_eq]
def newellaw11_EnergyHonest_sp : Sp := ⟨[rAgg api_BandC, rAgg api_TimesC, rAgg newellaw11_PaidC], []⟩
theorem newellaw11_EnergyHonest_sp_ok : newellaw11_EnergyHonest_sp.Ok := ⟨(allCons (rAgg_ok api_BandC_ok api_BandC_len) (allCons (rAgg_ok api_TimesC_ok api_TimesC_len) (allCons (rAgg_ok newellaw11_PaidC_ok newellaw11_PaidC_len) allNil))), eNil⟩
def newellaw11_EnergyHonest_rs : Sp := ⟨[rBool], []⟩
theorem newellaw11_EnergyHonest_rs_ok : newellaw11_EnergyHonest_rs.Ok := ⟨(allCons rBool_ok allNil), eNil⟩
def newellaw11_EnergyHonest_run {R : Type} (N : Nat) (args : List SV) (T : Tab) (kf : SV × Tab → Option R) : Option R :=
  newellaw11_EnergyHonest_m N (Cod.dec api_BandC (lget (toCs (lget args 0)))) (Cod.dec api_TimesC (lget (toCs (lget args 1)))) (Cod.dec newellaw11_PaidC (lget (toCs (lget args 2)))) (fun q0 => kf (lget [.bool q0] 0, []))
def newellaw11_EnergyHonest_d15 {R : Type} (N : Nat) (S0 : St) (k : Exit → St → Option R) : Option R :=
  newellaw11_EnergyHonest_l15 N N (toI (lget S0.tmps 8)) (toI (lget S0.tmps 12)) (toB (lget S0.tmps 13)) (toI (lget S0.tmps 14)) (Cod.dec api_BandC (lget (entCs (entAt S0.tab 0)))) (Cod.dec api_TimesC (lget (entCs (entAt S0.tab 1)))) (Cod.dec newellaw11_PaidC (lget (entCs (entAt S0.tab 2)))) (entNl (entAt S0.tab 3)) (lst api_SpanC (entN (entAt S0.tab 3)) (entC (entAt S0.tab 3))) (entNl (entAt S0.tab 4)) (lst intC (entN (entAt S0.tab 4)) (entC (entAt S0.tab 4))) (fun q2 => k (.exit 2) (newellaw11_EnergyHonest_x15_2 (toI (lget S0.tmps 8)) (toI (lget S0.tmps 12)) (Cod.dec api_BandC (lget (entCs (entAt S0.tab 0)))) (Cod.dec api_TimesC (lget (entCs (entAt S0.tab 1)))) (Cod.dec newellaw11_PaidC (lget (entCs (entAt S0.tab 2)))) (entNl (entAt S0.tab 3)) (lst api_SpanC (entN (entAt S0.tab 3)) (entC (entAt S0.tab 3))) q2))
def newellaw11_EnergyHonest_d5 {R : Type} (N : Nat) (S0 : St) (k : Exit → St → Option R) : Option R :=
  newellaw11_EnergyHonest_l5 N N (toI (lget S0.tmps 8)) (Cod.dec api_BandC (lget (entCs (entAt S0.tab 0)))) (Cod.dec api_TimesC (lget (entCs (entAt S0.tab 1)))) (Cod.dec newellaw11_PaidC (lget (entCs (entAt S0.tab 2)))) (entNl (entAt S0.tab 3)) (lst api_SpanC (entN (entAt S0.tab 3)) (entC (entAt S0.tab 3))) (fun q0 => k .ret (newellaw11_EnergyHonest_x5_r q0)) (fun q3 q4 => k (.exit 0) (newellaw11_EnergyHonest_x5_0 (Cod.dec api_BandC (lget (entCs (entAt S0.tab 0)))) (Cod.dec api_TimesC (lget (entCs (entAt S0.tab 1)))) (Cod.dec newellaw11_PaidC (lget (entCs (entAt S0.tab 2)))) q3 q4))
def newellaw11_EnergyHonest_lp {R : Type} (N : Nat) : Lp R := fun body S k => bif (Go.Sx.keyOf body).getD 0 == 5 then newellaw11_EnergyHonest_L5.head.raw 0 S (fun S0 => newellaw11_EnergyHonest_d5 N S0 k) else bif (Go.Sx.keyOf body).getD 0 == 15 then newellaw11_EnergyHonest_L15.head.raw 0 S (fun S0 => newellaw11_EnergyHonest_d15 N S0 k) else Option.none
theorem newellaw11_EnergyHonest_l5_eq {R : Type} (N : Nat) (k : Exit → St → Option R) (n : Nat) : ∀ (v0 : Int) (v1 : api_Band) (v2 : api_Times) (v3 : newellaw11_Paid) (v4 : Bool) (v5 : Arr api_Span), loopM E.Θ (newellaw11_works_cal N) (newellaw11_EnergyHonest_lp N) (noJn) 0 newellaw11_EnergyHonest_L5 (bodyAt E 11 5) n (newellaw11_EnergyHonest_h5 v0 v1 v2 v3 v4 v5) k = newellaw11_EnergyHonest_l5 N n v0 v1 v2 v3 v4 v5 (fun q0 => k .ret (newellaw11_EnergyHonest_x5_r q0)) (fun q3 q4 => k (.exit 0) (newellaw11_EnergyHonest_x5_0 v1 v2 v3 q3 q4)) := by
  induction n with
  | zero => intro v0 v1 v2 v3 v4 v5; rfl
  | succ n ih =>
    intro v0 v1 v2 v3 v4 v5
    refine Eq.trans (b := newellaw11_EnergyHonest_b5 N (fun v0 v1 v2 v3 v4 v5 => loopM E.Θ (newellaw11_works_cal N) (newellaw11_EnergyHonest_lp N) (noJn) 0 newellaw11_EnergyHonest_L5 (bodyAt E 11 5) n (newellaw11_EnergyHonest_h5 v0 v1 v2 v3 v4 v5) k) v0 v1 v2 v3 v4 v5 (fun q0 => k .ret (newellaw11_EnergyHonest_x5_r q0)) (fun q3 q4 => k (.exit 0) (newellaw11_EnergyHonest_x5_0 v1 v2 v3 q3 q4))) (by kernel_rfl) ?_
    have h : (fun (v0 : Int) (v1 : api_Band) (v2 : api_Times) (v3 : newellaw11_Paid) (v4 : Bool) (v5 : Arr api_Span) => loopM E.Θ (newellaw11_works_cal N) (newellaw11_EnergyHonest_lp N) (noJn) 0 newellaw11_EnergyHonest_L5 (bodyAt E 11 5) n (newellaw11_EnergyHonest_h5 v0 v1 v2 v3 v4 v5) k) = (fun (v0 : Int) (v1 : api_Band) (v2 : api_Times) (v3 : newellaw11_Paid) (v4 : Bool) (v5 : Arr api_Span) => newellaw11_EnergyHonest_l5 N n v0 v1 v2 v3 v4 v5 (fun q0 => k .ret (newellaw11_EnergyHonest_x5_r q0)) (fun q3 q4 => k (.exit 0) (newellaw11_EnergyHonest_x5_0 v1 v2 v3 q3 q4))) := funext fun v0 => funext fun v1 => funext fun v2 => funext fun v3 => funext fun v4 => funext fun v5 => ih v0 v1 v2 v3 v4 v5
    rw [h]
    rfl
theorem newellaw11_EnergyHonest_l15_eq {R : Type} (N : Nat) (k : Exit → St → Option R) (n : Nat) : ∀ (v0 : Int) (v1 : Int) (v2 : Bool) (v3 : Int) (v4 : api_Band) (v5 : api_Times) (v6 : newellaw11_Paid) (v7 : Bool) (v8 : Arr api_Span) (v9 : Bool) (v10 : Arr Int), loopM E.Θ (newellaw11_works_cal N) (newellaw11_EnergyHonest_lp N) (noJn) 0 newellaw11_EnergyHonest_L15 (bodyAt E 11 15) n (newellaw11_EnergyHonest_h15 v0 v1 v2 v3 v4 v5 v6 v7 v8 v9 v10) k = newellaw11_EnergyHonest_l15 N n v0 v1 v2 v3 v4 v5 v6 v7 v8 v9 v10 (fun q2 => k (.exit 2) (newellaw11_EnergyHonest_x15_2 v0 v1 v4 v5 v6 v7 v8 q2)) := by
  induction n with
  | zero => intro v0 v1 v2 v3 v4 v5 v6 v7 v8 v9 v10; rfl
  | succ n ih =>
    intro v0 v1 v2 v3 v4 v5 v6 v7 v8 v9 v10
    refine Eq.trans (b := newellaw11_EnergyHonest_b15 N (fun v0 v1 v2 v3 v4 v5 v6 v7 v8 v9 v10 => loopM E.Θ (newellaw11_works_cal N) (newellaw11_EnergyHonest_lp N) (noJn) 0 newellaw11_EnergyHonest_L15 (bodyAt E 11 15) n (newellaw11_EnergyHonest_h15 v0 v1 v2 v3 v4 v5 v6 v7 v8 v9 v10) k) v0 v1 v2 v3 v4 v5 v6 v7 v8 v9 v10 (fun q2 => k (.exit 2) (newellaw11_EnergyHonest_x15_2 v0 v1 v4 v5 v6 v7 v8 q2))) (by kernel_rfl) ?_
    have h : (fun (v0 : Int) (v1 : Int) (v2 : Bool) (v3 : Int) (v4 : api_Band) (v5 : api_Times) (v6 : newellaw11_Paid) (v7 : Bool) (v8 : Arr api_Span) (v9 : Bool) (v10 : Arr Int) => loopM E.Θ (newellaw11_works_cal N) (newellaw11_EnergyHonest_lp N) (noJn) 0 newellaw11_EnergyHonest_L15 (bodyAt E 11 15) n (newellaw11_EnergyHonest_h15 v0 v1 v2 v3 v4 v5 v6 v7 v8 v9 v10) k) = (fun (v0 : Int) (v1 : Int) (v2 : Bool) (v3 : Int) (v4 : api_Band) (v5 : api_Times) (v6 : newellaw11_Paid) (v7 : Bool) (v8 : Arr api_Span) (v9 : Bool) (v10 : Arr Int) => newellaw11_EnergyHonest_l15 N n v0 v1 v2 v3 v4 v5 v6 v7 v8 v9 v10 (fun q2 => k (.exit 2) (newellaw11_EnergyHonest_x15_2 v0 v1 v4 v5 v6 v7 v8 q2))) := funext fun v0 => funext fun v1 => funext fun v2 => funext fun v3 => funext fun v4 => funext fun v5 => funext fun v6 => funext fun v7 => funext fun v8 => funext fun v9 => funext fun v10 => ih v0 v1 v2 v3 v4 v5 v6 v7 v8 v9 v10
    rw [h]
    rfl
theorem newellaw11_EnergyHonest_k15 {R : Type} (N : Nat) : LpKey (R := R) E 11 0 (newellaw11_EnergyHonest_lp N) 15 :=
  lpKey_of hE (newellaw11_works_cal_ok N) (jn := noJn) newellaw11_EnergyHonest_L15_ok [] kNil (by kernel_rfl) [] jNil (by kernel_rfl) N fun S k =>
    Eq.trans (b := newellaw11_EnergyHonest_L15.head.raw 0 S (fun S0 => newellaw11_EnergyHonest_d15 N S0 k)) (by kernel_rfl) (congrArg (newellaw11_EnergyHonest_L15.head.raw 0 S) (funext fun S0 => Eq.trans (newellaw11_EnergyHonest_l15_eq N k N (toI (lget S0.tmps 8)) (toI (lget S0.tmps 12)) (toB (lget S0.tmps 13)) (toI (lget S0.tmps 14)) (Cod.dec api_BandC (lget (entCs (entAt S0.tab 0)))) (Cod.dec api_TimesC (lget (entCs (entAt S0.tab 1)))) (Cod.dec newellaw11_PaidC (lget (entCs (entAt S0.tab 2)))) (entNl (entAt S0.tab 3)) (lst api_SpanC (entN (entAt S0.tab 3)) (entC (entAt S0.tab 3))) (entNl (entAt S0.tab 4)) (lst intC (entN (entAt S0.tab 4)) (entC (entAt S0.tab 4)))).symm (by kernel_rfl)))
theorem newellaw11_EnergyHonest_k5 {R : Type} (N : Nat) : LpKey (R := R) E 11 0 (newellaw11_EnergyHonest_lp N) 5 :=
  lpKey_of hE (newellaw11_works_cal_ok N) (jn := noJn) newellaw11_EnergyHonest_L5_ok [15] (kCons (newellaw11_EnergyHonest_k15 N) kNil) (by kernel_rfl) [] jNil (by kernel_rfl) N fun S k =>
    Eq.trans (b := newellaw11_EnergyHonest_L5.head.raw 0 S (fun S0 => newellaw11_EnergyHonest_d5 N S0 k)) (by kernel_rfl) (congrArg (newellaw11_EnergyHonest_L5.head.raw 0 S) (funext fun S0 => Eq.trans (newellaw11_EnergyHonest_l5_eq N k N (toI (lget S0.tmps 8)) (Cod.dec api_BandC (lget (entCs (entAt S0.tab 0)))) (Cod.dec api_TimesC (lget (entCs (entAt S0.tab 1)))) (Cod.dec newellaw11_PaidC (lget (entCs (entAt S0.tab 2)))) (entNl (entAt S0.tab 3)) (lst api_SpanC (entN (entAt S0.tab 3)) (entC (entAt S0.tab 3)))).symm (by kernel_rfl)))
noncomputable def newellaw11_EnergyHonest_go {R : Type} (N : Nat) (args : List SV) (T : Tab) (kf : SV × Tab → Option R) : Option R :=
  newellaw11_EnergyHonest N (Cod.dec api_BandC (lget (toCs (lget args 0)))) (Cod.dec api_TimesC (lget (toCs (lget args 1)))) (Cod.dec newellaw11_PaidC (lget (toCs (lget args 2)))) (fun q0 => kf (lget [.bool q0] 0, []))
noncomputable def newellaw11_EnergyHonest_cal {R : Type} (N : Nat) : Cal R := callM (newellaw11_works_cal N) 11 0 newellaw11_EnergyHonest_sp (newellaw11_EnergyHonest_go N)
theorem newellaw11_EnergyHonest_cal_ok {R : Type} (N : Nat) : CalOk E.P (newellaw11_EnergyHonest_cal (R := R) N) :=
  callM_ok hE (newellaw11_works_cal_ok N) (lp := newellaw11_EnergyHonest_lp N) (jn := noJn) (keys := [5, 15]) (kCons (newellaw11_EnergyHonest_k5 N) (kCons (newellaw11_EnergyHonest_k15 N) kNil)) (by kernel_rfl) (js := []) jNil (by kernel_rfl) newellaw11_EnergyHonest_sp_ok newellaw11_EnergyHonest_rs_ok (fun args T kf => Eq.trans (newellaw11_EnergyHonest_def N (Cod.dec api_BandC (lget (toCs (lget args 0)))) (Cod.dec api_TimesC (lget (toCs (lget args 1)))) (Cod.dec newellaw11_PaidC (lget (toCs (lget args 2)))) (fun q0 => kf (lget [.bool q0] 0, []))) (by kernel_rfl : newellaw11_EnergyHonest_run N args T kf = fnM E (newellaw11_works_cal N) (newellaw11_EnergyHonest_lp N) (noJn) 11 (newellaw11_EnergyHonest_sp.vs args) (newellaw11_EnergyHonest_sp.tab T) 0 (resK newellaw11_EnergyHonest_rs kf)))

def rdH (b : api_Band) (t : api_Times) (p : newellaw11_Paid) (j : Nat) : api_Span :=
  ⟨enS b (t.Periods.f j) (p.Plan.f j) (p.Flows.f j) - (j : Int), enS b (t.Periods.f j) (p.Plan.f j) (p.Flows.f j) + 2⟩

theorem honest_l15 {R : Type} (N : Nat) (i : Nat) (r : Int) (b : api_Band) (t : api_Times) (p : newellaw11_Paid) (x1 : Bool) (a : Arr api_Span) (x2 : Bool) {l : Arr Int} (hl : l.n ≤ 1000) (hi : i < p.Flows.n) (k2 : Bool → Option R) :
    ∀ (q j n : Nat) (c : Bool), j + q = l.n → q < n → (c = true ∨ ∃ m, j ≤ m ∧ m < l.n ∧ l.f m = p.Flows.f i) → newellaw11_EnergyHonest_l15 N n (i : Int) r c (j : Int) b t p x1 a x2 l k2 = k2 true := by
  intro q
  induction q with
  | zero =>
    intro j n c h1 h2 h3
    obtain ⟨n, rfl⟩ : ∃ m, n = m + 1 := ⟨n - 1, by omega⟩
    unfold newellaw11_EnergyHonest_l15 newellaw11_EnergyHonest_b15
    simp only [lt_false (show l.n ≤ j by omega), cond_false]
    rcases h3 with h3 | ⟨m, h4, h5, _⟩
    · rw [h3]
    · omega
  | succ q ih =>
    intro j n c h1 h2 h3
    obtain ⟨n, rfl⟩ : ∃ m, n = m + 1 := ⟨n - 1, by omega⟩
    unfold newellaw11_EnergyHonest_l15 newellaw11_EnergyHonest_b15
    simp only [lt_true (show j < l.n by omega), lt_true hi, nat_nonneg, Bool.and_self, cond_true, Int.toNat_natCast, w64_succ (show j < 1000000000000 by omega)]
    cases c with
    | true =>
      simp only [cond_true]
      exact ih (j + 1) n true (by omega) (by omega) (.inl rfl)
    | false =>
      simp only [cond_false]
      refine ih (j + 1) n _ (by omega) (by omega) ?_
      by_cases e : l.f j = p.Flows.f i
      · left
        show (l.f j == p.Flows.f i) = true
        simpa using e
      · right
        rcases h3 with h3 | ⟨m, h4, h5, h6⟩
        · cases h3
        · refine ⟨m, ?_, h5, h6⟩
          rcases Nat.lt_or_ge j m with g | g
          · exact g
          · exact absurd (by rw [show j = m by omega]; exact h6) e

theorem honest_l5 {N : Nat} (hN : 2000 ≤ N) {b : api_Band} {t : api_Times} (h : VB b) (ht : VT t) {p : newellaw11_Paid} (hp : planP b t p.Plan) (ha : areP t p.Flows) :
    ∀ (r i n : Nat) (c : Bool) (a : Arr api_Span), i + r = t.Periods.n → r < n → a.Is i (rdH b t p) →
    ∃ (c' : Bool) (a' : Arr api_Span), a'.Is t.Periods.n (rdH b t p) ∧ ∀ {R : Type} (kr : Bool → Option R) (k0 : Bool → Arr api_Span → Option R), newellaw11_EnergyHonest_l5 N n (i : Int) b t p c a kr k0 = k0 c' a' := by
  have hn2 := ht.n2
  have hpn := hp.1
  have hfn := ha.1
  intro r
  induction r with
  | zero =>
    intro i n c a h1 h2 hx
    obtain ⟨n, rfl⟩ : ∃ m, n = m + 1 := ⟨n - 1, by omega⟩
    have : i = t.Periods.n := by omega
    subst this
    refine ⟨c, a, hx, fun {R} kr k0 => ?_⟩
    unfold newellaw11_EnergyHonest_l5 newellaw11_EnergyHonest_b5
    simp only [lt_false (show p.Plan.n ≤ t.Periods.n by omega), cond_false]
  | succ r ih =>
    intro i n c a h1 h2 hx
    obtain ⟨n, rfl⟩ : ∃ m, n = m + 1 := ⟨n - 1, by omega⟩
    have hit : i < t.Periods.n := by omega
    have hfl := ha.2 i (by omega)
    have hrg := flP_range ht hit hfl
    have hper := ht.per i hit
    have hfp := plan_fp h hp hit hrg
    have hen := en_bounds h hper hfp
    have hask : askV b (p.Flows.f i) (p.Plan.f i) = 0 := askV_zero.2 ⟨h, hp.2 i (by omega), hrg⟩
    have hpw : powerV b (p.Flows.f i) (p.Plan.f i) = powerS b (p.Flows.f i) (p.Plan.f i) := by unfold powerV; rw [if_pos hask]
    have hpush := hx.push (C := api_SpanC) (fun _ => rfl) (z := [SV.int IntKind.i64 (0 : Int), SV.int IntKind.i64 (0 : Int)]) (e := [SV.int IntKind.i64 (enS b (t.Periods.f i) (p.Plan.f i) (p.Flows.f i) - (i : Int)), SV.int IntKind.i64 (enS b (t.Periods.f i) (p.Plan.f i) (p.Flows.f i) + 2)]) rfl
    obtain ⟨c', a', h3, h4⟩ := ih (i + 1) n false _ (by omega) (by omega) hpush
    refine ⟨c', a', h3, fun {R} kr k0 => ?_⟩
    unfold newellaw11_EnergyHonest_l5 newellaw11_EnergyHonest_b5
    have hxl := hx.len
    have hr1 : room (a.n + 1) = true := room_of (by omega)
    have el : ∀ j, toI (Cod.cell api_PeriodC t.Periods.f j (0 + 0)) = (t.Periods.f j).Lasts := fun _ => rfl
    have w1 : w64 (powerS b (p.Flows.f i) (p.Plan.f i) * (t.Periods.f i).Lasts) = enS b (t.Periods.f i) (p.Plan.f i) (p.Flows.f i) := w64_eq (n := powerS b (p.Flows.f i) (p.Plan.f i) * (t.Periods.f i).Lasts) (by unfold enS at hen; omega) (by unfold enS at hen; omega)
    have w2 : w64 (enS b (t.Periods.f i) (p.Plan.f i) (p.Flows.f i) - (i : Int)) = enS b (t.Periods.f i) (p.Plan.f i) (p.Flows.f i) - (i : Int) := w64_eq (by omega) (by omega)
    have w3 : w64 (enS b (t.Periods.f i) (p.Plan.f i) (p.Flows.f i) + 2) = enS b (t.Periods.f i) (p.Plan.f i) (p.Flows.f i) + 2 := w64_eq (by omega) (by omega)
    simp only [lt_true (show i < p.Plan.n by omega), lt_true (show i < p.Flows.n by omega), lt_true hit, lt_true (show i < a.n + 1 by omega), nat_nonneg, Bool.and_self, cond_true, Int.toNat_natCast, w64_succ (show i < 1000000000000 by omega), Power_eq (show 20 ≤ N by omega), hask, hpw, el, w1, w2, w3, hr1, bne_self_eq_false, cond_false]
    have hw : flwP t p.Plan (i : Int) (rdH b t p i) := ⟨⟨by omega, by omega⟩, by unfold rdH; show _ - (i : Int) ≤ _ + 2; omega⟩
    have hE : flwE b t p.Plan (i : Int) (rdH b t p i) = 0 := flwE_zero.2 ⟨h, ht, hp, hw⟩
    have hV : flwV b t p.Plan (i : Int) (rdH b t p i) = floS b (t.Periods.f i) (p.Plan.f i) (rdH b t p i) := by unfold flwV; rw [if_pos hE, Int.toNat_natCast]
    have f1 := hper.f1
    have f3 := hper.f3
    have hhas := floR_has (b := b) (q := t.Periods.f i) (pace := p.Plan.f i) (rd := rdH b t p i) (x := p.Flows.f i) ⟨by unfold rdH; show _ - (i : Int) ≤ _; omega, by unfold rdH; show _ ≤ _ + 2; omega⟩ ((t.Periods.f i).Flow.High + 1 - (t.Periods.f i).Flow.Low).toNat (t.Periods.f i).Flow.Low true emI hfl.1 (by have := hfl.2; omega)
    have hln := (floR_n (b := b) (q := t.Periods.f i) (pace := p.Plan.f i) (rd := rdH b t p i) ((t.Periods.f i).Flow.High + 1 - (t.Periods.f i).Flow.Low).toNat (t.Periods.f i).Flow.Low true emI).2.1
    have hem : emI.n = 0 := rfl
    obtain ⟨m, hm1, hm2⟩ := hhas
    refine Eq.trans (congrArg (fun sp => energy_Flows N b t p.Plan (i : Int) sp _) (hpush.get i (by omega))) ?_
    refine Eq.trans (Flows_eq (show 200 ≤ N by omega) b t p.Plan (i : Int) (rdH b t p i) _) ?_
    rw [hE, hV]
    refine Eq.trans (honest_l15 N i 0 b t p false _ _ (l := (floS b (t.Periods.f i) (p.Plan.f i) (rdH b t p i)).2) (by unfold floS; omega) (by omega) _ (floS b (t.Periods.f i) (p.Plan.f i) (rdH b t p i)).2.n 0 N false (by omega) (by unfold floS; omega) (.inr ⟨m, Nat.zero_le _, hm1, hm2⟩)) ?_
    simp only [bne_self_eq_false, cond_false, Bool.not_true]
    exact h4 kr k0

theorem explR_true {b : api_Band} {t : api_Times} {p : Arr Int} {rd : Arr api_Span} : ∀ (r i : Nat), (∀ j, i ≤ j → j < i + r → (floS b (t.Periods.f j) (p.f j) (rd.f j)).2.n ≠ 0) → explR b t p rd r i = (0, true, 0) := by
  intro r
  induction r with
  | zero => intro i _; rfl
  | succ r ih =>
    intro i h
    unfold explR
    rw [if_neg (h i (Nat.le_refl _) (by omega))]
    exact ih (i + 1) (fun j h1 h2 => h j (by omega) (by omega))

theorem energyHonest_true (b : api_Band) (t : api_Times) (p : newellaw11_Paid) (hb : b.wf) (ht : t.wf) (hp : p.wf) : ∃ N, newellaw11_EnergyHonest N b t p (fun q0 => okK (lget [.bool q0] 0, [])) = some () := by
  classical
  refine ⟨NN, ?_⟩
  have hNN : NN = 20000 := rfl
  rw [newellaw11_EnergyHonest_def]
  unfold newellaw11_EnergyHonest_m
  have htr : okK (lget [SV.bool true] 0, []) = some () := rfl
  simp only [Far_eq, FarTimes_eq, works_eq, refPlan_eq (show 20 ≤ NN by decide), htr]
  cases decide ((b.Paces.n : Int) > 10)
  rotate_left
  · rfl
  cases decide ((t.Periods.n : Int) > 20)
  rotate_left
  · rfl
  by_cases h : planV b t p.Plan = 0
  rotate_left
  · have : (planV b t p.Plan != 0) = true := by simpa using h
    simp only [cond_false, this, cond_true]
  obtain ⟨hv, hvt, hpl⟩ := planV_zero.1 h
  have hn2 := hvt.n2
  simp only [cond_false, h, bne_self_eq_false, Are_eq (show 20 ≤ NN by decide) hvt]
  by_cases ha : areP t p.Flows
  rotate_left
  · simp only [ha, decide_false, Bool.not_false, cond_true]
  simp only [ha, decide_true, Bool.not_true, cond_false]
  obtain ⟨c', a', h3, h4⟩ := honest_l5 (N := NN) (by decide) hv hvt hpl ha t.Periods.n 0 NN true (lst api_SpanC (0 : Nat) (zeroC [SV.int IntKind.i64 (0 : Int), SV.int IntKind.i64 (0 : Int)])) (by omega) (by omega) Arr.Is.zero
  refine Eq.trans (h4 _ _) ?_
  rw [Explains_eq (by decide)]
  have hrd : rdsP p.Plan a' := ⟨by rw [h3.len, hpl.1], fun j hj => by rw [h3.get j (by rw [← h3.len]; exact hj)]; unfold rdH; show _ - (j : Int) ≤ _ + 2; omega⟩
  have hex : explV b t p.Plan a' = (0, true, 0) := by
    unfold explV
    rw [if_pos h, if_pos hrd]
    refine explR_true _ _ fun j _ hj => ?_
    have hj : j < t.Periods.n := by omega
    have hfl := ha.2 j (by have := ha.1; omega)
    have hper := hvt.per j hj
    rw [h3.get j hj]
    have hhas := floR_has (b := b) (q := t.Periods.f j) (pace := p.Plan.f j) (rd := rdH b t p j) (x := p.Flows.f j) ⟨by unfold rdH; show _ - (j : Int) ≤ _; omega, by unfold rdH; show _ ≤ _ + 2; omega⟩ ((t.Periods.f j).Flow.High + 1 - (t.Periods.f j).Flow.Low).toNat (t.Periods.f j).Flow.Low true emI hfl.1 (by have := hfl.1; have := hfl.2; omega)
    obtain ⟨m, hm1, hm2⟩ := hhas
    unfold floS
    omega
  rw [hex]
  simp only [BEq.rfl, cond_true]
end
end Go.Proofs.Ytfaefhegfcidpaa
