/-
  The model of the statement EnergyLeast, that it is what the code does (written by a program), and that it answers true.
-/
import Derived.Test.YtfaefhegfcidpaaP5
set_option maxRecDepth 100000
set_option maxHeartbeats 0
set_option linter.unusedVariables false
set_option linter.unusedSimpArgs false
namespace Go.Proofs.Ytfaefhegfcidpaa
open Go.Sx
noncomputable section

def newellaw11_EnergyLeast_L13 : LoopSp := ⟨⟨[3, 4, 5, 7, 8, 10, 11, 12], ⟨(dr 3 ((rPtr 0 0) :: (rPtr 1 0) :: (rPtr 2 0) :: (dr 1 ((rRow 3) :: (rInt .i64) :: (dr 1 ((rBool) :: (rInt .i64) :: (rInt .i64) :: (dr 131 []))))))), [(0, eBlkC api_BandC), (1, eBlkC api_TimesC), (2, eBlkC newellaw11_PaidC), (3, eRow intC)]⟩, 4⟩, [(Option.none, ⟨[6], ⟨(dr 6 ((rBool) :: (dr 137 []))), []⟩, 0⟩), (some 2, ⟨[3, 4, 5, 7, 8, 10, 11], ⟨(dr 3 ((rPtr 0 0) :: (rPtr 1 0) :: (rPtr 2 0) :: (dr 1 ((rRow 3) :: (rInt .i64) :: (dr 1 ((rBool) :: (rInt .i64) :: (dr 132 []))))))), [(0, eBlkC api_BandC), (1, eBlkC api_TimesC), (2, eBlkC newellaw11_PaidC), (3, eRow intC)]⟩, 4⟩)]⟩
theorem newellaw11_EnergyLeast_L13_ok : newellaw11_EnergyLeast_L13.Ok := ⟨⟨(drCons 3 (allCons (rPtr_ok 0 0) (allCons (rPtr_ok 1 0) (allCons (rPtr_ok 2 0) (drCons 1 (allCons (rRow_ok 3) (allCons (rInt_ok .i64) (drCons 1 (allCons rBool_ok (allCons (rInt_ok .i64) (allCons (rInt_ok .i64) (drCons 131 allNil)))))))))))), (eCons (eBlkC_ok api_BandC_ok api_BandC_len) (eCons (eBlkC_ok api_TimesC_ok api_TimesC_len) (eCons (eBlkC_ok newellaw11_PaidC_ok newellaw11_PaidC_len) (eCons (eRow_ok intC_ok) eNil))))⟩, (xCons ⟨(drCons 6 (allCons rBool_ok (drCons 137 allNil))), eNil⟩ (xCons ⟨(drCons 3 (allCons (rPtr_ok 0 0) (allCons (rPtr_ok 1 0) (allCons (rPtr_ok 2 0) (drCons 1 (allCons (rRow_ok 3) (allCons (rInt_ok .i64) (drCons 1 (allCons rBool_ok (allCons (rInt_ok .i64) (drCons 132 allNil))))))))))), (eCons (eBlkC_ok api_BandC_ok api_BandC_len) (eCons (eBlkC_ok api_TimesC_ok api_TimesC_len) (eCons (eBlkC_ok newellaw11_PaidC_ok newellaw11_PaidC_len) (eCons (eRow_ok intC_ok) eNil))))⟩ xNil))⟩
def newellaw11_EnergyLeast_h13 (v831 : Int) (v832 : Bool) (v833 : Int) (v834 : Int) (v835 : api_Band) (v836 : api_Times) (v837 : newellaw11_Paid) (v838 : Bool) (v839 : Arr Int) : St := ⟨(un 3 ((.ptr 0 0) :: (.ptr 1 0) :: (.ptr 2 0) :: (un 1 ((.row 3) :: (.int .i64 v831) :: (un 1 ((.bool v832) :: (.int .i64 v833) :: (.int .i64 v834) :: (un 131 []))))))), [(0, .blk (Cod.enc api_BandC v835)), (1, .blk (Cod.enc api_TimesC v836)), (2, .blk (Cod.enc newellaw11_PaidC v837)), (3, rowE intC v838 v839)], 4⟩
def newellaw11_EnergyLeast_x13_r (q0 : Bool) : St := ⟨(un 6 ((.bool q0) :: (un 137 []))), [], 0⟩
def newellaw11_EnergyLeast_x13_2 (v831 : Int) (v832 : Bool) (v833 : Int) (v835 : api_Band) (v836 : api_Times) (v837 : newellaw11_Paid) (v838 : Bool) (v839 : Arr Int) : St := ⟨(un 3 ((.ptr 0 0) :: (.ptr 1 0) :: (.ptr 2 0) :: (un 1 ((.row 3) :: (.int .i64 v831) :: (un 1 ((.bool v832) :: (.int .i64 v833) :: (un 132 []))))))), [(0, .blk (Cod.enc api_BandC v835)), (1, .blk (Cod.enc api_TimesC v836)), (2, .blk (Cod.enc newellaw11_PaidC v837)), (3, rowE intC v838 v839)], 4⟩
def newellaw11_EnergyLeast_b13 {R : Type} (N : Nat) (rc : Int → Bool → Int → Int → api_Band → api_Times → newellaw11_Paid → Bool → Arr Int → Option R) (v831 : Int) (v832 : Bool) (v833 : Int) (v834 : Int) (v835 : api_Band) (v836 : api_Times) (v837 : newellaw11_Paid) (v838 : Bool) (v839 : Arr Int) (kr : Bool → Option R) (k2 : Unit → Option R) : Option R :=
  bif decide (v834 < (2 : Int)) then
   bif decide ((0 : Int) ≤ v833) && decide (v833 < (↑(Arr.n (api_Times.Periods v836)) : Int)) then
    bif v834 == (1 : Int) then
     bif decide ((0 : Int) ≤ v833) && decide (v833 < (↑(Arr.n (api_Times.Periods v836)) : Int)) then
      bif decide ((0 : Int) ≤ v833) && decide (v833 < (↑(Arr.n v839) : Int)) then
       energy_Load N v835 (api_Span.Low (api_Period.Flow (Arr.f (api_Times.Periods v836) (Int.toNat v833)))) (Arr.f v839 (Int.toNat v833)) (fun r840 r841 =>
       bif r841 != (0 : Int) then
        kr false
       else
        bif decide (r840 > api_Band.Most v835) then
         kr false
        else
         rc v831 v832 v833 (w64 (v834 + (1 : Int))) v835 v836 v837 v838 v839)
      else
       Option.none
     else
      Option.none
    else
     bif decide ((0 : Int) ≤ v833) && decide (v833 < (↑(Arr.n v839) : Int)) then
      energy_Load N v835 (api_Span.High (api_Period.Flow (Arr.f (api_Times.Periods v836) (Int.toNat v833)))) (Arr.f v839 (Int.toNat v833)) (fun r842 r843 =>
      bif r843 != (0 : Int) then
       kr false
      else
       bif decide (r842 > api_Band.Most v835) then
        kr false
       else
        rc v831 v832 v833 (w64 (v834 + (1 : Int))) v835 v836 v837 v838 v839)
     else
      Option.none
   else
    Option.none
  else
   k2 ()
def newellaw11_EnergyLeast_l13 {R : Type} (N : Nat) : Nat → Int → Bool → Int → Int → api_Band → api_Times → newellaw11_Paid → Bool → Arr Int → (Bool → Option R) → (Unit → Option R) → Option R
  | 0, _, _, _, _, _, _, _, _, _, _, _ => Option.none
  | n + 1, v831, v832, v833, v834, v835, v836, v837, v838, v839, kr, k2 => newellaw11_EnergyLeast_b13 N (fun v831 v832 v833 v834 v835 v836 v837 v838 v839 => newellaw11_EnergyLeast_l13 N n v831 v832 v833 v834 v835 v836 v837 v838 v839 kr k2) v831 v832 v833 v834 v835 v836 v837 v838 v839 kr k2

def newellaw11_EnergyLeast_L10 : LoopSp := ⟨⟨[3, 4, 5, 7, 8, 10, 11], ⟨(dr 3 ((rPtr 0 0) :: (rPtr 1 0) :: (rPtr 2 0) :: (dr 1 ((rRow 3) :: (rInt .i64) :: (dr 1 ((rBool) :: (rInt .i64) :: (dr 132 []))))))), [(0, eBlkC api_BandC), (1, eBlkC api_TimesC), (2, eBlkC newellaw11_PaidC), (3, eRow intC)]⟩, 4⟩, [(Option.none, ⟨[6], ⟨(dr 6 ((rBool) :: (dr 137 []))), []⟩, 0⟩), (some 0, ⟨[3, 4, 5, 7, 8, 10], ⟨(dr 3 ((rPtr 0 0) :: (rPtr 1 0) :: (rPtr 2 0) :: (dr 1 ((rRow 3) :: (rInt .i64) :: (dr 1 ((rBool) :: (dr 133 []))))))), [(0, eBlkC api_BandC), (1, eBlkC api_TimesC), (2, eBlkC newellaw11_PaidC), (3, eRow intC)]⟩, 4⟩)]⟩
theorem newellaw11_EnergyLeast_L10_ok : newellaw11_EnergyLeast_L10.Ok := ⟨⟨(drCons 3 (allCons (rPtr_ok 0 0) (allCons (rPtr_ok 1 0) (allCons (rPtr_ok 2 0) (drCons 1 (allCons (rRow_ok 3) (allCons (rInt_ok .i64) (drCons 1 (allCons rBool_ok (allCons (rInt_ok .i64) (drCons 132 allNil))))))))))), (eCons (eBlkC_ok api_BandC_ok api_BandC_len) (eCons (eBlkC_ok api_TimesC_ok api_TimesC_len) (eCons (eBlkC_ok newellaw11_PaidC_ok newellaw11_PaidC_len) (eCons (eRow_ok intC_ok) eNil))))⟩, (xCons ⟨(drCons 6 (allCons rBool_ok (drCons 137 allNil))), eNil⟩ (xCons ⟨(drCons 3 (allCons (rPtr_ok 0 0) (allCons (rPtr_ok 1 0) (allCons (rPtr_ok 2 0) (drCons 1 (allCons (rRow_ok 3) (allCons (rInt_ok .i64) (drCons 1 (allCons rBool_ok (drCons 133 allNil)))))))))), (eCons (eBlkC_ok api_BandC_ok api_BandC_len) (eCons (eBlkC_ok api_TimesC_ok api_TimesC_len) (eCons (eBlkC_ok newellaw11_PaidC_ok newellaw11_PaidC_len) (eCons (eRow_ok intC_ok) eNil))))⟩ xNil))⟩
def newellaw11_EnergyLeast_h10 (v823 : Int) (v824 : Bool) (v825 : Int) (v826 : api_Band) (v827 : api_Times) (v828 : newellaw11_Paid) (v829 : Bool) (v830 : Arr Int) : St := ⟨(un 3 ((.ptr 0 0) :: (.ptr 1 0) :: (.ptr 2 0) :: (un 1 ((.row 3) :: (.int .i64 v823) :: (un 1 ((.bool v824) :: (.int .i64 v825) :: (un 132 []))))))), [(0, .blk (Cod.enc api_BandC v826)), (1, .blk (Cod.enc api_TimesC v827)), (2, .blk (Cod.enc newellaw11_PaidC v828)), (3, rowE intC v829 v830)], 4⟩
def newellaw11_EnergyLeast_x10_r (q0 : Bool) : St := ⟨(un 6 ((.bool q0) :: (un 137 []))), [], 0⟩
def newellaw11_EnergyLeast_x10_0 (v823 : Int) (v824 : Bool) (v826 : api_Band) (v827 : api_Times) (v828 : newellaw11_Paid) (v829 : Bool) (v830 : Arr Int) : St := ⟨(un 3 ((.ptr 0 0) :: (.ptr 1 0) :: (.ptr 2 0) :: (un 1 ((.row 3) :: (.int .i64 v823) :: (un 1 ((.bool v824) :: (un 133 []))))))), [(0, .blk (Cod.enc api_BandC v826)), (1, .blk (Cod.enc api_TimesC v827)), (2, .blk (Cod.enc newellaw11_PaidC v828)), (3, rowE intC v829 v830)], 4⟩
def newellaw11_EnergyLeast_b10 {R : Type} (N : Nat) (rc : Int → Bool → Int → api_Band → api_Times → newellaw11_Paid → Bool → Arr Int → Option R) (v823 : Int) (v824 : Bool) (v825 : Int) (v826 : api_Band) (v827 : api_Times) (v828 : newellaw11_Paid) (v829 : Bool) (v830 : Arr Int) (kr : Bool → Option R) (k0 : Unit → Option R) : Option R :=
  bif decide (v825 < (↑(Arr.n v830) : Int)) then
   newellaw11_EnergyLeast_l13 N N v823 v824 v825 (0 : Int) v826 v827 v828 v829 v830 (fun r844 =>
    kr r844) (fun (_ : Unit) =>
    rc v823 v824 (w64 (v825 + (1 : Int))) v826 v827 v828 v829 v830)
  else
   k0 ()
def newellaw11_EnergyLeast_l10 {R : Type} (N : Nat) : Nat → Int → Bool → Int → api_Band → api_Times → newellaw11_Paid → Bool → Arr Int → (Bool → Option R) → (Unit → Option R) → Option R
  | 0, _, _, _, _, _, _, _, _, _, _ => Option.none
  | n + 1, v823, v824, v825, v826, v827, v828, v829, v830, kr, k0 => newellaw11_EnergyLeast_b10 N (fun v823 v824 v825 v826 v827 v828 v829 v830 => newellaw11_EnergyLeast_l10 N n v823 v824 v825 v826 v827 v828 v829 v830 kr k0) v823 v824 v825 v826 v827 v828 v829 v830 kr k0


def newellaw11_EnergyLeast_m {R : Type} (N : Nat) (a806 : api_Band) (a807 : api_Times) (a808 : newellaw11_Paid) (k : Bool → Option R) : Option R :=
  newellaw11_Far N a806 (fun r809 =>
  bif r809 then
   newellaw11_works N  (fun r810 =>
   k r810)
  else
   newellaw11_FarTimes N a807 (fun r811 =>
   bif r811 then
    newellaw11_works N  (fun r812 =>
    k r812)
   else
    newelref11_CheckTimes N a806 a807 (fun r813 =>
    bif r813 != (0 : Int) then
     newellaw11_works N  (fun r814 =>
     k r814)
    else
     energy_Cheapest N a806 a807 (fun r815 r816 r817 r818 =>
     newelref11_CheckPlan N a806 a807 (newellaw11_Paid.Plan a808) (fun r819 =>
     bif r819 == (0 : Int) then
      newelref11_Serves N a806 a807 (newellaw11_Paid.Plan a808) (fun r820 =>
      bif r816 != (0 : Int) then
       bif r816 == (3 : Int) then
        bif !r820 then
         newellaw11_works N  (fun r821 =>
         k r821)
        else
         k false
       else
        k false
      else
       newelref11_CheckPlan N a806 a807 r818 (fun r822 =>
       bif r822 != (0 : Int) then
        k false
       else
        newellaw11_EnergyLeast_l10 N N r815 r820 (0 : Int) a806 a807 a808 r817 r818 (fun r845 =>
         k r845) (fun (_ : Unit) =>
         energy_Bounds N a806 a807 r818 (fun r846 r847 =>
         bif r847 != (0 : Int) then
          k false
         else
          bif api_Span.High r846 != r815 then
           k false
          else
           bif r820 then
            energy_Bounds N a806 a807 (newellaw11_Paid.Plan a808) (fun r848 r849 =>
            bif r849 != (0 : Int) then
             k false
            else
             bif decide (api_Span.High r848 < r815) then
              k false
             else
              newellaw11_works N  (fun r850 =>
              k r850))
           else
            newellaw11_works N  (fun r851 =>
            k r851)))))
     else
      bif r816 != (0 : Int) then
       bif r816 == (3 : Int) then
        newellaw11_works N  (fun r852 =>
        k r852)
       else
        k false
      else
       newelref11_CheckPlan N a806 a807 r818 (fun r853 =>
       bif r853 != (0 : Int) then
        k false
       else
        newellaw11_EnergyLeast_l10 N N r815 false (0 : Int) a806 a807 a808 r817 r818 (fun r854 =>
         k r854) (fun (_ : Unit) =>
         energy_Bounds N a806 a807 r818 (fun r855 r856 =>
         bif r856 != (0 : Int) then
          k false
         else
          bif api_Span.High r855 != r815 then
           k false
          else
           newellaw11_works N  (fun r857 =>
           k r857)))))))))
noncomputable def newellaw11_EnergyLeast {R : Type} : Nat → api_Band → api_Times → newellaw11_Paid → (Bool → Option R) → Option R := lock (@newellaw11_EnergyLeast_m R)
theorem newellaw11_EnergyLeast_def {R : Type} (N : Nat) (a806 : api_Band) (a807 : api_Times) (a808 : newellaw11_Paid) (k : Bool → Option R) : newellaw11_EnergyLeast N a806 a807 a808 k = newellaw11_EnergyLeast_m N a806 a807 a808 k := by unfold newellaw11_EnergyLeast; rw [lock_eq]
def newellaw11_EnergyLeast_sp : Sp := ⟨[rAgg api_BandC, rAgg api_TimesC, rAgg newellaw11_PaidC], []⟩
theorem newellaw11_EnergyLeast_sp_ok : newellaw11_EnergyLeast_sp.Ok := ⟨(allCons (rAgg_ok api_BandC_ok api_BandC_len) (allCons (rAgg_ok api_TimesC_ok api_TimesC_len) (allCons (rAgg_ok newellaw11_PaidC_ok newellaw11_PaidC_len) allNil))), eNil⟩
def newellaw11_EnergyLeast_rs : Sp := ⟨[rBool], []⟩
theorem newellaw11_EnergyLeast_rs_ok : newellaw11_EnergyLeast_rs.Ok := ⟨(allCons rBool_ok allNil), eNil⟩
def newellaw11_EnergyLeast_run {R : Type} (N : Nat) (args : List SV) (T : Tab) (kf : SV × Tab → Option R) : Option R :=
  newellaw11_EnergyLeast_m N (Cod.dec api_BandC (lget (toCs (lget args 0)))) (Cod.dec api_TimesC (lget (toCs (lget args 1)))) (Cod.dec newellaw11_PaidC (lget (toCs (lget args 2)))) (fun q0 => kf (lget [.bool q0] 0, []))
def newellaw11_EnergyLeast_d13 {R : Type} (N : Nat) (S0 : St) (k : Exit → St → Option R) : Option R :=
  newellaw11_EnergyLeast_l13 N N (toI (lget S0.tmps 8)) (toB (lget S0.tmps 10)) (toI (lget S0.tmps 11)) (toI (lget S0.tmps 12)) (Cod.dec api_BandC (lget (entCs (entAt S0.tab 0)))) (Cod.dec api_TimesC (lget (entCs (entAt S0.tab 1)))) (Cod.dec newellaw11_PaidC (lget (entCs (entAt S0.tab 2)))) (entNl (entAt S0.tab 3)) (lst intC (entN (entAt S0.tab 3)) (entC (entAt S0.tab 3))) (fun q0 => k .ret (newellaw11_EnergyLeast_x13_r q0)) (fun (_ : Unit) => k (.exit 2) (newellaw11_EnergyLeast_x13_2 (toI (lget S0.tmps 8)) (toB (lget S0.tmps 10)) (toI (lget S0.tmps 11)) (Cod.dec api_BandC (lget (entCs (entAt S0.tab 0)))) (Cod.dec api_TimesC (lget (entCs (entAt S0.tab 1)))) (Cod.dec newellaw11_PaidC (lget (entCs (entAt S0.tab 2)))) (entNl (entAt S0.tab 3)) (lst intC (entN (entAt S0.tab 3)) (entC (entAt S0.tab 3)))))
def newellaw11_EnergyLeast_d10 {R : Type} (N : Nat) (S0 : St) (k : Exit → St → Option R) : Option R :=
  newellaw11_EnergyLeast_l10 N N (toI (lget S0.tmps 8)) (toB (lget S0.tmps 10)) (toI (lget S0.tmps 11)) (Cod.dec api_BandC (lget (entCs (entAt S0.tab 0)))) (Cod.dec api_TimesC (lget (entCs (entAt S0.tab 1)))) (Cod.dec newellaw11_PaidC (lget (entCs (entAt S0.tab 2)))) (entNl (entAt S0.tab 3)) (lst intC (entN (entAt S0.tab 3)) (entC (entAt S0.tab 3))) (fun q0 => k .ret (newellaw11_EnergyLeast_x10_r q0)) (fun (_ : Unit) => k (.exit 0) (newellaw11_EnergyLeast_x10_0 (toI (lget S0.tmps 8)) (toB (lget S0.tmps 10)) (Cod.dec api_BandC (lget (entCs (entAt S0.tab 0)))) (Cod.dec api_TimesC (lget (entCs (entAt S0.tab 1)))) (Cod.dec newellaw11_PaidC (lget (entCs (entAt S0.tab 2)))) (entNl (entAt S0.tab 3)) (lst intC (entN (entAt S0.tab 3)) (entC (entAt S0.tab 3)))))
def newellaw11_EnergyLeast_lp {R : Type} (N : Nat) : Lp R := fun body S k => bif (Go.Sx.keyOf body).getD 0 == 10 then newellaw11_EnergyLeast_L10.head.raw 0 S (fun S0 => newellaw11_EnergyLeast_d10 N S0 k) else bif (Go.Sx.keyOf body).getD 0 == 13 then newellaw11_EnergyLeast_L13.head.raw 0 S (fun S0 => newellaw11_EnergyLeast_d13 N S0 k) else Option.none
theorem newellaw11_EnergyLeast_l10_eq {R : Type} (N : Nat) (k : Exit → St → Option R) (n : Nat) : ∀ (v0 : Int) (v1 : Bool) (v2 : Int) (v3 : api_Band) (v4 : api_Times) (v5 : newellaw11_Paid) (v6 : Bool) (v7 : Arr Int), loopM E.Θ (newellaw11_works_cal N) (newellaw11_EnergyLeast_lp N) 0 newellaw11_EnergyLeast_L10 (bodyAt E 9 10) n (newellaw11_EnergyLeast_h10 v0 v1 v2 v3 v4 v5 v6 v7) k = newellaw11_EnergyLeast_l10 N n v0 v1 v2 v3 v4 v5 v6 v7 (fun q0 => k .ret (newellaw11_EnergyLeast_x10_r q0)) (fun (_ : Unit) => k (.exit 0) (newellaw11_EnergyLeast_x10_0 v0 v1 v3 v4 v5 v6 v7)) := by
  induction n with
  | zero => intro v0 v1 v2 v3 v4 v5 v6 v7; rfl
  | succ n ih =>
    intro v0 v1 v2 v3 v4 v5 v6 v7
    refine Eq.trans (b := newellaw11_EnergyLeast_b10 N (fun v0 v1 v2 v3 v4 v5 v6 v7 => loopM E.Θ (newellaw11_works_cal N) (newellaw11_EnergyLeast_lp N) 0 newellaw11_EnergyLeast_L10 (bodyAt E 9 10) n (newellaw11_EnergyLeast_h10 v0 v1 v2 v3 v4 v5 v6 v7) k) v0 v1 v2 v3 v4 v5 v6 v7 (fun q0 => k .ret (newellaw11_EnergyLeast_x10_r q0)) (fun (_ : Unit) => k (.exit 0) (newellaw11_EnergyLeast_x10_0 v0 v1 v3 v4 v5 v6 v7))) (by kernel_rfl) ?_
    have h : (fun (v0 : Int) (v1 : Bool) (v2 : Int) (v3 : api_Band) (v4 : api_Times) (v5 : newellaw11_Paid) (v6 : Bool) (v7 : Arr Int) => loopM E.Θ (newellaw11_works_cal N) (newellaw11_EnergyLeast_lp N) 0 newellaw11_EnergyLeast_L10 (bodyAt E 9 10) n (newellaw11_EnergyLeast_h10 v0 v1 v2 v3 v4 v5 v6 v7) k) = (fun (v0 : Int) (v1 : Bool) (v2 : Int) (v3 : api_Band) (v4 : api_Times) (v5 : newellaw11_Paid) (v6 : Bool) (v7 : Arr Int) => newellaw11_EnergyLeast_l10 N n v0 v1 v2 v3 v4 v5 v6 v7 (fun q0 => k .ret (newellaw11_EnergyLeast_x10_r q0)) (fun (_ : Unit) => k (.exit 0) (newellaw11_EnergyLeast_x10_0 v0 v1 v3 v4 v5 v6 v7))) := funext fun v0 => funext fun v1 => funext fun v2 => funext fun v3 => funext fun v4 => funext fun v5 => funext fun v6 => funext fun v7 => ih v0 v1 v2 v3 v4 v5 v6 v7
    rw [h]
    rfl
theorem newellaw11_EnergyLeast_l13_eq {R : Type} (N : Nat) (k : Exit → St → Option R) (n : Nat) : ∀ (v0 : Int) (v1 : Bool) (v2 : Int) (v3 : Int) (v4 : api_Band) (v5 : api_Times) (v6 : newellaw11_Paid) (v7 : Bool) (v8 : Arr Int), loopM E.Θ (newellaw11_works_cal N) (newellaw11_EnergyLeast_lp N) 0 newellaw11_EnergyLeast_L13 (bodyAt E 9 13) n (newellaw11_EnergyLeast_h13 v0 v1 v2 v3 v4 v5 v6 v7 v8) k = newellaw11_EnergyLeast_l13 N n v0 v1 v2 v3 v4 v5 v6 v7 v8 (fun q0 => k .ret (newellaw11_EnergyLeast_x13_r q0)) (fun (_ : Unit) => k (.exit 2) (newellaw11_EnergyLeast_x13_2 v0 v1 v2 v4 v5 v6 v7 v8)) := by
  induction n with
  | zero => intro v0 v1 v2 v3 v4 v5 v6 v7 v8; rfl
  | succ n ih =>
    intro v0 v1 v2 v3 v4 v5 v6 v7 v8
    refine Eq.trans (b := newellaw11_EnergyLeast_b13 N (fun v0 v1 v2 v3 v4 v5 v6 v7 v8 => loopM E.Θ (newellaw11_works_cal N) (newellaw11_EnergyLeast_lp N) 0 newellaw11_EnergyLeast_L13 (bodyAt E 9 13) n (newellaw11_EnergyLeast_h13 v0 v1 v2 v3 v4 v5 v6 v7 v8) k) v0 v1 v2 v3 v4 v5 v6 v7 v8 (fun q0 => k .ret (newellaw11_EnergyLeast_x13_r q0)) (fun (_ : Unit) => k (.exit 2) (newellaw11_EnergyLeast_x13_2 v0 v1 v2 v4 v5 v6 v7 v8))) (by kernel_rfl) ?_
    have h : (fun (v0 : Int) (v1 : Bool) (v2 : Int) (v3 : Int) (v4 : api_Band) (v5 : api_Times) (v6 : newellaw11_Paid) (v7 : Bool) (v8 : Arr Int) => loopM E.Θ (newellaw11_works_cal N) (newellaw11_EnergyLeast_lp N) 0 newellaw11_EnergyLeast_L13 (bodyAt E 9 13) n (newellaw11_EnergyLeast_h13 v0 v1 v2 v3 v4 v5 v6 v7 v8) k) = (fun (v0 : Int) (v1 : Bool) (v2 : Int) (v3 : Int) (v4 : api_Band) (v5 : api_Times) (v6 : newellaw11_Paid) (v7 : Bool) (v8 : Arr Int) => newellaw11_EnergyLeast_l13 N n v0 v1 v2 v3 v4 v5 v6 v7 v8 (fun q0 => k .ret (newellaw11_EnergyLeast_x13_r q0)) (fun (_ : Unit) => k (.exit 2) (newellaw11_EnergyLeast_x13_2 v0 v1 v2 v4 v5 v6 v7 v8))) := funext fun v0 => funext fun v1 => funext fun v2 => funext fun v3 => funext fun v4 => funext fun v5 => funext fun v6 => funext fun v7 => funext fun v8 => ih v0 v1 v2 v3 v4 v5 v6 v7 v8
    rw [h]
    rfl
theorem newellaw11_EnergyLeast_k13 {R : Type} (N : Nat) : LpKey (R := R) E 9 0 (newellaw11_EnergyLeast_lp N) 13 :=
  lpKey_of hE (newellaw11_works_cal_ok N) newellaw11_EnergyLeast_L13_ok [] kNil (by kernel_rfl) N fun S k =>
    Eq.trans (b := newellaw11_EnergyLeast_L13.head.raw 0 S (fun S0 => newellaw11_EnergyLeast_d13 N S0 k)) (by kernel_rfl) (congrArg (newellaw11_EnergyLeast_L13.head.raw 0 S) (funext fun S0 => Eq.trans (newellaw11_EnergyLeast_l13_eq N k N (toI (lget S0.tmps 8)) (toB (lget S0.tmps 10)) (toI (lget S0.tmps 11)) (toI (lget S0.tmps 12)) (Cod.dec api_BandC (lget (entCs (entAt S0.tab 0)))) (Cod.dec api_TimesC (lget (entCs (entAt S0.tab 1)))) (Cod.dec newellaw11_PaidC (lget (entCs (entAt S0.tab 2)))) (entNl (entAt S0.tab 3)) (lst intC (entN (entAt S0.tab 3)) (entC (entAt S0.tab 3)))).symm (by kernel_rfl)))
theorem newellaw11_EnergyLeast_k10 {R : Type} (N : Nat) : LpKey (R := R) E 9 0 (newellaw11_EnergyLeast_lp N) 10 :=
  lpKey_of hE (newellaw11_works_cal_ok N) newellaw11_EnergyLeast_L10_ok [13] (kCons (newellaw11_EnergyLeast_k13 N) kNil) (by kernel_rfl) N fun S k =>
    Eq.trans (b := newellaw11_EnergyLeast_L10.head.raw 0 S (fun S0 => newellaw11_EnergyLeast_d10 N S0 k)) (by kernel_rfl) (congrArg (newellaw11_EnergyLeast_L10.head.raw 0 S) (funext fun S0 => Eq.trans (newellaw11_EnergyLeast_l10_eq N k N (toI (lget S0.tmps 8)) (toB (lget S0.tmps 10)) (toI (lget S0.tmps 11)) (Cod.dec api_BandC (lget (entCs (entAt S0.tab 0)))) (Cod.dec api_TimesC (lget (entCs (entAt S0.tab 1)))) (Cod.dec newellaw11_PaidC (lget (entCs (entAt S0.tab 2)))) (entNl (entAt S0.tab 3)) (lst intC (entN (entAt S0.tab 3)) (entC (entAt S0.tab 3)))).symm (by kernel_rfl)))
noncomputable def newellaw11_EnergyLeast_go {R : Type} (N : Nat) (args : List SV) (T : Tab) (kf : SV × Tab → Option R) : Option R :=
  newellaw11_EnergyLeast N (Cod.dec api_BandC (lget (toCs (lget args 0)))) (Cod.dec api_TimesC (lget (toCs (lget args 1)))) (Cod.dec newellaw11_PaidC (lget (toCs (lget args 2)))) (fun q0 => kf (lget [.bool q0] 0, []))
noncomputable def newellaw11_EnergyLeast_cal {R : Type} (N : Nat) : Cal R := callM (newellaw11_works_cal N) 9 0 newellaw11_EnergyLeast_sp (newellaw11_EnergyLeast_go N)
theorem newellaw11_EnergyLeast_cal_ok {R : Type} (N : Nat) : CalOk E.P (newellaw11_EnergyLeast_cal (R := R) N) :=
  callM_ok hE (newellaw11_works_cal_ok N) (lp := newellaw11_EnergyLeast_lp N) (keys := [10, 13]) (kCons (newellaw11_EnergyLeast_k10 N) (kCons (newellaw11_EnergyLeast_k13 N) kNil)) (by kernel_rfl) newellaw11_EnergyLeast_sp_ok newellaw11_EnergyLeast_rs_ok (fun args T kf => Eq.trans (newellaw11_EnergyLeast_def N (Cod.dec api_BandC (lget (toCs (lget args 0)))) (Cod.dec api_TimesC (lget (toCs (lget args 1)))) (Cod.dec newellaw11_PaidC (lget (toCs (lget args 2)))) (fun q0 => kf (lget [.bool q0] 0, []))) (by kernel_rfl : newellaw11_EnergyLeast_run N args T kf = fnM E (newellaw11_works_cal N) (newellaw11_EnergyLeast_lp N) 9 (newellaw11_EnergyLeast_sp.vs args) (newellaw11_EnergyLeast_sp.tab T) 0 (resK newellaw11_EnergyLeast_rs kf)))

/-- The number of a plan, from its digits. -/
def nm (P : Nat) (d : Nat → Nat) : Nat → Nat
  | 0 => 0
  | n + 1 => nm P d n * P + d n
theorem nm_lt {P : Nat} {d : Nat → Nat} : ∀ n : Nat, (∀ j, j < n → d j < P) → nm P d n < P ^ n
  | 0, _ => by simp [nm]
  | n + 1, h => by
    have h1 := nm_lt n (fun j hj => h j (by omega))
    have h2 := h n (by omega)
    simp only [nm]
    rw [Nat.pow_succ]
    have : (nm P d n + 1) * P ≤ P ^ n * P := Nat.mul_le_mul_right _ h1
    rw [Nat.add_mul, Nat.one_mul] at this
    omega
theorem nm_div {P : Nat} {d : Nat → Nat} (hP : 0 < P) (a : Nat) : ∀ k : Nat, (∀ j, j < a + k → d j < P) → nm P d (a + k) / P ^ k = nm P d a
  | 0, _ => by simp
  | k + 1, h => by
    have h1 := nm_div hP a k (fun j hj => h j (by omega))
    rw [Nat.pow_succ, Nat.mul_comm, ← Nat.div_div_eq_div_mul]
    have : nm P d (a + (k + 1)) / P = nm P d (a + k) := by
      show (nm P d (a + k) * P + d (a + k)) / P = _
      rw [Nat.add_comm, Nat.add_mul_div_right _ _ hP, Nat.div_eq_of_lt (h _ (by omega)), Nat.zero_add]
    rw [this, h1]
theorem nm_dig {P m : Nat} {d : Nat → Nat} (hP : 0 < P) (h : ∀ j, j < m → d j < P) {j : Nat} (hj : j < m) : dig P m (nm P d m) j = d j := by
  unfold dig
  have := nm_div (d := d) hP (j + 1) (m - 1 - j) (fun u hu => h u (by omega))
  rw [show j + 1 + (m - 1 - j) = m by omega] at this
  rw [this]
  show (nm P d j * P + d j) % P = d j
  rw [Nat.add_comm, Nat.add_mul_mod_self_right, Nat.mod_eq_of_lt (h j hj)]

theorem plan_num {b : api_Band} (h : VB b) {t : api_Times} {p : Arr Int} (hp : planP b t p) : ∃ x, x < b.Paces.n ^ t.Periods.n ∧ ∀ j, j < t.Periods.n → planF b t.Periods.n x j = p.f j := by
  classical
  have hc : ∀ j, ∃ u, j < t.Periods.n → u < b.Paces.n ∧ b.Paces.f u = p.f j := fun j => by
    by_cases hj : j < t.Periods.n
    · obtain ⟨u, h1, h2⟩ := hp.2 j (by rw [hp.1]; exact hj)
      exact ⟨u, fun _ => ⟨h1, h2⟩⟩
    · exact ⟨0, fun g => absurd g hj⟩
  let d : Nat → Nat := fun j => Classical.choose (hc j)
  have hd : ∀ j, j < t.Periods.n → d j < b.Paces.n ∧ b.Paces.f (d j) = p.f j := fun j hj => Classical.choose_spec (hc j) hj
  refine ⟨nm b.Paces.n d t.Periods.n, nm_lt _ (fun j hj => (hd j hj).1), fun j hj => ?_⟩
  unfold planF
  rw [nm_dig (by have := h.l1; omega) (fun u hu => (hd u hu).1) hj]
  exact (hd j hj).2

def invX (b : api_Band) (t : api_Times) (s : Option Nat) (x : Nat) : Prop := match s with
  | none => ∀ z, z < x → ¬ srvX b t z
  | some y => y < x ∧ srvX b t y ∧ ∀ z, z < x → srvX b t z → costX b t y ≤ costX b t z
theorem runX_inv {b : api_Band} {t : api_Times} : ∀ (c x : Nat) (s : Option Nat), invX b t s x → invX b t (runX b t c x s) (x + c) := by
  intro c
  induction c with
  | zero => intro x s h; exact h
  | succ c ih =>
    intro x s h
    rw [show x + (c + 1) = x + 1 + c by omega]
    refine ih (x + 1) _ ?_
    unfold stepX
    by_cases hs : srvX b t x
    · rw [if_pos hs]
      cases s with
      | none =>
        refine ⟨by omega, hs, fun z h1 h2 => ?_⟩
        by_cases e : z = x
        · subst e; exact Int.le_refl _
        · exact absurd h2 (h z (by omega))
      | some y =>
        obtain ⟨h1, h2, h3⟩ := h
        by_cases hc : costX b t x < costX b t y
        · simp only [hc, if_true]
          refine ⟨by omega, hs, fun z g1 g2 => ?_⟩
          by_cases e : z = x
          · subst e; exact Int.le_refl _
          · have := h3 z (by omega) g2; omega
        · simp only [hc, if_false]
          refine ⟨by omega, h2, fun z g1 g2 => ?_⟩
          by_cases e : z = x
          · subst e; omega
          · exact h3 z (by omega) g2
    · rw [if_neg hs]
      cases s with
      | none =>
        intro z h1
        by_cases e : z = x
        · subst e; exact hs
        · exact h z (by omega)
      | some y =>
        obtain ⟨h1, h2, h3⟩ := h
        refine ⟨by omega, h2, fun z g1 g2 => ?_⟩
        by_cases e : z = x
        · subst e; exact absurd g2 hs
        · exact h3 z (by omega) g2

theorem cheap_inv (b : api_Band) (t : api_Times) : invX b t (cheapX b t) (b.Paces.n ^ t.Periods.n) := by
  have := runX_inv (b := b) (t := t) (b.Paces.n ^ t.Periods.n) 0 none (fun z h => by omega)
  rw [Nat.zero_add] at this
  exact this

theorem least_l13 {R : Type} {N : Nat} (hN : 20 ≤ N) {b : api_Band} (h : VB b) {t : api_Times} (ht : VT t) {a : Arr Int} (hp : planP b t a) (hs : ∀ j, j < a.n → srvJ b t j (a.f j)) (w : Int) (v f : Bool) (q : newellaw11_Paid) {i : Nat} (hi : i < t.Periods.n) (kr : Bool → Option R) (k2 : Unit → Option R) :
    newellaw11_EnergyLeast_l13 N N w v (i : Int) (0 : Int) b t q f a kr k2 = k2 () := by
  obtain ⟨N', hN'⟩ : ∃ m, N = m + 3 := ⟨N - 3, by omega⟩
  have hq := ht.per i hi
  have f1 := hq.f1
  have f2 := hq.f2
  have f3 := hq.f3
  have hpn := hp.1
  have hin := hp.2 i (by omega)
  have hsi := hs i (by omega)
  unfold srvJ at hsi
  have a1 : askV b (t.Periods.f i).Flow.High (a.f i) = 0 := askV_zero.2 ⟨h, hin, by omega, f3⟩
  have a2 : askV b (t.Periods.f i).Flow.Low (a.f i) = 0 := askV_zero.2 ⟨h, hin, f1, by omega⟩
  have v1 : loadV b (t.Periods.f i).Flow.High (a.f i) = loadS b (t.Periods.f i).Flow.High (a.f i) := by unfold loadV; rw [if_pos a1]
  have v2 : loadV b (t.Periods.f i).Flow.Low (a.f i) = loadS b (t.Periods.f i).Flow.Low (a.f i) := by unfold loadV; rw [if_pos a2]
  have hm := load_mono h (plan_fp h hp hi (f := (t.Periods.f i).Flow.Low) (by omega)) f2
  have g1 : decide (loadS b (t.Periods.f i).Flow.High (a.f i) > b.Most) = false := by simp; omega
  have g2 : decide (loadS b (t.Periods.f i).Flow.Low (a.f i) > b.Most) = false := by simp; omega
  conv => lhs; arg 2; rw [hN']
  unfold newellaw11_EnergyLeast_l13 newellaw11_EnergyLeast_b13
  have d0 : decide ((0 : Int) < 2) = true := rfl
  have m0 : ((0 : Int) == 1) = false := rfl
  have p1 : w64 (0 + 1) = 1 := rfl
  simp only [d0, m0, p1, cond_true, cond_false, lt_true hi, lt_true (show i < a.n by omega), nat_nonneg, Bool.and_self, Int.toNat_natCast, Load_eq hN, a1, v1, g1, bne_self_eq_false]
  unfold newellaw11_EnergyLeast_l13 newellaw11_EnergyLeast_b13
  have d1 : decide ((1 : Int) < 2) = true := rfl
  have p2 : w64 (1 + 1) = 2 := rfl
  simp only [d1, p2, cond_true, cond_false, BEq.rfl, lt_true hi, lt_true (show i < a.n by omega), nat_nonneg, Bool.and_self, Int.toNat_natCast, Load_eq hN, a2, v2, g2, bne_self_eq_false]
  unfold newellaw11_EnergyLeast_l13 newellaw11_EnergyLeast_b13
  have d2 : decide ((2 : Int) < 2) = false := rfl
  simp only [d2, cond_false]

theorem least_l10 {R : Type} {N : Nat} (hN : 20 ≤ N) {b : api_Band} (h : VB b) {t : api_Times} (ht : VT t) {a : Arr Int} (hp : planP b t a) (hs : ∀ j, j < a.n → srvJ b t j (a.f j)) (w : Int) (v f : Bool) (q : newellaw11_Paid) (kr : Bool → Option R) (k0 : Unit → Option R) : ∀ (r i n : Nat), i + r = a.n → r < n →
    newellaw11_EnergyLeast_l10 N n w v (i : Int) b t q f a kr k0 = k0 () := by
  have hn2 := ht.n2
  have hpn := hp.1
  intro r
  induction r with
  | zero =>
    intro i n h1 h2
    obtain ⟨n, rfl⟩ : ∃ m, n = m + 1 := ⟨n - 1, by omega⟩
    unfold newellaw11_EnergyLeast_l10 newellaw11_EnergyLeast_b10
    simp only [lt_false (show a.n ≤ i by omega), cond_false]
  | succ r ih =>
    intro i n h1 h2
    obtain ⟨n, rfl⟩ : ∃ m, n = m + 1 := ⟨n - 1, by omega⟩
    unfold newellaw11_EnergyLeast_l10 newellaw11_EnergyLeast_b10
    simp only [lt_true (show i < a.n by omega), cond_true, w64_succ (show i < 1000000000000 by omega), least_l13 hN h ht hp hs w v f q (i := i) (by omega)]
    exact ih (i + 1) n (by omega) (by omega)

theorem energyLeast_true (b : api_Band) (t : api_Times) (p : newellaw11_Paid) (hb : b.wf) (ht : t.wf) (hp : p.wf) : ∃ N, newellaw11_EnergyLeast N b t p (fun q0 => okK (lget [.bool q0] 0, [])) = some () := by
  classical
  refine ⟨NN, ?_⟩
  have hNN : NN = 20000 := rfl
  rw [newellaw11_EnergyLeast_def]
  unfold newellaw11_EnergyLeast_m
  have htr : okK (lget [SV.bool true] 0, []) = some () := rfl
  simp only [Far_eq, FarTimes_eq, works_eq, refTimes_eq (show 20 ≤ NN by decide), refPlan_eq (show 20 ≤ NN by decide), htr]
  cases decide ((b.Paces.n : Int) > 10)
  rotate_left
  · rfl
  cases decide ((t.Periods.n : Int) > 20)
  rotate_left
  · rfl
  by_cases h : timesV b t = 0
  rotate_left
  · have : (timesV b t != 0) = true := by simpa using h
    simp only [cond_false, this, cond_true]
  obtain ⟨hv, hvt⟩ := timesV_zero.1 h
  have hn2 := hvt.n2
  obtain ⟨f, a, ha, qa⟩ := Cheapest_eq (show 20 ≤ NN by decide) b t
  simp only [cond_false, h, bne_self_eq_false, qa]
  have hinv := cheap_inv b t
  -- the plan that is given
  have hserve : ∀ (hpl : planP b t p.Plan) (k : Bool → Option Unit), newelref11_Serves NN b t p.Plan k = k (decide (∀ j, j < p.Plan.n → srvJ b t j (p.Plan.f j))) := fun hpl k =>
    Serves_eq (by decide) hv hvt hpl.1 (fun j hj => plan_pace hv hpl (by rw [← hpl.1]; exact hj)) k
  have hnum : planP b t p.Plan → (∀ j, j < p.Plan.n → srvJ b t j (p.Plan.f j)) → ∃ x, x < b.Paces.n ^ t.Periods.n ∧ srvX b t x ∧ costX b t x = billS t (pwE b t p.Plan true) := fun hpl hs => by
    obtain ⟨x, h1, h2⟩ := plan_num hv hpl
    exact ⟨x, h1, fun j hj => by rw [h2 j hj]; exact hs j (by rw [hpl.1]; exact hj), billS_congr fun j hj => by rw [h2 j hj]; rfl⟩
  cases hx : cheapX b t with
  | none =>
    rw [hx] at hinv
    have e1 : chE b t = 3 := by unfold chE; rw [if_pos h, hx]
    have e2 : ((3 : Int) != 0) = true := rfl
    rw [e1]
    by_cases hpl : planV b t p.Plan = 0
    · have hpp := (planV_zero.1 hpl).2.2
      have hns : ¬ ∀ j, j < p.Plan.n → srvJ b t j (p.Plan.f j) := fun g => by
        obtain ⟨x, h1, h2, _⟩ := hnum hpp g
        exact hinv x h1 h2
      simp only [hpl, BEq.rfl, cond_true, hserve hpp, hns, decide_false, e2, Bool.not_false]
    · have : (planV b t p.Plan == 0) = false := by simpa using hpl
      simp only [this, cond_false, e2, cond_true, BEq.rfl]
  | some y =>
    rw [hx] at hinv
    obtain ⟨y1, y2, y3⟩ := hinv
    have e1 : chE b t = 0 := by unfold chE; rw [if_pos h, hx]
    have ev : chV b t = costX b t y := by unfold chV; rw [if_pos h, hx]
    have en : chN b t = t.Periods.n := by unfold chN; rw [if_pos h, hx]
    have ef : chF b t = planF b t.Periods.n y := by unfold chF; rw [hx]
    rw [en, ef] at ha
    have hl1 := hv.l1
    have hpa : planP b t a := ⟨ha.len, fun j hj => by
      rw [ha.get j (by rw [← ha.len]; exact hj)]
      exact ⟨dig b.Paces.n t.Periods.n y j, Nat.mod_lt _ (by omega), rfl⟩⟩
    have hpv : planV b t a = 0 := planV_zero.2 ⟨hv, hvt, hpa⟩
    have hsa : ∀ j, j < a.n → srvJ b t j (a.f j) := fun j hj => by
      rw [ha.len] at hj
      rw [ha.get j hj]
      exact y2 j hj
    have hBa : (boundsV b t a).High = costX b t y := by
      unfold boundsV
      rw [if_pos hpv]
      exact billS_congr fun j hj => by unfold pwE; rw [ha.get j hj]
    have e0 : ((0 : Int) != 0) = false := rfl
    have loop : ∀ (v : Bool) (kr : Bool → Option Unit) (k0 : Unit → Option Unit), newellaw11_EnergyLeast_l10 NN NN (costX b t y) v (0 : Int) b t p f a kr k0 = k0 () := fun v kr k0 =>
      least_l10 (by decide) hv hvt hpa hsa _ v f p kr k0 a.n 0 NN (by omega) (by rw [ha.len]; omega)
    have hne : (costX b t y != costX b t y) = false := by simp
    rw [e1, ev]
    by_cases hpl : planV b t p.Plan = 0
    · have hpp := (planV_zero.1 hpl).2.2
      simp only [hpl, BEq.rfl, cond_true, hserve hpp, e0, cond_false, hpv, loop, Bounds_eq (show 20 ≤ NN by decide), hBa, hne]
      by_cases hs : ∀ j, j < p.Plan.n → srvJ b t j (p.Plan.f j)
      · obtain ⟨x, h1, h2, h3⟩ := hnum hpp hs
        have hBp : (boundsV b t p.Plan).High = costX b t x := by
          unfold boundsV
          rw [if_pos hpl]
          exact h3.symm
        have := y3 x h1 h2
        have g : decide (costX b t x < costX b t y) = false := by simp; omega
        rw [decide_eq_true hs]
        simp only [cond_true, hBp, g, cond_false]
      · rw [decide_eq_false hs]
        rfl
    · have : (planV b t p.Plan == 0) = false := by simpa using hpl
      simp only [this, cond_false, e0, hpv, loop, Bounds_eq (show 20 ≤ NN by decide), hBa, hne]
end
end Go.Proofs.Ytfaefhegfcidpaa
