/-
  The model of the statement EnergyPowers, that it is what the code does (written by a program), and that it answers true.
-/
import Derived.Test.YtfaefhegfcidpaaP5
set_option maxRecDepth 100000
set_option maxHeartbeats 0
set_option linter.unusedVariables false
set_option linter.unusedSimpArgs false
namespace Go.Proofs.Ytfaefhegfcidpaa
open Go.Sx
noncomputable section


def newellaw11_EnergyPowers_m {R : Type} (N : Nat) (a727 : api_Band) (a728 : Int) (a729 : Int) (k : Bool → Option R) : Option R :=
  newellaw11_Far N a727 (fun r730 =>
  bif r730 then
   newellaw11_works N  (fun r731 =>
   k r731)
  else
   energy_Load N a727 a728 a729 (fun r732 r733 =>
   newelref11_Load N a727 a728 a729 (fun r734 r735 =>
   energy_Power N a727 a728 a729 (fun r736 r737 =>
   newelref11_Power N a727 a728 a729 (fun r738 r739 =>
   energy_Slow N a727 a728 (fun r740 r741 =>
   newelref11_Slow N a727 a728 (fun r742 r743 =>
   energy_Check N a727 (fun r744 =>
   newelref11_Check N a727 (fun r745 =>
   bif r744 == r745 then
    bif r732 == r734 then
     bif r733 == r735 then
      bif r736 == r738 then
       bif r737 == r739 then
        bif r740 == r742 then
         bif r741 == r743 then
          newellaw11_works N  (fun r746 =>
          k r746)
         else
          k false
        else
         k false
       else
        k false
      else
       k false
     else
      k false
    else
     k false
   else
    k false)))))))))
noncomputable def newellaw11_EnergyPowers {R : Type} : Nat → api_Band → Int → Int → (Bool → Option R) → Option R := lock (@newellaw11_EnergyPowers_m R)
theorem newellaw11_EnergyPowers_def {R : Type} (N : Nat) (a727 : api_Band) (a728 : Int) (a729 : Int) (k : Bool → Option R) : newellaw11_EnergyPowers N a727 a728 a729 k = newellaw11_EnergyPowers_m N a727 a728 a729 k := by unfold newellaw11_EnergyPowers; rw [lock_eq]
def newellaw11_EnergyPowers_sp : Sp := ⟨[rAgg api_BandC, rInt .i64, rInt .i64], []⟩
theorem newellaw11_EnergyPowers_sp_ok : newellaw11_EnergyPowers_sp.Ok := ⟨(allCons (rAgg_ok api_BandC_ok api_BandC_len) (allCons (rInt_ok .i64) (allCons (rInt_ok .i64) allNil))), eNil⟩
def newellaw11_EnergyPowers_rs : Sp := ⟨[rBool], []⟩
theorem newellaw11_EnergyPowers_rs_ok : newellaw11_EnergyPowers_rs.Ok := ⟨(allCons rBool_ok allNil), eNil⟩
def newellaw11_EnergyPowers_run {R : Type} (N : Nat) (args : List SV) (T : Tab) (kf : SV × Tab → Option R) : Option R :=
  newellaw11_EnergyPowers_m N (Cod.dec api_BandC (lget (toCs (lget args 0)))) (toI (lget args 1)) (toI (lget args 2)) (fun q0 => kf (lget [.bool q0] 0, []))
def newellaw11_EnergyPowers_lp {R : Type} (N : Nat) : Lp R := fun body S k => Option.none
noncomputable def newellaw11_EnergyPowers_go {R : Type} (N : Nat) (args : List SV) (T : Tab) (kf : SV × Tab → Option R) : Option R :=
  newellaw11_EnergyPowers N (Cod.dec api_BandC (lget (toCs (lget args 0)))) (toI (lget args 1)) (toI (lget args 2)) (fun q0 => kf (lget [.bool q0] 0, []))
noncomputable def newellaw11_EnergyPowers_cal {R : Type} (N : Nat) : Cal R := callM (newellaw11_works_cal N) 6 0 newellaw11_EnergyPowers_sp (newellaw11_EnergyPowers_go N)
theorem newellaw11_EnergyPowers_cal_ok {R : Type} (N : Nat) : CalOk E.P (newellaw11_EnergyPowers_cal (R := R) N) :=
  callM_ok hE (newellaw11_works_cal_ok N) (lp := newellaw11_EnergyPowers_lp N) (keys := []) kNil (by kernel_rfl) newellaw11_EnergyPowers_sp_ok newellaw11_EnergyPowers_rs_ok (fun args T kf => Eq.trans (newellaw11_EnergyPowers_def N (Cod.dec api_BandC (lget (toCs (lget args 0)))) (toI (lget args 1)) (toI (lget args 2)) (fun q0 => kf (lget [.bool q0] 0, []))) (by kernel_rfl : newellaw11_EnergyPowers_run N args T kf = fnM E (newellaw11_works_cal N) (newellaw11_EnergyPowers_lp N) 6 (newellaw11_EnergyPowers_sp.vs args) (newellaw11_EnergyPowers_sp.tab T) 0 (resK newellaw11_EnergyPowers_rs kf)))

theorem energyPowers_true (b : api_Band) (flow pace : Int) (hb : b.wf) (hf : i64 flow) (hp : i64 pace) : ∃ N, newellaw11_EnergyPowers N b flow pace (fun q0 => okK (lget [.bool q0] 0, [])) = some () := by
  refine ⟨NN, ?_⟩
  rw [newellaw11_EnergyPowers_def]
  unfold newellaw11_EnergyPowers_m
  simp only [Far_eq, works_eq, Load_eq (show 20 ≤ NN by decide), refLoad_eq (show 20 ≤ NN by decide), Power_eq (show 20 ≤ NN by decide), refPower_eq (show 20 ≤ NN by decide), Slow_eq (show 20 ≤ NN by decide), refSlow_eq (show 20 ≤ NN by decide), Check_eq (show 20 ≤ NN by decide), refCheck_eq (show 20 ≤ NN by decide), BEq.rfl, cond_true]
  cases decide ((b.Paces.n : Int) > 10) <;> rfl
end
end Go.Proofs.Ytfaefhegfcidpaa
