/-
  The model of the statement EnergyBills, that it is what the code does (written by a program), and that it answers true.
-/
import Derived.Test.YtfaefhegfcidpaaP5
set_option maxRecDepth 100000
set_option maxHeartbeats 0
set_option linter.unusedVariables false
set_option linter.unusedSimpArgs false
namespace Go.Proofs.Ytfaefhegfcidpaa
open Go.Sx
noncomputable section


def newellaw11_EnergyBills_m {R : Type} (N : Nat) (a747 : api_Band) (a748 : api_Times) (a749 : newellaw11_Paid) (k : Bool → Option R) : Option R :=
  newellaw11_Far N a747 (fun r750 =>
  bif r750 then
   newellaw11_works N  (fun r751 =>
   k r751)
  else
   newellaw11_FarTimes N a748 (fun r752 =>
   bif r752 then
    newellaw11_works N  (fun r753 =>
    k r753)
   else
    bif decide ((↑(Arr.n (newellaw11_Paid.Plan a749)) : Int) > (20 : Int)) then
     newellaw11_works N  (fun r754 =>
     k r754)
    else
     bif decide ((↑(Arr.n (newellaw11_Paid.Flows a749)) : Int) > (20 : Int)) then
      newellaw11_works N  (fun r755 =>
      k r755)
     else
      energy_Bill N a747 a748 (newellaw11_Paid.Plan a749) (newellaw11_Paid.Flows a749) (fun r756 r757 =>
      newelref11_Bill N a747 a748 (newellaw11_Paid.Plan a749) (newellaw11_Paid.Flows a749) (fun r758 r759 =>
      energy_Bounds N a747 a748 (newellaw11_Paid.Plan a749) (fun r760 r761 =>
      newelref11_Bounds N a747 a748 (newellaw11_Paid.Plan a749) (fun r762 r763 =>
      bif r756 == r758 then
       bif r757 == r759 then
        bif api_Span.Low r760 == api_Span.Low r762 && (api_Span.High r760 == api_Span.High r762 && true) then
         bif r761 == r763 then
          newellaw11_works N  (fun r764 =>
          k r764)
         else
          k false
        else
         k false
       else
        k false
      else
       k false))))))
noncomputable def newellaw11_EnergyBills {R : Type} : Nat → api_Band → api_Times → newellaw11_Paid → (Bool → Option R) → Option R := lock (@newellaw11_EnergyBills_m R)
theorem newellaw11_EnergyBills_def {R : Type} (N : Nat) (a747 : api_Band) (a748 : api_Times) (a749 : newellaw11_Paid) (k : Bool → Option R) : newellaw11_EnergyBills N a747 a748 a749 k = newellaw11_EnergyBills_m N a747 a748 a749 k := by unfold newellaw11_EnergyBills; rw [lock_eq]
def newellaw11_EnergyBills_sp : Sp := ⟨[rAgg api_BandC, rAgg api_TimesC, rAgg newellaw11_PaidC], []⟩
theorem newellaw11_EnergyBills_sp_ok : newellaw11_EnergyBills_sp.Ok := ⟨(allCons (rAgg_ok api_BandC_ok api_BandC_len) (allCons (rAgg_ok api_TimesC_ok api_TimesC_len) (allCons (rAgg_ok newellaw11_PaidC_ok newellaw11_PaidC_len) allNil))), eNil⟩
def newellaw11_EnergyBills_rs : Sp := ⟨[rBool], []⟩
theorem newellaw11_EnergyBills_rs_ok : newellaw11_EnergyBills_rs.Ok := ⟨(allCons rBool_ok allNil), eNil⟩
def newellaw11_EnergyBills_run {R : Type} (N : Nat) (args : List SV) (T : Tab) (kf : SV × Tab → Option R) : Option R :=
  newellaw11_EnergyBills_m N (Cod.dec api_BandC (lget (toCs (lget args 0)))) (Cod.dec api_TimesC (lget (toCs (lget args 1)))) (Cod.dec newellaw11_PaidC (lget (toCs (lget args 2)))) (fun q0 => kf (lget [.bool q0] 0, []))
def newellaw11_EnergyBills_lp {R : Type} (N : Nat) : Lp R := fun body S k => Option.none
noncomputable def newellaw11_EnergyBills_go {R : Type} (N : Nat) (args : List SV) (T : Tab) (kf : SV × Tab → Option R) : Option R :=
  newellaw11_EnergyBills N (Cod.dec api_BandC (lget (toCs (lget args 0)))) (Cod.dec api_TimesC (lget (toCs (lget args 1)))) (Cod.dec newellaw11_PaidC (lget (toCs (lget args 2)))) (fun q0 => kf (lget [.bool q0] 0, []))
noncomputable def newellaw11_EnergyBills_cal {R : Type} (N : Nat) : Cal R := callM (newellaw11_works_cal N) 7 0 newellaw11_EnergyBills_sp (newellaw11_EnergyBills_go N)
theorem newellaw11_EnergyBills_cal_ok {R : Type} (N : Nat) : CalOk E.P (newellaw11_EnergyBills_cal (R := R) N) :=
  callM_ok hE (newellaw11_works_cal_ok N) (lp := newellaw11_EnergyBills_lp N) (keys := []) kNil (by kernel_rfl) newellaw11_EnergyBills_sp_ok newellaw11_EnergyBills_rs_ok (fun args T kf => Eq.trans (newellaw11_EnergyBills_def N (Cod.dec api_BandC (lget (toCs (lget args 0)))) (Cod.dec api_TimesC (lget (toCs (lget args 1)))) (Cod.dec newellaw11_PaidC (lget (toCs (lget args 2)))) (fun q0 => kf (lget [.bool q0] 0, []))) (by kernel_rfl : newellaw11_EnergyBills_run N args T kf = fnM E (newellaw11_works_cal N) (newellaw11_EnergyBills_lp N) 7 (newellaw11_EnergyBills_sp.vs args) (newellaw11_EnergyBills_sp.tab T) 0 (resK newellaw11_EnergyBills_rs kf)))

theorem energyBills_true (b : api_Band) (t : api_Times) (p : newellaw11_Paid) (hb : b.wf) (ht : t.wf) (hp : p.wf) : ∃ N, newellaw11_EnergyBills N b t p (fun q0 => okK (lget [.bool q0] 0, [])) = some () := by
  refine ⟨NN, ?_⟩
  rw [newellaw11_EnergyBills_def]
  unfold newellaw11_EnergyBills_m
  simp only [Far_eq, FarTimes_eq, works_eq, Bill_eq (show 20 ≤ NN by decide), refBill_eq (show 20 ≤ NN by decide), Bounds_eq (show 20 ≤ NN by decide), refBounds_eq (show 1001 ≤ NN by decide), BEq.rfl, Bool.and_self, cond_true]
  cases decide ((b.Paces.n : Int) > 10) <;> cases decide ((t.Periods.n : Int) > 20) <;> cases decide ((p.Plan.n : Int) > 20) <;> cases decide ((p.Flows.n : Int) > 20) <;> rfl
end
end Go.Proofs.Ytfaefhegfcidpaa
