/-
  The model of the statement EnergyBest, that it is what the code does (written by a program), and that it answers true.
-/
import Derived.Test.YtfaefhegfcidpaaP5
set_option maxRecDepth 100000
set_option maxHeartbeats 0
set_option linter.unusedVariables false
set_option linter.unusedSimpArgs false
namespace Go.Proofs.Ytfaefhegfcidpaa
open Go.Sx
noncomputable section


def newellaw11_EnergyBest_m {R : Type} (N : Nat) (a659 : api_Band) (a660 : api_Times) (k : Bool → Option R) : Option R :=
  newellaw11_Far N a659 (fun r661 =>
  bif r661 then
   newellaw11_works N  (fun r662 =>
   k r662)
  else
   newellaw11_FarTimes N a660 (fun r663 =>
   bif r663 then
    newellaw11_works N  (fun r664 =>
    k r664)
   else
    energy_Cheapest N a659 a660 (fun r665 r666 r667 r668 =>
    newelref11_Cheapest N a659 a660 (fun r669 r670 r671 r672 =>
    bif r666 == r670 then
     bif r665 == r669 then
      newellaw11_sameInts N r668 r672 (fun r673 =>
      bif r673 then
       newellaw11_works N  (fun r674 =>
       k r674)
      else
       k false)
     else
      k false
    else
     k false))))
noncomputable def newellaw11_EnergyBest {R : Type} : Nat → api_Band → api_Times → (Bool → Option R) → Option R := lock (@newellaw11_EnergyBest_m R)
theorem newellaw11_EnergyBest_def {R : Type} (N : Nat) (a659 : api_Band) (a660 : api_Times) (k : Bool → Option R) : newellaw11_EnergyBest N a659 a660 k = newellaw11_EnergyBest_m N a659 a660 k := by unfold newellaw11_EnergyBest; rw [lock_eq]
def newellaw11_EnergyBest_sp : Sp := ⟨[rAgg api_BandC, rAgg api_TimesC], []⟩
theorem newellaw11_EnergyBest_sp_ok : newellaw11_EnergyBest_sp.Ok := ⟨(allCons (rAgg_ok api_BandC_ok api_BandC_len) (allCons (rAgg_ok api_TimesC_ok api_TimesC_len) allNil)), eNil⟩
def newellaw11_EnergyBest_rs : Sp := ⟨[rBool], []⟩
theorem newellaw11_EnergyBest_rs_ok : newellaw11_EnergyBest_rs.Ok := ⟨(allCons rBool_ok allNil), eNil⟩
def newellaw11_EnergyBest_run {R : Type} (N : Nat) (args : List SV) (T : Tab) (kf : SV × Tab → Option R) : Option R :=
  newellaw11_EnergyBest_m N (Cod.dec api_BandC (lget (toCs (lget args 0)))) (Cod.dec api_TimesC (lget (toCs (lget args 1)))) (fun q0 => kf (lget [.bool q0] 0, []))
def newellaw11_EnergyBest_lp {R : Type} (N : Nat) : Lp R := fun body S k => Option.none
noncomputable def newellaw11_EnergyBest_go {R : Type} (N : Nat) (args : List SV) (T : Tab) (kf : SV × Tab → Option R) : Option R :=
  newellaw11_EnergyBest N (Cod.dec api_BandC (lget (toCs (lget args 0)))) (Cod.dec api_TimesC (lget (toCs (lget args 1)))) (fun q0 => kf (lget [.bool q0] 0, []))
noncomputable def newellaw11_EnergyBest_cal {R : Type} (N : Nat) : Cal R := callM (newellaw11_works_cal N) 3 0 newellaw11_EnergyBest_sp (newellaw11_EnergyBest_go N)
theorem newellaw11_EnergyBest_cal_ok {R : Type} (N : Nat) : CalOk E.P (newellaw11_EnergyBest_cal (R := R) N) :=
  callM_ok hE (newellaw11_works_cal_ok N) (lp := newellaw11_EnergyBest_lp N) (keys := []) kNil (by kernel_rfl) newellaw11_EnergyBest_sp_ok newellaw11_EnergyBest_rs_ok (fun args T kf => Eq.trans (newellaw11_EnergyBest_def N (Cod.dec api_BandC (lget (toCs (lget args 0)))) (Cod.dec api_TimesC (lget (toCs (lget args 1)))) (fun q0 => kf (lget [.bool q0] 0, []))) (by kernel_rfl : newellaw11_EnergyBest_run N args T kf = fnM E (newellaw11_works_cal N) (newellaw11_EnergyBest_lp N) 3 (newellaw11_EnergyBest_sp.vs args) (newellaw11_EnergyBest_sp.tab T) 0 (resK newellaw11_EnergyBest_rs kf)))

theorem chN_le (b : api_Band) (t : api_Times) : chN b t ≤ 8 := by
  unfold chN
  split
  · rename_i h
    have := (timesV_zero.1 h).2.n2
    cases cheapX b t <;> simp <;> omega
  · omega
theorem energyBest_true (b : api_Band) (t : api_Times) (hb : b.wf) (ht : t.wf) : ∃ N, newellaw11_EnergyBest N b t (fun q0 => okK (lget [.bool q0] 0, [])) = some () := by
  refine ⟨NN, ?_⟩
  have hNN : NN = 20000 := rfl
  rw [newellaw11_EnergyBest_def]
  unfold newellaw11_EnergyBest_m
  obtain ⟨f1, a1, h1, e1⟩ := Cheapest_eq (show 20 ≤ NN by decide) b t
  obtain ⟨f2, a2, h2, e2⟩ := refCheapest_eq (show 10000 ≤ NN by decide) b t
  have := chN_le b t
  simp only [Far_eq, FarTimes_eq, works_eq, e1, e2, BEq.rfl, cond_true, same_is h1 h2 (show chN b t < NN by omega) (by omega)]
  cases decide ((b.Paces.n : Int) > 10) <;> cases decide ((t.Periods.n : Int) > 20) <;> rfl
end
end Go.Proofs.Ytfaefhegfcidpaa
