/-
  The model of the statement EnergyMeters, that it is what the code does (written by a program), and that it answers true.
-/
import Derived.Test.YtfaefhegfcidpaaP5
set_option maxRecDepth 100000
set_option maxHeartbeats 0
set_option linter.unusedVariables false
set_option linter.unusedSimpArgs false
namespace Go.Proofs.Ytfaefhegfcidpaa
open Go.Sx
noncomputable section


def newellaw11_EnergyMeters_m {R : Type} (N : Nat) (a858 : api_Band) (a859 : api_Times) (a860 : newellaw11_Meter) (k : Bool → Option R) : Option R :=
  newellaw11_Far N a858 (fun r861 =>
  bif r861 then
   newellaw11_works N  (fun r862 =>
   k r862)
  else
   newellaw11_FarTimes N a859 (fun r863 =>
   bif r863 then
    newellaw11_works N  (fun r864 =>
    k r864)
   else
    bif decide ((↑(Arr.n (newellaw11_Meter.Plan a860)) : Int) > (20 : Int)) then
     newellaw11_works N  (fun r865 =>
     k r865)
    else
     bif decide ((↑(Arr.n (newellaw11_Meter.Read a860)) : Int) > (20 : Int)) then
      newellaw11_works N  (fun r866 =>
      k r866)
     else
      bif decide ((↑(Arr.n (newellaw11_Meter.Read a860)) : Int) > (0 : Int)) then
       bif decide ((0 : Int) < (↑(Arr.n (newellaw11_Meter.Read a860)) : Int)) then
        energy_Flows N a858 a859 (newellaw11_Meter.Plan a860) (newellaw11_Meter.Period a860) (Arr.f (newellaw11_Meter.Read a860) (Int.toNat (0 : Int))) (fun r867 r868 r869 =>
        newelref11_Flows N a858 a859 (newellaw11_Meter.Plan a860) (newellaw11_Meter.Period a860) (Arr.f (newellaw11_Meter.Read a860) (Int.toNat (0 : Int))) (fun r870 r871 r872 =>
        energy_Explains N a858 a859 (newellaw11_Meter.Plan a860) (newellaw11_Meter.Read a860) (fun r873 r874 r875 =>
        newelref11_Explains N a858 a859 (newellaw11_Meter.Plan a860) (newellaw11_Meter.Read a860) (fun r876 r877 r878 =>
        bif r867 == r870 then
         newellaw11_sameInts N r869 r872 (fun r879 =>
         bif r879 then
          bif r873 == r876 then
           bif r874 == r877 then
            bif r875 == r878 then
             newellaw11_works N  (fun r880 =>
             k r880)
            else
             k false
           else
            k false
          else
           k false
         else
          k false)
        else
         k false))))
       else
        Option.none
      else
       energy_Flows N a858 a859 (newellaw11_Meter.Plan a860) (newellaw11_Meter.Period a860) (api_Span.mk (0 : Int) (0 : Int)) (fun r881 r882 r883 =>
       newelref11_Flows N a858 a859 (newellaw11_Meter.Plan a860) (newellaw11_Meter.Period a860) (api_Span.mk (0 : Int) (0 : Int)) (fun r884 r885 r886 =>
       energy_Explains N a858 a859 (newellaw11_Meter.Plan a860) (newellaw11_Meter.Read a860) (fun r887 r888 r889 =>
       newelref11_Explains N a858 a859 (newellaw11_Meter.Plan a860) (newellaw11_Meter.Read a860) (fun r890 r891 r892 =>
       bif r881 == r884 then
        newellaw11_sameInts N r883 r886 (fun r893 =>
        bif r893 then
         bif r887 == r890 then
          bif r888 == r891 then
           bif r889 == r892 then
            newellaw11_works N  (fun r894 =>
            k r894)
           else
            k false
          else
           k false
         else
          k false
        else
         k false)
       else
        k false))))))
noncomputable def newellaw11_EnergyMeters {R : Type} : Nat → api_Band → api_Times → newellaw11_Meter → (Bool → Option R) → Option R := lock (@newellaw11_EnergyMeters_m R)
theorem newellaw11_EnergyMeters_def {R : Type} (N : Nat) (a858 : api_Band) (a859 : api_Times) (a860 : newellaw11_Meter) (k : Bool → Option R) : newellaw11_EnergyMeters N a858 a859 a860 k = newellaw11_EnergyMeters_m N a858 a859 a860 k := by unfold newellaw11_EnergyMeters; rw [lock_eq]
def newellaw11_EnergyMeters_sp : Sp := ⟨[rAgg api_BandC, rAgg api_TimesC, rAgg newellaw11_MeterC], []⟩
theorem newellaw11_EnergyMeters_sp_ok : newellaw11_EnergyMeters_sp.Ok := ⟨(allCons (rAgg_ok api_BandC_ok api_BandC_len) (allCons (rAgg_ok api_TimesC_ok api_TimesC_len) (allCons (rAgg_ok newellaw11_MeterC_ok newellaw11_MeterC_len) allNil))), eNil⟩
def newellaw11_EnergyMeters_rs : Sp := ⟨[rBool], []⟩
theorem newellaw11_EnergyMeters_rs_ok : newellaw11_EnergyMeters_rs.Ok := ⟨(allCons rBool_ok allNil), eNil⟩
def newellaw11_EnergyMeters_run {R : Type} (N : Nat) (args : List SV) (T : Tab) (kf : SV × Tab → Option R) : Option R :=
  newellaw11_EnergyMeters_m N (Cod.dec api_BandC (lget (toCs (lget args 0)))) (Cod.dec api_TimesC (lget (toCs (lget args 1)))) (Cod.dec newellaw11_MeterC (lget (toCs (lget args 2)))) (fun q0 => kf (lget [.bool q0] 0, []))
def newellaw11_EnergyMeters_lp {R : Type} (N : Nat) : Lp R := fun body S k => Option.none
noncomputable def newellaw11_EnergyMeters_go {R : Type} (N : Nat) (args : List SV) (T : Tab) (kf : SV × Tab → Option R) : Option R :=
  newellaw11_EnergyMeters N (Cod.dec api_BandC (lget (toCs (lget args 0)))) (Cod.dec api_TimesC (lget (toCs (lget args 1)))) (Cod.dec newellaw11_MeterC (lget (toCs (lget args 2)))) (fun q0 => kf (lget [.bool q0] 0, []))
noncomputable def newellaw11_EnergyMeters_cal {R : Type} (N : Nat) : Cal R := callM (newellaw11_works_cal N) 10 0 newellaw11_EnergyMeters_sp (newellaw11_EnergyMeters_go N)
theorem newellaw11_EnergyMeters_cal_ok {R : Type} (N : Nat) : CalOk E.P (newellaw11_EnergyMeters_cal (R := R) N) :=
  callM_ok hE (newellaw11_works_cal_ok N) (lp := newellaw11_EnergyMeters_lp N) (keys := []) kNil (by kernel_rfl) newellaw11_EnergyMeters_sp_ok newellaw11_EnergyMeters_rs_ok (fun args T kf => Eq.trans (newellaw11_EnergyMeters_def N (Cod.dec api_BandC (lget (toCs (lget args 0)))) (Cod.dec api_TimesC (lget (toCs (lget args 1)))) (Cod.dec newellaw11_MeterC (lget (toCs (lget args 2)))) (fun q0 => kf (lget [.bool q0] 0, []))) (by kernel_rfl : newellaw11_EnergyMeters_run N args T kf = fnM E (newellaw11_works_cal N) (newellaw11_EnergyMeters_lp N) 10 (newellaw11_EnergyMeters_sp.vs args) (newellaw11_EnergyMeters_sp.tab T) 0 (resK newellaw11_EnergyMeters_rs kf)))

theorem flwV_le {b : api_Band} {t : api_Times} {p : Arr Int} {i : Int} {rd : api_Span} : (flwV b t p i rd).2.n ≤ 200 := by
  unfold flwV
  by_cases h : flwE b t p i rd = 0
  · rw [if_pos h]
    obtain ⟨hb, ht, hp, hw⟩ := flwE_zero.1 h
    have hq := ht.per i.toNat (by have := hw.1; have := hp.1; omega)
    have f1 := hq.f1
    have f3 := hq.f3
    have := (floR_n (b := b) (q := t.Periods.f i.toNat) (pace := p.f i.toNat) (rd := rd) ((t.Periods.f i.toNat).Flow.High + 1 - (t.Periods.f i.toNat).Flow.Low).toNat (t.Periods.f i.toNat).Flow.Low true emI).2.1
    have e : emI.n = 0 := rfl
    unfold floS
    omega
  · rw [if_neg h]
    exact Nat.zero_le _
theorem energyMeters_true (b : api_Band) (t : api_Times) (m : newellaw11_Meter) (hb : b.wf) (ht : t.wf) (hm : m.wf) : ∃ N, newellaw11_EnergyMeters N b t m (fun q0 => okK (lget [.bool q0] 0, [])) = some () := by
  refine ⟨NN, ?_⟩
  have hNN : NN = 20000 := rfl
  rw [newellaw11_EnergyMeters_def]
  unfold newellaw11_EnergyMeters_m
  have hs : ∀ (i : Int) (rd : api_Span) (k : Bool → Option Unit), newellaw11_sameInts NN (flwV b t m.Plan i rd).2 (flwV b t m.Plan i rd).2 k = k true := fun i rd k => by
    have := flwV_le (b := b) (t := t) (p := m.Plan) (i := i) (rd := rd)
    exact same_eq rfl (fun _ _ => rfl) (by omega) (by omega) k
  simp only [Far_eq, FarTimes_eq, works_eq, Flows_eq (show 200 ≤ NN by decide), refFlows_eq (show 200 ≤ NN by decide), Explains_eq (show 200 ≤ NN by decide), refExplains_eq (show 200 ≤ NN by decide), BEq.rfl, hs, cond_true]
  cases decide ((b.Paces.n : Int) > 10)
  rotate_left
  · rfl
  cases decide ((t.Periods.n : Int) > 20)
  rotate_left
  · rfl
  cases decide ((m.Plan.n : Int) > 20)
  rotate_left
  · rfl
  cases decide ((m.Read.n : Int) > 20)
  rotate_left
  · rfl
  by_cases h : (m.Read.n : Int) > 0
  · have h2 : decide ((0 : Int) < (m.Read.n : Int)) = true := by simp; omega
    simp only [cond_false, h, h2, decide_true, cond_true]
    rfl
  · simp only [cond_false, h, decide_false]
    rfl
end
end Go.Proofs.Ytfaefhegfcidpaa
