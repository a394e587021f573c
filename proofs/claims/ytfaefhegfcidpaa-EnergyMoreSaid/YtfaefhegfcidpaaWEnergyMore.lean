/-
  The model of the statement EnergyMore, that it is what the code does (written by a program), and that it answers true.
-/
import Derived.Test.YtfaefhegfcidpaaP5
set_option maxRecDepth 100000
set_option maxHeartbeats 0
set_option linter.unusedVariables false
set_option linter.unusedSimpArgs false
namespace Go.Proofs.Ytfaefhegfcidpaa
open Go.Sx
noncomputable section


def newellaw11_EnergyMore_m {R : Type} (N : Nat) (a675 : api_Band) (a676 : newellaw11_Two) (k : Bool → Option R) : Option R :=
  newellaw11_Far N a675 (fun r677 =>
  bif r677 then
   newellaw11_works N  (fun r678 =>
   k r678)
  else
   newelref11_Check N a675 (fun r679 =>
   bif r679 != (0 : Int) then
    newellaw11_works N  (fun r680 =>
    k r680)
   else
    bif decide (newellaw11_Two.Less a676 < (0 : Int)) then
     newellaw11_works N  (fun r681 =>
     k r681)
    else
     bif decide (newellaw11_Two.More a676 < newellaw11_Two.Less a676) then
      newellaw11_works N  (fun r682 =>
      k r682)
     else
      bif decide (newellaw11_Two.More a676 > (100 : Int)) then
       newellaw11_works N  (fun r683 =>
       k r683)
      else
       newelref11_Pace N a675 (newellaw11_Two.Slow a676) (fun r684 =>
       bif !r684 then
        newellaw11_works N  (fun r685 =>
        k r685)
       else
        newelref11_Pace N a675 (newellaw11_Two.Fast a676) (fun r686 =>
        bif !r686 then
         newellaw11_works N  (fun r687 =>
         k r687)
        else
         bif decide (newellaw11_Two.Slow a676 > newellaw11_Two.Fast a676) then
          newellaw11_works N  (fun r688 =>
          k r688)
         else
          energy_Power N a675 (newellaw11_Two.Less a676) (newellaw11_Two.Slow a676) (fun r689 r690 =>
          energy_Power N a675 (newellaw11_Two.More a676) (newellaw11_Two.Slow a676) (fun r691 r692 =>
          energy_Load N a675 (newellaw11_Two.More a676) (newellaw11_Two.Slow a676) (fun r693 r694 =>
          energy_Load N a675 (newellaw11_Two.More a676) (newellaw11_Two.Fast a676) (fun r695 r696 =>
          bif r690 == (0 : Int) then
           bif r692 == (0 : Int) then
            bif r694 == (0 : Int) then
             bif r696 == (0 : Int) then
              bif api_Band.Up a675 then
               bif decide (r691 ≥ r689) then
                bif decide (r695 ≤ r693) then
                 newellaw11_works N  (fun r697 =>
                 k r697)
                else
                 k false
               else
                bif !api_Band.Up a675 then
                 bif decide (r691 ≤ r689) then
                  bif decide (r695 ≤ r693) then
                   newellaw11_works N  (fun r698 =>
                   k r698)
                  else
                   k false
                 else
                  k false
                else
                 k false
              else
               bif !api_Band.Up a675 then
                bif decide (r691 ≤ r689) then
                 bif decide (r695 ≤ r693) then
                  newellaw11_works N  (fun r699 =>
                  k r699)
                 else
                  k false
                else
                 k false
               else
                k false
             else
              k false
            else
             k false
           else
            k false
          else
           k false))))))))
noncomputable def newellaw11_EnergyMore {R : Type} : Nat → api_Band → newellaw11_Two → (Bool → Option R) → Option R := lock (@newellaw11_EnergyMore_m R)
theorem newellaw11_EnergyMore_def {R : Type} (N : Nat) (a675 : api_Band) (a676 : newellaw11_Two) (k : Bool → Option R) : newellaw11_EnergyMore N a675 a676 k = newellaw11_EnergyMore_m N a675 a676 k := by unfold newellaw11_EnergyMore; rw [lock_eq]
def newellaw11_EnergyMore_sp : Sp := ⟨[rAgg api_BandC, rAgg newellaw11_TwoC], []⟩
theorem newellaw11_EnergyMore_sp_ok : newellaw11_EnergyMore_sp.Ok := ⟨(allCons (rAgg_ok api_BandC_ok api_BandC_len) (allCons (rAgg_ok newellaw11_TwoC_ok newellaw11_TwoC_len) allNil)), eNil⟩
def newellaw11_EnergyMore_rs : Sp := ⟨[rBool], []⟩
theorem newellaw11_EnergyMore_rs_ok : newellaw11_EnergyMore_rs.Ok := ⟨(allCons rBool_ok allNil), eNil⟩
def newellaw11_EnergyMore_run {R : Type} (N : Nat) (args : List SV) (T : Tab) (kf : SV × Tab → Option R) : Option R :=
  newellaw11_EnergyMore_m N (Cod.dec api_BandC (lget (toCs (lget args 0)))) (Cod.dec newellaw11_TwoC (lget (toCs (lget args 1)))) (fun q0 => kf (lget [.bool q0] 0, []))
def newellaw11_EnergyMore_lp {R : Type} (N : Nat) : Lp R := fun body S k => Option.none
noncomputable def newellaw11_EnergyMore_go {R : Type} (N : Nat) (args : List SV) (T : Tab) (kf : SV × Tab → Option R) : Option R :=
  newellaw11_EnergyMore N (Cod.dec api_BandC (lget (toCs (lget args 0)))) (Cod.dec newellaw11_TwoC (lget (toCs (lget args 1)))) (fun q0 => kf (lget [.bool q0] 0, []))
noncomputable def newellaw11_EnergyMore_cal {R : Type} (N : Nat) : Cal R := callM (newellaw11_works_cal N) 4 0 newellaw11_EnergyMore_sp (newellaw11_EnergyMore_go N)
theorem newellaw11_EnergyMore_cal_ok {R : Type} (N : Nat) : CalOk E.P (newellaw11_EnergyMore_cal (R := R) N) :=
  callM_ok hE (newellaw11_works_cal_ok N) (lp := newellaw11_EnergyMore_lp N) (keys := []) kNil (by kernel_rfl) newellaw11_EnergyMore_sp_ok newellaw11_EnergyMore_rs_ok (fun args T kf => Eq.trans (newellaw11_EnergyMore_def N (Cod.dec api_BandC (lget (toCs (lget args 0)))) (Cod.dec newellaw11_TwoC (lget (toCs (lget args 1)))) (fun q0 => kf (lget [.bool q0] 0, []))) (by kernel_rfl : newellaw11_EnergyMore_run N args T kf = fnM E (newellaw11_works_cal N) (newellaw11_EnergyMore_lp N) 4 (newellaw11_EnergyMore_sp.vs args) (newellaw11_EnergyMore_sp.tab T) 0 (resK newellaw11_EnergyMore_rs kf)))

theorem energyMore_true (b : api_Band) (x : newellaw11_Two) (hb : b.wf) (hx : x.wf) : ∃ N, newellaw11_EnergyMore N b x (fun q0 => okK (lget [.bool q0] 0, [])) = some () := by
  classical
  refine ⟨NN, ?_⟩
  have hNN : NN = 20000 := rfl
  rw [newellaw11_EnergyMore_def]
  unfold newellaw11_EnergyMore_m
  have ht : okK (lget [SV.bool true] 0, []) = some () := rfl
  simp only [Far_eq, works_eq, refCheck_eq (show 20 ≤ NN by decide), ht]
  cases decide ((b.Paces.n : Int) > 10)
  rotate_left
  · rfl
  by_cases hv : VB b
  rotate_left
  · rw [checkV_ne hv]; rfl
  have hl := hv.l2
  simp only [checkV_pos hv, bne_self_eq_false, cond_false, Pace_eq (show b.Paces.n ≤ 1000000 by omega) (show b.Paces.n < NN by omega)]
  by_cases c1 : x.Less < 0
  · simp only [c1, decide_true, cond_true]
  by_cases c2 : x.More < x.Less
  · simp only [c1, c2, decide_false, cond_false, decide_true, cond_true]
  by_cases c3 : x.More > 100
  · simp only [c1, c2, c3, decide_false, cond_false, decide_true, cond_true]
  by_cases c4 : isIn b.Paces x.Slow
  rotate_left
  · simp only [c1, c2, c3, c4, decide_false, cond_false, Bool.not_false, cond_true]
  by_cases c5 : isIn b.Paces x.Fast
  rotate_left
  · simp only [c1, c2, c3, c4, c5, decide_false, cond_false, decide_true, Bool.not_true, Bool.not_false, cond_true]
  by_cases c6 : x.Slow > x.Fast
  · simp only [c1, c2, c3, c4, c5, c6, decide_false, cond_false, decide_true, Bool.not_true, cond_true]
  have a1 : askV b x.Less x.Slow = 0 := askV_zero.2 ⟨hv, c4, by omega, by omega⟩
  have a2 : askV b x.More x.Slow = 0 := askV_zero.2 ⟨hv, c4, by omega, by omega⟩
  have a3 : askV b x.More x.Fast = 0 := askV_zero.2 ⟨hv, c5, by omega, by omega⟩
  have p1 := isIn_fp hv c4 (flow := x.Less) ⟨by omega, by omega⟩
  have p2 := isIn_fp hv c4 (flow := x.More) ⟨by omega, by omega⟩
  have p3 := isIn_fp hv c5 (flow := x.More) ⟨by omega, by omega⟩
  have hanti : decide (loadS b x.More x.Fast ≤ loadS b x.More x.Slow) = true := decide_eq_true (load_anti hv p2 (by omega) p3.p2)
  simp only [c1, c2, c3, c4, c5, c6, decide_false, cond_false, decide_true, Bool.not_true, Power_eq (show 20 ≤ NN by decide), Load_eq (show 20 ≤ NN by decide), a1, a2, a3, BEq.rfl, cond_true]
  unfold powerV loadV
  rw [if_pos a1, if_pos a2, if_pos a2, if_pos a3]
  simp only [hanti, cond_true]
  cases hu : b.Up with
  | true =>
    have : decide (powerS b x.More x.Slow ≥ powerS b x.Less x.Slow) = true := decide_eq_true (power_up hv hu p1 (by omega))
    simp only [cond_true, this]
  | false =>
    have : decide (powerS b x.More x.Slow ≤ powerS b x.Less x.Slow) = true := decide_eq_true (power_down hv (by rw [hu]; simp) p1 (by omega))
    simp only [cond_false, Bool.not_false, cond_true, this]
end
end Go.Proofs.Ytfaefhegfcidpaa
