/-
  The model of the statement DriveFails, that it is what the code does (written by a program), and that it answers true.
-/
import Derived.Test.YtpcmpbellmiijaaP8
set_option maxRecDepth 100000
set_option maxHeartbeats 0
set_option linter.unusedVariables false
set_option linter.unusedSimpArgs false
namespace Go.Proofs.Ytpcmpbellmiijaa
open Go.Sx
noncomputable section


def newellaw01_DriveFails_m {R : Type} (N : Nat) (a584 : api_Escalator) (a585 : api_Stop) (a586 : newellaw01_Bounds) (k : Bool → Option R) : Option R :=
  newellaw01_Far N a584 (fun r587 =>
  bif r587 then
   newellaw01_works N  (fun r588 =>
   k r588)
  else
   drive_Critical N a584 a585 (newellaw01_Bounds.Way a586) (newellaw01_Bounds.Back a586) (fun r589 r590 r591 =>
   newelref01_Critical N a584 a585 (newellaw01_Bounds.Way a586) (newellaw01_Bounds.Back a586) (fun r592 r593 r594 =>
   bif r589 == r592 then
    newellaw01_sameInts N r591 r594 (fun r595 =>
    bif r595 then
     newellaw01_works N  (fun r596 =>
     k r596)
    else
     k false)
   else
    k false)))
noncomputable def newellaw01_DriveFails {R : Type} : Nat → api_Escalator → api_Stop → newellaw01_Bounds → (Bool → Option R) → Option R := lock (@newellaw01_DriveFails_m R)
theorem newellaw01_DriveFails_def {R : Type} (N : Nat) (a584 : api_Escalator) (a585 : api_Stop) (a586 : newellaw01_Bounds) (k : Bool → Option R) : newellaw01_DriveFails N a584 a585 a586 k = newellaw01_DriveFails_m N a584 a585 a586 k := by unfold newellaw01_DriveFails; rw [lock_eq]
def newellaw01_DriveFails_sp : Sp := ⟨[rAgg api_EscalatorC, rAgg api_StopC, rAgg newellaw01_BoundsC], []⟩
theorem newellaw01_DriveFails_sp_ok : newellaw01_DriveFails_sp.Ok := ⟨(allCons (rAgg_ok api_EscalatorC_ok api_EscalatorC_len) (allCons (rAgg_ok api_StopC_ok api_StopC_len) (allCons (rAgg_ok newellaw01_BoundsC_ok newellaw01_BoundsC_len) allNil))), eNil⟩
def newellaw01_DriveFails_rs : Sp := ⟨[rBool], []⟩
theorem newellaw01_DriveFails_rs_ok : newellaw01_DriveFails_rs.Ok := ⟨(allCons rBool_ok allNil), eNil⟩
def newellaw01_DriveFails_run {R : Type} (N : Nat) (args : List SV) (T : Tab) (kf : SV × Tab → Option R) : Option R :=
  newellaw01_DriveFails_m N (Cod.dec api_EscalatorC (lget (toCs (lget args 0)))) (Cod.dec api_StopC (lget (toCs (lget args 1)))) (Cod.dec newellaw01_BoundsC (lget (toCs (lget args 2)))) (fun q0 => kf (lget [.bool q0] 0, []))
def newellaw01_DriveFails_lp {R : Type} (N : Nat) : Lp R := fun body S k => Option.none
noncomputable def newellaw01_DriveFails_go {R : Type} (N : Nat) (args : List SV) (T : Tab) (kf : SV × Tab → Option R) : Option R :=
  newellaw01_DriveFails N (Cod.dec api_EscalatorC (lget (toCs (lget args 0)))) (Cod.dec api_StopC (lget (toCs (lget args 1)))) (Cod.dec newellaw01_BoundsC (lget (toCs (lget args 2)))) (fun q0 => kf (lget [.bool q0] 0, []))
noncomputable def newellaw01_DriveFails_cal {R : Type} (N : Nat) : Cal R := callM (newelref01_Legal_cal N) 9 0 newellaw01_DriveFails_sp (newellaw01_DriveFails_go N)
theorem newellaw01_DriveFails_cal_ok {R : Type} (N : Nat) : CalOk E.P (newellaw01_DriveFails_cal (R := R) N) :=
  callM_ok hE (newelref01_Legal_cal_ok N) (lp := newellaw01_DriveFails_lp N) (keys := []) kNil (by kernel_rfl) newellaw01_DriveFails_sp_ok newellaw01_DriveFails_rs_ok (fun args T kf => Eq.trans (newellaw01_DriveFails_def N (Cod.dec api_EscalatorC (lget (toCs (lget args 0)))) (Cod.dec api_StopC (lget (toCs (lget args 1)))) (Cod.dec newellaw01_BoundsC (lget (toCs (lget args 2)))) (fun q0 => kf (lget [.bool q0] 0, []))) (by kernel_rfl : newellaw01_DriveFails_run N args T kf = fnM E (newelref01_Legal_cal N) (newellaw01_DriveFails_lp N) 9 (newellaw01_DriveFails_sp.vs args) (newellaw01_DriveFails_sp.tab T) 0 (resK newellaw01_DriveFails_rs kf)))

theorem critV_le (e : api_Escalator) (s : api_Stop) (way back : Int) : (critV e s way back).2.2.n ≤ 3 := by
  unfold critV
  split
  · simp [lst]
  · rename_i h0
    have h0 : stopV e s = 0 := by simpa using h0
    obtain ⟨h1, _⟩ := stopV_zero h0
    have := h1.n
    split
    · have := critA_le e s way back e.Brakes.n
      simp only; omega
    · simp [lst]
theorem driveFails_true (e : api_Escalator) (s : api_Stop) (b : newellaw01_Bounds) (he : e.wf) (hs : s.wf) (hb : b.wf) : ∃ N, newellaw01_DriveFails N e s b (fun q0 => okK (lget [.bool q0] 0, [])) = some () := by
  refine ⟨NN, ?_⟩
  rw [newellaw01_DriveFails_def]
  unfold newellaw01_DriveFails_m
  have hle := critV_le e s b.Way b.Back
  have hsame := fun k => same_eq (R := Unit) (N := NN) (a := (critV e s b.Way b.Back).2.2) (b := (critV e s b.Way b.Back).2.2) (m := (critV e s b.Way b.Back).2.2.n) (g := (critV e s b.Way b.Back).2.2.f) (show _ < 5000 by omega) (by omega) ⟨rfl, fun _ _ => rfl⟩ ⟨rfl, fun _ _ => rfl⟩ k
  simp only [Far_eq, works_eq, Critical_eq (show 2000 ≤ NN by decide), refCritical_eq (show 2000 ≤ NN by decide), BEq.rfl, cond_true, hsame]
  cases decide ((e.Brakes.n : Int) > 10) <;> rfl
end
end Go.Proofs.Ytpcmpbellmiijaa
