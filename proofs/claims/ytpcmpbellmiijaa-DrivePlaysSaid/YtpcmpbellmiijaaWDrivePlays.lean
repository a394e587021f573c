/-
  The model of the statement DrivePlays, that it is what the code does (written by a program), and that it answers true.
-/
import Derived.Test.YtpcmpbellmiijaaP6
set_option maxRecDepth 100000
set_option maxHeartbeats 0
set_option linter.unusedVariables false
set_option linter.unusedSimpArgs false
namespace Go.Proofs.Ytpcmpbellmiijaa
open Go.Sx
noncomputable section


def newellaw01_DrivePlays_m {R : Type} (N : Nat) (a570 : api_Escalator) (a571 : api_Stop) (a572 : Arr Int) (k : Bool → Option R) : Option R :=
  newellaw01_Far N a570 (fun r573 =>
  bif r573 then
   newellaw01_works N  (fun r574 =>
   k r574)
  else
   bif decide ((↑(Arr.n a572) : Int) > (110 : Int)) then
    newellaw01_works N  (fun r575 =>
    k r575)
   else
    drive_Play N a570 a571 a572 (fun r576 r577 r578 =>
    newelref01_Play N a570 a571 a572 (fun r579 r580 r581 =>
    bif r576 == r579 then
     newellaw01_sameInts N r578 r581 (fun r582 =>
     bif r582 then
      newellaw01_works N  (fun r583 =>
      k r583)
     else
      k false)
    else
     k false)))
noncomputable def newellaw01_DrivePlays {R : Type} : Nat → api_Escalator → api_Stop → Arr Int → (Bool → Option R) → Option R := lock (@newellaw01_DrivePlays_m R)
theorem newellaw01_DrivePlays_def {R : Type} (N : Nat) (a570 : api_Escalator) (a571 : api_Stop) (a572 : Arr Int) (k : Bool → Option R) : newellaw01_DrivePlays N a570 a571 a572 k = newellaw01_DrivePlays_m N a570 a571 a572 k := by unfold newellaw01_DrivePlays; rw [lock_eq]
def newellaw01_DrivePlays_sp : Sp := ⟨[rAgg api_EscalatorC, rAgg api_StopC, rSl intC], []⟩
theorem newellaw01_DrivePlays_sp_ok : newellaw01_DrivePlays_sp.Ok := ⟨(allCons (rAgg_ok api_EscalatorC_ok api_EscalatorC_len) (allCons (rAgg_ok api_StopC_ok api_StopC_len) (allCons (rSl_ok intC_ok) allNil))), eNil⟩
def newellaw01_DrivePlays_rs : Sp := ⟨[rBool], []⟩
theorem newellaw01_DrivePlays_rs_ok : newellaw01_DrivePlays_rs.Ok := ⟨(allCons rBool_ok allNil), eNil⟩
def newellaw01_DrivePlays_run {R : Type} (N : Nat) (args : List SV) (T : Tab) (kf : SV × Tab → Option R) : Option R :=
  newellaw01_DrivePlays_m N (Cod.dec api_EscalatorC (lget (toCs (lget args 0)))) (Cod.dec api_StopC (lget (toCs (lget args 1)))) (lstC intC (lget args 2)) (fun q0 => kf (lget [.bool q0] 0, []))
def newellaw01_DrivePlays_lp {R : Type} (N : Nat) : Lp R := fun body S k => Option.none
noncomputable def newellaw01_DrivePlays_go {R : Type} (N : Nat) (args : List SV) (T : Tab) (kf : SV × Tab → Option R) : Option R :=
  newellaw01_DrivePlays N (Cod.dec api_EscalatorC (lget (toCs (lget args 0)))) (Cod.dec api_StopC (lget (toCs (lget args 1)))) (lstC intC (lget args 2)) (fun q0 => kf (lget [.bool q0] 0, []))
noncomputable def newellaw01_DrivePlays_cal {R : Type} (N : Nat) : Cal R := callM (newelref01_Legal_cal N) 8 0 newellaw01_DrivePlays_sp (newellaw01_DrivePlays_go N)
theorem newellaw01_DrivePlays_cal_ok {R : Type} (N : Nat) : CalOk E.P (newellaw01_DrivePlays_cal (R := R) N) :=
  callM_ok hE (newelref01_Legal_cal_ok N) (lp := newellaw01_DrivePlays_lp N) (keys := []) kNil (by kernel_rfl) newellaw01_DrivePlays_sp_ok newellaw01_DrivePlays_rs_ok (fun args T kf => Eq.trans (newellaw01_DrivePlays_def N (Cod.dec api_EscalatorC (lget (toCs (lget args 0)))) (Cod.dec api_StopC (lget (toCs (lget args 1)))) (lstC intC (lget args 2)) (fun q0 => kf (lget [.bool q0] 0, []))) (by kernel_rfl : newellaw01_DrivePlays_run N args T kf = fnM E (newelref01_Legal_cal N) (newellaw01_DrivePlays_lp N) 8 (newellaw01_DrivePlays_sp.vs args) (newellaw01_DrivePlays_sp.tab T) 0 (resK newellaw01_DrivePlays_rs kf)))

theorem drivePlays_true (e : api_Escalator) (s : api_Stop) (a : Arr Int) (he : e.wf) (hs : s.wf) (ha : a.n ≤ maxLen) (ha2 : ∀ i, i < a.n → i64 (a.f i)) : ∃ N, newellaw01_DrivePlays N e s a (fun q0 => okK (lget [.bool q0] 0, [])) = some () := by
  refine ⟨NN, ?_⟩
  rw [newellaw01_DrivePlays_def]
  unfold newellaw01_DrivePlays_m
  simp only [Far_eq, works_eq]
  by_cases h1 : (e.Brakes.n : Int) > 10
  · simp only [h1, decide_true, cond_true]; rfl
  simp only [h1, decide_false, cond_false]
  by_cases h2 : (a.n : Int) > 110
  · simp only [h2, decide_true, cond_true]; rfl
  simp only [h2, decide_false, cond_false]
  obtain ⟨l, b, hb, hk⟩ := Play_eq (N := NN) (by decide) e s a
  obtain ⟨l', b', hb', hk'⟩ := refPlay_eq (N := NN) (by decide) e s a (by omega)
  have hm : (if playE e s a = 0 then a.n else 0) ≤ 110 := by split <;> omega
  simp only [hk, hk', BEq.rfl, cond_true, same_eq (N := NN) (show _ < 5000 by omega) (by omega) hb hb']
  rfl
end
end Go.Proofs.Ytpcmpbellmiijaa
