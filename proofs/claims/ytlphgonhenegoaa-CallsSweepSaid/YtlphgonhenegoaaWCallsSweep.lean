import Derived.Test.YtlphgonhenegoaaP9
set_option maxRecDepth 100000
set_option maxHeartbeats 0
set_option linter.unusedSectionVars false
set_option linter.unusedVariables false
set_option linter.unusedSimpArgs false
namespace Go.Proofs.Ytlphgonhenegoaa
open Go.Sx
noncomputable section
def newellaw07_CallsSweep_L100000 : LoopSp := ⟨⟨[5, 6, 8], ⟨(dr 5 ((rInt .i64) :: (rInt .i64) :: (dr 1 ((rInt .i64) :: (dr 55 []))))), []⟩, 0⟩, [(Option.none, ⟨[4], ⟨(dr 4 ((rBool) :: (dr 59 []))), []⟩, 0⟩)]⟩
theorem newellaw07_CallsSweep_L100000_ok : newellaw07_CallsSweep_L100000.Ok := ⟨⟨(drCons 5 (allCons (rInt_ok .i64) (allCons (rInt_ok .i64) (drCons 1 (allCons (rInt_ok .i64) (drCons 55 allNil)))))), eNil⟩, (xCons ⟨(drCons 4 (allCons rBool_ok (drCons 59 allNil))), eNil⟩ xNil)⟩
def newellaw07_CallsSweep_h100000 (v678 : Int) (v679 : Int) (v680 : Int) : St := ⟨(un 5 ((.int .i64 v678) :: (.int .i64 v679) :: (un 1 ((.int .i64 v680) :: (un 55 []))))), [], 0⟩
def newellaw07_CallsSweep_x100000_r (q0 : Bool) : St := ⟨(un 4 ((.bool q0) :: (un 59 []))), [], 0⟩
def newellaw07_CallsSweep_j0_m {R : Type} (N : Nat) (v678 : Int) (v679 : Int) (v680 : Int) (kr : Bool → Option R) : Option R :=
  bif v679 == (0 : Int) then
   bif v678 == v680 then
    newellaw07_works N  (fun r681 =>
    kr r681)
   else
    kr false
  else
   kr false
noncomputable def newellaw07_CallsSweep_j0 {R : Type} : Nat → Int → Int → Int → (Bool → Option R) → Option R := lock (@newellaw07_CallsSweep_j0_m R)
theorem newellaw07_CallsSweep_j0_def {R : Type} (N : Nat) (v678 : Int) (v679 : Int) (v680 : Int) (kr : Bool → Option R) : newellaw07_CallsSweep_j0 N v678 v679 v680 kr = newellaw07_CallsSweep_j0_m N v678 v679 v680 kr := by unfold newellaw07_CallsSweep_j0; rw [lock_eq]
def newellaw07_CallsSweep_m {R : Type} (N : Nat) (a670 : api_Car) (a671 : Int) (k : Bool → Option R) : Option R :=
  newelref07_CheckCar N a670 (fun r672 =>
  bif r672 != (0 : Int) then
   newellaw07_works N  (fun r673 =>
   k r673)
  else
   bif decide (a671 < api_Car.Low a670) then
    newellaw07_works N  (fun r674 =>
    k r674)
   else
    bif decide (a671 > api_Car.High a670) then
     newellaw07_works N  (fun r675 =>
     k r675)
    else
     calls_Worst N a670 a671 (fun r676 r677 =>
     bif mxI (w64 (api_Car.High a670 - a671)) (w64 (a671 - api_Car.Low a670)) == (0 : Int) then
      newellaw07_CallsSweep_j0 N r676 r677 (0 : Int) (fun r682 =>
       k r682)
     else
      newellaw07_CallsSweep_j0 N r676 r677 (w64 (w64 (w64 ((2 : Int) * mxI (w64 (api_Car.High a670 - a671)) (w64 (a671 - api_Car.Low a670))) * api_Car.Move a670) + w64 (w64 (w64 ((2 : Int) * mxI (w64 (api_Car.High a670 - a671)) (w64 (a671 - api_Car.Low a670))) - (1 : Int)) * api_Car.Stop a670))) (fun r683 =>
       k r683)))
noncomputable def newellaw07_CallsSweep {R : Type} : Nat → api_Car → Int → (Bool → Option R) → Option R := lock (@newellaw07_CallsSweep_m R)
theorem newellaw07_CallsSweep_def {R : Type} (N : Nat) (a670 : api_Car) (a671 : Int) (k : Bool → Option R) : newellaw07_CallsSweep N a670 a671 k = newellaw07_CallsSweep_m N a670 a671 k := by unfold newellaw07_CallsSweep; rw [lock_eq]
def newellaw07_CallsSweep_sp : Sp := ⟨[rAgg api_CarC, rInt .i64], []⟩
theorem newellaw07_CallsSweep_sp_ok : newellaw07_CallsSweep_sp.Ok := ⟨(allCons (rAgg_ok api_CarC_ok api_CarC_len) (allCons (rInt_ok .i64) allNil)), eNil⟩
def newellaw07_CallsSweep_rs : Sp := ⟨[rBool], []⟩
theorem newellaw07_CallsSweep_rs_ok : newellaw07_CallsSweep_rs.Ok := ⟨(allCons rBool_ok allNil), eNil⟩
def newellaw07_CallsSweep_run {R : Type} (N : Nat) (args : List SV) (T : Tab) (kf : SV × Tab → Option R) : Option R :=
  newellaw07_CallsSweep_m N (Cod.dec api_CarC (lget (toCs (lget args 0)))) (toI (lget args 1)) (fun q0 => kf (lget [.bool q0] 0, []))
def newellaw07_CallsSweep_d100000 {R : Type} (N : Nat) (S0 : St) (k : Exit → St → Option R) : Option R :=
  newellaw07_CallsSweep_j0 N (toI (lget S0.tmps 5)) (toI (lget S0.tmps 6)) (toI (lget S0.tmps 8)) (fun q0 => k .ret (newellaw07_CallsSweep_x100000_r q0))
def newellaw07_CallsSweep_lp {R : Type} (N : Nat) : Lp R := fun body S k => Option.none
def newellaw07_CallsSweep_jn {R : Type} (N : Nat) : Jn R := fun b => bif isJ 8 3 b then some (fun S k => newellaw07_CallsSweep_L100000.head.raw 0 S (fun S0 => newellaw07_CallsSweep_d100000 N S0 k)) else Option.none
theorem newellaw07_CallsSweep_j0_eq {R : Type} (N : Nat) (k : Exit → St → Option R) : ∀ (v0 : Int) (v1 : Int) (v2 : Int), joinM E.Θ (calls_waits_v2_cal N) (newellaw07_CallsSweep_lp N) (newellaw07_CallsSweep_jn N) 0 newellaw07_CallsSweep_L100000 (joinAt E 3 (8, 3)) (newellaw07_CallsSweep_h100000 v0 v1 v2) k = newellaw07_CallsSweep_j0 N v0 v1 v2 (fun q0 => k .ret (newellaw07_CallsSweep_x100000_r q0)) := by
  intro v0 v1 v2; exact Eq.trans (b := newellaw07_CallsSweep_j0_m N v0 v1 v2 (fun q0 => k .ret (newellaw07_CallsSweep_x100000_r q0))) (by kernel_rfl) (newellaw07_CallsSweep_j0_def N v0 v1 v2 (fun q0 => k .ret (newellaw07_CallsSweep_x100000_r q0))).symm
theorem newellaw07_CallsSweep_q0 {R : Type} (N : Nat) : JnKey (R := R) E 3 0 (newellaw07_CallsSweep_jn N) (8, 3) :=
  jnKey_of hE (calls_waits_v2_cal_ok N) (lp := newellaw07_CallsSweep_lp N) (jn := newellaw07_CallsSweep_jn N) newellaw07_CallsSweep_L100000_ok [] kNil (by kernel_rfl) [] jNil (by kernel_rfl) (fun S k => newellaw07_CallsSweep_L100000.head.raw 0 S (fun S0 => newellaw07_CallsSweep_d100000 N S0 k)) (by kernel_rfl) fun S k =>
    congrArg (newellaw07_CallsSweep_L100000.head.raw 0 S) (funext fun S0 => Eq.trans (newellaw07_CallsSweep_j0_eq N k (toI (lget S0.tmps 5)) (toI (lget S0.tmps 6)) (toI (lget S0.tmps 8))).symm (by kernel_rfl))
noncomputable def newellaw07_CallsSweep_go {R : Type} (N : Nat) (args : List SV) (T : Tab) (kf : SV × Tab → Option R) : Option R :=
  newellaw07_CallsSweep N (Cod.dec api_CarC (lget (toCs (lget args 0)))) (toI (lget args 1)) (fun q0 => kf (lget [.bool q0] 0, []))
noncomputable def newellaw07_CallsSweep_cal {R : Type} (N : Nat) : Cal R := callM (calls_waits_v2_cal N) 3 0 newellaw07_CallsSweep_sp (newellaw07_CallsSweep_go N)
theorem newellaw07_CallsSweep_cal_ok {R : Type} (N : Nat) : CalOk E.P (newellaw07_CallsSweep_cal (R := R) N) :=
  callM_ok hE (calls_waits_v2_cal_ok N) (lp := newellaw07_CallsSweep_lp N) (jn := newellaw07_CallsSweep_jn N) (keys := []) kNil (by kernel_rfl) (js := [(8, 3)]) (jCons (newellaw07_CallsSweep_q0 N) jNil) (by kernel_rfl) newellaw07_CallsSweep_sp_ok newellaw07_CallsSweep_rs_ok (fun args T kf => Eq.trans (newellaw07_CallsSweep_def N (Cod.dec api_CarC (lget (toCs (lget args 0)))) (toI (lget args 1)) (fun q0 => kf (lget [.bool q0] 0, []))) (by kernel_rfl : newellaw07_CallsSweep_run N args T kf = fnM E (calls_waits_v2_cal N) (newellaw07_CallsSweep_lp N) (newellaw07_CallsSweep_jn N) 3 (newellaw07_CallsSweep_sp.vs args) (newellaw07_CallsSweep_sp.tab T) 0 (resK newellaw07_CallsSweep_rs kf)))
theorem sweep_num : ∀ f : Nat, f < 6 → ∀ L : Nat, L < 6 → ∀ H : Nat, H < 6 → (L ≤ f ∧ f ≤ H) → ∀ M : Nat, M < 4 → ∀ S : Nat, S < 5 →
    (bif mxI (w64 ((H : Int) - (f : Int))) (w64 ((f : Int) - (L : Int))) == (0 : Int) then (0 : Int) else w64 (w64 (w64 ((2 : Int) * mxI (w64 ((H : Int) - (f : Int))) (w64 ((f : Int) - (L : Int)))) * (M : Int)) + w64 (w64 (w64 ((2 : Int) * mxI (w64 ((H : Int) - (f : Int))) (w64 ((f : Int) - (L : Int)))) - (1 : Int)) * (S : Int)))) = (worstN ⟨L, H, 0, M, S⟩ f : Int) := by
  set_option synthInstance.maxHeartbeats 0 in
  set_option synthInstance.maxSize 1000 in
  decide +kernel
theorem callsSweep_true (c : api_Car) (fl : Int) (hc : c.wf) (hf : i64 fl) : ∃ N, newellaw07_CallsSweep N c fl (fun q0 => okK (lget [.bool q0] 0, [])) = some () := by
  refine ⟨3000, ?_⟩
  rw [newellaw07_CallsSweep_def]
  unfold newellaw07_CallsSweep_m
  rw [refCar]
  by_cases hv : VC c
  rotate_left
  · rw [if_neg hv]
    exact works_eq (by decide) _
  rw [if_pos hv]
  show (bif decide (fl < api_Car.Low c) then _ else _) = _
  by_cases h1 : fl < c.Low
  · rw [decide_eq_true h1, cond_true]
    exact works_eq (by decide) _
  rw [decide_eq_false h1, cond_false]
  by_cases h2 : fl > c.High
  · rw [decide_eq_true h2, cond_true]
    exact works_eq (by decide) _
  rw [decide_eq_false h2, cond_false]
  obtain ⟨n, hn, rfl⟩ := hv.cn
  have h1' : ¬ fl < ((n.L : Nat) : Int) := h1
  have h2' : ¬ fl > ((n.H : Nat) : Int) := h2
  obtain ⟨f, rfl⟩ : ∃ f : Nat, fl = (f : Int) := ⟨fl.toNat, by omega⟩
  have h5 := hn.h5
  have hm := hn.m3
  have hs := hn.s4
  rw [worstP_eq _ hn (by omega)]
  have hh := sweep_num f (by omega) n.L (by omega) n.H (by omega) (by omega) n.M (by omega) n.S (by omega)
  have fin : ∀ v : Int, v = (worstN n f : Int) → newellaw07_CallsSweep_j0 3000 (worstN n f : Int) 0 v (fun q0 => okK (lget [.bool q0] 0, [])) = some () := fun v hv => by
    rw [newellaw07_CallsSweep_j0_def]
    unfold newellaw07_CallsSweep_j0_m
    rw [hv]
    simp only [BEq.rfl, cond_true]
    exact works_eq (by decide) _
  have hw : worstN n f = worstN ⟨n.L, n.H, 0, n.M, n.S⟩ f := rfl
  rw [← hw] at hh
  show (bif mxI (w64 ((n.H : Int) - (f : Int))) (w64 ((f : Int) - (n.L : Int))) == (0 : Int) then _ else _) = _
  cases hb : (mxI (w64 ((n.H : Int) - (f : Int))) (w64 ((f : Int) - (n.L : Int))) == (0 : Int))
  · rw [hb, cond_false] at hh
    rw [cond_false]
    exact fin _ hh
  · rw [hb, cond_true] at hh
    rw [cond_true]
    exact fin _ hh
end
end Go.Proofs.Ytlphgonhenegoaa
