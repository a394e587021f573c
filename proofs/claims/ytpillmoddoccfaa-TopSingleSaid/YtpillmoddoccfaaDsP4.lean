/-
  Drive: equal lists, the example, Witness, Back, Holds, Step, Play.
-/
import Derived.Test.YtpillmoddoccfaaDsP3
import Derived.Test.YtpillmoddoccfaaSxMath
set_option linter.unusedVariables false
set_option linter.unusedSimpArgs false
namespace Go.Proofs.Ytpillmoddoccfaa
namespace Ds
open Go.Sx

section
variable {R : Type}

/-- The fuel of all statements. -/
def NN : Nat := 5000

theorem rest_le (e : api_Escalator) (s : api_Stop) (most : Bool) : restS e s most ≤ 100 := by
  have := (stopF_spec (pathV e s most) 100 0).2.1
  unfold restS; omega

/-! ### Back -/

def backS (v : Nat → Int) : Nat → Int
  | 0 => 0
  | t + 1 => backS v t + max 0 (-(v (t + 1)))

theorem back_abs {v : Nat → Int} {n : Nat} (h : ∀ t, t ≤ n → -10000000000 ≤ v t ∧ v t ≤ 10000000000) : ∀ t, t ≤ n → 0 ≤ backS v t ∧ backS v t ≤ t * 10000000000 := by
  intro t
  induction t with
  | zero => intro _; simp [backS]
  | succ t ih =>
    intro ht
    have h1 := ih (by omega)
    have h2 := h (t + 1) ht
    simp only [backS]
    omega

theorem Back_l7_eq {N : Nat} (hN : 10 ≤ N) {e : api_Escalator} {s : api_Stop} (h1 : VE e) (h2 : VS e s) (k0 : Int → drive_motion → Option R) : ∀ (r t n : Nat), t + r = 100 → r < n →
    drive_Back_l7 N n (backS (pathV e s false) t) (t : Int) ⟨e, s, pathV e s false t, t⟩ k0 = k0 (backS (pathV e s false) 100) ⟨e, s, pathV e s false 100, 100⟩ := by
  intro r
  induction r with
  | zero =>
    intro t n ht hn
    obtain ⟨n, rfl⟩ : ∃ m, n = m + 1 := ⟨n - 1, by omega⟩
    have : t = 100 := by omega
    subst this
    unfold drive_Back_l7 drive_Back_b7
    rfl
  | succ r ih =>
    intro t n ht hn
    obtain ⟨n, rfl⟩ : ∃ m, n = m + 1 := ⟨n - 1, by omega⟩
    unfold drive_Back_l7 drive_Back_b7
    have ht1 : decide ((t : Int) < 100) = true := by simp; omega
    have hp := path_B h1 h2 false t (by omega)
    have hp2 := path_B h1 h2 false (t + 1) (by omega)
    have hb := back_abs (path_B h1 h2 false) t (by omega)
    simp only [ht1, cond_true]
    rw [extreme_eq hN false (m := ⟨e, s, pathV e s false t, t⟩) (h2.ls h1) hp.1 hp.2 (by show (0 : Int) ≤ t; omega) (by show (t : Int) ≤ 1000; omega), w64_succ (show t < 1000000000000 by omega)]
    show drive_Back_l7 N n (w64 (backS (pathV e s false) t - if pathV e s false (t + 1) < 0 then pathV e s false (t + 1) else 0)) ((t + 1 : Nat) : Int) ⟨e, s, pathV e s false (t + 1), (t : Int) + 1⟩ k0 = _
    have e1 : (backS (pathV e s false) t - if pathV e s false (t + 1) < 0 then pathV e s false (t + 1) else 0) = backS (pathV e s false) (t + 1) := by
      simp only [backS]; split <;> omega
    have hb2 := back_abs (path_B h1 h2 false) (t + 1) (by omega)
    rw [e1, w64_eq (by omega) (by omega), show ((t : Int) + 1) = ((t + 1 : Nat) : Int) by simp]
    exact ih (t + 1) n (by omega) (by omega)

noncomputable def backV (e : api_Escalator) (s : api_Stop) : Int × Int :=
  if stopV e s ≠ 0 then (0, stopV e s) else if pathV e s false 100 < 0 then (0, 12) else (backS (pathV e s false) 100, 0)

theorem Back_eq {N : Nat} (hN : 200 ≤ N) (e : api_Escalator) (s : api_Stop) (k : Int → Int → Option R) : drive_Back N e s k = k (backV e s).1 (backV e s).2 := by
  rw [drive_Back_def]
  unfold drive_Back_m
  unfold backV
  rw [checkStop_eq (by omega)]
  by_cases h0 : stopV e s = 0
  · obtain ⟨h1, h2⟩ := stopV_zero h0
    simp only [h0, bne_self_eq_false, cond_false, ne_eq, not_true, if_false]
    have := Back_l7_eq (N := N) (by omega) h1 h2 (fun r135 r136 => bif decide (drive_motion.f_speed r136 < (0 : Int)) then k (0 : Int) (12 : Int) else k r135 (0 : Int)) 100 0 N (by omega) (by omega)
    refine Eq.trans this ?_
    by_cases hb : pathV e s false 100 < 0 <;> simp [hb]
  · have : (stopV e s != 0) = true := by simpa using h0
    simp only [this, cond_true, ne_eq, h0, not_false_eq_true, if_true]

theorem Behind_l3_eq (N : Nat) {v : Nat → Int} {m : Nat} (hm : m ≤ 1000) (hv : ∀ t, t ≤ m → -10000000000 ≤ v t ∧ v t ≤ 10000000000) {a : Arr Int} (ha : a.Is m (fun i => v (i + 1))) (k0 : Int → Option R) : ∀ (r i n : Nat), i + r = m → r < n →
    newelref01_Behind_l3 N n a (backS v i) (i : Int) k0 = k0 (backS v m) := by
  intro r
  induction r with
  | zero =>
    intro i n hi hn
    obtain ⟨n, rfl⟩ : ∃ m, n = m + 1 := ⟨n - 1, by omega⟩
    have : i = m := by omega
    subst this
    unfold newelref01_Behind_l3 newelref01_Behind_b3
    have : decide ((i : Int) < (a.n : Int)) = false := by rw [ha.len]; simp
    simp only [this, cond_false]
  | succ r ih =>
    intro i n hi hn
    obtain ⟨n, rfl⟩ : ∃ m, n = m + 1 := ⟨n - 1, by omega⟩
    unfold newelref01_Behind_l3 newelref01_Behind_b3
    have e1 : decide ((i : Int) < (a.n : Int)) = true := by rw [ha.len]; simp; omega
    have hv1 := hv (i + 1) (by omega)
    have hb := back_abs hv i (by omega)
    simp only [e1, nat_nonneg, Bool.and_self, cond_true, Int.toNat_natCast, ha.get i (by omega), w64_succ (show i < 1000000000000 by omega)]
    rw [w64_eq (n := 0 - v (i + 1)) (by omega) (by omega), max0_if, w64_eq (by omega) (by omega)]
    have := ih (i + 1) n (by omega) (by omega)
    simp only [backS] at this
    rw [Int.zero_sub]
    exact this

theorem Behind_eq {N : Nat} (hN : 2000 ≤ N) {v : Nat → Int} {m : Nat} (hm : m ≤ 1000) (hv : ∀ t, t ≤ m → -10000000000 ≤ v t ∧ v t ≤ 10000000000) {a : Arr Int} (ha : a.Is m (fun i => v (i + 1))) (k : Int → Option R) : newelref01_Behind N a k = k (backS v m) := by
  rw [newelref01_Behind_def]
  exact Behind_l3_eq N hm hv ha (fun r => k r) m 0 N (by omega) (by omega)

/-! ### The example -/

def exE : api_Escalator := ⟨true, 1000, 20, 2000, 20000, lst api_BrakeC 2 (litC [SV.int IntKind.i64 0, SV.int IntKind.i64 0] [[SV.int IntKind.i64 12000, SV.int IntKind.i64 1], [SV.int IntKind.i64 16000, SV.int IntKind.i64 3]])⟩
def exS (v : Int) : api_Stop := ⟨v, ⟨0, 500⟩, 0⟩
theorem exE_ok : VE exE := by
  refine ⟨by decide, by decide, by decide, by decide, by decide, by decide, by decide, by decide, by decide, ?_⟩
  intro j _ hj
  have hj : j < 2 := hj
  match j, hj with
  | 0, _ => exact ⟨⟨by decide, by decide⟩, ⟨by decide, by decide⟩⟩
  | 1, _ => exact ⟨⟨by decide, by decide⟩, ⟨by decide, by decide⟩⟩
theorem exS_ok {v : Int} (h : 0 ≤ v) (h' : v ≤ 1000) : VS exE (exS v) := ⟨h, h', by show (0 : Int) ≤ 0; decide, by show (0 : Int) ≤ 500; decide, by show (500 : Int) ≤ 100000; decide, by show (0 : Int) ≤ 0; decide, by show (0 : Int) < 2 ^ 2; decide⟩
theorem dist_ex : distV exE (exS 60) = (⟨108, 135⟩, ⟨4, 5⟩, 0) := by
  unfold distV
  rw [stopV_of exE_ok (exS_ok (by omega) (by omega))]
  have h1 : restS exE (exS 60) true = 5 := by kernel_rfl
  have h2 : restS exE (exS 60) false = 4 := by kernel_rfl
  have h3 : pathV exE (exS 60) true 5 = 0 := by kernel_rfl
  have h4 : wayS (pathV exE (exS 60) true) 5 = 135 := by kernel_rfl
  have h5 : wayS (pathV exE (exS 60) false) 4 = 108 := by kernel_rfl
  simp [h1, h2, h3, h4, h5]
theorem back_ex : backV exE (exS 0) = (7, 0) := by
  unfold backV
  rw [stopV_of exE_ok (exS_ok (by omega) (by omega))]
  have h1 : pathV exE (exS 0) false 100 = 0 := by kernel_rfl
  have h2 : backS (pathV exE (exS 0) false) 100 = 7 := by kernel_rfl
  simp [h1, h2]
/-! ### Holds -/

noncomputable def holdsV (e : api_Escalator) (s : api_Stop) : Bool × Int :=
  if stopV e s ≠ 0 then (false, stopV e s) else (decide (e.Pull * s.Loads.High ≤ e.Drag + gripE e s.Fail 20), 0)

theorem Holds_eq {N : Nat} (hN : 200 ≤ N) (e : api_Escalator) (s : api_Stop) (k : Bool → Int → Option R) : drive_Holds N e s k = k (holdsV e s).1 (holdsV e s).2 := by
  rw [drive_Holds_def]
  unfold drive_Holds_m
  unfold holdsV
  rw [checkStop_eq (by omega)]
  by_cases h0 : stopV e s = 0
  · obtain ⟨h1, h2⟩ := stopV_zero h0
    have hl := h2.ls h1
    have hf := hl.f2
    have hg := gripE_bounds h1 s.Fail 20
    have a1 := h2.l1; have a2 := h2.l2; have d1 := h1.d1; have d2 := h1.d2
    have hp := mul_range h1.p1 h1.p2 (show 0 ≤ s.Loads.High by omega) h2.l3
    simp only [h0, bne_self_eq_false, cond_false, ne_eq, not_true, if_false]
    rw [grip_eq (by omega) ⟨e, s, 0, 20⟩ h1 h2.f1 (by show s.Fail < 1000000; omega), w64_eq (by omega) (by omega)]
    show k (decide (_ ≤ w64 (e.Drag + gripE e s.Fail 20))) 0 = _
    rw [w64_eq (by omega) (by omega)]
  · have : (stopV e s != 0) = true := by simpa using h0
    simp only [this, cond_true, ne_eq, h0, not_false_eq_true, if_true]

theorem Far_eq (N : Nat) (e : api_Escalator) (k : Bool → Option R) : newellaw01_Far N e k = k (decide ((e.Brakes.n : Int) > 10)) := by rw [newellaw01_Far_def]; rfl

end
end Ds
end Go.Proofs.Ytpillmoddoccfaa
