/-
  Energy: loads, powers, Slow.
-/
import Derived.Test.YtpillmoddoccfaaEnP1
import Derived.Test.YtpillmoddoccfaaSxMath
set_option linter.unusedVariables false
set_option linter.unusedSimpArgs false
namespace Go.Proofs.Ytpillmoddoccfaa
namespace En
open Go.Sx

/-- How many people are on a band at once. -/
def onS (b : api_Band) (flow pace : Int) : Int := (flow * b.Ride + pace - 1).tdiv pace
def loadS (b : api_Band) (flow pace : Int) : Int := onS b flow pace * b.Body
def pullS (b : api_Band) (flow pace : Int) : Int := b.Pull * loadS b flow pace
def powerS (b : api_Band) (flow pace : Int) : Int :=
  if b.Up = true then (pullS b flow pace + b.Drag) * pace
  else if 0 ≤ b.Drag - pullS b flow pace then (b.Drag - pullS b flow pace) * pace
  else -(((pullS b flow pace - b.Drag) * pace * b.Num).tdiv b.Den)

theorem tdiv_mono {a c m : Int} (hm : 0 < m) (h0 : 0 ≤ a) (h : a ≤ c) : a.tdiv m ≤ c.tdiv m := by
  rw [Int.tdiv_eq_ediv_of_nonneg h0, Int.tdiv_eq_ediv_of_nonneg (by omega)]
  exact Int.ediv_le_ediv hm h

theorem tdiv_nonneg {a m : Int} (hm : 0 < m) (h0 : 0 ≤ a) : 0 ≤ a.tdiv m := by
  rw [Int.tdiv_eq_ediv_of_nonneg h0]
  exact Int.ediv_nonneg h0 (by omega)

theorem tdiv_part {x n m : Int} (hx : 0 ≤ x) (hn : 0 ≤ n) (hnm : n ≤ m) (hm : 0 < m) : 0 ≤ (x * n).tdiv m ∧ (x * n).tdiv m ≤ x := by
  have h0 : 0 ≤ x * n := Int.mul_nonneg hx hn
  refine ⟨tdiv_nonneg hm h0, ?_⟩
  rw [Int.tdiv_eq_ediv_of_nonneg h0]
  have h1 : x * n ≤ x * m := Int.mul_le_mul_of_nonneg_left hnm hx
  have h2 : x * n / m < x + 1 := by
    rw [Int.ediv_lt_iff_lt_mul hm, Int.add_mul, Int.one_mul]
    omega
  omega

/-- A flow and a pace that may be asked for. -/
structure Fp (flow pace : Int) : Prop where
  f1 : 0 ≤ flow
  f2 : flow ≤ 100
  p1 : 1 ≤ pace
  p2 : pace ≤ 100

theorem on_bounds {b : api_Band} (h : VB b) {flow pace : Int} (hf : Fp flow pace) : (0 ≤ flow * b.Ride ∧ flow * b.Ride ≤ 100000) ∧ 0 ≤ onS b flow pace ∧ onS b flow pace ≤ 100099 := by
  have h1 := mul_range hf.f1 hf.f2 (show 0 ≤ b.Ride by have := h.r1; omega) h.r2
  have h2 := hf.p1
  have h3 := hf.p2
  have h4 := tdiv_bounds (a := flow * b.Ride + pace - 1) (m := pace) (B := 100099) (by omega) (by omega) (by omega) (by omega)
  have h5 := tdiv_nonneg (a := flow * b.Ride + pace - 1) (m := pace) (by omega) (by omega)
  exact ⟨by omega, h5, h4.2⟩

theorem load_bounds {b : api_Band} (h : VB b) {flow pace : Int} (hf : Fp flow pace) : 0 ≤ loadS b flow pace ∧ loadS b flow pace ≤ 10009900 := by
  have h1 := (on_bounds h hf).2
  exact mul_range h1.1 h1.2 h.b1 h.b2

theorem pull_bounds {b : api_Band} (h : VB b) {flow pace : Int} (hf : Fp flow pace) : 0 ≤ pullS b flow pace ∧ pullS b flow pace ≤ 1000990000 := by
  have h1 := load_bounds h hf
  exact mul_range h.p1 h.p2 h1.1 h1.2

theorem on_mono {b : api_Band} (h : VB b) {f g pace : Int} (hf : Fp f pace) (hg : f ≤ g) : onS b f pace ≤ onS b g pace := by
  have h1 := (on_bounds h hf).1
  have h2 : f * b.Ride ≤ g * b.Ride := Int.mul_le_mul_of_nonneg_right hg (by have := h.r1; omega)
  have := hf.p1
  exact tdiv_mono (by omega) (by omega) (by omega)
theorem load_mono {b : api_Band} (h : VB b) {f g pace : Int} (hf : Fp f pace) (hg : f ≤ g) : loadS b f pace ≤ loadS b g pace :=
  Int.mul_le_mul_of_nonneg_right (on_mono h hf hg) h.b1
theorem pull_mono {b : api_Band} (h : VB b) {f g pace : Int} (hf : Fp f pace) (hg : f ≤ g) : pullS b f pace ≤ pullS b g pace :=
  Int.mul_le_mul_of_nonneg_left (load_mono h hf hg) h.p1

/-- At a greater pace there are not more people on it. -/
theorem on_anti {b : api_Band} (h : VB b) {f p q : Int} (hf : Fp f p) (hq : p ≤ q) (hq2 : q ≤ 100) : onS b f q ≤ onS b f p := by
  have h1 := (on_bounds h hf).1
  have hp := hf.p1
  unfold onS
  generalize f * b.Ride = x at h1
  rw [Int.tdiv_eq_ediv_of_nonneg (by omega), Int.tdiv_eq_ediv_of_nonneg (by omega)]
  -- x + q - 1 ≤ q * (c + 1) - 1 + .. where c is the other one
  have h3 : (x + p - 1) / p * p ≤ x + p - 1 := Int.ediv_mul_le _ (by omega)
  have h4 : x + p - 1 < ((x + p - 1) / p + 1) * p := Int.lt_ediv_add_one_mul_self _ (by omega)
  have h5 : 0 ≤ (x + p - 1) / p := Int.ediv_nonneg (by omega) (by omega)
  generalize (x + p - 1) / p = c at h3 h4 h5
  have h6 : (x + q - 1) / q < c + 1 := by
    rw [Int.ediv_lt_iff_lt_mul (by omega)]
    rw [Int.add_mul, Int.one_mul] at h4 ⊢
    have : c * p ≤ c * q := Int.mul_le_mul_of_nonneg_left hq h5
    omega
  omega
theorem load_anti {b : api_Band} (h : VB b) {f p q : Int} (hf : Fp f p) (hq : p ≤ q) (hq2 : q ≤ 100) : loadS b f q ≤ loadS b f p :=
  Int.mul_le_mul_of_nonneg_right (on_anti h hf hq hq2) h.b1

theorem mul_mono_r {a c p : Int} (h : a ≤ c) (hp : 0 ≤ p) : a * p ≤ c * p := Int.mul_le_mul_of_nonneg_right h hp

theorem power_bounds {b : api_Band} (h : VB b) {flow pace : Int} (hf : Fp flow pace) : -200000000000 ≤ powerS b flow pace ∧ powerS b flow pace ≤ 200000000000 := by
  have h1 := pull_bounds h hf
  have d1 := h.d1
  have d2 := h.d2
  have e1 := h.e1
  have p1 := hf.p1
  have p2 := hf.p2
  unfold powerS
  split
  · have := mul_range (a := pullS b flow pace + b.Drag) (b := pace) (A := 1002000000) (B := 100) (by omega) (by omega) (by omega) p2
    omega
  · split
    · have := mul_range (a := b.Drag - pullS b flow pace) (b := pace) (A := 1002000000) (B := 100) (by omega) (by omega) (by omega) p2
      omega
    · have h2 := mul_range (a := pullS b flow pace - b.Drag) (b := pace) (A := 1002000000) (B := 100) (by omega) (by omega) (by omega) p2
      have h3 := tdiv_part h2.1 h.n1 h.n2 (by omega)
      omega

/-- With more people the power goes one way. -/
theorem power_up {b : api_Band} (h : VB b) (hu : b.Up = true) {f g pace : Int} (hf : Fp f pace) (hg : f ≤ g) : powerS b f pace ≤ powerS b g pace := by
  have h1 := pull_mono h hf hg
  have := hf.p1
  unfold powerS
  rw [if_pos hu, if_pos hu]
  exact mul_mono_r (by omega) (by omega)
theorem power_down {b : api_Band} (h : VB b) (hu : ¬ b.Up = true) {f g pace : Int} (hf : Fp f pace) (hg : f ≤ g) : powerS b g pace ≤ powerS b f pace := by
  have h1 := pull_mono h hf hg
  have hp := hf.p1
  have e1 := h.e1
  unfold powerS
  rw [if_neg hu, if_neg hu]
  by_cases c1 : 0 ≤ b.Drag - pullS b g pace
  · rw [if_pos c1, if_pos (by omega)]
    exact mul_mono_r (by omega) (by omega)
  · rw [if_neg c1]
    have h2 : 0 ≤ (pullS b g pace - b.Drag) * pace := Int.mul_nonneg (by omega) (by omega)
    have h3 := tdiv_part h2 h.n1 h.n2 (by omega)
    by_cases c2 : 0 ≤ b.Drag - pullS b f pace
    · rw [if_pos c2]
      have : 0 ≤ (b.Drag - pullS b f pace) * pace := Int.mul_nonneg c2 (by omega)
      omega
    · rw [if_neg c2]
      have h4 : 0 ≤ (pullS b f pace - b.Drag) * pace := Int.mul_nonneg (by omega) (by omega)
      have h5 : (pullS b f pace - b.Drag) * pace ≤ (pullS b g pace - b.Drag) * pace := mul_mono_r (by omega) (by omega)
      have h6 : (pullS b f pace - b.Drag) * pace * b.Num ≤ (pullS b g pace - b.Drag) * pace * b.Num := mul_mono_r h5 h.n1
      have h7 := tdiv_mono (m := b.Den) (by omega) (Int.mul_nonneg h4 h.n1) h6
      omega

section
variable {R : Type}

theorem load_w {b : api_Band} (h : VB b) {flow pace : Int} (hf : Fp flow pace) : w64 (Int.tdiv (w64 (w64 (w64 (flow * b.Ride) + pace) - 1)) pace) = onS b flow pace := by
  have h1 := on_bounds h hf
  have p1 := hf.p1
  have p2 := hf.p2
  rw [w64_eq (n := flow * b.Ride) (by omega) (by omega), w64_eq (n := flow * b.Ride + pace) (by omega) (by omega), w64_eq (n := flow * b.Ride + pace - 1) (by omega) (by omega)]
  have h2 := h1.2
  unfold onS at h2 ⊢
  rw [w64_eq (by omega) (by omega)]

theorem load_eq (N : Nat) {b : api_Band} (h : VB b) {flow pace : Int} (hf : Fp flow pace) (k : Int → Option R) : energy_load N b flow pace k = k (loadS b flow pace) := by
  rw [energy_load_def]
  unfold energy_load_m
  have h1 := load_bounds h hf
  have p1 := hf.p1
  have c : (pace == 0) = false := by simp; omega
  simp only [c, cond_false, load_w h hf]
  unfold loadS at h1
  rw [w64_eq (by omega) (by omega)]
  rfl
theorem power_eq (N : Nat) {b : api_Band} (h : VB b) {flow pace : Int} (hf : Fp flow pace) (k : Int → Option R) : energy_power N b flow pace k = k (powerS b flow pace) := by
  rw [energy_power_def]
  unfold energy_power_m
  have hb := power_bounds h hf
  have h1 := pull_bounds h hf
  have d1 := h.d1
  have d2 := h.d2
  have e1 := h.e1
  have e2 := h.e2
  have p1 := hf.p1
  have p2 := hf.p2
  have ep : b.Pull * loadS b flow pace = pullS b flow pace := rfl
  rw [load_eq N h hf]
  rw [ep, w64_eq (n := pullS b flow pace) (by omega) (by omega), w64_eq (n := pullS b flow pace + b.Drag) (by omega) (by omega), w64_eq (n := b.Drag - pullS b flow pace) (by omega) (by omega), w64_eq (n := pullS b flow pace - b.Drag) (by omega) (by omega)]
  unfold powerS at hb ⊢
  cases hu : b.Up with
  | true =>
    rw [if_pos hu] at hb
    rw [if_pos rfl, w64_eq (by omega) (by omega)]
    rfl
  | false =>
    rw [hu, if_neg (by simp)] at hb
    rw [if_neg (by simp)]
    simp only [cond_false]
    by_cases c : 0 ≤ b.Drag - pullS b flow pace
    · rw [if_pos c] at hb ⊢
      have c' : decide (b.Drag - pullS b flow pace ≥ 0) = true := by simp; omega
      simp only [c', cond_true]
      rw [w64_eq (by omega) (by omega)]
    · rw [if_neg c] at hb ⊢
      have c' : decide (b.Drag - pullS b flow pace ≥ 0) = false := by simp; omega
      have c2 : (b.Den == 0) = false := by simp; omega
      simp only [c', c2, cond_false]
      have h2 := mul_range (a := pullS b flow pace - b.Drag) (b := pace) (A := 1002000000) (B := 100) (by omega) (by omega) (by omega) p2
      have h3 := mul_range (a := (pullS b flow pace - b.Drag) * pace) (b := b.Num) (A := 100200000000) (B := 100) (by omega) (by omega) h.n1 (by have := h.n2; omega)
      have h4 := tdiv_part h2.1 h.n1 h.n2 (by omega)
      rw [w64_eq (n := (pullS b flow pace - b.Drag) * pace) (by omega) (by omega), w64_eq (n := (pullS b flow pace - b.Drag) * pace * b.Num) (by omega) (by omega), w64_eq (n := Int.tdiv _ _) (by omega) (by omega), w64_eq (by omega) (by omega)]
      congr 1
      omega

/-! ### Load, Power, Slow -/
def askP (b : api_Band) (flow : Int) : Prop := 0 ≤ flow ∧ flow ≤ 100
open Classical in
noncomputable def askV (b : api_Band) (flow pace : Int) : Int := if VB b then if isIn b.Paces pace then if 0 ≤ flow ∧ flow ≤ 100 then 0 else 1 else 112 else 110

theorem isIn_fp {b : api_Band} (h : VB b) {flow pace : Int} (hp : isIn b.Paces pace) (hf : 0 ≤ flow ∧ flow ≤ 100) : Fp flow pace := by
  obtain ⟨j, hj, rfl⟩ := hp
  have := h.pace j hj
  exact ⟨hf.1, hf.2, this.1, this.2⟩

theorem askV_zero {b : api_Band} {flow pace : Int} : askV b flow pace = 0 ↔ VB b ∧ isIn b.Paces pace ∧ (0 ≤ flow ∧ flow ≤ 100) := by
  unfold askV
  by_cases h : VB b <;> by_cases h2 : isIn b.Paces pace <;> by_cases h3 : 0 ≤ flow ∧ flow ≤ 100 <;> simp [h, h2, h3]

theorem check_eq {N : Nat} (hN : 20 ≤ N) (b : api_Band) (flow pace : Int) (k : Int → Option R) : energy_check N b flow pace k = k (askV b flow pace) := by
  classical
  rw [energy_check_def]
  unfold energy_check_m
  rw [Check_eq hN]
  unfold askV
  by_cases h : VB b
  rotate_left
  · rw [checkV_ne h, if_neg h]; rfl
  have hl := h.l2
  rw [checkV_pos h, if_pos h]
  simp only [bne_self_eq_false, cond_false, Contains_eq (show b.Paces.n ≤ 1000000 by omega) (show b.Paces.n < N by omega), from0_eq]
  by_cases h2 : isIn b.Paces pace
  · by_cases h3 : 0 ≤ flow ∧ flow ≤ 100
    · simp only [h2, h3, and_self, decide_true, Bool.not_true, cond_false, if_true]
    · simp only [h2, h3, decide_true, Bool.not_true, cond_false, decide_false, Bool.not_false, cond_true, if_true, if_false]
  · simp only [h2, decide_false, Bool.not_false, cond_true, if_false]
noncomputable def loadV (b : api_Band) (flow pace : Int) : Int := if askV b flow pace = 0 then loadS b flow pace else 0
noncomputable def powerV (b : api_Band) (flow pace : Int) : Int := if askV b flow pace = 0 then powerS b flow pace else 0

theorem Load_eq {N : Nat} (hN : 20 ≤ N) (b : api_Band) (flow pace : Int) (k : Int → Int → Option R) : energy_Load N b flow pace k = k (loadV b flow pace) (askV b flow pace) := by
  rw [energy_Load_def]
  unfold energy_Load_m
  rw [check_eq hN]
  unfold loadV
  by_cases h : askV b flow pace = 0
  · obtain ⟨h1, h2, h3⟩ := askV_zero.1 h
    simp only [h, bne_self_eq_false, cond_false, load_eq N h1 (isIn_fp h1 h2 h3), if_true]
  · have : (askV b flow pace != 0) = true := by simpa using h
    simp only [this, cond_true, h, if_false]
theorem serves_eq (N : Nat) {b : api_Band} (h : VB b) {flow pace : Int} (hf : Fp flow pace) (k : Bool → Option R) : energy_serves N b flow pace k = k (decide (loadS b flow pace ≤ b.Most)) := by
  rw [energy_serves_def]
  unfold energy_serves_m
  rw [load_eq N h hf]

/-- The first pace from one on, at most so many, that serves; 0 and ErrNone: there is none. -/
def slowS (b : api_Band) (flow : Int) : Nat → Nat → Int × Int
  | 0, _ => (0, 3)
  | r + 1, i => if loadS b flow (b.Paces.f i) ≤ b.Most then (b.Paces.f i, 0) else slowS b flow r (i + 1)
open Classical in
noncomputable def slowV (b : api_Band) (flow : Int) : Int × Int := if VB b then if 0 ≤ flow ∧ flow ≤ 100 then slowS b flow b.Paces.n 0 else (0, 1) else (0, 110)

end
end En
end Go.Proofs.Ytpillmoddoccfaa
