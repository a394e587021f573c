import Derived.Test.YtlikcijophbkbaaEnP1
import Derived.Test.YtlikcijophbkbaaSxMath
set_option linter.unusedVariables false
set_option linter.unusedSimpArgs false
namespace Go.Proofs.Ytlikcijophbkbaa
namespace En
open Go.Sx
def onS (b : api_Band) (flow pace : Int) : Int := (flow * b.Ride + pace - 1).tdiv pace
def loadS (b : api_Band) (flow pace : Int) : Int := onS b flow pace * b.Body
theorem tdiv_nonneg {a m : Int} (hm : 0 < m) (h0 : 0 ≤ a) : 0 ≤ a.tdiv m := by
  rw [Int.tdiv_eq_ediv_of_nonneg h0]
  exact Int.ediv_nonneg h0 (by omega)
structure Fp (flow pace : Int) : Prop where
  f1 : 0 ≤ flow
  f2 : flow ≤ 100
  p1 : 1 ≤ pace
  p2 : pace ≤ 100
theorem on_bounds {b : api_Band} (h : VB b) {flow pace : Int} (hf : Fp flow pace) : (0 ≤ flow * b.Ride ∧ flow * b.Ride ≤ 100000) ∧ 0 ≤ onS b flow pace ∧ onS b flow pace ≤ 100099 := by
  have h1 := mul_range hf.f1 hf.f2 (show 0 ≤ b.Ride by have := h.r1; omega) h.r2
  have h2 := hf.p1
  have h3 := hf.p2
  have h4 := tdiv_bounds (a := flow * b.Ride + pace - 1) (m := pace) (B := 100099) (by omega) (by omega) (by omega) (by omega)
  have h5 := tdiv_nonneg (a := flow * b.Ride + pace - 1) (m := pace) (by omega) (by omega)
  exact ⟨by omega, h5, h4.2⟩
theorem load_bounds {b : api_Band} (h : VB b) {flow pace : Int} (hf : Fp flow pace) : 0 ≤ loadS b flow pace ∧ loadS b flow pace ≤ 10009900 := by
  have h1 := (on_bounds h hf).2
  exact mul_range h1.1 h1.2 h.b1 h.b2
section
variable {R : Type}
theorem load_w {b : api_Band} (h : VB b) {flow pace : Int} (hf : Fp flow pace) : w64 (Int.tdiv (w64 (w64 (w64 (flow * b.Ride) + pace) - 1)) pace) = onS b flow pace := by
  have h1 := on_bounds h hf
  have p1 := hf.p1
  have p2 := hf.p2
  rw [w64_eq (n := flow * b.Ride) (by omega) (by omega), w64_eq (n := flow * b.Ride + pace) (by omega) (by omega), w64_eq (n := flow * b.Ride + pace - 1) (by omega) (by omega)]
  have h2 := h1.2
  unfold onS at h2 ⊢
  rw [w64_eq (by omega) (by omega)]
theorem load_eq (N : Nat) {b : api_Band} (h : VB b) {flow pace : Int} (hf : Fp flow pace) (k : Int → Option R) : energy_load N b flow pace k = k (loadS b flow pace) := by
  rw [energy_load_def]
  unfold energy_load_m
  have h1 := load_bounds h hf
  have p1 := hf.p1
  have c : (pace == 0) = false := by simp; omega
  simp only [c, cond_false, load_w h hf]
  unfold loadS at h1
  rw [w64_eq (by omega) (by omega)]
  rfl
open Classical in
noncomputable def askV (b : api_Band) (flow pace : Int) : Int := if VB b then if isIn b.Paces pace then if 0 ≤ flow ∧ flow ≤ 100 then 0 else 1 else 112 else 110
theorem isIn_fp {b : api_Band} (h : VB b) {flow pace : Int} (hp : isIn b.Paces pace) (hf : 0 ≤ flow ∧ flow ≤ 100) : Fp flow pace := by
  obtain ⟨j, hj, rfl⟩ := hp
  have := h.pace j hj
  exact ⟨hf.1, hf.2, this.1, this.2⟩
theorem askV_zero {b : api_Band} {flow pace : Int} : askV b flow pace = 0 ↔ VB b ∧ isIn b.Paces pace ∧ (0 ≤ flow ∧ flow ≤ 100) := by
  unfold askV
  by_cases h : VB b <;> by_cases h2 : isIn b.Paces pace <;> by_cases h3 : 0 ≤ flow ∧ flow ≤ 100 <;> simp [h, h2, h3]
theorem check_eq {N : Nat} (hN : 20 ≤ N) (b : api_Band) (flow pace : Int) (k : Int → Option R) : energy_check N b flow pace k = k (askV b flow pace) := by
  classical
  rw [energy_check_def]
  unfold energy_check_m
  rw [Check_eq hN]
  unfold askV
  by_cases h : VB b
  rotate_left
  · rw [checkV_ne h, if_neg h]; rfl
  have hl := h.l2
  rw [checkV_pos h, if_pos h]
  simp only [bne_self_eq_false, cond_false, Contains_eq (show b.Paces.n ≤ 1000000 by omega) (show b.Paces.n < N by omega), from0_eq]
  by_cases h2 : isIn b.Paces pace
  · by_cases h3 : 0 ≤ flow ∧ flow ≤ 100
    · simp only [h2, h3, and_self, decide_true, Bool.not_true, cond_false, if_true]
    · simp only [h2, h3, decide_true, Bool.not_true, cond_false, decide_false, Bool.not_false, cond_true, if_true, if_false]
  · simp only [h2, decide_false, Bool.not_false, cond_true, if_false]
noncomputable def loadV (b : api_Band) (flow pace : Int) : Int := if askV b flow pace = 0 then loadS b flow pace else 0
theorem Load_eq {N : Nat} (hN : 20 ≤ N) (b : api_Band) (flow pace : Int) (k : Int → Int → Option R) : energy_Load N b flow pace k = k (loadV b flow pace) (askV b flow pace) := by
  rw [energy_Load_def]
  unfold energy_Load_m
  rw [check_eq hN]
  unfold loadV
  by_cases h : askV b flow pace = 0
  · obtain ⟨h1, h2, h3⟩ := askV_zero.1 h
    simp only [h, bne_self_eq_false, cond_false, load_eq N h1 (isIn_fp h1 h2 h3), if_true]
  · have : (askV b flow pace != 0) = true := by simpa using h
    simp only [this, cond_true, h, if_false]
end
end En
end Go.Proofs.Ytlikcijophbkbaa
