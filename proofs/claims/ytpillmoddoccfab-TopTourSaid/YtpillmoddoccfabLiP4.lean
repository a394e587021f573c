/-
  Lift: Reach and Trip.
-/
import Derived.Test.YtpillmoddoccfabLiP3
import Derived.Test.YtpillmoddoccfabSxMath
set_option linter.unusedVariables false
set_option linter.unusedSimpArgs false
namespace Go.Proofs.Ytpillmoddoccfab
namespace Li
open Go.Sx

section
variable {R : Type}

theorem ifmin (a b c : Int) : (if c < (if b < a then b else a) then c else if b < a then b else a) = min (min a b) c := by
  split <;> split at * <;> omega

theorem kA {k : Nat} {A : Int} (hk : k ≤ 2000) (h1 : 0 ≤ A) (h2 : A ≤ 100) : 0 ≤ (k : Int) * A ∧ (k : Int) * A ≤ 200000 := by
  have := mul_range (a := (k : Int)) (b := A) (A := 2000) (B := 100) (by omega) (by omega) h1 h2
  omega

theorem term_w {S A v : Int} {t k : Nat} (hA : 0 ≤ A) (hA2 : A ≤ 100) (hv : 0 ≤ v) (hv2 : v ≤ 100) (hk : k ≤ t) (ht : t ≤ 1000) :
    (if w64 (w64 (w64 ((t : Int) - k) + 1) * A) < if w64 (v + w64 (k * A)) < S then w64 (v + w64 (k * A)) else S then w64 (w64 (w64 ((t : Int) - k) + 1) * A) else if w64 (v + w64 (k * A)) < S then w64 (v + w64 (k * A)) else S) = mT S A v t k := by
  have h1 := kA (k := k) (by omega) hA hA2
  have h2 := mul_range (a := (t : Int) - k + 1) (b := A) (A := 1001) (B := 100) (by omega) (by omega) hA hA2
  rw [w64_eq (n := (t : Int) - k) (by omega) (by omega), w64_eq (n := (t : Int) - k + 1) (by omega) (by omega), w64_eq (n := ((t : Int) - k + 1) * A) (by omega) (by omega), w64_eq (n := (k : Int) * A) (by omega) (by omega), w64_eq (n := v + k * A) (by omega) (by omega), ifmin]
  rfl
theorem term_w' {S A v : Int} {t k : Nat} (hA : 0 ≤ A) (hA2 : A ≤ 100) (hv : 0 ≤ v) (hv2 : v ≤ 100) (hk : k ≤ t) (ht : t ≤ 1000) :
    (if w64 (A * w64 (w64 ((t : Int) + 1) - k)) < if w64 (v + w64 (A * k)) < S then w64 (v + w64 (A * k)) else S then w64 (A * w64 (w64 ((t : Int) + 1) - k)) else if w64 (v + w64 (A * k)) < S then w64 (v + w64 (A * k)) else S) = mT S A v t k := by
  have h1 := kA (k := k) (by omega) hA hA2
  have h2 := mul_range (a := (t : Int) - k + 1) (b := A) (A := 1001) (B := 100) (by omega) (by omega) hA hA2
  rw [w64_eq (n := (t : Int) + 1) (by omega) (by omega), w64_eq (n := (t : Int) + 1 - k) (by omega) (by omega), Int.mul_comm A k, Int.mul_comm A, show (t : Int) + 1 - k = (t : Int) - k + 1 by omega, w64_eq (n := ((t : Int) - k + 1) * A) (by omega) (by omega), w64_eq (n := (k : Int) * A) (by omega) (by omega), w64_eq (n := v + k * A) (by omega) (by omega), ifmin]
  rfl
theorem lterm_w {A v : Int} {k : Nat} (hA : 0 ≤ A) (hA2 : A ≤ 100) (hv : 0 ≤ v) (hv2 : v ≤ 100) (hk : k ≤ 1000) :
    (if w64 (v - w64 (k * A)) > 0 then w64 (v - w64 (k * A)) else 0) = lT A v k := by
  have h1 := kA (k := k) (by omega) hA hA2
  rw [w64_eq (n := (k : Int) * A) (by omega) (by omega), w64_eq (n := v - k * A) (by omega) (by omega), max0_if]
  rfl

/-- Speed and acceleration of a valid lift. -/
structure SA (S A : Int) : Prop where
  S1 : 1 ≤ S
  S2 : S ≤ 100
  A1 : 1 ≤ A
  A2 : A ≤ 100
theorem VL.sa {l : api_Lift} (h : VL l) : SA l.Speed l.Accel := ⟨h.s1, h.s2, h.a1, h.a2⟩

theorem sum_m {S A v : Int} (h : SA S A) (hv : 0 ≤ v) {t k : Nat} (hk : k ≤ t) (ht : t ≤ 1000) : 0 ≤ sumTo (mT S A v t) k ∧ sumTo (mT S A v t) k ≤ 100000 := by
  have h1 := h.S1
  have h2 := h.A1
  have := sumTo_bounds (g := mT S A v t) (B := S) (n := k) (fun j _ hj => mT_bounds (by omega) (by omega) hv (by omega))
  have h3 := mul_range (a := (k : Int)) (b := S) (A := 1000) (B := 100) (by omega) (by omega) (by omega) h.S2
  omega
theorem sum_l {A v : Int} (hA : 0 ≤ A) (hv : v ≤ 100) {k : Nat} (hk : k ≤ 1000) : 0 ≤ leastS A v k ∧ leastS A v k ≤ 100000 := by
  have := least_bounds (A := A) (v := v) (B := 100) hA hv (by omega) k
  omega

theorem most_l3_eq (N : Nat) {l : api_Lift} (h : SA l.Speed l.Accel) {v : Int} (hv : 0 ≤ v) (hv2 : v ≤ 100) {t : Nat} (ht : t ≤ 1000) (k0 : Int → Option R) : ∀ (r k n : Nat), k + r = t → r < n →
    lift_most_l3 N n v (t : Int) (sumTo (mT l.Speed l.Accel v t) k) ((k + 1 : Nat) : Int) l k0 = k0 (mostS l.Speed l.Accel v t) := by
  obtain ⟨S1, S2, A1, A2⟩ := id h
  intro r
  induction r with
  | zero =>
    intro k n h1 h2
    obtain ⟨n, rfl⟩ : ∃ m, n = m + 1 := ⟨n - 1, by omega⟩
    unfold lift_most_l3 lift_most_b3
    have e1 : decide (((k + 1 : Nat) : Int) ≤ (t : Int)) = false := by simp; omega
    simp only [e1, cond_false]
    have : k = t := by omega
    rw [this]; rfl
  | succ r ih =>
    intro k n h1 h2
    obtain ⟨n, rfl⟩ : ∃ m, n = m + 1 := ⟨n - 1, by omega⟩
    unfold lift_most_l3 lift_most_b3
    have e1 : decide (((k + 1 : Nat) : Int) ≤ (t : Int)) = true := by simp; omega
    have hs := sum_m h hv (t := t) (k := k + 1) (by omega) ht
    have e2 : sumTo (mT l.Speed l.Accel v t) (k + 1) = sumTo (mT l.Speed l.Accel v t) k + mT l.Speed l.Accel v t (k + 1) := rfl
    rw [e2] at hs
    simp only [e1, cond_true, term_w (S := l.Speed) (A := l.Accel) (v := v) (t := t) (k := k + 1) (by omega) A2 hv hv2 (by omega) ht, w64_succ (show k + 1 < 1000000000000 by omega)]
    rw [w64_eq (by omega) (by omega), ← e2]
    exact ih (k + 1) n (by omega) (by omega)

theorem most_eq {N : Nat} (hN : 1001 ≤ N) {l : api_Lift} (h : SA l.Speed l.Accel) {v : Int} (hv : 0 ≤ v) (hv2 : v ≤ 100) {t : Nat} (ht : t ≤ 1000) (k : Int → Option R) : lift_most N l v (t : Int) k = k (mostS l.Speed l.Accel v t) := by
  rw [lift_most_def]
  unfold lift_most_m
  exact most_l3_eq N h hv hv2 ht (fun r => k r) t 0 N (by omega) (by omega)

theorem least_l3_eq (N : Nat) {l : api_Lift} (h : SA l.Speed l.Accel) {v : Int} (hv : 0 ≤ v) (hv2 : v ≤ 100) {t : Nat} (ht : t ≤ 1000) (k0 : Int → Option R) : ∀ (r k n : Nat), k + r = t → r < n →
    lift_least_l3 N n v (t : Int) (leastS l.Accel v k) ((k + 1 : Nat) : Int) l k0 = k0 (leastS l.Accel v t) := by
  obtain ⟨S1, S2, A1, A2⟩ := id h
  intro r
  induction r with
  | zero =>
    intro k n h1 h2
    obtain ⟨n, rfl⟩ : ∃ m, n = m + 1 := ⟨n - 1, by omega⟩
    unfold lift_least_l3 lift_least_b3
    have e1 : decide (((k + 1 : Nat) : Int) ≤ (t : Int)) = false := by simp; omega
    simp only [e1, cond_false]
    have : k = t := by omega
    rw [this]
  | succ r ih =>
    intro k n h1 h2
    obtain ⟨n, rfl⟩ : ∃ m, n = m + 1 := ⟨n - 1, by omega⟩
    unfold lift_least_l3 lift_least_b3
    have e1 : decide (((k + 1 : Nat) : Int) ≤ (t : Int)) = true := by simp; omega
    have hs := sum_l (A := l.Accel) (v := v) (by omega) hv2 (k := k + 1) (by omega)
    have e2 : leastS l.Accel v (k + 1) = leastS l.Accel v k + lT l.Accel v (k + 1) := rfl
    rw [e2] at hs
    simp only [e1, cond_true, lterm_w (A := l.Accel) (v := v) (k := k + 1) (by omega) A2 hv hv2 (by omega), w64_succ (show k + 1 < 1000000000000 by omega)]
    rw [w64_eq (by omega) (by omega), ← e2]
    exact ih (k + 1) n (by omega) (by omega)

theorem least_eq {N : Nat} (hN : 1001 ≤ N) {l : api_Lift} (h : SA l.Speed l.Accel) {v : Int} (hv : 0 ≤ v) (hv2 : v ≤ 100) {t : Nat} (ht : t ≤ 1000) (k : Int → Option R) : lift_least N l v (t : Int) k = k (leastS l.Accel v t) := by
  rw [lift_least_def]
  unfold lift_least_m
  exact least_l3_eq N h hv hv2 ht (fun r => k r) t 0 N (by omega) (by omega)

/-! ### The number of ticks -/

theorem trip_l2_eq {N : Nat} (hN : 1001 ≤ N) {l : api_Lift} (h : SA l.Speed l.Accel) {way : Int} (k0 : Int → Option R) : ∀ (r t n : Nat), way ≤ (t + r : Nat) → t + r ≤ 1000 → r < n →
    lift_trip_l2 N n way (t : Int) l k0 = k0 (firstT l.Speed l.Accel way r t : Nat) := by
  intro r
  induction r with
  | zero =>
    intro t n h1 h2 h3
    obtain ⟨n, rfl⟩ : ∃ m, n = m + 1 := ⟨n - 1, by omega⟩
    unfold lift_trip_l2 lift_trip_b2
    rw [most_eq hN h (by omega) (by omega) (by omega)]
    have := most_ge h.S1 h.A1 t
    have e : decide (mostS l.Speed l.Accel 0 t < way) = false := by simp; omega
    simp only [e, cond_false, firstT]
  | succ r ih =>
    intro t n h1 h2 h3
    obtain ⟨n, rfl⟩ : ∃ m, n = m + 1 := ⟨n - 1, by omega⟩
    unfold lift_trip_l2 lift_trip_b2
    rw [most_eq hN h (by omega) (by omega) (by omega)]
    simp only [firstT]
    by_cases hc : mostS l.Speed l.Accel 0 t < way
    · simp only [hc, decide_true, cond_true, if_true, w64_succ (show t < 1000000000000 by omega)]
      exact ih (t + 1) n (by omega) (by omega) (by omega)
    · simp only [hc, decide_false, cond_false, if_false]

end
end Li
end Go.Proofs.Ytpillmoddoccfab
