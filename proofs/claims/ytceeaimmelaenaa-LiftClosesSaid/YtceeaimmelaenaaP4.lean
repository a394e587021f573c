/-
  Lift: Reach and Trip.
-/
import Derived.Test.YtceeaimmelaenaaP3
set_option linter.unusedVariables false
set_option linter.unusedSimpArgs false
namespace Go.Proofs.Ytceeaimmelaenaa
open Go.Sx

section
variable {R : Type}

theorem ifmin (a b c : Int) : (if c < (if b < a then b else a) then c else if b < a then b else a) = min (min a b) c := by
  split <;> split at * <;> omega

theorem kA {k : Nat} {A : Int} (hk : k ≤ 2000) (h1 : 0 ≤ A) (h2 : A ≤ 100) : 0 ≤ (k : Int) * A ∧ (k : Int) * A ≤ 200000 := by
  have := mul_range (a := (k : Int)) (b := A) (A := 2000) (B := 100) (by omega) (by omega) h1 h2
  omega

theorem term_w {S A v : Int} {t k : Nat} (hA : 0 ≤ A) (hA2 : A ≤ 100) (hv : 0 ≤ v) (hv2 : v ≤ 100) (hk : k ≤ t) (ht : t ≤ 1000) :
    (if w64 (w64 (w64 ((t : Int) - k) + 1) * A) < if w64 (v + w64 (k * A)) < S then w64 (v + w64 (k * A)) else S then w64 (w64 (w64 ((t : Int) - k) + 1) * A) else if w64 (v + w64 (k * A)) < S then w64 (v + w64 (k * A)) else S) = mT S A v t k := by
  have h1 := kA (k := k) (by omega) hA hA2
  have h2 := mul_range (a := (t : Int) - k + 1) (b := A) (A := 1001) (B := 100) (by omega) (by omega) hA hA2
  rw [w64_eq (n := (t : Int) - k) (by omega) (by omega), w64_eq (n := (t : Int) - k + 1) (by omega) (by omega), w64_eq (n := ((t : Int) - k + 1) * A) (by omega) (by omega), w64_eq (n := (k : Int) * A) (by omega) (by omega), w64_eq (n := v + k * A) (by omega) (by omega), ifmin]
  rfl
theorem term_w' {S A v : Int} {t k : Nat} (hA : 0 ≤ A) (hA2 : A ≤ 100) (hv : 0 ≤ v) (hv2 : v ≤ 100) (hk : k ≤ t) (ht : t ≤ 1000) :
    (if w64 (A * w64 (w64 ((t : Int) + 1) - k)) < if w64 (v + w64 (A * k)) < S then w64 (v + w64 (A * k)) else S then w64 (A * w64 (w64 ((t : Int) + 1) - k)) else if w64 (v + w64 (A * k)) < S then w64 (v + w64 (A * k)) else S) = mT S A v t k := by
  have h1 := kA (k := k) (by omega) hA hA2
  have h2 := mul_range (a := (t : Int) - k + 1) (b := A) (A := 1001) (B := 100) (by omega) (by omega) hA hA2
  rw [w64_eq (n := (t : Int) + 1) (by omega) (by omega), w64_eq (n := (t : Int) + 1 - k) (by omega) (by omega), Int.mul_comm A k, Int.mul_comm A, show (t : Int) + 1 - k = (t : Int) - k + 1 by omega, w64_eq (n := ((t : Int) - k + 1) * A) (by omega) (by omega), w64_eq (n := (k : Int) * A) (by omega) (by omega), w64_eq (n := v + k * A) (by omega) (by omega), ifmin]
  rfl
theorem lterm_w {A v : Int} {k : Nat} (hA : 0 ≤ A) (hA2 : A ≤ 100) (hv : 0 ≤ v) (hv2 : v ≤ 100) (hk : k ≤ 1000) :
    (if w64 (v - w64 (k * A)) > 0 then w64 (v - w64 (k * A)) else 0) = lT A v k := by
  have h1 := kA (k := k) (by omega) hA hA2
  rw [w64_eq (n := (k : Int) * A) (by omega) (by omega), w64_eq (n := v - k * A) (by omega) (by omega), max0_if]
  rfl

/-- Speed and acceleration of a valid lift. -/
structure SA (S A : Int) : Prop where
  S1 : 1 ≤ S
  S2 : S ≤ 100
  A1 : 1 ≤ A
  A2 : A ≤ 100
theorem VL.sa {l : api_Lift} (h : VL l) : SA l.Speed l.Accel := ⟨h.s1, h.s2, h.a1, h.a2⟩

theorem sum_m {S A v : Int} (h : SA S A) (hv : 0 ≤ v) {t k : Nat} (hk : k ≤ t) (ht : t ≤ 1000) : 0 ≤ sumTo (mT S A v t) k ∧ sumTo (mT S A v t) k ≤ 100000 := by
  have h1 := h.S1
  have h2 := h.A1
  have := sumTo_bounds (g := mT S A v t) (B := S) (n := k) (fun j _ hj => mT_bounds (by omega) (by omega) hv (by omega))
  have h3 := mul_range (a := (k : Int)) (b := S) (A := 1000) (B := 100) (by omega) (by omega) (by omega) h.S2
  omega
theorem sum_l {A v : Int} (hA : 0 ≤ A) (hv : v ≤ 100) {k : Nat} (hk : k ≤ 1000) : 0 ≤ leastS A v k ∧ leastS A v k ≤ 100000 := by
  have := least_bounds (A := A) (v := v) (B := 100) hA hv (by omega) k
  omega

theorem most_l3_eq (N : Nat) {l : api_Lift} (h : SA l.Speed l.Accel) {v : Int} (hv : 0 ≤ v) (hv2 : v ≤ 100) {t : Nat} (ht : t ≤ 1000) (k0 : Int → Option R) : ∀ (r k n : Nat), k + r = t → r < n →
    lift_most_l3 N n v (t : Int) (sumTo (mT l.Speed l.Accel v t) k) ((k + 1 : Nat) : Int) l k0 = k0 (mostS l.Speed l.Accel v t) := by
  obtain ⟨S1, S2, A1, A2⟩ := id h
  intro r
  induction r with
  | zero =>
    intro k n h1 h2
    obtain ⟨n, rfl⟩ : ∃ m, n = m + 1 := ⟨n - 1, by omega⟩
    unfold lift_most_l3 lift_most_b3
    have e1 : decide (((k + 1 : Nat) : Int) ≤ (t : Int)) = false := by simp; omega
    simp only [e1, cond_false]
    have : k = t := by omega
    rw [this]; rfl
  | succ r ih =>
    intro k n h1 h2
    obtain ⟨n, rfl⟩ : ∃ m, n = m + 1 := ⟨n - 1, by omega⟩
    unfold lift_most_l3 lift_most_b3
    have e1 : decide (((k + 1 : Nat) : Int) ≤ (t : Int)) = true := by simp; omega
    have hs := sum_m h hv (t := t) (k := k + 1) (by omega) ht
    have e2 : sumTo (mT l.Speed l.Accel v t) (k + 1) = sumTo (mT l.Speed l.Accel v t) k + mT l.Speed l.Accel v t (k + 1) := rfl
    rw [e2] at hs
    simp only [e1, cond_true, term_w (S := l.Speed) (A := l.Accel) (v := v) (t := t) (k := k + 1) (by omega) A2 hv hv2 (by omega) ht, w64_succ (show k + 1 < 1000000000000 by omega)]
    rw [w64_eq (by omega) (by omega), ← e2]
    exact ih (k + 1) n (by omega) (by omega)

theorem most_eq {N : Nat} (hN : 1001 ≤ N) {l : api_Lift} (h : SA l.Speed l.Accel) {v : Int} (hv : 0 ≤ v) (hv2 : v ≤ 100) {t : Nat} (ht : t ≤ 1000) (k : Int → Option R) : lift_most N l v (t : Int) k = k (mostS l.Speed l.Accel v t) := by
  rw [lift_most_def]
  unfold lift_most_m
  exact most_l3_eq N h hv hv2 ht (fun r => k r) t 0 N (by omega) (by omega)

theorem reach_l3_eq (N : Nat) {l : api_Lift} (h : SA l.Speed l.Accel) {t : Nat} (ht : t ≤ 1000) (k0 : Int → Option R) : ∀ (r k n : Nat), k + r = t → r < n →
    newelref05_reach_l3 N n (t : Int) (sumTo (mT l.Speed l.Accel 0 t) k) ((k + 1 : Nat) : Int) l k0 = k0 (mostS l.Speed l.Accel 0 t) := by
  obtain ⟨S1, S2, A1, A2⟩ := id h
  intro r
  induction r with
  | zero =>
    intro k n h1 h2
    obtain ⟨n, rfl⟩ : ∃ m, n = m + 1 := ⟨n - 1, by omega⟩
    unfold newelref05_reach_l3 newelref05_reach_b3
    have e1 : decide (((k + 1 : Nat) : Int) ≤ (t : Int)) = false := by simp; omega
    simp only [e1, cond_false]
    have : k = t := by omega
    rw [this]; rfl
  | succ r ih =>
    intro k n h1 h2
    obtain ⟨n, rfl⟩ : ∃ m, n = m + 1 := ⟨n - 1, by omega⟩
    unfold newelref05_reach_l3 newelref05_reach_b3
    have e1 : decide (((k + 1 : Nat) : Int) ≤ (t : Int)) = true := by simp; omega
    have hs := sum_m h (Int.le_refl 0) (t := t) (k := k + 1) (by omega) ht
    have e2 : sumTo (mT l.Speed l.Accel 0 t) (k + 1) = sumTo (mT l.Speed l.Accel 0 t) k + mT l.Speed l.Accel 0 t (k + 1) := rfl
    rw [e2] at hs
    have e3 := term_w' (S := l.Speed) (A := l.Accel) (v := 0) (t := t) (k := k + 1) (by omega) A2 (by omega) (by omega) (by omega) ht
    have hk := kA (k := k + 1) (by omega) (show 0 ≤ l.Accel by omega) A2
    have e4 : w64 (0 + w64 (l.Accel * ((k + 1 : Nat) : Int))) = w64 (l.Accel * ((k + 1 : Nat) : Int)) := by
      rw [Int.mul_comm, w64_eq (n := ((k + 1 : Nat) : Int) * l.Accel) (by omega) (by omega), w64_eq (by omega) (by omega)]; omega
    rw [e4] at e3
    simp only [e1, cond_true, e3, w64_succ (show k + 1 < 1000000000000 by omega)]
    rw [w64_eq (by omega) (by omega), ← e2]
    exact ih (k + 1) n (by omega) (by omega)

theorem reach_eq {N : Nat} (hN : 1001 ≤ N) {l : api_Lift} (h : SA l.Speed l.Accel) {t : Nat} (ht : t ≤ 1000) (k : Int → Option R) : newelref05_reach N l (t : Int) k = k (mostS l.Speed l.Accel 0 t) := by
  rw [newelref05_reach_def]
  unfold newelref05_reach_m
  exact reach_l3_eq N h ht (fun r => k r) t 0 N (by omega) (by omega)

theorem least_l3_eq (N : Nat) {l : api_Lift} (h : SA l.Speed l.Accel) {v : Int} (hv : 0 ≤ v) (hv2 : v ≤ 100) {t : Nat} (ht : t ≤ 1000) (k0 : Int → Option R) : ∀ (r k n : Nat), k + r = t → r < n →
    lift_least_l3 N n v (t : Int) (leastS l.Accel v k) ((k + 1 : Nat) : Int) l k0 = k0 (leastS l.Accel v t) := by
  obtain ⟨S1, S2, A1, A2⟩ := id h
  intro r
  induction r with
  | zero =>
    intro k n h1 h2
    obtain ⟨n, rfl⟩ : ∃ m, n = m + 1 := ⟨n - 1, by omega⟩
    unfold lift_least_l3 lift_least_b3
    have e1 : decide (((k + 1 : Nat) : Int) ≤ (t : Int)) = false := by simp; omega
    simp only [e1, cond_false]
    have : k = t := by omega
    rw [this]
  | succ r ih =>
    intro k n h1 h2
    obtain ⟨n, rfl⟩ : ∃ m, n = m + 1 := ⟨n - 1, by omega⟩
    unfold lift_least_l3 lift_least_b3
    have e1 : decide (((k + 1 : Nat) : Int) ≤ (t : Int)) = true := by simp; omega
    have hs := sum_l (A := l.Accel) (v := v) (by omega) hv2 (k := k + 1) (by omega)
    have e2 : leastS l.Accel v (k + 1) = leastS l.Accel v k + lT l.Accel v (k + 1) := rfl
    rw [e2] at hs
    simp only [e1, cond_true, lterm_w (A := l.Accel) (v := v) (k := k + 1) (by omega) A2 hv hv2 (by omega), w64_succ (show k + 1 < 1000000000000 by omega)]
    rw [w64_eq (by omega) (by omega), ← e2]
    exact ih (k + 1) n (by omega) (by omega)

theorem least_eq {N : Nat} (hN : 1001 ≤ N) {l : api_Lift} (h : SA l.Speed l.Accel) {v : Int} (hv : 0 ≤ v) (hv2 : v ≤ 100) {t : Nat} (ht : t ≤ 1000) (k : Int → Option R) : lift_least N l v (t : Int) k = k (leastS l.Accel v t) := by
  rw [lift_least_def]
  unfold lift_least_m
  exact least_l3_eq N h hv hv2 ht (fun r => k r) t 0 N (by omega) (by omega)

theorem rest_l4_eq (N : Nat) {l : api_Lift} (h : SA l.Speed l.Accel) {v : Int} (hv : 0 ≤ v) (hv2 : v ≤ 100) {t : Nat} (ht : t ≤ 1000) (k0 : Int → Int → Option R) : ∀ (r k n : Nat), k + r = t → r < n →
    newelref05_rest_l4 N n v (t : Int) (leastS l.Accel v k) (sumTo (mT l.Speed l.Accel v t) k) ((k + 1 : Nat) : Int) l k0 = k0 (leastS l.Accel v t) (mostS l.Speed l.Accel v t) := by
  obtain ⟨S1, S2, A1, A2⟩ := id h
  intro r
  induction r with
  | zero =>
    intro k n h1 h2
    obtain ⟨n, rfl⟩ : ∃ m, n = m + 1 := ⟨n - 1, by omega⟩
    unfold newelref05_rest_l4 newelref05_rest_b4
    have e1 : decide (((k + 1 : Nat) : Int) ≤ (t : Int)) = false := by simp; omega
    simp only [e1, cond_false]
    have : k = t := by omega
    rw [this]; rfl
  | succ r ih =>
    intro k n h1 h2
    obtain ⟨n, rfl⟩ : ∃ m, n = m + 1 := ⟨n - 1, by omega⟩
    unfold newelref05_rest_l4 newelref05_rest_b4
    have e1 : decide (((k + 1 : Nat) : Int) ≤ (t : Int)) = true := by simp; omega
    have hs := sum_l (A := l.Accel) (v := v) (by omega) hv2 (k := k + 1) (by omega)
    have e2 : leastS l.Accel v (k + 1) = leastS l.Accel v k + lT l.Accel v (k + 1) := rfl
    rw [e2] at hs
    have hs' := sum_m h hv (t := t) (k := k + 1) (by omega) ht
    have e2' : sumTo (mT l.Speed l.Accel v t) (k + 1) = sumTo (mT l.Speed l.Accel v t) k + mT l.Speed l.Accel v t (k + 1) := rfl
    rw [e2'] at hs'
    have e3 := term_w' (S := l.Speed) (A := l.Accel) (v := v) (t := t) (k := k + 1) (by omega) A2 (by omega) (by omega) (by omega) ht
    have e4 := lterm_w (A := l.Accel) (v := v) (k := k + 1) (by omega) A2 hv hv2 (by omega)
    rw [Int.mul_comm] at e4
    simp only [e1, cond_true, e3, e4, w64_succ (show k + 1 < 1000000000000 by omega)]
    rw [w64_eq (n := leastS l.Accel v k + _) (by omega) (by omega), w64_eq (by omega) (by omega), ← e2, ← e2']
    exact ih (k + 1) n (by omega) (by omega)

theorem rest_eq {N : Nat} (hN : 1001 ≤ N) {l : api_Lift} (h : SA l.Speed l.Accel) {v : Int} (hv : 0 ≤ v) (hv2 : v ≤ 100) {t : Nat} (ht : t ≤ 1000) (k : Int → Int → Bool → Option R) : newelref05_rest N l v (t : Int) k = if v > ((t : Int) + 1) * l.Accel then k 0 0 false else k (leastS l.Accel v t) (mostS l.Speed l.Accel v t) true := by
  obtain ⟨S1, S2, A1, A2⟩ := id h
  rw [newelref05_rest_def]
  unfold newelref05_rest_m
  have hk := mul_range (a := (t : Int) + 1) (b := l.Accel) (A := 1001) (B := 100) (by omega) (by omega) (by omega) A2
  rw [w64_eq (n := (t : Int) + 1) (by omega) (by omega), Int.mul_comm, w64_eq (by omega) (by omega)]
  by_cases hc : v > ((t : Int) + 1) * l.Accel
  · simp only [hc, decide_true, cond_true, if_true]
  · simp only [hc, decide_false, cond_false, if_false]
    exact rest_l4_eq N h hv hv2 ht (fun r q => k r q true) t 0 N (by omega) (by omega)

/-! ### The number of ticks -/

theorem trip_l2_eq {N : Nat} (hN : 1001 ≤ N) {l : api_Lift} (h : SA l.Speed l.Accel) {way : Int} (k0 : Int → Option R) : ∀ (r t n : Nat), way ≤ (t + r : Nat) → t + r ≤ 1000 → r < n →
    lift_trip_l2 N n way (t : Int) l k0 = k0 (firstT l.Speed l.Accel way r t : Nat) := by
  intro r
  induction r with
  | zero =>
    intro t n h1 h2 h3
    obtain ⟨n, rfl⟩ : ∃ m, n = m + 1 := ⟨n - 1, by omega⟩
    unfold lift_trip_l2 lift_trip_b2
    rw [most_eq hN h (by omega) (by omega) (by omega)]
    have := most_ge h.S1 h.A1 t
    have e : decide (mostS l.Speed l.Accel 0 t < way) = false := by simp; omega
    simp only [e, cond_false, firstT]
  | succ r ih =>
    intro t n h1 h2 h3
    obtain ⟨n, rfl⟩ : ∃ m, n = m + 1 := ⟨n - 1, by omega⟩
    unfold lift_trip_l2 lift_trip_b2
    rw [most_eq hN h (by omega) (by omega) (by omega)]
    simp only [firstT]
    by_cases hc : mostS l.Speed l.Accel 0 t < way
    · simp only [hc, decide_true, cond_true, if_true, w64_succ (show t < 1000000000000 by omega)]
      exact ih (t + 1) n (by omega) (by omega) (by omega)
    · simp only [hc, decide_false, cond_false, if_false]

theorem refTrip_l7_eq {N : Nat} (hN : 1001 ≤ N) {l : api_Lift} (h : SA l.Speed l.Accel) {way : Int} (k0 : Int → Option R) : ∀ (r t n : Nat), way ≤ (t + r : Nat) → t + r ≤ 1000 → r < n →
    newelref05_Trip_l7 N n way (t : Int) l k0 = k0 (firstT l.Speed l.Accel way r t : Nat) := by
  intro r
  induction r with
  | zero =>
    intro t n h1 h2 h3
    obtain ⟨n, rfl⟩ : ∃ m, n = m + 1 := ⟨n - 1, by omega⟩
    unfold newelref05_Trip_l7 newelref05_Trip_b7
    rw [reach_eq hN h (by omega)]
    have := most_ge h.S1 h.A1 t
    have e : decide (mostS l.Speed l.Accel 0 t < way) = false := by simp; omega
    simp only [e, cond_false, firstT]
  | succ r ih =>
    intro t n h1 h2 h3
    obtain ⟨n, rfl⟩ : ∃ m, n = m + 1 := ⟨n - 1, by omega⟩
    unfold newelref05_Trip_l7 newelref05_Trip_b7
    rw [reach_eq hN h (by omega)]
    simp only [firstT]
    by_cases hc : mostS l.Speed l.Accel 0 t < way
    · simp only [hc, decide_true, cond_true, if_true, w64_succ (show t < 1000000000000 by omega)]
      exact ih (t + 1) n (by omega) (by omega) (by omega)
    · simp only [hc, decide_false, cond_false, if_false]

end
end Go.Proofs.Ytceeaimmelaenaa
