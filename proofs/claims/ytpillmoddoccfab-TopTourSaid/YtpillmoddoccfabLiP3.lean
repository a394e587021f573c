/-
  Lift: sums, most, least, the trip as plain functions.
-/
import Derived.Test.YtpillmoddoccfabLiP1
import Derived.Test.YtpillmoddoccfabSxMath
set_option linter.unusedVariables false
set_option linter.unusedSimpArgs false
namespace Go.Proofs.Ytpillmoddoccfab
namespace Li
open Go.Sx

/-- The sum of g 1 .. g n. -/
def sumTo (g : Nat → Int) : Nat → Int
  | 0 => 0
  | n + 1 => sumTo g n + g (n + 1)

theorem sumTo_congr {g g' : Nat → Int} : ∀ {n : Nat}, (∀ k, 1 ≤ k → k ≤ n → g k = g' k) → sumTo g n = sumTo g' n
  | 0, _ => rfl
  | n + 1, h => by simp only [sumTo]; rw [sumTo_congr (fun k h1 h2 => h k h1 (by omega)), h (n + 1) (by omega) (by omega)]
theorem sumTo_le {g g' : Nat → Int} : ∀ {n : Nat}, (∀ k, 1 ≤ k → k ≤ n → g k ≤ g' k) → sumTo g n ≤ sumTo g' n
  | 0, _ => Int.le_refl _
  | n + 1, h => by
    simp only [sumTo]
    have := sumTo_le (n := n) (fun k h1 h2 => h k h1 (by omega))
    have := h (n + 1) (by omega) (by omega)
    omega
theorem sumTo_first (g : Nat → Int) : ∀ n : Nat, sumTo g (n + 1) = g 1 + sumTo (fun k => g (k + 1)) n
  | 0 => by simp [sumTo]
  | n + 1 => by
    rw [sumTo, sumTo_first g n, sumTo]
    omega
theorem sumTo_bounds {g : Nat → Int} {B : Int} : ∀ {n : Nat}, (∀ k, 1 ≤ k → k ≤ n → 0 ≤ g k ∧ g k ≤ B) → 0 ≤ sumTo g n ∧ sumTo g n ≤ n * B
  | 0, _ => by simp [sumTo]
  | n + 1, h => by
    have h1 := sumTo_bounds (n := n) (fun k h1 h2 => h k h1 (by omega))
    have h2 := h (n + 1) (by omega) (by omega)
    simp only [sumTo]
    have : ((n + 1 : Nat) : Int) * B = n * B + B := by rw [Int.natCast_add, Int.add_mul]; simp
    omega
theorem sumTo_nonneg {g : Nat → Int} : ∀ {n : Nat}, (∀ k, 1 ≤ k → k ≤ n → 0 ≤ g k) → 0 ≤ sumTo g n
  | 0, _ => by simp [sumTo]
  | n + 1, h => by
    have h1 := sumTo_nonneg (n := n) (fun k h1 h2 => h k h1 (by omega))
    have h2 := h (n + 1) (by omega) (by omega)
    simp only [sumTo]
    omega

/-- One term of the greatest way. -/
def mT (S A v : Int) (t k : Nat) : Int := min (min S (v + k * A)) (((t : Int) - k + 1) * A)
def mostS (S A v : Int) (t : Nat) : Int := sumTo (mT S A v t) t
def lT (A v : Int) (k : Nat) : Int := max 0 (v - k * A)
def leastS (A v : Int) (t : Nat) : Int := sumTo (lT A v) t
/-- The greatest speed of the first of so many ticks. -/
def topV (S A v : Int) (t : Nat) : Int := min (min S (v + A)) (((t : Int) + 1) * A)

theorem mul_mono {a b A : Int} (h : a ≤ b) (hA : 0 ≤ A) : a * A ≤ b * A := Int.mul_le_mul_of_nonneg_right h hA

theorem mT_bounds {S A v : Int} (hS : 0 ≤ S) (hA : 0 ≤ A) (hv : 0 ≤ v) {t k : Nat} (hk : k ≤ t) : 0 ≤ mT S A v t k ∧ mT S A v t k ≤ S := by
  unfold mT
  have h1 : 0 ≤ (k : Int) * A := Int.mul_nonneg (by omega) hA
  have h2 : 0 ≤ ((t : Int) - k + 1) * A := Int.mul_nonneg (by omega) hA
  omega

theorem most_bounds {S A v : Int} (hS : 0 ≤ S) (hA : 0 ≤ A) (hv : 0 ≤ v) (t : Nat) : 0 ≤ mostS S A v t ∧ mostS S A v t ≤ t * S :=
  sumTo_bounds fun k _ h => mT_bounds hS hA hv h

theorem most_succ {S A v : Int} (hS : 0 ≤ S) (hA : 0 ≤ A) (t : Nat) : mostS S A v (t + 1) = topV S A v t + mostS S A (topV S A v t) t := by
  unfold mostS
  rw [sumTo_first]
  have e1 : mT S A v (t + 1) 1 = topV S A v t := by
    unfold mT topV
    rw [show ((t + 1 : Nat) : Int) - ((1 : Nat) : Int) + 1 = (t : Int) + 1 by omega]
    simp
  rw [e1]
  congr 1
  apply sumTo_congr
  intro k h1 h2
  unfold mT topV
  have a1 : (((k + 1 : Nat) : Int)) * A = k * A + A := by rw [Int.natCast_add, Int.add_mul]; simp
  have a2 : ((t + 1 : Nat) : Int) - ((k + 1 : Nat) : Int) + 1 = (t : Int) - k + 1 := by omega
  have a3 : ((t : Int) - k + 1) * A ≤ ((t : Int) + 1) * A := mul_mono (by omega) hA
  have a4 : 0 ≤ (k : Int) * A := Int.mul_nonneg (by omega) hA
  rw [a1, a2]
  omega

theorem least_succ {A v : Int} (hA : 0 ≤ A) (t : Nat) : leastS A v (t + 1) = max 0 (v - A) + leastS A (max 0 (v - A)) t := by
  unfold leastS
  rw [sumTo_first]
  have e1 : lT A v 1 = max 0 (v - A) := by unfold lT; simp
  rw [e1]
  congr 1
  apply sumTo_congr
  intro k h1 h2
  unfold lT
  have a1 : (((k + 1 : Nat) : Int)) * A = k * A + A := by rw [Int.natCast_add, Int.add_mul]; simp
  have a4 : 0 ≤ (k : Int) * A := Int.mul_nonneg (by omega) hA
  rw [a1]
  omega

theorem least_mono {A v w : Int} (h : v ≤ w) (t : Nat) : leastS A v t ≤ leastS A w t :=
  sumTo_le fun k _ _ => by unfold lT; omega

theorem least_nonneg (A v : Int) (t : Nat) : 0 ≤ leastS A v t := sumTo_nonneg fun k _ _ => by unfold lT; omega
theorem least_zero {A v : Int} (hA : 0 ≤ A) (hv : v ≤ 0) (t : Nat) : leastS A v t = 0 := by
  have : leastS A v t = sumTo (fun _ => 0) t := by
    apply sumTo_congr
    intro k _ _
    unfold lT
    have a4 : 0 ≤ (k : Int) * A := Int.mul_nonneg (by omega) hA
    omega
  rw [this]
  clear this
  induction t with
  | zero => rfl
  | succ t ih => simp [sumTo, ih]
theorem least_bounds {A v B : Int} (hA : 0 ≤ A) (hv : v ≤ B) (hB : 0 ≤ B) (t : Nat) : 0 ≤ leastS A v t ∧ leastS A v t ≤ t * B :=
  sumTo_bounds fun k _ _ => by
    unfold lT
    have a4 : 0 ≤ (k : Int) * A := Int.mul_nonneg (by omega) hA
    omega

theorem least_most {S A v : Int} (hA : 1 ≤ A) (hv : 0 ≤ v) (t : Nat) (h1 : v + 1 ≤ S) (h2 : v + 1 ≤ ((t : Int) + 1) * A) : leastS A (v + 1) t ≤ mostS S A v t :=
  sumTo_le fun k k1 k2 => by
    unfold lT mT
    have a0 : (k : Int) * 1 ≤ (k : Int) * A := Int.mul_le_mul_of_nonneg_left hA (by omega)
    have a2 : 0 ≤ ((t : Int) - k + 1) * A := Int.mul_nonneg (by omega) (by omega)
    have a3 : ((t : Int) - k + 1) * A = ((t : Int) + 1) * A - k * A := by
      rw [show (t : Int) - k + 1 = ((t : Int) + 1) - k by omega, Int.sub_mul]
    omega

/-- The greatest speed up to one that does not lead too far. -/
def pick (A way : Int) (t : Nat) : Nat → Int
  | 0 => 0
  | n + 1 => if ((n + 1 : Nat) : Int) + leastS A ((n + 1 : Nat) : Int) t > way then pick A way t n else ((n + 1 : Nat) : Int)

theorem pick_spec {A way : Int} (hA : 0 ≤ A) (hw : 0 ≤ way) (t : Nat) : ∀ m : Nat, 0 ≤ pick A way t m ∧ pick A way t m ≤ m ∧ pick A way t m + leastS A (pick A way t m) t ≤ way ∧ (pick A way t m < m → pick A way t m + 1 + leastS A (pick A way t m + 1) t > way) := by
  intro m
  induction m with
  | zero => simp only [pick]; rw [least_zero hA (Int.le_refl _)]; simp [hw]
  | succ m ih =>
    simp only [pick]
    split
    · rename_i h
      obtain ⟨h1, h2, h3, h4⟩ := ih
      refine ⟨h1, by omega, h3, fun h5 => ?_⟩
      by_cases h6 : pick A way t m < m
      · exact h4 h6
      · have : pick A way t m + 1 = ((m + 1 : Nat) : Int) := by omega
        rw [this]; omega
    · rename_i h
      refine ⟨by omega, by omega, by omega, fun h5 => by omega⟩

/-- All that can still be done: a speed, a number of ticks, and a way. -/
structure Can (S A v : Int) (t : Nat) (way : Int) : Prop where
  S1 : 1 ≤ S
  S2 : S ≤ 100
  A1 : 1 ≤ A
  A2 : A ≤ 100
  v1 : 0 ≤ v
  v2 : v ≤ S
  va : v ≤ ((t : Int) + 1) * A
  lo : leastS A v t ≤ way
  hi : way ≤ mostS S A v t

def pickV (S A v : Int) (t : Nat) (way : Int) : Int := pick A way t (topV S A v t).toNat

theorem topV_nonneg {S A v : Int} (hS : 1 ≤ S) (hA : 1 ≤ A) (hv : 0 ≤ v) (t : Nat) : 1 ≤ topV S A v t := by
  unfold topV
  have : 1 * A ≤ ((t : Int) + 1) * A := mul_mono (by omega) (by omega)
  omega

/-- The next speed, and all that is known of it. -/
structure Next (S A v : Int) (t : Nat) (way w : Int) : Prop where
  w1 : 0 ≤ w
  w2 : w ≤ topV S A v t
  lo : v - A ≤ w
  ok : w + leastS A w t ≤ way
  top : w < topV S A v t → w + 1 + leastS A (w + 1) t > way
  can : Can S A w t (way - w)

theorem Can.next {S A v way : Int} {t : Nat} (h : Can S A v (t + 1) way) : Next S A v t way (pickV S A v t way) := by
  obtain ⟨S1, S2, A1, A2, v1, v2, va, lo, hi⟩ := h
  have hw : 0 ≤ way := by have := least_nonneg A v (t + 1); omega
  have ht := topV_nonneg S1 A1 v1 t
  have hp := pick_spec (A := A) (way := way) (by omega) hw t (topV S A v t).toNat
  have hc : (((topV S A v t).toNat : Nat) : Int) = topV S A v t := by omega
  rw [hc] at hp
  change 0 ≤ pickV S A v t way ∧ pickV S A v t way ≤ topV S A v t ∧ pickV S A v t way + leastS A (pickV S A v t way) t ≤ way ∧ (pickV S A v t way < topV S A v t → pickV S A v t way + 1 + leastS A (pickV S A v t way + 1) t > way) at hp
  generalize pickV S A v t way = w at hp ⊢
  obtain ⟨p1, p2, p3, p4⟩ := hp
  have hT : topV S A v t ≤ S ∧ topV S A v t ≤ v + A ∧ topV S A v t ≤ ((t : Int) + 1) * A := by unfold topV; omega
  have hlo : v - A ≤ w := by
    by_cases hlt : w < v - A
    · have h1 := p4 (by
        have : v - A ≤ topV S A v t := by
          unfold topV
          have : ((t + 1 : Nat) : Int) + 1 = ((t : Int) + 1) + 1 := by omega
          rw [this, Int.add_mul] at va
          omega
        omega)
      have h2 := least_succ (A := A) (v := v) (by omega) t
      have h3 := least_mono (A := A) (show w + 1 ≤ max 0 (v - A) by omega) t
      omega
    · omega
  refine ⟨p1, p2, hlo, p3, p4, ⟨S1, S2, A1, A2, p1, by omega, by omega, by omega, ?_⟩⟩
  rw [most_succ (by omega) (by omega)] at hi
  by_cases hlt : w < topV S A v t
  · have h1 := p4 hlt
    have h2 := least_most (S := S) (A := A) (v := w) A1 p1 t (by omega) (by omega)
    omega
  · have : w = topV S A v t := by omega
    rw [this]
    omega

/-- The states of a trip: the way that is left, and the last speed, behind so many of n ticks. -/
def tripS (S A way : Int) (n : Nat) : Nat → Int × Int
  | 0 => (way, 0)
  | i + 1 => ((tripS S A way n i).1 - pickV S A (tripS S A way n i).2 (n - 1 - i) (tripS S A way n i).1, pickV S A (tripS S A way n i).2 (n - 1 - i) (tripS S A way n i).1)
def tripE (S A way : Int) (n : Nat) (i : Nat) : Int := (tripS S A way n (i + 1)).2

theorem can0 {S A way : Int} (S1 : 1 ≤ S) (S2 : S ≤ 100) (A1 : 1 ≤ A) (A2 : A ≤ 100) (hw : 0 ≤ way) {n : Nat} (h : way ≤ mostS S A 0 n) : Can S A 0 n way :=
  ⟨S1, S2, A1, A2, by omega, by omega, Int.mul_nonneg (by omega) (by omega), by rw [least_zero (by omega) (by omega)]; exact hw, h⟩

theorem trip_can {S A way : Int} {n : Nat} (h : Can S A 0 n way) : ∀ i, i ≤ n → Can S A (tripS S A way n i).2 (n - i) (tripS S A way n i).1 := by
  intro i
  induction i with
  | zero => intro _; exact h
  | succ i ih =>
    intro hi
    have h1 := ih (by omega)
    rw [show n - i = (n - 1 - i) + 1 by omega] at h1
    rw [show n - (i + 1) = n - 1 - i by omega]
    exact h1.next.can

theorem trip_next {S A way : Int} {n : Nat} (h : Can S A 0 n way) {i : Nat} (hi : i < n) : Next S A (tripS S A way n i).2 (n - 1 - i) (tripS S A way n i).1 (tripE S A way n i) := by
  have h1 := trip_can h i (by omega)
  rw [show n - i = (n - 1 - i) + 1 by omega] at h1
  exact h1.next

/-- The first number of ticks from t on, at most r more, that reaches so far. -/
def firstT (S A way : Int) : Nat → Nat → Nat
  | 0, t => t
  | r + 1, t => if mostS S A 0 t < way then firstT S A way r (t + 1) else t
def ticksS (S A way : Int) : Nat := firstT S A way way.toNat 0

theorem most_ge {S A : Int} (hS : 1 ≤ S) (hA : 1 ≤ A) (t : Nat) : (t : Int) ≤ mostS S A 0 t := by
  have h : ∀ n : Nat, (n : Int) = sumTo (fun _ => 1) n := by
    intro n
    induction n with
    | zero => rfl
    | succ n ih => simp only [sumTo]; omega
  rw [h t]
  apply sumTo_le
  intro k h1 h2
  unfold mT
  have a1 : (k : Int) * 1 ≤ (k : Int) * A := Int.mul_le_mul_of_nonneg_left hA (by omega)
  have a2 : ((t : Int) - k + 1) * 1 ≤ ((t : Int) - k + 1) * A := Int.mul_le_mul_of_nonneg_left hA (by omega)
  omega

theorem firstT_spec {S A way : Int} (hS : 1 ≤ S) (hA : 1 ≤ A) : ∀ (r t : Nat), way ≤ (t + r : Nat) → (t : Int) ≤ firstT S A way r t ∧ firstT S A way r t ≤ t + r ∧ way ≤ mostS S A 0 (firstT S A way r t) ∧ ∀ j, t ≤ j → j < firstT S A way r t → mostS S A 0 j < way := by
  intro r
  induction r with
  | zero =>
    intro t h
    simp only [firstT]
    have := most_ge hS hA t
    exact ⟨by omega, by omega, by omega, fun j h1 h2 => by omega⟩
  | succ r ih =>
    intro t h
    simp only [firstT]
    split
    · rename_i hc
      obtain ⟨h1, h2, h3, h4⟩ := ih (t + 1) (by omega)
      refine ⟨by omega, by omega, h3, fun j h5 h6 => ?_⟩
      by_cases e : j = t
      · subst e; exact hc
      · exact h4 j (by omega) h6
    · rename_i hc
      exact ⟨by omega, by omega, by omega, fun j h1 h2 => by omega⟩

theorem ticks_spec {S A way : Int} (hS : 1 ≤ S) (hA : 1 ≤ A) (hw : 0 ≤ way) : (ticksS S A way : Int) ≤ way ∧ way ≤ mostS S A 0 (ticksS S A way) ∧ ∀ j, j < ticksS S A way → mostS S A 0 j < way := by
  obtain ⟨h1, h2, h3, h4⟩ := firstT_spec (S := S) (A := A) (way := way) hS hA way.toNat 0 (by omega)
  unfold ticksS
  exact ⟨by omega, h3, fun j hj => h4 j (by omega) hj⟩

/-! ### Reach grows by at most S -/
theorem most_mono1 {S A : Int} (hS : 0 ≤ S) (hA : 0 ≤ A) (t : Nat) : mostS S A 0 t ≤ mostS S A 0 (t + 1) := by
  unfold mostS
  simp only [sumTo]
  have h1 : sumTo (mT S A 0 t) t ≤ sumTo (mT S A 0 (t + 1)) t := sumTo_le fun k h1 h2 => by
    unfold mT
    have : ((t : Int) - k + 1) * A ≤ (((t + 1 : Nat) : Int) - k + 1) * A := mul_mono (by omega) hA
    omega
  have h2 := mT_bounds hS hA (Int.le_refl 0) (Nat.le_refl (t + 1))
  omega
theorem most_mono {S A : Int} (hS : 0 ≤ S) (hA : 0 ≤ A) : ∀ (d t : Nat), mostS S A 0 t ≤ mostS S A 0 (t + d) := by
  intro d
  induction d with
  | zero => intro t; simp
  | succ d ih => intro t; have := ih t; have := most_mono1 hS hA (t + d); rw [show t + (d + 1) = t + d + 1 by omega]; omega

theorem most_grow {S A : Int} (hS : 0 ≤ S) (hA : 0 ≤ A) (t : Nat) : mostS S A 0 (t + 1) ≤ mostS S A 0 t + S := by
  have key : ∀ j : Nat, j ≤ t + 1 → sumTo (mT S A 0 (t + 1)) j ≤ (if 2 * j ≤ t + 1 then sumTo (mT S A 0 t) j else sumTo (mT S A 0 t) (j - 1) + S) := by
    intro j
    induction j with
    | zero => intro _; simp [sumTo]
    | succ j ih =>
      intro hj
      have h1 := ih (by omega)
      simp only [sumTo]
      by_cases c1 : 2 * (j + 1) ≤ t + 1
      · rw [if_pos (by omega)] at h1
        rw [if_pos c1]
        have : mT S A 0 (t + 1) (j + 1) ≤ mT S A 0 t (j + 1) := by
          unfold mT
          have : (((j + 1 : Nat) : Int)) * A ≤ ((t : Int) - ((j + 1 : Nat) : Int) + 1) * A := mul_mono (by omega) hA
          omega
        omega
      · rw [if_neg c1]
        by_cases c2 : 2 * j ≤ t + 1
        · rw [if_pos c2] at h1
          have h2 := (mT_bounds hS hA (Int.le_refl 0) (show j + 1 ≤ t + 1 by omega)).2
          rw [Nat.add_sub_cancel]
          omega
        · rw [if_neg c2] at h1
          obtain ⟨i, rfl⟩ : ∃ i, j = i + 1 := ⟨j - 1, by omega⟩
          rw [Nat.add_sub_cancel] at h1 ⊢
          have : mT S A 0 (t + 1) (i + 1 + 1) ≤ mT S A 0 t (i + 1) := by
            unfold mT
            have a1 : ((t + 1 : Nat) : Int) - ((i + 1 + 1 : Nat) : Int) + 1 = (t : Int) - ((i + 1 : Nat) : Int) + 1 := by omega
            have a2 : ((t : Int) - ((i + 1 : Nat) : Int) + 1) * A ≤ ((i + 1 : Nat) : Int) * A := mul_mono (by omega) hA
            rw [a1]
            omega
          have e : sumTo (mT S A 0 t) (i + 1) = sumTo (mT S A 0 t) i + mT S A 0 t (i + 1) := rfl
          rw [e]
          clear ih
          omega
  have h := key (t + 1) (Nat.le_refl _)
  unfold mostS
  by_cases c : 2 * (t + 1) ≤ t + 1
  · rw [if_pos c] at h; omega
  · rw [if_neg c] at h
    rw [Nat.add_sub_cancel] at h
    exact h

end Li
end Go.Proofs.Ytpillmoddoccfab
