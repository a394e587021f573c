/-
  Lift: what is a trip; trips are the greatest ways and lead just as far as they should.
-/
import Derived.Test.YtceeaimmelaenaaP7
set_option linter.unusedVariables false
set_option linter.unusedSimpArgs false
namespace Go.Proofs.Ytceeaimmelaenaa
open Go.Sx

/-- The speed of a tick; behind the last one it is 0. -/
def vAt (a : Arr Int) (i : Nat) : Int := if i < a.n then a.f i else 0
def pAt (a : Arr Int) : Nat → Int
  | 0 => 0
  | i + 1 => vAt a i
/-- From a tick on all speeds are as they should be. -/
def tripG (S A : Int) (a : Arr Int) (i : Nat) : Prop := ∀ j, i ≤ j → j ≤ a.n → (0 ≤ vAt a j ∧ vAt a j ≤ S) ∧ max (vAt a j - pAt a j) (pAt a j - vAt a j) ≤ A
def isTripP (S A : Int) (a : Arr Int) : Prop := tripG S A a 0

theorem tripG_step {S A : Int} {a : Arr Int} {i : Nat} (h1 : 0 ≤ vAt a i ∧ vAt a i ≤ S) (h2 : max (vAt a i - pAt a i) (pAt a i - vAt a i) ≤ A) : tripG S A a i ↔ tripG S A a (i + 1) := by
  constructor
  · intro h j h3 h4; exact h j (by omega) h4
  · intro h j h3 h4
    by_cases e : j = i
    · subst e; exact ⟨h1, h2⟩
    · exact h j (by omega) h4

section
variable {R : Type}
open Classical in
theorem IsTrip_l3_eq (N : Nat) {l : api_Lift} (h : SA l.Speed l.Accel) (a : Arr Int) (hn : a.n < 1000000) (kr : Bool → Option R) (k0 : Unit → Option R) : ∀ (r i n : Nat), i + r = a.n + 1 → r < n → 0 ≤ pAt a i → pAt a i ≤ 100 →
    newelref05_IsTrip_l3 N n a (pAt a i) (i : Int) l kr k0 = if tripG l.Speed l.Accel a i then k0 () else kr false := by
  have hS := h.S2
  intro r
  induction r with
  | zero =>
    intro i n h1 h2 h3 h4
    obtain ⟨n, rfl⟩ : ∃ m, n = m + 1 := ⟨n - 1, by omega⟩
    unfold newelref05_IsTrip_l3 newelref05_IsTrip_b3
    have e1 : decide ((i : Int) ≤ (a.n : Int)) = false := by simp; omega
    simp only [e1, cond_false]
    rw [if_pos]
    intro j h5 h6
    omega
  | succ r ih =>
    intro i n h1 h2 h3 h4
    obtain ⟨n, rfl⟩ : ∃ m, n = m + 1 := ⟨n - 1, by omega⟩
    unfold newelref05_IsTrip_l3 newelref05_IsTrip_b3
    have e1 : decide ((i : Int) ≤ (a.n : Int)) = true := by simp; omega
    simp only [e1, cond_true]
    have key : ∀ v : Int, vAt a i = v → newelref05_within N v (0 : Int) l.Speed (fun r647 =>
        bif !r647 then kr false
        else newelref05_apart N v (pAt a i) (fun r648 => bif decide (r648 > l.Accel) then kr false else newelref05_IsTrip_l3 N n a v (w64 ((i : Int) + 1)) l kr k0)) = if tripG l.Speed l.Accel a i then k0 () else kr false := by
      intro v hv
      rw [within_eq]
      by_cases hw : 0 ≤ v ∧ v ≤ l.Speed
      · simp only [hw, and_self, decide_true, Bool.not_true, cond_false]
        rw [apart_eq N (by omega) (by omega) (by omega) (by omega)]
        by_cases hd : max (v - pAt a i) (pAt a i - v) > l.Accel
        · simp only [hd, decide_true, cond_true]
          rw [if_neg]
          intro hg
          have := (hg i (Nat.le_refl _) (by omega)).2
          rw [hv] at this
          omega
        · simp only [hd, decide_false, cond_false, w64_succ (show i < 1000000000000 by omega)]
          have hp : pAt a (i + 1) = v := hv
          have := ih (i + 1) n (by omega) (by omega) (by omega) (by omega)
          rw [hp] at this
          rw [this]
          simp only [tripG_step (S := l.Speed) (A := l.Accel) (a := a) (i := i) (by rw [hv]; exact hw) (by rw [hv]; omega)]
      · simp only [hw, decide_false, Bool.not_false, cond_true]
        rw [if_neg]
        intro hg
        have := (hg i (Nat.le_refl _) (by omega)).1
        rw [hv] at this
        exact hw this
    by_cases hi : i < a.n
    · have e2 : decide ((i : Int) < (a.n : Int)) = true := by simp; omega
      simp only [e2, nat_nonneg, Bool.and_self, cond_true, Int.toNat_natCast]
      exact key (a.f i) (by unfold vAt; rw [if_pos hi])
    · have e2 : decide ((i : Int) < (a.n : Int)) = false := by simp; omega
      simp only [e2, cond_false]
      exact key 0 (by unfold vAt; rw [if_neg hi])

open Classical in
theorem IsTrip_eq {N : Nat} {l : api_Lift} (h : SA l.Speed l.Accel) (a : Arr Int) (hn : a.n < 1000000) (hN : a.n + 1 < N) (k : Bool → Option R) : newelref05_IsTrip N l a k = k (decide (isTripP l.Speed l.Accel a)) := by
  rw [newelref05_IsTrip_def]
  unfold newelref05_IsTrip_m
  refine Eq.trans (IsTrip_l3_eq N h a hn _ _ (a.n + 1) 0 N (by omega) hN (Int.le_refl 0) (by show (0 : Int) ≤ 100; omega)) ?_
  unfold isTripP
  by_cases hg : tripG l.Speed l.Accel a 0
  · rw [if_pos hg]; simp [hg]
  · rw [if_neg hg]; simp [hg]
end

/-- The sum of the first speeds. -/
def sumA (f : Nat → Int) (n : Nat) : Int := sumTo (fun k => f (k - 1)) n
theorem sumA_succ (f : Nat → Int) (n : Nat) : sumA f (n + 1) = sumA f n + f n := rfl

theorem trip_fwd {S A : Int} {a : Arr Int} (h : isTripP S A a) : ∀ i, i ≤ a.n → vAt a i ≤ ((i : Int) + 1) * A := by
  intro i
  induction i with
  | zero =>
    intro _
    have := (h 0 (by omega) (by omega)).2
    have e : pAt a 0 = 0 := rfl
    rw [e] at this
    rw [Int.natCast_zero, Int.zero_add, Int.one_mul]
    omega
  | succ i ih =>
    intro hi
    have h1 := ih (by omega)
    have h2 := (h (i + 1) (by omega) hi).2
    have e : pAt a (i + 1) = vAt a i := rfl
    rw [e] at h2
    have e2 : (((i + 1 : Nat) : Int) + 1) * A = ((i : Int) + 1) * A + A := by rw [Int.natCast_add, Int.add_mul ((i : Int) + _)]; simp
    omega

theorem trip_bwd {S A : Int} {a : Arr Int} (h : isTripP S A a) : ∀ d i, i + d = a.n → vAt a i ≤ (d : Int) * A := by
  intro d
  induction d with
  | zero =>
    intro i hi
    unfold vAt
    rw [if_neg (by omega)]
    simp
  | succ d ih =>
    intro i hi
    have h1 := ih (i + 1) (by omega)
    have h2 := (h (i + 1) (by omega) (by omega)).2
    have e : pAt a (i + 1) = vAt a i := rfl
    rw [e] at h2
    have e2 : ((d + 1 : Nat) : Int) * A = (d : Int) * A + A := by rw [Int.natCast_add, Int.add_mul]; simp
    omega

theorem trip_most {S A : Int} {a : Arr Int} (h : isTripP S A a) : sumA a.f a.n ≤ mostS S A 0 a.n := by
  unfold sumA mostS
  refine sumTo_le fun k k1 k2 => ?_
  have h1 := trip_fwd h (k - 1) (by omega)
  have h2 := trip_bwd h (a.n - (k - 1)) (k - 1) (by omega)
  have h3 := (h (k - 1) (by omega) (by omega)).1
  have e : vAt a (k - 1) = a.f (k - 1) := by unfold vAt; rw [if_pos (by omega)]
  rw [e] at h1 h2 h3
  unfold mT
  have e1 : ((k - 1 : Nat) : Int) + 1 = k := by omega
  have e2 : ((a.n - (k - 1) : Nat) : Int) = (a.n : Int) - k + 1 := by omega
  rw [e1] at h1
  rw [e2] at h2
  omega

theorem trip_sumB {S A : Int} {a : Arr Int} (hS : S ≤ 100) (h : isTripP S A a) : ∀ i, i ≤ a.n → 0 ≤ sumA a.f i ∧ sumA a.f i ≤ (i : Int) * 100 := by
  intro i hi
  unfold sumA
  refine sumTo_bounds fun k k1 k2 => ?_
  have h3 := (h (k - 1) (by omega) (by omega)).1
  have e : vAt a (k - 1) = a.f (k - 1) := by unfold vAt; rw [if_pos (by omega)]
  rw [e] at h3
  omega

/-! ### The trip of two floors is one -/

theorem tripS_sum (S A way : Int) (n : Nat) : ∀ i, sumA (tripE S A way n) i + (tripS S A way n i).1 = way := by
  intro i
  induction i with
  | zero => show sumA _ 0 + way = way; unfold sumA sumTo; omega
  | succ i ih =>
    rw [sumA_succ]
    show sumA (tripE S A way n) i + tripE S A way n i + ((tripS S A way n i).1 - tripE S A way n i) = way
    omega

theorem tripE_sum {S A way : Int} {n : Nat} (h : Can S A 0 n way) : sumA (tripE S A way n) n = way := by
  have h1 := tripS_sum S A way n n
  have h2 := trip_can h n (Nat.le_refl _)
  rw [Nat.sub_self] at h2
  have h3 := h2.lo
  have h4 := h2.hi
  have e1 : leastS A (tripS S A way n n).2 0 = 0 := rfl
  have e2 : mostS S A (tripS S A way n n).2 0 = 0 := rfl
  omega

theorem tripE_is {S A way : Int} {n : Nat} (h : Can S A 0 n way) {a : Arr Int} (ha : a.Is n (tripE S A way n)) : isTripP S A a := by
  have hv : ∀ i, i < n → vAt a i = tripE S A way n i := fun i hi => by unfold vAt; rw [if_pos (by rw [ha.len]; exact hi)]; exact ha.get i hi
  have hp : ∀ i, i ≤ n → pAt a i = (tripS S A way n i).2 := fun i hi => by
    cases i with
    | zero => rfl
    | succ i => exact hv i (by omega)
  intro i _ hi
  rw [ha.len] at hi
  rw [hp i hi]
  have hc := trip_can h i hi
  have c1 := hc.v1
  have c2 := hc.v2
  have c3 := hc.va
  by_cases hlt : i < n
  · rw [hv i hlt]
    have hn := trip_next h hlt
    have n1 := hn.w1
    have n2 := hn.w2
    have n3 := hn.lo
    unfold topV at n2
    omega
  · have : vAt a i = 0 := by unfold vAt; rw [if_neg (by rw [ha.len]; omega)]
    rw [this]
    have e : n - i = 0 := by omega
    rw [e] at c3
    have e2 : (((0 : Nat) : Int) + 1) * A = A := by simp
    have := hc.S1
    omega

theorem wayS_comm (l : api_Lift) (a b : Int) : wayS l a b = wayS l b a := by unfold wayS; omega
theorem floorsP_comm {l : api_Lift} {a b : Int} (h : floorsP l a b) : floorsP l b a := ⟨h.2, h.1⟩

/-- All about the trip of two floors of a valid lift. -/
theorem tripF_all {l : api_Lift} (h : VL l) {a b : Int} (hp : floorsP l a b) :
    tripErr l a b = 0 ∧ tripN l a b = ticksS l.Speed l.Accel (wayS l a b) ∧ Can l.Speed l.Accel 0 (tripN l a b) (wayS l a b) ∧ tripN l b a = tripN l a b ∧ (∀ j, j < tripN l a b → mostS l.Speed l.Accel 0 j < wayS l a b) ∧ wayS l a b ≤ mostS l.Speed l.Accel 0 (tripN l a b) := by
  have e := tripErr_zero.2 ⟨h, hp⟩
  have e' := tripErr_zero.2 ⟨h, floorsP_comm hp⟩
  have en : tripN l a b = ticksS l.Speed l.Accel (wayS l a b) := by unfold tripN; rw [if_pos e]
  have en' : tripN l b a = ticksS l.Speed l.Accel (wayS l a b) := by unfold tripN; rw [if_pos e', wayS_comm]
  have hw := way_bounds h hp
  obtain ⟨t1, t2, t3⟩ := ticks_spec h.s1 h.a1 hw.1
  refine ⟨e, en, ?_, by rw [en, en'], ?_, ?_⟩
  · rw [en]; exact can0 h.s1 h.s2 h.a1 h.a2 hw.1 t2
  · rw [en]; exact t3
  · rw [en]; exact t2

theorem way_w {l : api_Lift} (h : VL l) {a b : Int} (hp : floorsP l a b) :
    (if w64 (l.Floors.f b.toNat - l.Floors.f a.toNat) > w64 (l.Floors.f a.toNat - l.Floors.f b.toNat) then w64 (l.Floors.f b.toNat - l.Floors.f a.toNat) else w64 (l.Floors.f a.toNat - l.Floors.f b.toNat)) = wayS l a b := by
  obtain ⟨⟨a1, a2⟩, b1, b2⟩ := hp
  have h1 := h.floor (i := a.toNat) (by omega)
  have h2 := h.floor (i := b.toNat) (by omega)
  have := h.ft
  rw [w64_eq (by omega) (by omega), w64_eq (by omega) (by omega)]
  unfold wayS
  omega

theorem floor_in {l : api_Lift} {a b : Int} (hp : floorsP l a b) : (decide (0 ≤ a) && decide (a < (l.Floors.n : Int))) = true ∧ (decide (0 ≤ b) && decide (b < (l.Floors.n : Int))) = true := by
  obtain ⟨⟨a1, a2⟩, b1, b2⟩ := hp
  constructor <;> simp <;> omega

end Go.Proofs.Ytceeaimmelaenaa
