/-
  Lift: Doors.
-/
import Derived.Test.YtpillmoddoccfabLiP10
import Derived.Test.YtpillmoddoccfabSxMath
set_option linter.unusedVariables false
set_option linter.unusedSimpArgs false
namespace Go.Proofs.Ytpillmoddoccfab
namespace Li
open Go.Sx

section
variable {R : Type}

def leafOf (d : api_Door) (s : Int × Int × Int) : lift_leaf := lift_leaf.mk d s.1 s.2.1 s.2.2

theorem hold_eq (N : Nat) (d : api_Door) (a p l : Int) (k : lift_leaf → Option R) : lift_leaf_hold N (lift_leaf.mk d a p l) k = k (leafOf d (dHold d.Wait a)) := by
  rw [lift_leaf_hold_def]
  unfold lift_leaf_hold_m
  unfold leafOf dHold
  by_cases h : d.Wait = 0
  · simp [h]
  · have : (d.Wait == 0) = false := by simpa using h
    simp only [this, cond_false, h, if_false]

theorem tick_eq (N : Nat) {d : api_Door} (hd : VD d) {s : Int × Int × Int} (h : DV d.Wide d.Wait s) (b : Bool) (k : lift_leaf → Option R) : lift_leaf_tick N b (leafOf d s) k = k (leafOf d (dStep d.Wide d.Wait b s)) := by
  obtain ⟨w1, w2, t1, t2⟩ := id hd
  obtain ⟨a, p, l⟩ := s
  have z0 : ((0 : Int) != 0) = false := rfl
  have z1 : ((1 : Int) != 0) = true := rfl
  have z2 : ((2 : Int) != 0) = true := rfl
  have y0 : ((0 : Int) == 0) = true := rfl
  have y1 : ((1 : Int) == 0) = false := rfl
  have y2 : ((2 : Int) == 0) = false := rfl
  have y3 : ((2 : Int) == 1) = false := rfl
  have y4 : ((1 : Int) == 1) = true := rfl
  have y5 : ((2 : Int) == 2) = true := rfl
  have n1 : ¬ ((1 : Int) = 0) := by omega
  have n2 : ¬ ((2 : Int) = 0) := by omega
  have n3 : ¬ ((2 : Int) = 1) := by omega
  rw [lift_leaf_tick_def]
  unfold lift_leaf_tick_m
  unfold DV at h
  simp only [leafOf] at h ⊢
  rcases h with ⟨h1, h2, h3⟩ | ⟨h1, h2, h3, h4⟩ | ⟨h1, h2, h3⟩
  · subst h1
    have e : w64 (a + 1) = a + 1 := w64_eq (by omega) (by omega)
    have hb : dBrk d.Wide d.Wait b (a, 0, l) = (a, 0, l) := by unfold dBrk; rw [if_neg (fun h => h.2 rfl)]
    unfold dStep
    rw [hb]
    unfold dMv
    simp only [z0, y0, cond_true, cond_false, e, hold_eq, leafOf, if_true, Bool.cond_self]
    by_cases hw : a + 1 = d.Wide
    · have : (a + 1 == d.Wide) = true := by simpa using hw
      rw [if_pos hw]; simp only [this, cond_true]
    · have : (a + 1 == d.Wide) = false := by simpa using hw
      rw [if_neg hw]; simp only [this, cond_false]
  · subst h1
    have hs : dMv d.Wide d.Wait (a, 1, l) = (a, (if l - 1 = 0 then 2 else 1), l - 1) := by unfold dMv; simp only [n1, if_false, if_true]
    have e : w64 (l - 1) = l - 1 := w64_eq (by omega) (by omega)
    have plain : (bif l - 1 == 0 then k (lift_leaf.mk d a 2 (l - 1)) else k (lift_leaf.mk d a 1 (l - 1))) = k (lift_leaf.mk d a (if l - 1 = 0 then 2 else 1) (l - 1)) := by
      by_cases hl : l - 1 = 0
      · have : (l - 1 == 0) = true := by simpa using hl
        rw [if_pos hl]; simp only [this, cond_true]
      · have : (l - 1 == 0) = false := by simpa using hl
        rw [if_neg hl]; simp only [this, cond_false]
    cases b with
    | false =>
      have hb : dBrk d.Wide d.Wait false (a, 1, l) = (a, 1, l) := rfl
      unfold dStep
      rw [hb, hs]
      simp only [cond_false, y1, y4, cond_true, e, plain]
    | true =>
      have hb : dBrk d.Wide d.Wait true (a, 1, l) = dHold d.Wait a := by unfold dBrk; rw [if_pos ⟨rfl, n1⟩, if_neg (by simp only; omega)]
      have ha : ¬ a < d.Wide := by omega
      have et : w64 (d.Wait - 1) = d.Wait - 1 := w64_eq (by omega) (by omega)
      unfold dStep
      rw [hb]
      have ht : ¬ d.Wait = 0 := by omega
      unfold dHold
      simp only [ht, if_false]
      simp only [cond_true, z1, ha, decide_false, cond_false, hold_eq, leafOf, dHold, ht, if_false, y1, y4, et]
      unfold dMv
      simp only [n1, if_false, if_true]
      by_cases hl : d.Wait - 1 = 0
      · have : (d.Wait - 1 == 0) = true := by simpa using hl
        rw [if_pos hl]; simp only [this, cond_true]
      · have : (d.Wait - 1 == 0) = false := by simpa using hl
        rw [if_neg hl]; simp only [this, cond_false]
  · subst h1
    have e : w64 (a - 1) = a - 1 := w64_eq (by omega) (by omega)
    have e1 : w64 (a + 1) = a + 1 := w64_eq (by omega) (by omega)
    cases b with
    | false =>
      have hb : dBrk d.Wide d.Wait false (a, 2, l) = (a, 2, l) := rfl
      unfold dStep
      rw [hb]
      unfold dMv
      simp only [cond_false, y2, y3, y5, cond_true, e, n2, n3, if_false]
    | true =>
      unfold dStep dBrk
      simp only [true_and, n2, ne_eq, not_false_eq_true, if_true]
      by_cases ha : a < d.Wide
      · simp only [ha, if_true, decide_true, cond_true, z2, e1]
        unfold dMv
        simp only [if_true, hold_eq, leafOf]
        by_cases hw : a + 1 = d.Wide
        · have : (a + 1 == d.Wide) = true := by simpa using hw
          rw [if_pos hw]; simp only [this, cond_true]
        · have : (a + 1 == d.Wide) = false := by simpa using hw
          rw [if_neg hw]; simp only [this, cond_false]
      · simp only [ha, if_false, decide_false, cond_false, cond_true, z2, hold_eq, leafOf, dHold]
        by_cases ht : d.Wait = 0
        · simp only [ht, if_true, y2, y3, y5, cond_false, cond_true, e]
          unfold dMv
          simp only [n2, n3, if_false]
        · have et : w64 (d.Wait - 1) = d.Wait - 1 := w64_eq (by omega) (by omega)
          simp only [ht, if_false, y1, y4, cond_false, cond_true, et]
          unfold dMv
          simp only [n1, if_false, if_true]
          by_cases hl : d.Wait - 1 = 0
          · have : (d.Wait - 1 == 0) = true := by simpa using hl
            rw [if_pos hl]; simp only [this, cond_true]
          · have : (d.Wait - 1 == 0) = false := by simpa using hl
            rw [if_neg hl]; simp only [this, cond_false]

/-! ### Breaks in a tick -/
open Classical in
theorem cont_l2_eq (N : Nat) {br : Arr Int} (hn : br.n ≤ 1000000) (t : Int) (kr : Int → Option R) (k0 : Unit → Option R) (key : Bool → Option R) (hkr : ∀ i : Nat, kr (i : Int) = key true) (hk0 : k0 () = key false) : ∀ (r i n : Nat), i + r = br.n → r < n →
    slices_Index___int_int__l2 N n br t (br.n : Int) (i : Int) kr k0 = key (decide (∃ j, i ≤ j ∧ j < br.n ∧ br.f j = t)) := by
  intro r
  induction r with
  | zero =>
    intro i n h1 h2
    obtain ⟨n, rfl⟩ : ∃ m, n = m + 1 := ⟨n - 1, by omega⟩
    unfold slices_Index___int_int__l2 slices_Index___int_int__b2
    have e1 : decide ((i : Int) < (br.n : Int)) = false := by simp; omega
    have e2 : decide (∃ j, i ≤ j ∧ j < br.n ∧ br.f j = t) = false := decide_eq_false (fun ⟨j, h3, h4, _⟩ => by omega)
    simp only [e1, cond_false, hk0, e2]
  | succ r ih =>
    intro i n h1 h2
    obtain ⟨n, rfl⟩ : ∃ m, n = m + 1 := ⟨n - 1, by omega⟩
    unfold slices_Index___int_int__l2 slices_Index___int_int__b2
    have e1 : decide ((i : Int) < (br.n : Int)) = true := by simp; omega
    simp only [e1, nat_nonneg, Bool.and_self, cond_true, Int.toNat_natCast, w64_succ (show i < 1000000000000 by omega)]
    by_cases hd : br.f i = t
    · have e2 : decide (∃ j, i ≤ j ∧ j < br.n ∧ br.f j = t) = true := decide_eq_true ⟨i, Nat.le_refl _, by omega, hd⟩
      have e3 : (t == br.f i) = true := by simpa using hd.symm
      simp only [e3, cond_true, hkr, e2]
    · have e3 : (t == br.f i) = false := by simpa using fun h => hd h.symm
      have e2 : decide (∃ j, i ≤ j ∧ j < br.n ∧ br.f j = t) = decide (∃ j, i + 1 ≤ j ∧ j < br.n ∧ br.f j = t) := by
        rw [decide_eq_decide]
        constructor
        · rintro ⟨j, h3, h4, h5⟩
          refine ⟨j, ?_, h4, h5⟩
          rcases Nat.lt_or_ge i j with h | h
          · exact h
          · have : j = i := by omega
            subst this; exact absurd h5 hd
        · rintro ⟨j, h3, h4, h5⟩; exact ⟨j, by omega, h4, h5⟩
      simp only [e3, cond_false, e2]
      exact ih (i + 1) n (by omega) (by omega)

open Classical in
theorem Contains_eq {N : Nat} {br : Arr Int} (hn : br.n ≤ 1000000) (hN : br.n < N) (t : Int) (k : Bool → Option R) : slices_Contains___int_int_ N br t k = k (decide (isBr br t)) := by
  rw [slices_Contains___int_int__def]
  unfold slices_Contains___int_int__m
  rw [slices_Index___int_int__def]
  unfold slices_Index___int_int__m
  refine Eq.trans (cont_l2_eq N hn t _ _ k (fun i => ?_) ?_ br.n 0 N (by omega) hN) ?_
  · have : decide ((i : Int) ≥ 0) = true := by simp
    simp only [this]
  · rfl
  · have : (∃ j, 0 ≤ j ∧ j < br.n ∧ br.f j = t) ↔ isBr br t := ⟨fun ⟨j, _, h1, h2⟩ => ⟨j, h1, h2⟩, fun ⟨j, h1, h2⟩ => ⟨j, Nat.zero_le _, h1, h2⟩⟩
    rw [decide_eq_decide.2 this]

end

end Li
end Go.Proofs.Ytpillmoddoccfab
