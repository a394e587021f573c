/-
  Lift: the counterweight; how far a trip leads; lists that are the same.
-/
import Derived.Test.YtceeaimmelaenaaP6
set_option linter.unusedVariables false
set_option linter.unusedSimpArgs false
namespace Go.Proofs.Ytceeaimmelaenaa
open Go.Sx
section
variable {R : Type}

/-- How much heavier than without a counterweight the car is, at the most and at the least. -/
def bM (l : api_Lift) (s : api_Span) : Int := l.Car + s.High + l.Rope * topS l
def bL (l : api_Lift) (s : api_Span) : Int := l.Car + s.Low - l.Rope * topS l
def bC (l : api_Lift) (s : api_Span) : Int := min (max 1 ((bM l s + bL l s).tdiv 2)) 100000
def bW (l : api_Lift) (s : api_Span) (c : Int) : Int := max (bM l s - c) (c - bL l s)
noncomputable def balV (l : api_Lift) (s : api_Span) : Int × Int × Int :=
  open Classical in if VL l then if spanP s l.Rated then (bC l s, bW l s (bC l s), 0) else (0, 0, 1) else (0, 0, 50)

theorem rope_top {l : api_Lift} (h : VL l) : 0 ≤ l.Rope * topS l ∧ l.Rope * topS l ≤ 100000 := by
  have := h.top
  exact mul_range (A := 100) (B := 1000) h.o1 h.o2 (by omega) (by omega)

def setC0 (l : api_Lift) (c : Int) : api_Lift := ⟨l.Car, c, l.Rated, l.Rope, l.Floors, l.Num, l.Den, l.Speed, l.Accel, l.Over, l.Stiff, l.Level⟩

theorem VL.sl0 {l : api_Lift} (h : VL l) {c : Int} (hc : 0 ≤ c) (hc2 : c ≤ 100000) : SL (setC0 l c) := by
  have h' := h.sl
  exact ⟨h'.1, h'.2, h'.3, h'.4, hc, hc2, h'.7, h'.8, h'.9, h'.10⟩

theorem Balance_1_eq {N : Nat} {l : api_Lift} (s : api_Span) (k : Bool → Option R) : lift_Balance_1 N s.Low s.High l.Car l.Counter l.Rated l.Rope l.Floors l.Num l.Den l.Speed l.Accel l.Over l.Stiff l.Level k = k (decide (spanP s l.Rated)) := by
  rw [lift_Balance_1_def]
  unfold lift_Balance_1_m
  rw [liftWithin_eq]

theorem ifmm (a : Int) : (if (100000 : Int) < if a > 1 then a else 1 then 100000 else if a > 1 then a else 1) = min (max 1 a) 100000 := by
  omega
theorem ifmm' (a : Int) : (if (100000 : Int) < if 1 > a then 1 else a then 100000 else if 1 > a then 1 else a) = min (max 1 a) 100000 := by
  omega
theorem ifmax (a b : Int) : (if a > b then a else b) = max b a := by omega

theorem Balance_eq {N : Nat} (hN : 20 ≤ N) (l : api_Lift) (s : api_Span) (k : Int → Int → Int → Option R) : lift_Balance N l s k = k (balV l s).1 (balV l s).2.1 (balV l s).2.2 := by
  rw [lift_Balance_def]
  unfold lift_Balance_m
  rw [lift_check_v4_def]
  unfold lift_check_v4_m
  rw [Check_eq hN]
  unfold balV
  by_cases h : VL l
  · simp only [checkV_pos h, bne_self_eq_false, cond_false, Balance_1_eq, h, if_true]
    by_cases hp : spanP s l.Rated
    · have hr := h.r2
      have hc1 := h.c1
      have hc2 := h.c2
      have ht := h.top
      obtain ⟨h1, h2, h3⟩ := id hp
      have hs := h.sl0 (c := 0) (by omega) (by omega)
      have hrt := rope_top h
      have hn1 := h.n1
      have hn2 := h.n2
      have e1 := sides_eq (N := N) (R := R) hs (x := 0) (y := s.High) (by omega) (by show 0 ≤ topS l; omega) (by omega) (by omega)
      have e2 := top_eq (N := N) (R := R) (l := setC0 l 0) (by show 1 ≤ l.Floors.n; omega) (by show l.Floors.n < 1000000; omega)
      have e3 := sides_eq (N := N) (R := R) hs (x := topS l) (y := s.Low) (by omega) (by show topS l ≤ topS l; omega) (by omega) (by omega)
      simp only [hp, decide_true, Bool.not_true, cond_false, if_true, bne_self_eq_false]
      refine Eq.trans (e1 _) ?_
      refine Eq.trans (e2 _) ?_
      refine Eq.trans (e3 _) ?_
      have a1 : sideA (setC0 l 0) 0 s.High = bM l s := by
        show l.Car + s.High + l.Rope * (topS l - 0) = _
        unfold bM; rw [Int.sub_zero]
      have a2 : sideB (setC0 l 0) 0 = 0 := by show 0 + l.Rope * 0 = 0; simp
      have a3 : sideA (setC0 l 0) (topS l) s.Low = l.Car + s.Low := by show l.Car + s.Low + l.Rope * (topS l - topS l) = _; simp
      have a4 : sideB (setC0 l 0) (topS l) = l.Rope * topS l := by show 0 + l.Rope * topS l = _; simp
      rw [a1, a2, a3, a4]
      have b1 : -300000 ≤ bM l s ∧ bM l s ≤ 300000 := by unfold bM; omega
      have b2 : -300000 ≤ bL l s ∧ bL l s ≤ 300000 := by unfold bL; omega
      have w1 : w64 (bM l s - 0) = bM l s := by rw [w64_eq (by omega) (by omega)]; omega
      have w2 : w64 (l.Car + s.Low - l.Rope * topS l) = bL l s := by rw [w64_eq (by omega) (by omega)]; rfl
      have w3 : w64 (bM l s + bL l s) = bM l s + bL l s := w64_eq (by omega) (by omega)
      have b3 := tdiv_bounds (a := bM l s + bL l s) (m := 2) (B := 600000) (by omega) (by omega) (by omega) (by omega)
      have w4 : w64 ((bM l s + bL l s).tdiv 2) = (bM l s + bL l s).tdiv 2 := w64_eq (by omega) (by omega)
      rw [w1, w2, w3, w4, ifmm]
      show k (bC l s) _ 0 = _
      have b4 : min (max 1 ((bM l s + bL l s).tdiv 2)) 100000 = bC l s := rfl
      have b5 : 1 ≤ bC l s ∧ bC l s ≤ 100000 := by unfold bC; omega
      rw [b4, w64_eq (n := bC l s - bL l s) (by omega) (by omega), w64_eq (n := bM l s - bC l s) (by omega) (by omega), ifmax]
      rfl
    · simp only [hp, decide_false, Bool.not_false, cond_true, if_false]
      rfl
  · simp only [checkV_ne h, h, if_false]
    rfl

theorem Worst_eq {N : Nat} (hN : 20 ≤ N) {l : api_Lift} (h : VL l) {s : api_Span} (hs : spanP s l.Rated) {c : Int} (hc : 0 ≤ c) (hc2 : c ≤ 100000) (k : Int → Option R) : newelref05_Worst N l s c k = k (bW l s c) := by
  rw [newelref05_Worst_def]
  unfold newelref05_Worst_m
  have hr := h.r2
  have hc1 := h.c1
  have hc3 := h.c2
  have ht := h.top
  obtain ⟨h1, h2, h3⟩ := id hs
  have hsl := h.sl0 hc hc2
  have hrt := rope_top h
  have hn1 := h.n1
  have hn2 := h.n2
  have b1 : 0 ≤ bM l s ∧ bM l s ≤ 300000 := by unfold bM; omega
  have b2 : -300000 ≤ bL l s ∧ bL l s ≤ 300000 := by unfold bL; omega
  have bb : bL l s ≤ bM l s := by unfold bL bM; omega
  have e0 := fun y h1 h2 => refSides_eq (N := N) (R := R) hsl (x := 0) (y := y) (by omega) (by show 0 ≤ topS l; omega) h1 h2
  have e1 := fun y h1 h2 => refSides_eq (N := N) (R := R) hsl (x := topS l) (y := y) (by omega) (by show topS l ≤ topS l; omega) h1 h2
  have e2 := refTop_eq (N := N) (R := R) (l := setC0 l c) (by show 1 ≤ l.Floors.n; omega) (by show l.Floors.n < 1000000; omega)
  have a0 : ∀ y, sideA (setC0 l c) 0 y = l.Car + y + l.Rope * topS l := fun y => by
    show l.Car + y + l.Rope * (topS l - 0) = _
    rw [Int.sub_zero]
  have a1 : ∀ y, sideA (setC0 l c) (topS l) y = l.Car + y := fun y => by show l.Car + y + l.Rope * (topS l - topS l) = _; simp
  have a2 : sideB (setC0 l c) 0 = c := by show c + l.Rope * 0 = c; simp
  have a3 : sideB (setC0 l c) (topS l) = c + l.Rope * topS l := rfl
  change newelref05_Worst_l4 N N 0 0 (setC0 l c) s _ = _
  obtain ⟨N', hN'⟩ : ∃ m, N = m + 5 := ⟨N - 5, by omega⟩
  conv => lhs; arg 2; rw [hN']
  unfold newelref05_Worst_l4 newelref05_Worst_b4
  have d0 : decide ((0 : Int) < 4) = true := rfl
  have m0 : (Int.tmod 0 2 == (1 : Int)) = false := rfl
  have q0 : (w64 (Int.tdiv 0 2) == (1 : Int)) = false := rfl
  simp only [d0, m0, q0, cond_true, cond_false]
  rw [e0 s.Low (by omega) (by omega), a0, a2, apart_eq N (by omega) (by omega) (by omega) (by omega)]
  have p1 : w64 (0 + 1) = 1 := rfl
  rw [p1]
  unfold newelref05_Worst_l4 newelref05_Worst_b4
  have d1 : decide ((1 : Int) < 4) = true := rfl
  have m1 : (Int.tmod 1 2 == (1 : Int)) = true := rfl
  have q1 : (w64 (Int.tdiv 1 2) == (1 : Int)) = false := rfl
  simp only [d1, m1, q1, cond_true, cond_false]
  rw [e2]
  refine Eq.trans (e1 s.Low (by omega) (by omega) _) ?_
  rw [a1, a3, apart_eq N (by omega) (by omega) (by omega) (by omega)]
  have p2 : w64 (1 + 1) = 2 := rfl
  rw [p2]
  unfold newelref05_Worst_l4 newelref05_Worst_b4
  have d2 : decide ((2 : Int) < 4) = true := rfl
  have m2 : (Int.tmod 2 2 == (1 : Int)) = false := rfl
  have q2 : (w64 (Int.tdiv 2 2) == (1 : Int)) = true := rfl
  simp only [d2, m2, q2, cond_true, cond_false]
  rw [e0 s.High (by omega) (by omega), a0, a2, apart_eq N (by omega) (by omega) (by omega) (by omega)]
  have p3 : w64 (2 + 1) = 3 := rfl
  rw [p3]
  unfold newelref05_Worst_l4 newelref05_Worst_b4
  have d3 : decide ((3 : Int) < 4) = true := rfl
  have m3 : (Int.tmod 3 2 == (1 : Int)) = true := rfl
  have q3 : (w64 (Int.tdiv 3 2) == (1 : Int)) = true := rfl
  simp only [d3, m3, q3, cond_true, cond_false]
  rw [e2]
  refine Eq.trans (e1 s.High (by omega) (by omega) _) ?_
  rw [a1, a3, apart_eq N (by omega) (by omega) (by omega) (by omega)]
  have p4 : w64 (3 + 1) = 4 := rfl
  rw [p4]
  unfold newelref05_Worst_l4 newelref05_Worst_b4
  have d4 : decide ((4 : Int) < 4) = false := rfl
  simp only [d4, cond_false]
  congr 1
  simp only [ifmax]
  unfold bW bM bL
  omega

theorem bC_le {l : api_Lift} {s : api_Span} (hb : bL l s ≤ bM l s) (h : 1 < bC l s) : 2 * bC l s ≤ bM l s + bL l s := by
  unfold bC at *
  have := Int.mul_tdiv_add_tmod (bM l s + bL l s) 2
  have h2 : 0 ≤ bM l s + bL l s := by
    have := Int.lt_tmod_of_pos (bM l s + bL l s) (b := 2) (by omega)
    omega
  have := Int.tmod_nonneg 2 h2
  omega
theorem bC_ge {l : api_Lift} {s : api_Span} (h : bC l s < 100000) : bM l s + bL l s ≤ 2 * bC l s + 1 := by
  unfold bC at *
  have := Int.mul_tdiv_add_tmod (bM l s + bL l s) 2
  have := Int.tmod_lt_of_pos (bM l s + bL l s) (b := 2) (by omega)
  omega

theorem bLM {l : api_Lift} (h : VL l) {s : api_Span} (hs : spanP s l.Rated) : bL l s ≤ bM l s := by
  have hrt := rope_top h
  obtain ⟨h1, h2, h3⟩ := id hs
  unfold bL bM; omega

theorem bW_best {l : api_Lift} (h : VL l) {s : api_Span} (hs : spanP s l.Rated) {c : Int} (hc : 1 ≤ c) (hc2 : c ≤ 100000) : bW l s (bC l s) < bW l s c ∨ bC l s ≤ c ∧ bW l s (bC l s) ≤ bW l s c := by
  have hb := bLM h hs
  have h1 : bC l s ≤ 100000 := by unfold bC; omega
  rcases Int.lt_or_le c (bC l s) with hlt | hge
  · left
    have := bC_le hb (by omega)
    unfold bW; omega
  · right
    refine ⟨hge, ?_⟩
    rcases Int.lt_or_eq_of_le hge with h2 | h2
    · have := bC_ge (l := l) (s := s) (by omega)
      unfold bW; omega
    · rw [h2]; exact Int.le_refl _

theorem refBalance_eq {N : Nat} (hN : 20 ≤ N) (l : api_Lift) (s : api_Span) (k : Int → Int → Int → Option R) : newelref05_Balance N l s k = k (balV l s).1 (balV l s).2.1 (balV l s).2.2 := by
  rw [newelref05_Balance_def]
  unfold newelref05_Balance_m
  rw [refCheck_eq hN]
  unfold balV
  by_cases h : VL l
  · simp only [checkV_pos h, bne_self_eq_false, cond_false, Spans_eq h, h, if_true]
    have ht := h.top
    have hsp : spansP l ⟨0, 0⟩ s ↔ spanP s l.Rated := by
      unfold spansP spanP
      simp only
      omega
    by_cases hp : spanP s l.Rated
    · have hr := h.r2
      have hc1 := h.c1
      have hc2 := h.c2
      obtain ⟨h1, h2, h3⟩ := id hp
      have hrt := rope_top h
      have hn1 := h.n1
      have hn2 := h.n2
      simp only [hsp.2 hp, hp, decide_true, Bool.not_true, cond_false, if_true]
      rw [refSides_eq h.sl (by omega) (by omega) (by omega) (by omega), refTop_eq (by omega) (by omega)]
      have a1 : sideA l 0 s.High = bM l s := by
        show l.Car + s.High + l.Rope * (topS l - 0) = _
        unfold bM; rw [Int.sub_zero]
      have b1 : -300000 ≤ bM l s ∧ bM l s ≤ 300000 := by unfold bM; omega
      have b2 : -300000 ≤ bL l s ∧ bL l s ≤ 300000 := by unfold bL; omega
      have w1 : w64 (l.Rope * topS l) = l.Rope * topS l := w64_eq (by omega) (by omega)
      have w0 : w64 (l.Car + s.Low) = l.Car + s.Low := w64_eq (by omega) (by omega)
      have w2 : w64 (l.Car + s.Low - l.Rope * topS l) = bL l s := by rw [w64_eq (by omega) (by omega)]; rfl
      have w3 : w64 (bM l s + bL l s) = bM l s + bL l s := w64_eq (by omega) (by omega)
      have b3 := tdiv_bounds (a := bM l s + bL l s) (m := 2) (B := 600000) (by omega) (by omega) (by omega) (by omega)
      have w4 : w64 ((bM l s + bL l s).tdiv 2) = (bM l s + bL l s).tdiv 2 := w64_eq (by omega) (by omega)
      rw [a1, w1, w0, w2, w3, w4, ifmm']
      have b4 : min (max 1 ((bM l s + bL l s).tdiv 2)) 100000 = bC l s := rfl
      have b5 : 1 ≤ bC l s ∧ bC l s ≤ 100000 := by unfold bC; omega
      rw [b4]
      have hloop : ∀ kk : Int → Option R, newelref05_Balance_l9 N N (bC l s) l s kk = kk (bC l s) := by
        intro kk
        obtain ⟨N', hN'⟩ : ∃ m, N = m + 1 := ⟨N - 1, by omega⟩
        conv => lhs; arg 2; rw [hN']
        unfold newelref05_Balance_l9 newelref05_Balance_b9
        by_cases hg : bC l s > 1
        · have hw : w64 (bC l s - 1) = bC l s - 1 := w64_eq (by omega) (by omega)
          rw [hw]
          simp only [hg, decide_true, cond_true]
          rw [Worst_eq hN h hp (by omega) (by omega), Worst_eq hN h hp (by omega) (by omega)]
          have := bC_le (bLM h hp) (by omega)
          have hd : decide (bW l s (bC l s - 1) ≤ bW l s (bC l s)) = false := by
            rw [decide_eq_false_iff_not]
            unfold bW
            omega
          simp only [hd, cond_false]
        · simp only [hg, decide_false, cond_false]
      rw [hloop, Worst_eq hN h hp (by omega) (by omega)]
    · have : ¬ spansP l ⟨0, 0⟩ s := fun hh => hp (hsp.1 hh)
      simp only [this, hp, decide_false, Bool.not_false, cond_true, if_false]
  · simp only [checkV_ne h, h, if_false]
    rfl

/-! ### How far a trip leads -/
noncomputable def reachV (l : api_Lift) (t : Int) : Int × Int :=
  open Classical in if VL l then if 0 ≤ t ∧ t ≤ 1000 then (mostS l.Speed l.Accel 0 t.toNat, 0) else (0, 1) else (0, 50)

theorem Reach_eq {N : Nat} (hN : 1001 ≤ N) (l : api_Lift) (t : Int) (k : Int → Int → Option R) : lift_Reach N l t k = k (reachV l t).1 (reachV l t).2 := by
  rw [lift_Reach_def]
  unfold lift_Reach_m
  rw [lift_check_v7_def]
  unfold lift_check_v7_m
  rw [Check_eq (by omega)]
  unfold reachV
  by_cases h : VL l
  · rw [lift_Reach_1_def]
    unfold lift_Reach_1_m
    simp only [checkV_pos h, bne_self_eq_false, cond_false, between_eq, h, if_true]
    by_cases hp : 0 ≤ t ∧ t ≤ 1000
    · simp only [hp, decide_true, Bool.not_true, cond_false, if_true, bne_self_eq_false, and_self]
      have := most_eq hN h.sa (v := 0) (by omega) (by omega) (t := t.toNat) (by omega) (fun r => k r 0)
      rw [show ((t.toNat : Nat) : Int) = t by omega] at this
      exact this
    · simp only [hp, decide_false, Bool.not_false, cond_true, if_false]
      rfl
  · simp only [checkV_ne h, h, if_false]
    rfl

theorem refReach_eq {N : Nat} (hN : 1001 ≤ N) (l : api_Lift) (t : Int) (k : Int → Int → Option R) : newelref05_Reach N l t k = k (reachV l t).1 (reachV l t).2 := by
  rw [newelref05_Reach_def]
  unfold newelref05_Reach_m
  rw [refCheck_eq (by omega)]
  unfold reachV
  by_cases h : VL l
  · simp only [checkV_pos h, bne_self_eq_false, cond_false, within_eq, h, if_true]
    by_cases hp : 0 ≤ t ∧ t ≤ 1000
    · simp only [hp, decide_true, Bool.not_true, cond_false, if_true, bne_self_eq_false, and_self]
      have := reach_eq hN h.sa (t := t.toNat) (by omega) (fun r => k r 0)
      rw [show ((t.toNat : Nat) : Int) = t by omega] at this
      exact this
    · simp only [hp, decide_false, Bool.not_false, cond_true, if_false]
  · simp only [checkV_ne h, h, if_false]
    rfl

/-! ### Lists that are the same -/
theorem same_l4_eq (N : Nat) {a b : Arr Int} (hn : a.n = b.n) (hf : ∀ i, i < a.n → a.f i = b.f i) (hm : a.n < 1000000) (kr : Bool → Option R) (k0 : Unit → Option R) : ∀ (r i n : Nat), i + r = a.n → r < n →
    newellaw05_sameInts_l4 N n a b (i : Int) kr k0 = k0 () := by
  intro r
  induction r with
  | zero =>
    intro i n h1 h2
    obtain ⟨n, rfl⟩ : ∃ m, n = m + 1 := ⟨n - 1, by omega⟩
    unfold newellaw05_sameInts_l4 newellaw05_sameInts_b4
    have e : decide ((i : Int) < (a.n : Int)) = false := by simp; omega
    simp only [e, cond_false]
  | succ r ih =>
    intro i n h1 h2
    obtain ⟨n, rfl⟩ : ∃ m, n = m + 1 := ⟨n - 1, by omega⟩
    unfold newellaw05_sameInts_l4 newellaw05_sameInts_b4
    have e : decide ((i : Int) < (a.n : Int)) = true := by simp; omega
    have e2 : decide ((i : Int) < (b.n : Int)) = true := by simp; omega
    have e3 : (a.f ((i : Int)).toNat != b.f ((i : Int)).toNat) = false := by
      rw [Int.toNat_natCast, hf i (by omega)]; simp
    simp only [e, e2, e3, nat_nonneg, Bool.and_self, cond_true, cond_false, w64_succ (show i < 1000000000000 by omega)]
    exact ih (i + 1) n (by omega) (by omega)

theorem same_eq {N : Nat} {a b : Arr Int} (hn : a.n = b.n) (hf : ∀ i, i < a.n → a.f i = b.f i) (hN : a.n < N) (hm : a.n < 1000000) (k : Bool → Option R) : newellaw05_sameInts N a b k = k true := by
  rw [newellaw05_sameInts_def]
  unfold newellaw05_sameInts_m
  have e : ((a.n : Int) != (b.n : Int)) = false := by rw [hn]; simp
  simp only [e, cond_false]
  exact same_l4_eq N hn hf hm _ _ a.n 0 N (by omega) hN

theorem tripN_le (l : api_Lift) (a b : Int) : tripN l a b ≤ 1000 := by
  unfold tripN
  split
  · rename_i h
    obtain ⟨hv, hp⟩ := tripErr_zero.1 h
    have hw := way_bounds hv hp
    have := (ticks_spec hv.s1 hv.a1 hw.1).1
    omega
  · omega

theorem same_is {N n : Nat} {a b : Arr Int} {f : Nat → Int} (ha : a.Is n f) (hb : b.Is n f) (hN : n < N) (hm : n < 1000000) (k : Bool → Option R) : newellaw05_sameInts N a b k = k true := by
  have h1 := ha.len
  have h2 := hb.len
  exact same_eq (by omega) (fun i hi => (ha.get i (by omega)).trans (hb.get i (by omega)).symm) (by omega) (by omega) k

end
end Go.Proofs.Ytceeaimmelaenaa
