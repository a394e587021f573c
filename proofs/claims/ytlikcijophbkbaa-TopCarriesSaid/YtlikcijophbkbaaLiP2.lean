import Derived.Test.YtlikcijophbkbaaLiP1
import Derived.Test.YtlikcijophbkbaaSxMath
set_option linter.unusedVariables false
set_option linter.unusedSimpArgs false
namespace Go.Proofs.Ytlikcijophbkbaa
namespace Li
open Go.Sx
section
variable {R : Type}
def inP (l : api_Lift) (x y : Int) : Prop := (0 ≤ x ∧ x ≤ topS l) ∧ (0 ≤ y ∧ y ≤ l.Rated)
instance (l : api_Lift) (x y : Int) : Decidable (inP l x y) := by unfold inP; infer_instance
def inP3 (l : api_Lift) (x y a : Int) : Prop := inP l x y ∧ (0 ≤ a ∧ a ≤ 999)
instance (l : api_Lift) (x y a : Int) : Decidable (inP3 l x y a) := by unfold inP3; infer_instance
open Classical in
noncomputable def slipsV (l : api_Lift) (x y a : Int) : Bool × Int :=
  if VL l then if inP3 l x y a then (decide (slipP l x y a), 0) else (false, 1) else (false, 50)
theorem Slips_1_eq {N : Nat} {l : api_Lift} (h : VL l) (x y a : Int) (k : Bool → Option R) : lift_Slips_1 N x l y a k = k (decide (inP3 l x y a)) := by
  rw [lift_Slips_1_def]
  unfold lift_Slips_1_m
  have := h.sl
  show lift_top N l _ = _
  rw [top_eq this.n1 this.n2]
  simp only [between_eq]
  unfold inP3 inP
  by_cases h1 : 0 ≤ x ∧ x ≤ topS l
  · by_cases h2 : 0 ≤ y ∧ y ≤ l.Rated <;> simp [h1, h2]
  · simp [h1]
theorem Slips_eq {N : Nat} (hN : 20 ≤ N) (l : api_Lift) (x y a : Int) (k : Bool → Int → Option R) : lift_Slips N l x y a k = k (slipsV l x y a).1 (slipsV l x y a).2 := by
  rw [lift_Slips_def]
  unfold lift_Slips_m
  rw [lift_check_def]
  unfold lift_check_m
  rw [Check_eq hN]
  unfold slipsV
  by_cases h : VL l
  · simp only [checkV_pos h, bne_self_eq_false, cond_false, Slips_1_eq h, h, if_true]
    by_cases hp : inP3 l x y a
    · have hr := h.r2
      obtain ⟨⟨⟨h1, h2⟩, h3, h4⟩, h5, h6⟩ := id hp
      simp only [hp, decide_true, Bool.not_true, cond_false, if_true, bne_self_eq_false, slips_eq h h1 h2 h3 (show y ≤ 100000 by omega) h5 (show a ≤ 1000 by omega)]
    · simp only [hp, decide_false, Bool.not_false, cond_true, if_false]
      rfl
  · simp only [checkV_ne h, h, if_false]
    rfl
def spanP (s : api_Span) (hi : Int) : Prop := 0 ≤ s.Low ∧ s.Low ≤ s.High ∧ s.High ≤ hi
instance (s : api_Span) (hi : Int) : Decidable (spanP s hi) := by unfold spanP; infer_instance
def spansP (l : api_Lift) (h s : api_Span) : Prop := spanP h (topS l) ∧ spanP s l.Rated
instance (l : api_Lift) (h s : api_Span) : Decidable (spansP l h s) := by unfold spansP; infer_instance
theorem liftWithin_eq (N : Nat) (s : api_Span) (hi : Int) (k : Bool → Option R) : lift_within N s hi k = k (decide (spanP s hi)) := by
  rw [lift_within_def]
  unfold lift_within_m spanP
  by_cases h1 : 0 ≤ s.Low
  · by_cases h2 : s.Low ≤ s.High <;> simp [h1, h2]
  · simp [h1]
theorem Grip_1_eq {N : Nat} {l : api_Lift} (hv : VL l) (h s : api_Span) (k : Bool → Option R) : lift_Grip_1 N h l s k = k (decide (spansP l h s)) := by
  rw [lift_Grip_1_def]
  unfold lift_Grip_1_m
  have := hv.sl
  show lift_top N l _ = _
  rw [top_eq this.n1 this.n2]
  simp only [liftWithin_eq]
  unfold spansP
  show (bif decide (spanP h (topS l)) then k (decide (spanP s l.Rated)) else k false) = _
  by_cases h1 : spanP h (topS l) <;> simp [h1]
theorem mul3_le {a b c d e f : Int} (h1 : a ≤ b) (h2 : c ≤ d) (h3 : e ≤ f) (ha : 0 ≤ a) (hc : 0 ≤ c) (he : 0 ≤ e) : a * c * e ≤ b * d * f := by
  have := Int.mul_le_mul h1 h2 hc (by omega)
  have h5 := Int.mul_nonneg ha hc
  exact Int.mul_le_mul this h3 he (by omega)
theorem slip_more {l : api_Lift} (hv : VL l) {A B A' B' a a' : Int} (h1 : A ≤ A') (h2 : B' ≤ B) (h3 : 0 ≤ A) (h4 : 0 ≤ B') (h5 : 0 ≤ a) (h6 : a ≤ a') (h7 : a' ≤ 1000) (h : A * (1000 + a) * l.Den > B * (1000 - a) * l.Num) : A' * (1000 + a') * l.Den > B' * (1000 - a') * l.Num := by
  have hd := hv.d1
  have hn := hv.d2
  have g1 := mul3_le h1 (show 1000 + a ≤ 1000 + a' by omega) (Int.le_refl l.Den) h3 (by omega) (by omega)
  have g2 := mul3_le h2 (show 1000 - a' ≤ 1000 - a by omega) (Int.le_refl l.Num) h4 (by omega) (by omega)
  omega
theorem slip_mono {l : api_Lift} (hv : VL l) {x y a a' : Int} (hx : 0 ≤ x) (hx2 : x ≤ topS l) (hy : 0 ≤ y) (hy2 : y ≤ 100000) (h5 : 0 ≤ a) (h6 : a ≤ a') (h7 : a' ≤ 1000) (h : slipP l x y a) : slipP l x y a' := by
  have hb := side_bounds hv.sl hx hx2 hy hy2
  exact slip_more hv (Int.le_refl _) (Int.le_refl _) (by omega) (by omega) h5 h6 h7 h
theorem slip_ends {l : api_Lift} (hv : VL l) {h s : api_Span} (hs : spansP l h s) {x y a : Int} (hx : h.Low ≤ x) (hx2 : x ≤ h.High) (hy : s.Low ≤ y) (hy2 : y ≤ s.High) (ha : 0 ≤ a) (ha2 : a ≤ 1000) (hp : slipP l x y a) : slipP l h.Low s.High a ∨ slipP l h.High s.Low a := by
  obtain ⟨⟨h1, h2, h3⟩, h4, h5, h6⟩ := hs
  have hr := hv.r2
  have b0 := side_bounds (x := x) (y := y) hv.sl (by omega) (by omega) (by omega) (by omega)
  have b1 := side_bounds (x := h.Low) (y := s.High) hv.sl (by omega) (by omega) (by omega) (by omega)
  have b2 := side_bounds (x := h.High) (y := s.Low) hv.sl (by omega) (by omega) (by omega) (by omega)
  have m1 : l.Rope * (topS l - x) ≤ l.Rope * (topS l - h.Low) := Int.mul_le_mul_of_nonneg_left (by omega) hv.o1
  have m2 : l.Rope * (topS l - h.High) ≤ l.Rope * (topS l - x) := Int.mul_le_mul_of_nonneg_left (by omega) hv.o1
  have m3 : l.Rope * h.Low ≤ l.Rope * x := Int.mul_le_mul_of_nonneg_left (by omega) hv.o1
  have m4 : l.Rope * x ≤ l.Rope * h.High := Int.mul_le_mul_of_nonneg_left (by omega) hv.o1
  unfold slipP at *
  unfold sideA sideB at *
  by_cases hc : l.Car + y + l.Rope * (topS l - x) ≥ l.Counter + l.Rope * x
  · left
    exact slip_more hv (by omega) (by omega) (by omega) (by omega) ha (Int.le_refl _) ha2 hp
  · right
    exact slip_more hv (by omega) (by omega) (by omega) (by omega) ha (Int.le_refl _) ha2 hp
def noslip (l : api_Lift) (h s : api_Span) (a : Int) : Prop := ¬ slipP l h.Low s.High a ∧ ¬ slipP l h.High s.Low a
instance (l : api_Lift) (h s : api_Span) (a : Int) : Decidable (noslip l h s a) := by unfold noslip; infer_instance
def gripS (l : api_Lift) (h s : api_Span) : Nat → Int × Int
  | 0 => (0, 3)
  | n + 1 => if noslip l h s n then ((n : Int), 0) else gripS l h s n
theorem Grip_l5_eq (N : Nat) {l : api_Lift} (hv : VL l) {h s : api_Span} (hs : spansP l h s) (k : Int → Int → Option R) : ∀ (m n : Nat), m ≤ 1000 → m < n →
    lift_Grip_l5 N n ((m : Int) - 1) l h s (fun r q => k r q) (fun _ => k 0 3) = k (gripS l h s m).1 (gripS l h s m).2 := by
  intro m
  induction m with
  | zero =>
    intro n h1 h2
    obtain ⟨n, rfl⟩ : ∃ m, n = m + 1 := ⟨n - 1, by omega⟩
    unfold lift_Grip_l5 lift_Grip_b5
    rfl
  | succ m ih =>
    intro n h1 h2
    obtain ⟨n, rfl⟩ : ∃ m, n = m + 1 := ⟨n - 1, by omega⟩
    unfold lift_Grip_l5 lift_Grip_b5
    have e : (((m + 1 : Nat) : Int) - 1) = (m : Int) := by omega
    obtain ⟨⟨s1, s2, s3⟩, s4, s5, s6⟩ := hs
    have hr := hv.r2
    rw [e]
    have e1 : decide ((m : Int) ≥ 0) = true := by simp
    simp only [e1, cond_true, slips_eq (x := h.Low) (y := s.High) (a := m) hv (by omega) (by omega) (by omega) (by omega) (by omega) (by omega), slips_eq (x := h.High) (y := s.Low) (a := m) hv (by omega) (by omega) (by omega) (by omega) (by omega) (by omega), w64_eq (n := (m : Int) - 1) (by omega) (by omega)]
    rw [ih n (by omega) (by omega)]
    simp only [gripS]
    unfold noslip
    by_cases c1 : slipP l h.Low s.High m
    · simp only [c1, decide_true, Bool.not_true, cond_false, not_true, false_and, if_false]
    · by_cases c2 : slipP l h.High s.Low m
      · simp only [c1, c2, decide_false, decide_true, Bool.not_true, Bool.not_false, cond_true, cond_false, not_true, and_false, if_false]
      · simp only [c1, c2, decide_false, Bool.not_false, cond_true, not_false_eq_true, and_self, if_true]
open Classical in
noncomputable def gripV (l : api_Lift) (h s : api_Span) : Int × Int :=
  if VL l then if spansP l h s then gripS l h s 1000 else (0, 1) else (0, 50)
theorem Grip_eq {N : Nat} (hN : 1001 ≤ N) (l : api_Lift) (h s : api_Span) (k : Int → Int → Option R) : lift_Grip N l h s k = k (gripV l h s).1 (gripV l h s).2 := by
  rw [lift_Grip_def]
  unfold lift_Grip_m
  rw [lift_check_v2_def]
  unfold lift_check_v2_m
  rw [Check_eq (by omega)]
  unfold gripV
  by_cases hv : VL l
  · simp only [checkV_pos hv, bne_self_eq_false, cond_false, Grip_1_eq hv, hv, if_true]
    by_cases hp : spansP l h s
    · simp only [hp, decide_true, Bool.not_true, cond_false, if_true, bne_self_eq_false]
      exact Grip_l5_eq N hv hp k 1000 N (by omega) (by omega)
    · simp only [hp, decide_false, Bool.not_false, cond_true, if_false]
      rfl
  · simp only [checkV_ne hv, hv, if_false]
    rfl
theorem Far_eq (N : Nat) (l : api_Lift) (k : Bool → Option R) : newellaw05_Far N l k = k (decide ((l.Floors.n : Int) > 30)) := by
  rw [newellaw05_Far_def]; rfl
end
end Li
end Go.Proofs.Ytlikcijophbkbaa
