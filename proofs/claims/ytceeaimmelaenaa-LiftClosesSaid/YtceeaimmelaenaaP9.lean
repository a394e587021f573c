/-
  Lift: Sink and Levels.
-/
import Derived.Test.YtceeaimmelaenaaP8
set_option linter.unusedVariables false
set_option linter.unusedSimpArgs false
namespace Go.Proofs.Ytceeaimmelaenaa
open Go.Sx

/-- One more at the end. -/
def pushI (a : Arr Int) (v : Int) : Arr Int := lst intC (a.n + 1) (catC a.n (Cod.cell intC a.f) (litC [SV.int IntKind.i64 0] [[SV.int IntKind.i64 v]]))
theorem pushI_n (a : Arr Int) (v : Int) : (pushI a v).n = a.n + 1 := rfl
theorem pushI_is (a : Arr Int) (v : Int) : (pushI a v).Is (a.n + 1) (fun i => if i = a.n then v else a.f i) :=
  Arr.Is.push_int (a := a) (n := a.n) (g := fun i => if i = a.n then v else a.f i) ⟨rfl, fun i hi => (if_neg (by omega)).symm⟩ (by simp)
theorem pushI_lt {a : Arr Int} {v : Int} {i : Nat} (h : i < a.n) : (pushI a v).f i = a.f i := by
  rw [(pushI_is a v).get i (by omega), if_neg (by omega)]
theorem pushI_eq {a : Arr Int} {v : Int} : (pushI a v).f a.n = v := by
  rw [(pushI_is a v).get a.n (by omega), if_pos rfl]

def sinkS (l : api_Lift) (floor a b : Int) : Int := ((b - a) * (l.Over + topS l - l.Floors.f floor.toNat)).tdiv l.Stiff

theorem sub_range {a b M : Int} (h1 : 0 ≤ a) (h2 : a ≤ M) (h3 : 0 ≤ b) (h4 : b ≤ M) {c C : Int} (c1 : 0 ≤ c) (c2 : c ≤ C) : -(M * C) ≤ (b - a) * c ∧ (b - a) * c ≤ M * C := by
  have x := mul_range h1 h2 c1 c2
  have y := mul_range h3 h4 c1 c2
  rw [Int.sub_mul]
  omega

/-- What is asked of a floor. -/
def flP (l : api_Lift) (floor : Int) : Prop := 0 ≤ floor ∧ floor ≤ (l.Floors.n : Int) - 1
instance (l : api_Lift) (a : Int) : Decidable (flP l a) := by unfold flP; infer_instance

theorem fl_dec {l : api_Lift} {floor : Int} : decide (0 ≤ floor ∧ floor ≤ (l.Floors.n : Int) - 1) = decide (flP l floor) := decide_eq_decide.2 Iff.rfl

theorem sink_num {l : api_Lift} (h : VL l) {floor a b : Int} (hf : flP l floor) (a1 : 0 ≤ a) (a2 : a ≤ l.Rated) (b1 : 0 ≤ b) (b2 : b ≤ l.Rated) :
    (0 ≤ l.Over + topS l - l.Floors.f floor.toNat ∧ l.Over + topS l - l.Floors.f floor.toNat ≤ 2000) ∧ -200000000 ≤ (b - a) * (l.Over + topS l - l.Floors.f floor.toNat) ∧ (b - a) * (l.Over + topS l - l.Floors.f floor.toNat) ≤ 200000000 := by
  obtain ⟨f1, f2⟩ := hf
  have h1 := h.floor (i := floor.toNat) (by omega)
  have h2 := h.top
  have h3 := h.v1
  have h4 := h.v2
  have h5 := h.r2
  have e : topS l = l.Floors.f (l.Floors.n - 1) := rfl
  have hc : 0 ≤ l.Over + topS l - l.Floors.f floor.toNat ∧ l.Over + topS l - l.Floors.f floor.toNat ≤ 2000 := by omega
  refine ⟨hc, ?_⟩
  have := sub_range (M := 100000) a1 (by omega) b1 (by omega) hc.1 hc.2
  omega

theorem sinkS_bounds {l : api_Lift} (h : VL l) {floor a b : Int} (hf : flP l floor) (a1 : 0 ≤ a) (a2 : a ≤ l.Rated) (b1 : 0 ≤ b) (b2 : b ≤ l.Rated) : -200000000 ≤ sinkS l floor a b ∧ sinkS l floor a b ≤ 200000000 := by
  have := (sink_num h hf a1 a2 b1 b2).2
  exact tdiv_bounds (by have := h.t1; omega) (by omega) this.1 this.2

section
variable {R : Type}
theorem sink_eq (N : Nat) {l : api_Lift} (h : VL l) {floor a b : Int} (hf : flP l floor) (a1 : 0 ≤ a) (a2 : a ≤ l.Rated) (b1 : 0 ≤ b) (b2 : b ≤ l.Rated) (k : Int → Option R) : lift_sink N l floor a b k = k (sinkS l floor a b) := by
  rw [lift_sink_def]
  unfold lift_sink_m
  have n1 := h.n1
  have n2 := h.n2
  rw [top_eq (by omega) (by omega)]
  have hn := sink_num h hf a1 a2 b1 b2
  have hs := sinkS_bounds h hf a1 a2 b1 b2
  have hb := h.floor (i := floor.toNat) (by have := hf.1; have := hf.2; omega)
  have ht := h.top
  have v1 := h.v1
  have v2 := h.v2
  have r2 := h.r2
  have t1 := h.t1
  have fl := h.ft
  have c1 : (decide (0 ≤ floor) && decide (floor < (l.Floors.n : Int))) = true := by have := hf.1; have := hf.2; simp; omega
  have c2 : (l.Stiff == 0) = false := by simp; omega
  simp only [c1, c2, cond_true, cond_false]
  rw [w64_eq (n := b - a) (by omega) (by omega), w64_eq (n := l.Over + topS l) (by omega) (by omega), w64_eq (n := l.Over + topS l - _) (by omega) (by omega), w64_eq (n := (b - a) * _) (by omega) (by omega)]
  unfold sinkS at hs
  rw [w64_eq (by omega) (by omega)]
  rfl
theorem refsink_eq (N : Nat) {l : api_Lift} (h : VL l) {floor a b : Int} (hf : flP l floor) (a1 : 0 ≤ a) (a2 : a ≤ l.Rated) (b1 : 0 ≤ b) (b2 : b ≤ l.Rated) (k : Int → Option R) : newelref05_sink N l floor a b k = k (sinkS l floor a b) := by
  rw [newelref05_sink_def]
  unfold newelref05_sink_m
  have n1 := h.n1
  have n2 := h.n2
  rw [refTop_eq (by omega) (by omega)]
  have hn := sink_num h hf a1 a2 b1 b2
  have hs := sinkS_bounds h hf a1 a2 b1 b2
  have hb := h.floor (i := floor.toNat) (by have := hf.1; have := hf.2; omega)
  have ht := h.top
  have v1 := h.v1
  have v2 := h.v2
  have r2 := h.r2
  have t1 := h.t1
  have fl := h.ft
  have c1 : (decide (0 ≤ floor) && decide (floor < (l.Floors.n : Int))) = true := by have := hf.1; have := hf.2; simp; omega
  have c2 : (l.Stiff == 0) = false := by simp; omega
  simp only [c1, c2, cond_true, cond_false]
  rw [w64_eq (n := b - a) (by omega) (by omega), w64_eq (n := l.Over + topS l) (by omega) (by omega), w64_eq (n := l.Over + topS l - _) (by omega) (by omega), w64_eq (n := (b - a) * _) (by omega) (by omega)]
  unfold sinkS at hs
  rw [w64_eq (by omega) (by omega)]
  rfl

theorem nF {l : api_Lift} (h : VL l) : w64 ((l.Floors.n : Int) - 1) = (l.Floors.n : Int) - 1 := by
  have := h.n1
  have := h.n2
  rw [w64_eq (by omega) (by omega)]

def sinkP (l : api_Lift) (floor a b : Int) : Prop := flP l floor ∧ (0 ≤ a ∧ a ≤ l.Rated) ∧ (0 ≤ b ∧ b ≤ l.Rated)
instance (l : api_Lift) (f a b : Int) : Decidable (sinkP l f a b) := by unfold sinkP; infer_instance
open Classical in
noncomputable def sinkV (l : api_Lift) (floor a b : Int) : Int × Int := if VL l then if sinkP l floor a b then (sinkS l floor a b, 0) else (0, 1) else (0, 50)

theorem Sink_eq {N : Nat} (hN : 20 ≤ N) (l : api_Lift) (floor a b : Int) (k : Int → Int → Option R) : lift_Sink N l floor a b k = k (sinkV l floor a b).1 (sinkV l floor a b).2 := by
  rw [lift_Sink_def]
  unfold lift_Sink_m
  rw [lift_check_v5_def]
  unfold lift_check_v5_m
  rw [Check_eq hN]
  unfold sinkV
  by_cases h : VL l
  · rw [lift_Sink_1_def]
    unfold lift_Sink_1_m
    simp only [checkV_pos h, bne_self_eq_false, cond_false, between_eq, h, if_true, nF h, fl_dec]
    by_cases hp : sinkP l floor a b
    · obtain ⟨h1, h2, h3⟩ := id hp
      simp only [hp, h1, h2, h3, and_self, decide_true, cond_true, Bool.not_true, cond_false, if_true, bne_self_eq_false, sink_eq N h h1 h2.1 h2.2 h3.1 h3.2]
    · rw [if_neg hp]
      by_cases h1 : flP l floor
      · by_cases h2 : 0 ≤ a ∧ a ≤ l.Rated
        · have h3 : ¬ (0 ≤ b ∧ b ≤ l.Rated) := fun h3 => hp ⟨h1, h2, h3⟩
          simp only [h1, h2, h3, and_self, decide_true, decide_false, cond_true, Bool.not_false]
          rfl
        · simp only [h1, h2, decide_true, decide_false, cond_true, cond_false, Bool.not_false]
          rfl
      · simp only [h1, decide_false, cond_true, cond_false, Bool.not_false]
        rfl
  · simp only [checkV_ne h, h, if_false]
    rfl
theorem refSink_eq {N : Nat} (hN : 20 ≤ N) (l : api_Lift) (floor a b : Int) (k : Int → Int → Option R) : newelref05_Sink N l floor a b k = k (sinkV l floor a b).1 (sinkV l floor a b).2 := by
  rw [newelref05_Sink_def]
  unfold newelref05_Sink_m
  rw [refCheck_eq hN]
  unfold sinkV
  by_cases h : VL l
  · simp only [checkV_pos h, bne_self_eq_false, cond_false, within_eq, h, if_true, nF h, fl_dec]
    by_cases h1 : flP l floor
    · by_cases h2 : 0 ≤ a ∧ a ≤ l.Rated
      · by_cases h3 : 0 ≤ b ∧ b ≤ l.Rated
        · rw [if_pos ⟨h1, h2, h3⟩]
          simp only [h1, h2, h3, and_self, decide_true, Bool.not_true, cond_false, refsink_eq N h h1 h2.1 h2.2 h3.1 h3.2]
        · rw [if_neg (fun h => h3 h.2.2)]
          simp only [h1, h2, h3, and_self, decide_true, decide_false, Bool.not_true, cond_false, cond_true, Bool.not_false]
      · rw [if_neg (fun h => h2 h.2.1)]
        simp only [h1, h2, decide_true, decide_false, Bool.not_true, cond_false, cond_true, Bool.not_false]
    · rw [if_neg (fun h => h1 h.1)]
      simp only [h1, decide_false, cond_true, Bool.not_false]
  · simp only [checkV_ne h, h, if_false]
    rfl
end

/-! ### Levels -/

/-- The rounds of Levels. -/
def lvRun (l : api_Lift) (floor : Int) (loads : Arr Int) : Nat → Nat → Int → Bool → Arr Int → Bool → Arr Int → Bool × Arr Int × Bool × Arr Int
  | 0, _, _, b, off, c, again => (b, off, c, again)
  | r + 1, i, base, b, off, c, again =>
    if max (sinkS l floor base (loads.f i)) (-(sinkS l floor base (loads.f i))) > l.Level then
      lvRun l floor loads r (i + 1) (loads.f i) false (pushI off 0) false (pushI again i)
    else lvRun l floor loads r (i + 1) base false (pushI off (sinkS l floor base (loads.f i))) c again

def ldP (l : api_Lift) (loads : Arr Int) : Prop := ∀ i, i < loads.n → 0 ≤ loads.f i ∧ loads.f i ≤ l.Rated

section
variable {R : Type}

theorem Levels_l6_eq (N : Nat) {l : api_Lift} (h : VL l) {floor : Int} (hf : flP l floor) {loads : Arr Int} (hl : ldP l loads) (hn : loads.n ≤ 1000) (k0 : Bool → Arr Int → Bool → Arr Int → Option R) : ∀ (r i n : Nat) (base : Int) (b : Bool) (off : Arr Int) (c : Bool) (again : Arr Int), i + r = loads.n → r < n → 0 ≤ base → base ≤ l.Rated → off.n ≤ i → again.n ≤ i →
    lift_Levels_l6 N n base loads (loads.n : Int) (i : Int) l floor b off c again k0 = k0 (lvRun l floor loads r i base b off c again).1 (lvRun l floor loads r i base b off c again).2.1 (lvRun l floor loads r i base b off c again).2.2.1 (lvRun l floor loads r i base b off c again).2.2.2 := by
  intro r
  induction r with
  | zero =>
    intro i n base b off c again h1 h2 _ _ _ _
    obtain ⟨n, rfl⟩ : ∃ m, n = m + 1 := ⟨n - 1, by omega⟩
    unfold lift_Levels_l6 lift_Levels_b6
    have e1 : decide ((i : Int) < (loads.n : Int)) = false := by simp; omega
    simp only [e1, cond_false, lvRun]
  | succ r ih =>
    intro i n base b off c again h1 h2 h3 h4 h5 h6
    obtain ⟨n, rfl⟩ : ∃ m, n = m + 1 := ⟨n - 1, by omega⟩
    unfold lift_Levels_l6 lift_Levels_b6
    have e1 : decide ((i : Int) < (loads.n : Int)) = true := by simp; omega
    have hx := hl i (by omega)
    have hs := sinkS_bounds h hf h3 h4 hx.1 hx.2
    have r1 : room (off.n + 1) = true := room_of (by omega)
    have r2 : room (again.n + 1) = true := room_of (by omega)
    simp only [e1, nat_nonneg, Bool.and_self, cond_true, Int.toNat_natCast, sink_eq N h hf h3 h4 hx.1 hx.2, w64_succ (show i < 1000000000000 by omega), r1, r2]
    rw [w64_eq (n := 0 - _) (by omega) (by omega)]
    simp only [lvRun]
    by_cases hd : max (sinkS l floor base (loads.f i)) (-(sinkS l floor base (loads.f i))) > l.Level
    · have e2 : decide ((if 0 - sinkS l floor base (loads.f i) > sinkS l floor base (loads.f i) then 0 - sinkS l floor base (loads.f i) else sinkS l floor base (loads.f i)) > l.Level) = true := by rw [decide_eq_true_eq]; omega
      rw [if_pos hd]
      simp only [e2, cond_true]
      exact ih (i + 1) n (loads.f i) false (pushI off 0) false (pushI again i) (by omega) (by omega) hx.1 hx.2 (by rw [pushI_n]; omega) (by rw [pushI_n]; omega)
    · have e2 : decide ((if 0 - sinkS l floor base (loads.f i) > sinkS l floor base (loads.f i) then 0 - sinkS l floor base (loads.f i) else sinkS l floor base (loads.f i)) > l.Level) = false := by rw [decide_eq_false_iff_not]; omega
      rw [if_neg hd]
      simp only [e2, cond_false]
      exact ih (i + 1) n base false (pushI off (sinkS l floor base (loads.f i))) c again (by omega) (by omega) h3 h4 (by rw [pushI_n]; omega) (by omega)

theorem refLevels_l12_eq (N : Nat) {l : api_Lift} (h : VL l) {floor : Int} (hf : flP l floor) {loads : Arr Int} (hl : ldP l loads) (hn : loads.n ≤ 1000) (k0 : Bool → Arr Int → Bool → Arr Int → Option R) : ∀ (r i n : Nat) (base : Int) (b : Bool) (off : Arr Int) (c : Bool) (again : Arr Int), i + r = loads.n → r < n → 0 ≤ base → base ≤ l.Rated → off.n ≤ i → again.n ≤ i →
    newelref05_Levels_l12 N n floor loads base (i : Int) l b off c again k0 = k0 (lvRun l floor loads r i base b off c again).1 (lvRun l floor loads r i base b off c again).2.1 (lvRun l floor loads r i base b off c again).2.2.1 (lvRun l floor loads r i base b off c again).2.2.2 := by
  intro r
  induction r with
  | zero =>
    intro i n base b off c again h1 h2 _ _ _ _
    obtain ⟨n, rfl⟩ : ∃ m, n = m + 1 := ⟨n - 1, by omega⟩
    unfold newelref05_Levels_l12 newelref05_Levels_b12
    have e1 : decide ((i : Int) < (loads.n : Int)) = false := by simp; omega
    simp only [e1, cond_false, lvRun]
  | succ r ih =>
    intro i n base b off c again h1 h2 h3 h4 h5 h6
    obtain ⟨n, rfl⟩ : ∃ m, n = m + 1 := ⟨n - 1, by omega⟩
    unfold newelref05_Levels_l12 newelref05_Levels_b12
    have e1 : decide ((i : Int) < (loads.n : Int)) = true := by simp; omega
    have hx := hl i (by omega)
    have hs := sinkS_bounds h hf h3 h4 hx.1 hx.2
    have r1 : room (off.n + 1) = true := room_of (by omega)
    have r2 : room (again.n + 1) = true := room_of (by omega)
    simp only [e1, nat_nonneg, Bool.and_self, cond_true, Int.toNat_natCast, refsink_eq N h hf h3 h4 hx.1 hx.2, w64_succ (show i < 1000000000000 by omega), r1, r2]
    rw [apart_eq N (by omega) (by omega) (by omega) (by omega)]
    simp only [lvRun]
    by_cases hd : max (sinkS l floor base (loads.f i)) (-(sinkS l floor base (loads.f i))) > l.Level
    · have e2 : decide (max (sinkS l floor base (loads.f i) - 0) (0 - sinkS l floor base (loads.f i)) > l.Level) = true := by rw [decide_eq_true_eq]; omega
      rw [if_pos hd]
      simp only [e2, cond_true]
      exact ih (i + 1) n (loads.f i) false (pushI off 0) false (pushI again i) (by omega) (by omega) hx.1 hx.2 (by rw [pushI_n]; omega) (by rw [pushI_n]; omega)
    · have e2 : decide (max (sinkS l floor base (loads.f i) - 0) (0 - sinkS l floor base (loads.f i)) > l.Level) = false := by rw [decide_eq_false_iff_not]; omega
      rw [if_neg hd]
      simp only [e2, cond_false]
      exact ih (i + 1) n base false (pushI off (sinkS l floor base (loads.f i))) c again (by omega) (by omega) h3 h4 (by rw [pushI_n]; omega) (by omega)

open Classical in
theorem idx_l2_eq (N : Nat) (rated x1 x2 x3 : Int) (fl : Arr Int) (x4 x5 x6 x7 x8 x9 x10 : Int) {loads : Arr Int} (hn : loads.n ≤ 1000000) (kr : Int → Option R) (k0 : Unit → Option R) (key : Bool → Option R) (hkr : ∀ i : Nat, kr (i : Int) = key true) (hk0 : k0 () = key false) : ∀ (r i n : Nat), i + r = loads.n → r < n →
    slices_IndexFunc___int_int__l2 N n loads (loads.n : Int) (i : Int) x1 x2 rated x3 fl x4 x5 x6 x7 x8 x9 x10 kr k0 = key (!decide (∀ j, i ≤ j → j < loads.n → 0 ≤ loads.f j ∧ loads.f j ≤ rated)) := by
  intro r
  induction r with
  | zero =>
    intro i n h1 h2
    obtain ⟨n, rfl⟩ : ∃ m, n = m + 1 := ⟨n - 1, by omega⟩
    unfold slices_IndexFunc___int_int__l2 slices_IndexFunc___int_int__b2
    have e1 : decide ((i : Int) < (loads.n : Int)) = false := by simp; omega
    have e2 : decide (∀ j, i ≤ j → j < loads.n → 0 ≤ loads.f j ∧ loads.f j ≤ rated) = true := decide_eq_true (fun j h3 h4 => by omega)
    simp only [e1, cond_false, hk0, e2, Bool.not_true]
  | succ r ih =>
    intro i n h1 h2
    obtain ⟨n, rfl⟩ : ∃ m, n = m + 1 := ⟨n - 1, by omega⟩
    unfold slices_IndexFunc___int_int__l2 slices_IndexFunc___int_int__b2
    have e1 : decide ((i : Int) < (loads.n : Int)) = true := by simp; omega
    simp only [e1, nat_nonneg, Bool.and_self, cond_true, Int.toNat_natCast, w64_succ (show i < 1000000000000 by omega)]
    rw [lift_Levels_1_1_def]
    unfold lift_Levels_1_1_m
    rw [between_eq]
    by_cases hd : 0 ≤ loads.f i ∧ loads.f i ≤ rated
    · have e2 : decide (∀ j, i ≤ j → j < loads.n → 0 ≤ loads.f j ∧ loads.f j ≤ rated) = decide (∀ j, i + 1 ≤ j → j < loads.n → 0 ≤ loads.f j ∧ loads.f j ≤ rated) := by
        rw [decide_eq_decide]
        constructor
        · intro h j h3 h4; exact h j (by omega) h4
        · intro h j h3 h4
          by_cases e : j = i
          · subst e; exact hd
          · exact h j (by omega) h4
      simp only [hd, and_self, decide_true, Bool.not_true, cond_false, e2]
      exact ih (i + 1) n (by omega) (by omega)
    · have e2 : decide (∀ j, i ≤ j → j < loads.n → 0 ≤ loads.f j ∧ loads.f j ≤ rated) = false := decide_eq_false_iff_not.2 (fun h => hd (h i (Nat.le_refl _) (by omega)))
      simp only [hd, decide_false, Bool.not_false, cond_true, hkr, e2]

def lvP (l : api_Lift) (floor : Int) (loads : Arr Int) : Prop := flP l floor ∧ (1 ≤ (loads.n : Int) ∧ (loads.n : Int) ≤ 60) ∧ ldP l loads

def emI : Arr Int := lst intC 0 (zeroC [SV.int IntKind.i64 0])
open Classical in
noncomputable def lvE (l : api_Lift) (floor : Int) (loads : Arr Int) : Int := if VL l then if lvP l floor loads then 0 else 1 else 50
open Classical in
noncomputable def lvV (l : api_Lift) (floor : Int) (loads : Arr Int) : Bool × Arr Int × Bool × Arr Int := if lvE l floor loads = 0 then lvRun l floor loads loads.n 0 (loads.f 0) true emI true emI else (true, emI, true, emI)

theorem lvE_zero {l : api_Lift} {floor : Int} {loads : Arr Int} : lvE l floor loads = 0 ↔ VL l ∧ lvP l floor loads := by
  unfold lvE
  by_cases h : VL l <;> by_cases h2 : lvP l floor loads <;> simp [h, h2]

open Classical in
theorem ContainsFunc_eq {N : Nat} (rated x1 x2 x3 : Int) (fl : Arr Int) (x4 x5 x6 x7 x8 x9 x10 : Int) {loads : Arr Int} (hn : loads.n ≤ 1000000) (hN : loads.n < N) (k : Bool → Option R) :
    slices_ContainsFunc___int_int_ N loads x1 x2 rated x3 fl x4 x5 x6 x7 x8 x9 x10 k = k (!decide (∀ j, j < loads.n → 0 ≤ loads.f j ∧ loads.f j ≤ rated)) := by
  rw [slices_ContainsFunc___int_int__def]
  unfold slices_ContainsFunc___int_int__m
  rw [slices_IndexFunc___int_int__def]
  unfold slices_IndexFunc___int_int__m
  refine Eq.trans (idx_l2_eq N rated x1 x2 x3 fl x4 x5 x6 x7 x8 x9 x10 hn _ _ k (fun i => ?_) ?_ loads.n 0 N (by omega) hN) ?_
  · have : decide ((i : Int) ≥ 0) = true := by simp
    simp only [this]
  · rfl
  · simp only [Nat.zero_le, true_implies]

theorem Levels_eq {N : Nat} (hN : 61 ≤ N) (l : api_Lift) (floor : Int) (loads : Arr Int) (k : Int → Bool → Arr Int → Bool → Arr Int → Option R) : lift_Levels N l floor loads k = k (lvE l floor loads) (lvV l floor loads).1 (lvV l floor loads).2.1 (lvV l floor loads).2.2.1 (lvV l floor loads).2.2.2 := by
  rw [lift_Levels_def]
  unfold lift_Levels_m
  rw [lift_check_v6_def]
  unfold lift_check_v6_m
  rw [Check_eq (by omega)]
  by_cases h : VL l
  rotate_left
  · have he : lvE l floor loads = 50 := by unfold lvE; rw [if_neg h]
    have e50 : ((50 : Int) != 0) = true := rfl
    unfold lvV
    rw [checkV_ne h, he, if_neg (by omega)]
    simp only [e50, cond_true]
    rfl
  rw [lift_Levels_1_def]
  unfold lift_Levels_1_m
  simp only [checkV_pos h, bne_self_eq_false, cond_false, between_eq, nF h, fl_dec]
  by_cases hp : lvP l floor loads
  · obtain ⟨h1, h2, h3⟩ := id hp
    have he : lvE l floor loads = 0 := lvE_zero.2 ⟨h, hp⟩
    have h3' : ∀ j, j < loads.n → 0 ≤ loads.f j ∧ loads.f j ≤ l.Rated := h3
    have e1 : decide ((0 : Int) < (loads.n : Int)) = true := by simp; omega
    have h0 := h3 0 (by omega)
    simp only [h1, h2, and_self, decide_true, cond_true, ContainsFunc_eq l.Rated _ _ _ _ _ _ _ _ _ _ _ (show loads.n ≤ 1000000 by omega) (show loads.n < N by omega)]
    rw [decide_eq_true h3']
    simp only [Bool.not_true, Bool.not_false, cond_false, bne_self_eq_false, e1, cond_true]
    have := Levels_l6_eq N h h1 h3 (by omega) (fun r477 r478 r479 r480 => k 0 r477 r478 r479 r480) loads.n 0 N (loads.f 0) true emI true emI (by omega) (by omega) h0.1 h0.2 (Nat.le_refl 0) (Nat.le_refl 0)
    unfold lvV
    rw [he, if_pos rfl]
    exact this
  · have he : lvE l floor loads = 1 := by unfold lvE; rw [if_pos h, if_neg hp]
    have hv : lvV l floor loads = (true, emI, true, emI) := by unfold lvV; rw [he, if_neg (by omega)]
    have e1 : ((1 : Int) != 0) = true := rfl
    rw [he, hv]
    by_cases h1 : flP l floor
    · by_cases h2 : 1 ≤ (loads.n : Int) ∧ (loads.n : Int) ≤ 60
      · have h3 : ¬ ∀ j, j < loads.n → 0 ≤ loads.f j ∧ loads.f j ≤ l.Rated := fun h3 => hp ⟨h1, h2, h3⟩
        simp only [h1, h2, and_self, decide_true, cond_true, ContainsFunc_eq l.Rated _ _ _ _ _ _ _ _ _ _ _ (show loads.n ≤ 1000000 by omega) (show loads.n < N by omega)]
        rw [decide_eq_false h3]
        simp only [Bool.not_true, Bool.not_false, cond_true, e1]
        rfl
      · simp only [h1, h2, decide_true, decide_false, cond_true, cond_false, Bool.not_false, e1]
        rfl
    · simp only [h1, decide_false, cond_true, cond_false, Bool.not_false, e1]
      rfl

open Classical in
theorem refLevels_l6_eq (N : Nat) {l : api_Lift} (floor : Int) {loads : Arr Int} (hn : loads.n ≤ 1000000) (b c : Bool) (x y : Arr Int) (kr : Int → Bool → Arr Int → Bool → Arr Int → Option R) (k0 : Unit → Option R) : ∀ (r i n : Nat), i + r = loads.n → r < n →
    newelref05_Levels_l6 N n floor loads (i : Int) l b x c y kr k0 = if (∀ j, i ≤ j → j < loads.n → 0 ≤ loads.f j ∧ loads.f j ≤ l.Rated) then k0 () else kr 1 true emI true emI := by
  intro r
  induction r with
  | zero =>
    intro i n h1 h2
    obtain ⟨n, rfl⟩ : ∃ m, n = m + 1 := ⟨n - 1, by omega⟩
    unfold newelref05_Levels_l6 newelref05_Levels_b6
    have e1 : decide ((i : Int) < (loads.n : Int)) = false := by simp; omega
    rw [if_pos (fun j h3 h4 => by omega)]
    simp only [e1, cond_false]
  | succ r ih =>
    intro i n h1 h2
    obtain ⟨n, rfl⟩ : ∃ m, n = m + 1 := ⟨n - 1, by omega⟩
    unfold newelref05_Levels_l6 newelref05_Levels_b6
    have e1 : decide ((i : Int) < (loads.n : Int)) = true := by simp; omega
    simp only [e1, nat_nonneg, Bool.and_self, cond_true, Int.toNat_natCast, w64_succ (show i < 1000000000000 by omega), within_eq]
    by_cases hd : 0 ≤ loads.f i ∧ loads.f i ≤ l.Rated
    · have e2 : (∀ j, i ≤ j → j < loads.n → 0 ≤ loads.f j ∧ loads.f j ≤ l.Rated) ↔ (∀ j, i + 1 ≤ j → j < loads.n → 0 ≤ loads.f j ∧ loads.f j ≤ l.Rated) := by
        constructor
        · intro h j h3 h4; exact h j (by omega) h4
        · intro h j h3 h4
          by_cases e : j = i
          · subst e; exact hd
          · exact h j (by omega) h4
      simp only [hd, and_self, decide_true, Bool.not_true, cond_false, e2]
      exact ih (i + 1) n (by omega) (by omega)
    · rw [if_neg (fun h => hd (h i (Nat.le_refl _) (by omega)))]
      simp only [hd, decide_false, Bool.not_false, cond_true]
      rfl

theorem refLevels_eq {N : Nat} (hN : 61 ≤ N) (l : api_Lift) (floor : Int) (loads : Arr Int) (k : Int → Bool → Arr Int → Bool → Arr Int → Option R) : newelref05_Levels N l floor loads k = k (lvE l floor loads) (lvV l floor loads).1 (lvV l floor loads).2.1 (lvV l floor loads).2.2.1 (lvV l floor loads).2.2.2 := by
  rw [newelref05_Levels_def]
  unfold newelref05_Levels_m
  rw [refCheck_eq (by omega)]
  by_cases h : VL l
  rotate_left
  · have he : lvE l floor loads = 50 := by unfold lvE; rw [if_neg h]
    have e50 : ((50 : Int) != 0) = true := rfl
    unfold lvV
    rw [checkV_ne h, he, if_neg (by omega)]
    simp only [e50, cond_true]
    rfl
  simp only [checkV_pos h, bne_self_eq_false, cond_false, within_eq, nF h, fl_dec]
  by_cases h1 : flP l floor
  rotate_left
  · have he : lvE l floor loads = 1 := by unfold lvE; rw [if_pos h, if_neg (fun hp => h1 hp.1)]
    have hv : lvV l floor loads = (true, emI, true, emI) := by unfold lvV; rw [he, if_neg (by omega)]
    rw [he, hv]
    simp only [h1, decide_false, cond_true, Bool.not_false]
    rfl
  by_cases h2 : 1 ≤ (loads.n : Int) ∧ (loads.n : Int) ≤ 60
  rotate_left
  · have he : lvE l floor loads = 1 := by unfold lvE; rw [if_pos h, if_neg (fun hp => h2 hp.2.1)]
    have hv : lvV l floor loads = (true, emI, true, emI) := by unfold lvV; rw [he, if_neg (by omega)]
    rw [he, hv]
    simp only [h1, h2, decide_true, decide_false, cond_true, Bool.not_true, cond_false, Bool.not_false]
    rfl
  simp only [h1, h2, and_self, decide_true, Bool.not_true, cond_false]
  refine Eq.trans (refLevels_l6_eq N floor (by omega) true true _ _ _ _ loads.n 0 N (by omega) (by omega)) ?_
  by_cases h3 : ldP l loads
  · have he : lvE l floor loads = 0 := lvE_zero.2 ⟨h, h1, h2, h3⟩
    have e1 : decide ((0 : Int) < (loads.n : Int)) = true := by simp; omega
    have h0 := h3 0 (by omega)
    rw [if_pos (fun j _ hj => h3 j hj)]
    simp only [e1, cond_true]
    have := refLevels_l12_eq N h h1 h3 (by omega) (fun r477 r478 r479 r480 => k 0 r477 r478 r479 r480) loads.n 0 N (loads.f 0) true emI true emI (by omega) (by omega) h0.1 h0.2 (Nat.le_refl 0) (Nat.le_refl 0)
    unfold lvV
    rw [he, if_pos rfl]
    exact this
  · have he : lvE l floor loads = 1 := by unfold lvE; rw [if_pos h, if_neg (fun hp => h3 hp.2.2)]
    have hv : lvV l floor loads = (true, emI, true, emI) := by unfold lvV; rw [he, if_neg (by omega)]
    rw [he, hv, if_neg (fun h => h3 (fun j hj => h j (by omega) hj))]

/-! ### What Levels says -/

/-- Levels' lists, up to a load. -/
structure LvI (l : api_Lift) (i : Nat) (off again : Arr Int) : Prop where
  n : off.n = i
  lev : ∀ j, j < i → -l.Level ≤ off.f j ∧ off.f j ≤ l.Level
  m : again.n ≤ i
  ag : ∀ j, j < again.n → 1 ≤ again.f j ∧ again.f j < i ∧ off.f (again.f j).toNat = 0

theorem lvRun_ok {l : api_Lift} (h : VL l) {floor : Int} {loads : Arr Int} : ∀ (r i : Nat) (base : Int) (b : Bool) (off : Arr Int) (c : Bool) (again : Arr Int), i + r = loads.n → (i = 0 → base = loads.f 0) → LvI l i off again →
    LvI l loads.n (lvRun l floor loads r i base b off c again).2.1 (lvRun l floor loads r i base b off c again).2.2.2 := by
  intro r
  induction r with
  | zero => intro i base b off c again h1 h2 h3; rw [← show i = loads.n by omega]; exact h3
  | succ r ih =>
    intro i base b off c again h1 h2 h3
    have e1 := h.e1
    simp only [lvRun]
    split
    · rename_i hd
      have hi : 1 ≤ i := by
        rcases Nat.eq_zero_or_pos i with h4 | h4
        · subst h4
          rw [h2 rfl] at hd
          have : sinkS l floor (loads.f 0) (loads.f 0) = 0 := by unfold sinkS; rw [Int.sub_self, Int.zero_mul, Int.zero_tdiv]
          omega
        · exact h4
      refine ih (i + 1) _ _ _ _ _ (by omega) (by omega) ⟨by rw [pushI_n, h3.n], fun j hj => ?_, by rw [pushI_n]; have := h3.m; omega, fun j hj => ?_⟩
      · by_cases hlt : j < off.n
        · rw [pushI_lt hlt]; exact h3.lev j (by have := h3.n; omega)
        · have : j = off.n := by have := h3.n; omega
          rw [this, pushI_eq]; omega
      · rw [pushI_n] at hj
        by_cases hlt : j < again.n
        · rw [pushI_lt hlt]
          obtain ⟨a1, a2, a3⟩ := h3.ag j hlt
          refine ⟨a1, by omega, ?_⟩
          rw [pushI_lt (by rw [h3.n]; omega)]
          exact a3
        · have : j = again.n := by omega
          rw [this, pushI_eq]
          refine ⟨by omega, by omega, ?_⟩
          have : ((i : Int)).toNat = off.n := by rw [h3.n]; simp
          rw [this, pushI_eq]
    · rename_i hd
      refine ih (i + 1) _ _ _ _ _ (by omega) (by omega) ⟨by rw [pushI_n, h3.n], fun j hj => ?_, by have := h3.m; omega, fun j hj => ?_⟩
      · by_cases hlt : j < off.n
        · rw [pushI_lt hlt]; exact h3.lev j (by have := h3.n; omega)
        · have : j = off.n := by have := h3.n; omega
          rw [this, pushI_eq]; omega
      · obtain ⟨a1, a2, a3⟩ := h3.ag j hj
        refine ⟨a1, by omega, ?_⟩
        rw [pushI_lt (by rw [h3.n]; omega)]
        exact a3

theorem lvV_ok {l : api_Lift} {floor : Int} {loads : Arr Int} (he : lvE l floor loads = 0) : LvI l loads.n (lvV l floor loads).2.1 (lvV l floor loads).2.2.2 := by
  obtain ⟨h, h1⟩ := lvE_zero.1 he
  unfold lvV
  rw [if_pos he]
  exact lvRun_ok h loads.n 0 _ _ _ _ _ (by omega) (fun _ => rfl) ⟨rfl, fun j hj => by omega, Nat.le_refl 0, fun j hj => absurd hj (Nat.not_lt_zero _)⟩

end

end Go.Proofs.Ytceeaimmelaenaa
