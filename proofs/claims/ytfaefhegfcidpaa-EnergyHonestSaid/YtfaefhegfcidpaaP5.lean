/-
  Energy: flows; lists that are the same; the example.
-/
import Derived.Test.YtfaefhegfcidpaaP4
set_option linter.unusedVariables false
set_option linter.unusedSimpArgs false
set_option maxRecDepth 100000
namespace Go.Proofs.Ytfaefhegfcidpaa
open Go.Sx

/-- The fuel of all statements. -/
def NN : Nat := 20000

/-! ### Flows -/
def enS (b : api_Band) (q : api_Period) (pace fl : Int) : Int := powerS b fl pace * q.Lasts
def floR (b : api_Band) (q : api_Period) (pace : Int) (rd : api_Span) : Nat → Int → Bool → Arr Int → Bool × Arr Int
  | 0, _, c, a => (c, a)
  | r + 1, fl, c, a => if rd.Low ≤ enS b q pace fl ∧ enS b q pace fl ≤ rd.High then floR b q pace rd r (fl + 1) false (pushI a fl) else floR b q pace rd r (fl + 1) c a
def floS (b : api_Band) (q : api_Period) (pace : Int) (rd : api_Span) : Bool × Arr Int := floR b q pace rd (q.Flow.High + 1 - q.Flow.Low).toNat q.Flow.Low true emI

theorem en_bounds {b : api_Band} (h : VB b) {q : api_Period} (hq : perP q) {fl pace : Int} (hf : Fp fl pace) : -200000000000000 ≤ enS b q pace fl ∧ enS b q pace fl ≤ 200000000000000 := by
  have h1 := power_bounds h hf
  have h2 := mul_abs (a := powerS b fl pace) (A := 200000000000) (c := q.Lasts) (C := 1000) (by omega) (by omega) (by omega) (by have := hq.l1; omega) hq.l2
  exact ⟨by unfold enS; omega, by unfold enS; omega⟩

section
variable {R : Type}

theorem flows_l2_eq (N : Nat) {b : api_Band} (h : VB b) {q : api_Period} (hq : perP q) {pace : Int} (hp : 1 ≤ pace ∧ pace ≤ 100) (rd : api_Span) (k : Bool → Arr Int → Option R) : ∀ (r n : Nat) (fl : Int) (c : Bool) (a : Arr Int), 0 ≤ fl → fl + r = q.Flow.High + 1 → r < n → a.n + r ≤ 1000 →
    energy_flows_l2 N n pace fl b q rd c a k = k (floR b q pace rd r fl c a).1 (floR b q pace rd r fl c a).2 := by
  have f3 := hq.f3
  intro r
  induction r with
  | zero =>
    intro n fl c a h0 h1 h2 h3
    obtain ⟨n, rfl⟩ : ∃ m, n = m + 1 := ⟨n - 1, by omega⟩
    unfold energy_flows_l2 energy_flows_b2
    have e1 : decide (fl ≤ q.Flow.High) = false := by simp; omega
    simp only [e1, cond_false, floR]
  | succ r ih =>
    intro n fl c a h0 h1 h2 h3
    obtain ⟨n, rfl⟩ : ∃ m, n = m + 1 := ⟨n - 1, by omega⟩
    unfold energy_flows_l2 energy_flows_b2
    have e1 : decide (fl ≤ q.Flow.High) = true := by simp; omega
    have hf : Fp fl pace := ⟨h0, by omega, hp.1, hp.2⟩
    have hb := en_bounds h hq hf
    have e2 : w64 (powerS b fl pace * q.Lasts) = enS b q pace fl := by unfold enS at hb ⊢; rw [w64_eq (by omega) (by omega)]
    have e3 : w64 (fl + 1) = fl + 1 := w64_eq (by omega) (by omega)
    have hr : room (a.n + 1) = true := room_of (by omega)
    simp only [e1, cond_true, power_eq N h hf, e2, e3, hr, floR]
    by_cases c1 : rd.Low ≤ enS b q pace fl
    · by_cases c2 : enS b q pace fl ≤ rd.High
      · rw [if_pos ⟨c1, c2⟩]
        simp only [c1, c2, decide_true, cond_true]
        exact ih n (fl + 1) false (pushI a fl) (by omega) (by omega) (by omega) (by rw [pushI_n]; omega)
      · rw [if_neg (fun g => c2 g.2)]
        simp only [c1, c2, decide_true, decide_false, cond_true, cond_false]
        exact ih n (fl + 1) c a (by omega) (by omega) (by omega) (by omega)
    · rw [if_neg (fun g => c1 g.1)]
      simp only [c1, decide_false, cond_false]
      exact ih n (fl + 1) c a (by omega) (by omega) (by omega) (by omega)

theorem refflows_l3_eq (N : Nat) {b : api_Band} (h : VB b) {q : api_Period} (hq : perP q) {pace : Int} (hp : 1 ≤ pace ∧ pace ≤ 100) (rd : api_Span) (k : Bool → Arr Int → Option R) : ∀ (r n : Nat) (fl : Int) (c : Bool) (a : Arr Int), 0 ≤ fl → fl + r = q.Flow.High + 1 → r < n → a.n + r ≤ 1000 →
    newelref11_flows_l3 N n pace fl b q rd c a k = k (floR b q pace rd r fl c a).1 (floR b q pace rd r fl c a).2 := by
  have f3 := hq.f3
  intro r
  induction r with
  | zero =>
    intro n fl c a h0 h1 h2 h3
    obtain ⟨n, rfl⟩ : ∃ m, n = m + 1 := ⟨n - 1, by omega⟩
    unfold newelref11_flows_l3 newelref11_flows_b3
    have e1 : decide (fl ≤ q.Flow.High) = false := by simp; omega
    simp only [e1, cond_false, floR]
  | succ r ih =>
    intro n fl c a h0 h1 h2 h3
    obtain ⟨n, rfl⟩ : ∃ m, n = m + 1 := ⟨n - 1, by omega⟩
    unfold newelref11_flows_l3 newelref11_flows_b3
    have e1 : decide (fl ≤ q.Flow.High) = true := by simp; omega
    have hf : Fp fl pace := ⟨h0, by omega, hp.1, hp.2⟩
    have hb := en_bounds h hq hf
    have e2 : w64 (powerS b fl pace * q.Lasts) = enS b q pace fl := by unfold enS at hb ⊢; rw [w64_eq (by omega) (by omega)]
    have e3 : w64 (fl + 1) = fl + 1 := w64_eq (by omega) (by omega)
    have hr : room (a.n + 1) = true := room_of (by omega)
    have hE : ∀ k : Int → Option R, newelref11_Energy N b q fl pace k = k (enS b q pace fl) := fun k => by
      rw [newelref11_Energy_def]
      unfold newelref11_Energy_m
      rw [refpower_eq N h hf, e2]
    simp only [e1, cond_true, hE, within_eq, e3, hr, floR]
    by_cases c1 : rd.Low ≤ enS b q pace fl ∧ enS b q pace fl ≤ rd.High
    · rw [if_pos c1, decide_eq_true c1]
      simp only [cond_true]
      exact ih n (fl + 1) false (pushI a fl) (by omega) (by omega) (by omega) (by rw [pushI_n]; omega)
    · rw [if_neg c1, decide_eq_false c1]
      simp only [cond_false]
      exact ih n (fl + 1) c a (by omega) (by omega) (by omega) (by omega)

theorem flows_eq {N : Nat} (hN : 200 ≤ N) {b : api_Band} (h : VB b) {q : api_Period} (hq : perP q) {pace : Int} (hp : 1 ≤ pace ∧ pace ≤ 100) (rd : api_Span) (k : Bool → Arr Int → Option R) : energy_flows N b q pace rd k = k (floS b q pace rd).1 (floS b q pace rd).2 := by
  rw [energy_flows_def]
  unfold energy_flows_m
  have f1 := hq.f1
  have f2 := hq.f2
  have f3 := hq.f3
  exact flows_l2_eq N h hq hp rd k (q.Flow.High + 1 - q.Flow.Low).toNat N q.Flow.Low true emI f1 (by omega) (by omega) (by show 0 + _ ≤ _; omega)
theorem refflows_eq {N : Nat} (hN : 200 ≤ N) {b : api_Band} (h : VB b) {q : api_Period} (hq : perP q) {pace : Int} (hp : 1 ≤ pace ∧ pace ≤ 100) (rd : api_Span) (k : Bool → Arr Int → Option R) : newelref11_flows N b q pace rd k = k (floS b q pace rd).1 (floS b q pace rd).2 := by
  rw [newelref11_flows_def]
  unfold newelref11_flows_m
  have f1 := hq.f1
  have f2 := hq.f2
  have f3 := hq.f3
  exact refflows_l3_eq N h hq hp rd k (q.Flow.High + 1 - q.Flow.Low).toNat N q.Flow.Low true emI f1 (by omega) (by omega) (by show 0 + _ ≤ _; omega)

theorem floR_n {b : api_Band} {q : api_Period} {pace : Int} {rd : api_Span} : ∀ (r : Nat) (fl : Int) (c : Bool) (a : Arr Int), a.n ≤ (floR b q pace rd r fl c a).2.n ∧ (floR b q pace rd r fl c a).2.n ≤ a.n + r ∧ ∀ j, j < a.n → (floR b q pace rd r fl c a).2.f j = a.f j := by
  intro r
  induction r with
  | zero => intro fl c a; simp only [floR]; exact ⟨Nat.le_refl _, Nat.le_refl _, fun j _ => trivial⟩
  | succ r ih =>
    intro fl c a
    simp only [floR]
    split
    · obtain ⟨h1, h2, h3⟩ := ih (fl + 1) false (pushI a fl)
      rw [pushI_n] at h1 h2 h3
      refine ⟨by omega, by omega, fun j hj => ?_⟩
      rw [h3 j (by omega), pushI_lt hj]
    · obtain ⟨h1, h2, h3⟩ := ih (fl + 1) c a
      exact ⟨h1, by omega, h3⟩

/-- A flow whose energy was read is among them. -/
theorem floR_has {b : api_Band} {q : api_Period} {pace : Int} {rd : api_Span} {x : Int} (hx : rd.Low ≤ enS b q pace x ∧ enS b q pace x ≤ rd.High) : ∀ (r : Nat) (fl : Int) (c : Bool) (a : Arr Int), fl ≤ x → x < fl + r → ∃ j, j < (floR b q pace rd r fl c a).2.n ∧ (floR b q pace rd r fl c a).2.f j = x := by
  intro r
  induction r with
  | zero => intro fl c a h1 h2; omega
  | succ r ih =>
    intro fl c a h1 h2
    simp only [floR]
    by_cases e : fl = x
    · subst e
      rw [if_pos hx]
      obtain ⟨g1, g2, g3⟩ := floR_n (b := b) (q := q) (pace := pace) (rd := rd) r (fl + 1) false (pushI a fl)
      rw [pushI_n] at g1 g3
      exact ⟨a.n, by omega, by rw [g3 a.n (by omega), pushI_eq]⟩
    · split
      · exact ih (fl + 1) false _ (by omega) (by omega)
      · exact ih (fl + 1) c a (by omega) (by omega)

def flwP (t : api_Times) (p : Arr Int) (i : Int) (rd : api_Span) : Prop := (0 ≤ i ∧ i ≤ (p.n : Int) - 1) ∧ rd.Low ≤ rd.High
open Classical in
noncomputable def flwE (b : api_Band) (t : api_Times) (p : Arr Int) (i : Int) (rd : api_Span) : Int := if planV b t p = 0 then if flwP t p i rd then 0 else 1 else planV b t p
noncomputable def flwV (b : api_Band) (t : api_Times) (p : Arr Int) (i : Int) (rd : api_Span) : Bool × Arr Int := if flwE b t p i rd = 0 then floS b (t.Periods.f i.toNat) (p.f i.toNat) rd else (true, emI)

theorem flwE_zero {b : api_Band} {t : api_Times} {p : Arr Int} {i : Int} {rd : api_Span} : flwE b t p i rd = 0 ↔ VB b ∧ VT t ∧ planP b t p ∧ flwP t p i rd := by
  unfold flwE
  by_cases h : planV b t p = 0
  · rw [if_pos h]
    have h1 := planV_zero.1 h
    by_cases h2 : flwP t p i rd <;> simp [h2, h1]
  · rw [if_neg h]
    constructor
    · intro g; exact absurd g h
    · intro g; exact absurd (planV_zero.2 ⟨g.1, g.2.1, g.2.2.1⟩) h

theorem Flows_eq {N : Nat} (hN : 200 ≤ N) (b : api_Band) (t : api_Times) (p : Arr Int) (i : Int) (rd : api_Span) (k : Int → Bool → Arr Int → Option R) : energy_Flows N b t p i rd k = k (flwE b t p i rd) (flwV b t p i rd).1 (flwV b t p i rd).2 := by
  rw [energy_Flows_def]
  unfold energy_Flows_m
  rw [checkPlan_eq (by omega)]
  by_cases h : planV b t p = 0
  rotate_left
  · have e : flwE b t p i rd = planV b t p := by unfold flwE; rw [if_neg h]
    have e2 : flwV b t p i rd = (true, emI) := by unfold flwV; rw [e, if_neg h]
    have : (planV b t p != 0) = true := by simpa using h
    rw [e, e2]
    simp only [this, cond_true]
    rfl
  obtain ⟨hb, ht, hp⟩ := planV_zero.1 h
  have hpn := hp.1
  rw [h]
  simp only [bne_self_eq_false, cond_false]
  have neg : ¬ flwP t p i rd → k 1 true emI = k (flwE b t p i rd) (flwV b t p i rd).1 (flwV b t p i rd).2 := fun hn => by
    have e : flwE b t p i rd = 1 := by unfold flwE; rw [if_pos h, if_neg hn]
    have e2 : flwV b t p i rd = (true, emI) := by unfold flwV; rw [e, if_neg (by omega)]
    rw [e, e2]
  by_cases c1 : i < 0
  · simp only [c1, decide_true, cond_true]; exact neg (fun g => by have := g.1; omega)
  by_cases c2 : i ≥ (p.n : Int)
  · simp only [c1, c2, decide_false, cond_false, decide_true, cond_true]; exact neg (fun g => by have := g.1; omega)
  by_cases c3 : rd.Low > rd.High
  · simp only [c1, c2, c3, decide_false, cond_false, decide_true, cond_true]; exact neg (fun g => by have := g.2; omega)
  have hw : flwP t p i rd := ⟨⟨by omega, by omega⟩, by omega⟩
  have e : flwE b t p i rd = 0 := flwE_zero.2 ⟨hb, ht, hp, hw⟩
  have a1 : decide ((0 : Int) ≤ i) = true := by simp; omega
  have a2 : decide (i < (t.Periods.n : Int)) = true := by simp; omega
  have a3 : decide (i < (p.n : Int)) = true := by simp; omega
  simp only [c1, c2, c3, decide_false, cond_false, a1, a2, a3, Bool.and_self, cond_true]
  rw [flows_eq hN hb (ht.per _ (by omega)) (plan_pace hb hp (j := i.toNat) (by omega)), e]
  unfold flwV
  rw [if_pos e]

theorem refFlows_eq {N : Nat} (hN : 200 ≤ N) (b : api_Band) (t : api_Times) (p : Arr Int) (i : Int) (rd : api_Span) (k : Int → Bool → Arr Int → Option R) : newelref11_Flows N b t p i rd k = k (flwE b t p i rd) (flwV b t p i rd).1 (flwV b t p i rd).2 := by
  rw [newelref11_Flows_def]
  unfold newelref11_Flows_m
  rw [refPlan_eq (by omega)]
  by_cases h : planV b t p = 0
  rotate_left
  · have e : flwE b t p i rd = planV b t p := by unfold flwE; rw [if_neg h]
    have e2 : flwV b t p i rd = (true, emI) := by unfold flwV; rw [e, if_neg h]
    have : (planV b t p != 0) = true := by simpa using h
    rw [e, e2]
    simp only [this, cond_true]
    rfl
  obtain ⟨hb, ht, hp⟩ := planV_zero.1 h
  have hpn := hp.1
  have hn1 := ht.n1
  have hn2 := ht.n2
  rw [h]
  simp only [bne_self_eq_false, cond_false, within_eq]
  rw [w64_eq (n := (p.n : Int) - 1) (by omega) (by omega)]
  have neg : ¬ flwP t p i rd → k 1 true emI = k (flwE b t p i rd) (flwV b t p i rd).1 (flwV b t p i rd).2 := fun hn => by
    have e : flwE b t p i rd = 1 := by unfold flwE; rw [if_pos h, if_neg hn]
    have e2 : flwV b t p i rd = (true, emI) := by unfold flwV; rw [e, if_neg (by omega)]
    rw [e, e2]
  by_cases c1 : 0 ≤ i ∧ i ≤ (p.n : Int) - 1
  rotate_left
  · simp only [c1, decide_false, Bool.not_false, cond_true]; exact neg (fun g => c1 g.1)
  by_cases c3 : rd.High < rd.Low
  · simp only [c1, c3, and_self, decide_true, Bool.not_true, cond_false, cond_true]; exact neg (fun g => by have := g.2; omega)
  have hw : flwP t p i rd := ⟨c1, by omega⟩
  have e : flwE b t p i rd = 0 := flwE_zero.2 ⟨hb, ht, hp, hw⟩
  have a2 : decide (i < (t.Periods.n : Int)) = true := by simp; omega
  have a3 : decide (i < (p.n : Int)) = true := by simp; omega
  have a1 : decide ((0 : Int) ≤ i) = true := by simp; omega
  simp only [c1, c3, and_self, decide_true, Bool.not_true, decide_false, cond_false, a1, a2, a3, Bool.and_self, cond_true]
  rw [refflows_eq hN hb (ht.per _ (by omega)) (plan_pace hb hp (j := i.toNat) (by omega)), e]
  unfold flwV
  rw [if_pos e]

/-! ### Explains -/
def explR (b : api_Band) (t : api_Times) (p : Arr Int) (rd : Arr api_Span) : Nat → Nat → Int × Bool × Int
  | 0, _ => (0, true, 0)
  | r + 1, i => if (floS b (t.Periods.f i) (p.f i) (rd.f i)).2.n = 0 then ((i : Int), false, 0) else explR b t p rd r (i + 1)
def rdsP (p : Arr Int) (rd : Arr api_Span) : Prop := rd.n = p.n ∧ ∀ j, j < rd.n → (rd.f j).Low ≤ (rd.f j).High
open Classical in
noncomputable def explV (b : api_Band) (t : api_Times) (p : Arr Int) (rd : Arr api_Span) : Int × Bool × Int := if planV b t p = 0 then if rdsP p rd then explR b t p rd t.Periods.n 0 else (0, false, 1) else (0, false, planV b t p)

open Classical in
theorem sp_l2_eq (N : Nat) {rd : Arr api_Span} (hn : rd.n ≤ 1000000) (kr : Int → Option R) (k0 : Unit → Option R) (key : Bool → Option R) (hkr : ∀ i : Nat, kr (i : Int) = key true) (hk0 : k0 () = key false) : ∀ (r i n : Nat), i + r = rd.n → r < n →
    slices_IndexFunc___api_Span_api_Span__l2 N n rd (rd.n : Int) (i : Int) kr k0 = key (!decide (∀ j, i ≤ j → j < rd.n → (rd.f j).Low ≤ (rd.f j).High)) := by
  intro r
  induction r with
  | zero =>
    intro i n h1 h2
    obtain ⟨n, rfl⟩ : ∃ m, n = m + 1 := ⟨n - 1, by omega⟩
    unfold slices_IndexFunc___api_Span_api_Span__l2 slices_IndexFunc___api_Span_api_Span__b2
    have e2 : decide (∀ j, i ≤ j → j < rd.n → (rd.f j).Low ≤ (rd.f j).High) = true := decide_eq_true (fun j h3 h4 => by omega)
    simp only [lt_false (show rd.n ≤ i by omega), cond_false, hk0, e2, Bool.not_true]
  | succ r ih =>
    intro i n h1 h2
    obtain ⟨n, rfl⟩ : ∃ m, n = m + 1 := ⟨n - 1, by omega⟩
    unfold slices_IndexFunc___api_Span_api_Span__l2 slices_IndexFunc___api_Span_api_Span__b2
    simp only [lt_true (show i < rd.n by omega), nat_nonneg, Bool.and_self, cond_true, Int.toNat_natCast, w64_succ (show i < 1000000000000 by omega)]
    rw [energy_Explains_1_def]
    unfold energy_Explains_1_m
    by_cases hd : (rd.f i).Low ≤ (rd.f i).High
    · have e : decide ((rd.f i).Low > (rd.f i).High) = false := by simp; omega
      rw [decide_eq_decide.2 (all_step (P := fun j => (rd.f j).Low ≤ (rd.f j).High) hd)]
      simp only [e, cond_false]
      exact ih (i + 1) n (by omega) (by omega)
    · have e : decide ((rd.f i).Low > (rd.f i).High) = true := by simp; omega
      have e2 : decide (∀ j, i ≤ j → j < rd.n → (rd.f j).Low ≤ (rd.f j).High) = false := decide_eq_false (fun g => hd (g i (Nat.le_refl _) (by omega)))
      simp only [e, cond_true, hkr, e2, Bool.not_false]

theorem expl_l7_eq {N : Nat} (hN : 200 ≤ N) {b : api_Band} (h : VB b) {t : api_Times} (ht : VT t) {p : Arr Int} (hp : planP b t p) {rd : Arr api_Span} (hr : rd.n = p.n) (k : Int → Bool → Int → Option R) : ∀ (r i n : Nat), i + r = t.Periods.n → r < n →
    energy_Explains_l7 N n p rd t.Periods (t.Periods.n : Int) (i : Int) b k (fun _ => k 0 true 0) = k (explR b t p rd r i).1 (explR b t p rd r i).2.1 (explR b t p rd r i).2.2 := by
  have hn2 := ht.n2
  have hpn := hp.1
  intro r
  induction r with
  | zero =>
    intro i n h1 h2
    obtain ⟨n, rfl⟩ : ∃ m, n = m + 1 := ⟨n - 1, by omega⟩
    unfold energy_Explains_l7 energy_Explains_b7
    simp only [lt_false (show t.Periods.n ≤ i by omega), cond_false, explR]
  | succ r ih =>
    intro i n h1 h2
    obtain ⟨n, rfl⟩ : ∃ m, n = m + 1 := ⟨n - 1, by omega⟩
    unfold energy_Explains_l7 energy_Explains_b7
    simp only [lt_true (show i < t.Periods.n by omega), lt_true (show i < p.n by omega), lt_true (show i < rd.n by omega), nat_nonneg, Bool.and_self, cond_true, Int.toNat_natCast, w64_succ (show i < 1000000000000 by omega), flows_eq hN h (ht.per i (by omega)) (plan_pace h hp (j := i) (by omega)), explR]
    by_cases c : (floS b (t.Periods.f i) (p.f i) (rd.f i)).2.n = 0
    · have e : (((floS b (t.Periods.f i) (p.f i) (rd.f i)).2.n : Int) == 0) = true := by simp; omega
      rw [if_pos c]
      simp only [e, cond_true]
    · have e : (((floS b (t.Periods.f i) (p.f i) (rd.f i)).2.n : Int) == 0) = false := by simp; omega
      rw [if_neg c]
      simp only [e, cond_false]
      exact ih (i + 1) n (by omega) (by omega)

open Classical in
theorem refexpl_l7_eq (N : Nat) (b : api_Band) (t : api_Times) (p : Arr Int) {rd : Arr api_Span} (hr : rd.n ≤ 1000000) (kr : Int → Bool → Int → Option R) (k0 : Unit → Option R) : ∀ (r i n : Nat), i + r = rd.n → r < n →
    newelref11_Explains_l7 N n p rd (i : Int) b t kr k0 = if (∀ j, i ≤ j → j < rd.n → (rd.f j).Low ≤ (rd.f j).High) then k0 () else kr 0 false 1 := by
  intro r
  induction r with
  | zero =>
    intro i n h1 h2
    obtain ⟨n, rfl⟩ : ∃ m, n = m + 1 := ⟨n - 1, by omega⟩
    unfold newelref11_Explains_l7 newelref11_Explains_b7
    rw [if_pos (show ∀ j, i ≤ j → j < rd.n → (rd.f j).Low ≤ (rd.f j).High from fun j h3 h4 => by omega)]
    simp only [lt_false (show rd.n ≤ i by omega), cond_false]
  | succ r ih =>
    intro i n h1 h2
    obtain ⟨n, rfl⟩ : ∃ m, n = m + 1 := ⟨n - 1, by omega⟩
    unfold newelref11_Explains_l7 newelref11_Explains_b7
    simp only [lt_true (show i < rd.n by omega), nat_nonneg, Bool.and_self, cond_true, Int.toNat_natCast, w64_succ (show i < 1000000000000 by omega)]
    by_cases hd : (rd.f i).Low ≤ (rd.f i).High
    · have e : decide ((rd.f i).High < (rd.f i).Low) = false := by simp; omega
      simp only [e, cond_false, all_step (P := fun j => (rd.f j).Low ≤ (rd.f j).High) hd]
      exact ih (i + 1) n (by omega) (by omega)
    · have e : decide ((rd.f i).High < (rd.f i).Low) = true := by simp; omega
      rw [if_neg (fun g => hd (g i (Nat.le_refl _) (by omega)))]
      simp only [e, cond_true]

theorem refexpl_l12_eq {N : Nat} (hN : 200 ≤ N) {b : api_Band} (h : VB b) {t : api_Times} (ht : VT t) {p : Arr Int} (hp : planP b t p) {rd : Arr api_Span} (hr : rd.n = p.n) (k : Int → Bool → Int → Option R) : ∀ (r i n : Nat), i + r = t.Periods.n → r < n →
    newelref11_Explains_l12 N n p rd (i : Int) b t k (fun _ => k 0 true 0) = k (explR b t p rd r i).1 (explR b t p rd r i).2.1 (explR b t p rd r i).2.2 := by
  have hn2 := ht.n2
  have hpn := hp.1
  intro r
  induction r with
  | zero =>
    intro i n h1 h2
    obtain ⟨n, rfl⟩ : ∃ m, n = m + 1 := ⟨n - 1, by omega⟩
    unfold newelref11_Explains_l12 newelref11_Explains_b12
    simp only [lt_false (show rd.n ≤ i by omega), cond_false, explR]
  | succ r ih =>
    intro i n h1 h2
    obtain ⟨n, rfl⟩ : ∃ m, n = m + 1 := ⟨n - 1, by omega⟩
    unfold newelref11_Explains_l12 newelref11_Explains_b12
    simp only [lt_true (show i < t.Periods.n by omega), lt_true (show i < p.n by omega), lt_true (show i < rd.n by omega), nat_nonneg, Bool.and_self, cond_true, Int.toNat_natCast, w64_succ (show i < 1000000000000 by omega), refflows_eq hN h (ht.per i (by omega)) (plan_pace h hp (j := i) (by omega)), explR]
    by_cases c : (floS b (t.Periods.f i) (p.f i) (rd.f i)).2.n = 0
    · have e : (((floS b (t.Periods.f i) (p.f i) (rd.f i)).2.n : Int) == 0) = true := by simp; omega
      rw [if_pos c]
      simp only [e, cond_true]
    · have e : (((floS b (t.Periods.f i) (p.f i) (rd.f i)).2.n : Int) == 0) = false := by simp; omega
      rw [if_neg c]
      simp only [e, cond_false]
      exact ih (i + 1) n (by omega) (by omega)

theorem Explains_eq {N : Nat} (hN : 200 ≤ N) (b : api_Band) (t : api_Times) (p : Arr Int) (rd : Arr api_Span) (k : Int → Bool → Int → Option R) : energy_Explains N b t p rd k = k (explV b t p rd).1 (explV b t p rd).2.1 (explV b t p rd).2.2 := by
  classical
  rw [energy_Explains_def]
  unfold energy_Explains_m
  rw [checkPlan_eq (by omega)]
  unfold explV
  by_cases h : planV b t p = 0
  rotate_left
  · have : (planV b t p != 0) = true := by simpa using h
    rw [if_neg h]
    simp only [this, cond_true]
  obtain ⟨hb, ht, hp⟩ := planV_zero.1 h
  have hpn := hp.1
  have hn2 := ht.n2
  rw [h, if_pos rfl]
  simp only [bne_self_eq_false, cond_false]
  by_cases hn : rd.n = p.n
  rotate_left
  · have : ((rd.n : Int) != (p.n : Int)) = true := by simp; omega
    rw [if_neg (fun g => hn g.1)]
    simp only [this, cond_true]
  have c1 : ((rd.n : Int) != (p.n : Int)) = false := by simp; omega
  simp only [c1, cond_false]
  rw [slices_ContainsFunc___api_Span_api_Span__def]
  unfold slices_ContainsFunc___api_Span_api_Span__m
  rw [slices_IndexFunc___api_Span_api_Span__def]
  unfold slices_IndexFunc___api_Span_api_Span__m
  have fin := expl_l7_eq hN hb ht hp hn k t.Periods.n 0 N (by omega) (by omega)
  refine Eq.trans (sp_l2_eq N (rd := rd) (by omega) _ _ (fun r => bif r then k 0 false 1 else k (explR b t p rd t.Periods.n 0).1 (explR b t p rd t.Periods.n 0).2.1 (explR b t p rd t.Periods.n 0).2.2) (fun i => ?_) ?_ rd.n 0 N (by omega) (by omega)) ?_
  · have : decide ((i : Int) ≥ 0) = true := by simp
    simp only [this, cond_true]
  · exact fin
  · by_cases hr : ∀ j, j < rd.n → (rd.f j).Low ≤ (rd.f j).High
    · rw [if_pos (show rdsP p rd from ⟨hn, hr⟩), decide_eq_true (fun j _ hj => hr j hj)]; rfl
    · rw [if_neg (show ¬ rdsP p rd from fun g => hr g.2), decide_eq_false (fun g => hr (fun j hj => g j (by omega) hj))]; rfl

theorem refExplains_eq {N : Nat} (hN : 200 ≤ N) (b : api_Band) (t : api_Times) (p : Arr Int) (rd : Arr api_Span) (k : Int → Bool → Int → Option R) : newelref11_Explains N b t p rd k = k (explV b t p rd).1 (explV b t p rd).2.1 (explV b t p rd).2.2 := by
  classical
  rw [newelref11_Explains_def]
  unfold newelref11_Explains_m
  rw [refPlan_eq (by omega)]
  unfold explV
  by_cases h : planV b t p = 0
  rotate_left
  · have : (planV b t p != 0) = true := by simpa using h
    rw [if_neg h]
    simp only [this, cond_true]
  obtain ⟨hb, ht, hp⟩ := planV_zero.1 h
  have hpn := hp.1
  have hn2 := ht.n2
  rw [h, if_pos rfl]
  simp only [bne_self_eq_false, cond_false]
  by_cases hn : rd.n = p.n
  rotate_left
  · have : ((rd.n : Int) != (p.n : Int)) = true := by simp; omega
    rw [if_neg (fun g => hn g.1)]
    simp only [this, cond_true]
  have c1 : ((rd.n : Int) != (p.n : Int)) = false := by simp; omega
  simp only [c1, cond_false]
  refine Eq.trans (refexpl_l7_eq N b t p (rd := rd) (by omega) _ _ rd.n 0 N (by omega) (by omega)) ?_
  by_cases hr : ∀ j, j < rd.n → (rd.f j).Low ≤ (rd.f j).High
  · rw [if_pos (show rdsP p rd from ⟨hn, hr⟩), if_pos (fun j _ hj => hr j hj)]
    exact refexpl_l12_eq hN hb ht hp hn k t.Periods.n 0 N (by omega) (by omega)
  · rw [if_neg (show ¬ rdsP p rd from fun g => hr g.2), if_neg (fun g => hr (fun j hj => g j (by omega) hj))]

/-! ### Lists that are the same -/
theorem same_l4_eq (N : Nat) {a b : Arr Int} (hn : a.n = b.n) (hf : ∀ i, i < a.n → a.f i = b.f i) (hm : a.n < 1000000) (kr : Bool → Option R) (k0 : Unit → Option R) : ∀ (r i n : Nat), i + r = a.n → r < n →
    newellaw11_sameInts_l4 N n a b (i : Int) kr k0 = k0 () := by
  intro r
  induction r with
  | zero =>
    intro i n h1 h2
    obtain ⟨n, rfl⟩ : ∃ m, n = m + 1 := ⟨n - 1, by omega⟩
    unfold newellaw11_sameInts_l4 newellaw11_sameInts_b4
    simp only [lt_false (show a.n ≤ i by omega), cond_false]
  | succ r ih =>
    intro i n h1 h2
    obtain ⟨n, rfl⟩ : ∃ m, n = m + 1 := ⟨n - 1, by omega⟩
    unfold newellaw11_sameInts_l4 newellaw11_sameInts_b4
    have e3 : (a.f ((i : Int)).toNat != b.f ((i : Int)).toNat) = false := by
      rw [Int.toNat_natCast, hf i (by omega)]; simp
    simp only [lt_true (show i < a.n by omega), lt_true (show i < b.n by omega), e3, nat_nonneg, Bool.and_self, cond_true, cond_false, w64_succ (show i < 1000000000000 by omega)]
    exact ih (i + 1) n (by omega) (by omega)

theorem same_eq {N : Nat} {a b : Arr Int} (hn : a.n = b.n) (hf : ∀ i, i < a.n → a.f i = b.f i) (hN : a.n < N) (hm : a.n < 1000000) (k : Bool → Option R) : newellaw11_sameInts N a b k = k true := by
  rw [newellaw11_sameInts_def]
  unfold newellaw11_sameInts_m
  have e : ((a.n : Int) != (b.n : Int)) = false := by rw [hn]; simp
  simp only [e, cond_false]
  exact same_l4_eq N hn hf hm _ _ a.n 0 N (by omega) hN
theorem same_is {N n : Nat} {a b : Arr Int} {f : Nat → Int} (ha : a.Is n f) (hb : b.Is n f) (hN : n < N) (hm : n < 1000000) (k : Bool → Option R) : newellaw11_sameInts N a b k = k true := by
  have h1 := ha.len
  have h2 := hb.len
  exact same_eq (by omega) (fun i hi => (ha.get i (by omega)).trans (hb.get i (by omega)).symm) (by omega) (by omega) k

/-! ### The example -/
def exP : Arr Int := lst intC 2 (litC [SV.int IntKind.i64 0] [[SV.int IntKind.i64 5], [SV.int IntKind.i64 10]])
def exQ : Arr api_Period := lst api_PeriodC 2 (litC [SV.int IntKind.i64 0, SV.int IntKind.i64 0, SV.int IntKind.i64 0, SV.int IntKind.i64 0] [[SV.int IntKind.i64 10, SV.int IntKind.i64 2, SV.int IntKind.i64 0, SV.int IntKind.i64 3], [SV.int IntKind.i64 5, SV.int IntKind.i64 3, SV.int IntKind.i64 4, SV.int IntKind.i64 6]])
def exB : api_Band := ⟨true, 2, 100, 10, 40, 400, exP, 1, 2⟩
def exT : api_Times := ⟨exQ, 20⟩

theorem exB_ok : VB exB := by
  refine ⟨by decide, by decide, by decide, by decide, by decide, by decide, by decide, by decide, by decide, by decide, by decide, by decide, by decide, by decide, by decide, by decide, ?_⟩
  intro j hj
  have hj : j < 2 := hj
  match j, hj with
  | 0, _ => exact ⟨by decide, by decide⟩
  | 1, _ => exact ⟨by decide, by decide⟩
  | j + 2, h => omega
theorem exT_ok : VT exT := by
  refine ⟨by decide, by decide, by decide, by decide, ?_⟩
  intro j hj
  have hj : j < 2 := hj
  match j, hj with
  | 0, _ => exact ⟨by decide, by decide, by decide, by decide, by decide, by decide, by decide⟩
  | 1, _ => exact ⟨by decide, by decide, by decide, by decide, by decide, by decide, by decide⟩
  | j + 2, h => omega

theorem ex_srv (x : Nat) : srvX exB exT x ↔ srvJ exB exT 0 (planF exB 2 x 0) ∧ srvJ exB exT 1 (planF exB 2 x 1) := by
  constructor
  · intro h; exact ⟨h 0 (by decide), h 1 (by decide)⟩
  · rintro ⟨h0, h1⟩ j hj
    have hj : j < 2 := hj
    match j, hj with
    | 0, _ => exact h0
    | 1, _ => exact h1
    | j + 2, h => omega

theorem ex_cheap : cheapX exB exT = some 1 := by
  have e : exB.Paces.n ^ exT.Periods.n = 4 := rfl
  have c0 : stepX exB exT none 0 = none := by unfold stepX; rw [if_neg (by rw [ex_srv]; exact of_decide_eq_true (by kernel_rfl))]
  have c1 : stepX exB exT none 1 = some 1 := by unfold stepX; rw [if_pos (by rw [ex_srv]; exact of_decide_eq_true (by kernel_rfl))]
  have c2 : stepX exB exT (some 1) 2 = some 1 := by unfold stepX; rw [if_neg (by rw [ex_srv]; exact of_decide_eq_true (by kernel_rfl))]
  have c3 : stepX exB exT (some 1) 3 = some 1 := by
    unfold stepX
    rw [if_pos (by rw [ex_srv]; exact of_decide_eq_true (by kernel_rfl))]
    have : ¬ costX exB exT 3 < costX exB exT 1 := of_decide_eq_true (by kernel_rfl)
    simp only [this, if_false]
  unfold cheapX
  rw [e]
  simp only [runX, c0, c1, c2, c3]

theorem works_eq (k : Bool → Option R) : newellaw11_works NN k = k true := by
  rw [newellaw11_works_def]
  unfold newellaw11_works_m
  rw [newellaw11_Example_def]
  unfold newellaw11_Example_m
  obtain ⟨f, a, h1, h2⟩ := Cheapest_eq (N := NN) (by decide) exB exT
  have ht : timesV exB exT = 0 := timesV_zero.2 ⟨exB_ok, exT_ok⟩
  have e1 : chE exB exT = 0 := by unfold chE; rw [if_pos ht, ex_cheap]
  have e2 : chV exB exT = 261000 := by unfold chV; rw [if_pos ht, ex_cheap]; kernel_rfl
  have e3 : chN exB exT = 2 := by unfold chN; rw [if_pos ht, ex_cheap]; rfl
  have e4 : chF exB exT = planF exB 2 1 := by unfold chF; rw [ex_cheap]; rfl
  rw [e3, e4] at h1
  have hp : exP.Is 2 (planF exB 2 1) := ⟨rfl, fun i hi => by
    match i, hi with
    | 0, _ => show exP.f 0 = planF exB 2 1 0; kernel_rfl
    | 1, _ => show exP.f 1 = planF exB 2 1 1; kernel_rfl
    | i + 2, h => omega⟩
  refine Eq.trans (h2 _) ?_
  rw [e1, e2]
  have s := same_is (R := R) (N := NN) h1 hp (by decide) (by decide)
  show (bif (0 : Int) == 0 then newellaw11_sameInts NN a exP _ else _) = _
  simp only [BEq.rfl, cond_true]
  refine Eq.trans (s _) ?_
  rfl

theorem Far_eq (N : Nat) (b : api_Band) (k : Bool → Option R) : newellaw11_Far N b k = k (decide ((b.Paces.n : Int) > 10)) := by rw [newellaw11_Far_def]; rfl
theorem FarTimes_eq (N : Nat) (t : api_Times) (k : Bool → Option R) : newellaw11_FarTimes N t k = k (decide ((t.Periods.n : Int) > 20)) := by rw [newellaw11_FarTimes_def]; rfl

end
end Go.Proofs.Ytfaefhegfcidpaa
