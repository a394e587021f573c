/-
  Several texts in one.
-/
import Derived.Test.YtpillmoddoccfabCtQ1
import Derived.Test.YtpillmoddoccfabSxMath
set_option linter.unusedVariables false
set_option linter.unusedSimpArgs false
set_option maxHeartbeats 0
set_option maxRecDepth 100000
namespace Go.Proofs.Ytpillmoddoccfab
namespace Ct
open Go.Sx
section
theorem from_eq (N : Nat) (n lo hi : Int) {R : Type} (k : Bool → Option R) : newelref07_from N n lo hi k = k (decide (lo ≤ n ∧ n ≤ hi)) := by
  rw [newelref07_from_def]
  unfold newelref07_from_m
  by_cases h : n ≥ lo
  · have h' : lo ≤ n := h
    simp [h, h']
  · have h' : ¬ lo ≤ n := h
    simp [h, h']
theorem in_eq (N : Nat) (n lo hi : Int) {R : Type} (k : Bool → Option R) : calls_within N n lo hi k = k (decide (lo ≤ n ∧ n ≤ hi)) := by
  rw [calls_within_def]
  unfold calls_within_m
  by_cases h : n ≥ lo
  · have h' : lo ≤ n := h
    simp [h, h']
  · have h' : ¬ lo ≤ n := h
    simp [h, h']
structure VC (c : api_Car) : Prop where
  lo : 0 ≤ c.Low
  hi : c.High ≤ 5
  s : c.Low ≤ c.Start ∧ c.Start ≤ c.High
  m : 1 ≤ c.Move ∧ c.Move ≤ 3
  p : 1 ≤ c.Stop ∧ c.Stop ≤ 4
instance (c : api_Car) : Decidable (VC c) :=
  if h : 0 ≤ c.Low ∧ c.High ≤ 5 ∧ (c.Low ≤ c.Start ∧ c.Start ≤ c.High) ∧ (1 ≤ c.Move ∧ c.Move ≤ 3) ∧ (1 ≤ c.Stop ∧ c.Stop ≤ 4) then isTrue ⟨h.1, h.2.1, h.2.2.1, h.2.2.2.1, h.2.2.2.2⟩
  else isFalse fun v => h ⟨v.lo, v.hi, v.s, v.m, v.p⟩
theorem VC.cn {c : api_Car} (h : VC c) : ∃ n : Cn, n.Ok ∧ c = n.car := by
  obtain ⟨h1, h2, h3, h4, h5⟩ := h
  refine ⟨⟨c.Low.toNat, c.High.toNat, c.Start.toNat, c.Move.toNat, c.Stop.toNat⟩, ⟨by simp; omega, by simp; omega, by simp; omega, by simp; omega, by simp; omega, by simp; omega, by simp; omega⟩, ?_⟩
  obtain ⟨a1, a2, a3, a4, a5⟩ := c
  simp only at h1 h2 h3 h4 h5
  simp only [Cn.car, api_Car.mk.injEq]
  omega
theorem Cn.Ok.vc {n : Cn} (h : n.Ok) : VC n.car := by
  obtain ⟨h1, h2, h3, h4, h5, h6, h7⟩ := h
  exact ⟨by simp [Cn.car], by simp [Cn.car]; omega, by simp [Cn.car]; omega, by simp [Cn.car]; omega, by simp [Cn.car]; omega⟩
theorem refCar (N : Nat) (c : api_Car) {R : Type} (k : Int → Option R) : newelref07_CheckCar N c k = k (if VC c then 0 else 70) := by
  rw [newelref07_CheckCar_def]
  unfold newelref07_CheckCar_m
  simp only [from_eq]
  by_cases c1 : c.Low < 0
  · have : ¬ VC c := fun h => by have := h.lo; omega
    simp only [c1, this, decide_true, cond_true, if_false]
  by_cases c2 : c.Low ≤ c.Start ∧ c.Start ≤ c.High
  rotate_left
  · have : ¬ VC c := fun h => c2 h.s
    simp only [c1, c2, this, decide_false, Bool.not_false, cond_true, cond_false, if_false]
  by_cases c3 : c.High > 5
  · have : ¬ VC c := fun h => by have := h.hi; omega
    simp only [c1, c2, c3, this, and_self, decide_true, decide_false, Bool.not_true, cond_true, cond_false, if_false]
  by_cases c4 : 1 ≤ c.Move ∧ c.Move ≤ 3
  rotate_left
  · have : ¬ VC c := fun h => c4 h.m
    simp only [c1, c2, c3, c4, this, and_self, decide_true, decide_false, Bool.not_true, Bool.not_false, cond_true, cond_false, if_false]
  by_cases c5 : 1 ≤ c.Stop ∧ c.Stop ≤ 4
  rotate_left
  · have : ¬ VC c := fun h => c5 h.p
    simp only [c1, c2, c3, c4, c5, this, and_self, decide_true, decide_false, Bool.not_true, Bool.not_false, cond_true, cond_false, if_false]
  have : VC c := ⟨by omega, by omega, c2, c4, c5⟩
  simp only [c1, c2, c3, c4, c5, this, and_self, decide_true, decide_false, Bool.not_true, cond_true, cond_false, if_true]
theorem valid_eq (N : Nat) (c : api_Car) {R : Type} (k : Bool → Option R) : calls_valid N c k = k (decide (VC c)) := by
  rw [calls_valid_def]
  unfold calls_valid_m
  simp only [in_eq]
  by_cases c2 : c.Low ≤ c.Start ∧ c.Start ≤ c.High
  rotate_left
  · have : ¬ VC c := fun h => c2 h.s
    simp only [c2, this, decide_false, cond_false]
  by_cases c1 : c.Low ≥ 0
  rotate_left
  · have : ¬ VC c := fun h => c1 h.lo
    simp only [c1, c2, this, and_self, decide_true, decide_false, cond_false, cond_true]
  by_cases c3 : c.High ≤ 5
  rotate_left
  · have : ¬ VC c := fun h => c3 h.hi
    simp only [c1, c2, c3, this, and_self, decide_true, decide_false, cond_true, cond_false]
  by_cases c4 : 1 ≤ c.Move ∧ c.Move ≤ 3
  rotate_left
  · have : ¬ VC c := fun h => c4 h.m
    simp only [c1, c2, c3, c4, this, and_self, decide_true, decide_false, cond_true, cond_false]
  by_cases c5 : 1 ≤ c.Stop ∧ c.Stop ≤ 4
  rotate_left
  · have : ¬ VC c := fun h => c5 h.p
    simp only [c1, c2, c3, c4, c5, this, and_self, decide_true, decide_false, cond_true, cond_false]
  have : VC c := ⟨c1, c3, c2, c4, c5⟩
  simp only [c1, c2, c3, c4, c5, this, and_self, decide_true, cond_true]
def prevA (l : Arr api_Press) (i : Nat) : Int := if i = 0 then 0 else (l.f (i - 1)).At
def tP (l : Arr api_Press) (i : Nat) : Prop := prevA l i ≤ (l.f i).At ∧ (l.f i).At ≤ 500
def fP (c : api_Car) (l : Arr api_Press) (i : Nat) : Prop := c.Low ≤ (l.f i).Floor ∧ (l.f i).Floor ≤ c.High
def tAll (l : Arr api_Press) : Prop := l.n ≤ 200 ∧ ∀ i, i < l.n → tP l i
def fAll (c : api_Car) (l : Arr api_Press) : Prop := ∀ i, i < l.n → fP c l i
open Classical in
noncomputable def errC (c : api_Car) (l : Arr api_Press) : Int := if VC c then (if tAll l then (if fAll c l then 0 else 71) else 71) else 70
theorem tP_nonneg {l : Arr api_Press} {n : Nat} (h : ∀ i, i < n → tP l i) : ∀ i, i < n → 0 ≤ (l.f i).At := by
  intro i
  induction i with
  | zero => intro hi; have := (h 0 hi).1; simpa [prevA] using this
  | succ i ih =>
    intro hi
    have h1 := ih (by omega)
    have := (h (i + 1) hi).1
    simp [prevA] at this
    omega
theorem VL.of {n : Cn} {l : Arr api_Press} (h1 : tAll l) (h2 : fAll n.car l) : VL n l := by
  refine ⟨h1.1, fun i hi => ⟨tP_nonneg h1.2 i hi, (h1.2 i hi).2⟩, ?_, fun i hi => h2 i hi⟩
  intro i j hij
  induction j with
  | zero => intro _; have : i = 0 := by omega
            subst this; exact Int.le_refl _
  | succ j ih =>
    intro hj
    by_cases h : i = j + 1
    · subst h; exact Int.le_refl _
    · have := ih (by omega) (by omega)
      have h3 := (h1.2 (j + 1) hj).1
      simp [prevA] at h3
      omega
theorem VL.all {n : Cn} {l : Arr api_Press} (h : VL n l) : tAll l ∧ fAll n.car l := by
  refine ⟨⟨h.n, fun i hi => ⟨?_, (h.a i hi).2⟩⟩, fun i hi => h.g i hi⟩
  unfold prevA
  split
  · exact (h.a i hi).1
  · exact h.m _ _ (by omega) hi
open Classical in
theorem timed_l3 (N : Nat) {l : Arr api_Press} (hn : l.n ≤ 1000) {R : Type} (kr : Bool → Option R) (k0 : Unit → Option R) : ∀ (q i n : Nat), i + q = l.n → q < n →
    calls_timed_l3 N n l (prevA l i) l (l.n : Int) (i : Int) kr k0 = if ∀ j, i ≤ j → j < l.n → tP l j then k0 () else kr false := by
  intro q
  induction q with
  | zero =>
    intro i n h1 h2
    obtain ⟨n, rfl⟩ : ∃ m, n = m + 1 := ⟨n - 1, by omega⟩
    unfold calls_timed_l3 calls_timed_b3
    rw [ltF (show l.n ≤ i by omega), cond_false, if_pos (fun j h3 h4 => by omega)]
  | succ q ih =>
    intro i n h1 h2
    obtain ⟨n, rfl⟩ : ∃ m, n = m + 1 := ⟨n - 1, by omega⟩
    unfold calls_timed_l3 calls_timed_b3
    rw [ltT (show i < l.n by omega), cond_true, nat_nonneg, Bool.and_self, cond_true, in_eq]
    simp only [Int.toNat_natCast, w64_succ (show i < 1000000000000 by omega)]
    by_cases h : tP l i
    · have h' : prevA l i ≤ (l.f i).At ∧ (l.f i).At ≤ 500 := h
      have hd : decide (prevA l i ≤ (l.f i).At ∧ (l.f i).At ≤ 500) = true := decide_eq_true h'
      rw [hd, Bool.not_true, cond_false]
      have := ih (i + 1) n (by omega) (by omega)
      have hp : prevA l (i + 1) = (l.f i).At := by simp [prevA]
      rw [hp] at this
      rw [this]
      refine ite_congr (propext ⟨fun g j h3 h4 => ?_, fun g j h3 h4 => g j (by omega) h4⟩) (fun _ => rfl) (fun _ => rfl)
      by_cases hj : j = i
      · subst hj; exact h
      · exact g j (by omega) h4
    · have h' : ¬ (prevA l i ≤ (l.f i).At ∧ (l.f i).At ≤ 500) := h
      rw [decide_eq_false h', Bool.not_false, cond_true, if_neg (fun g => h (g i (Nat.le_refl _) (by omega)))]
open Classical in
theorem timed_eq {N : Nat} (hN : 1000 < N) {l : Arr api_Press} (hn : l.n ≤ 1000) {R : Type} (k : Bool → Option R) : calls_timed N l k = k (decide (tAll l)) := by
  rw [calls_timed_def]
  unfold calls_timed_m
  have := timed_l3 N hn (kr := fun r17 => k r17) (k0 := fun _ => k (decide ((l.n : Int) ≤ 200))) l.n 0 N (by omega) (by omega)
  have h0 : prevA l 0 = 0 := rfl
  rw [h0] at this
  refine Eq.trans this ?_
  by_cases h : ∀ j, 0 ≤ j → j < l.n → tP l j
  · rw [if_pos h]
    congr 1
    have : ((l.n : Int) ≤ 200) ↔ tAll l := ⟨fun g => ⟨by omega, fun i hi => h i (by omega) hi⟩, fun g => by have := g.1; omega⟩
    exact decide_eq_decide.2 this
  · rw [if_neg h, decide_eq_false (fun g => h fun j _ hj => g.2 j hj)]
open Classical in
theorem floors_l6 (N : Nat) {c : api_Car} {l : Arr api_Press} (hn : l.n ≤ 1000) {R : Type} (kr : Int → Option R) (k0 : Unit → Option R) : ∀ (q i n : Nat), i + q = l.n → q < n →
    calls_Check_l6 N n l (l.n : Int) (i : Int) c kr k0 = if ∀ j, i ≤ j → j < l.n → fP c l j then k0 () else kr 71 := by
  intro q
  induction q with
  | zero =>
    intro i n h1 h2
    obtain ⟨n, rfl⟩ : ∃ m, n = m + 1 := ⟨n - 1, by omega⟩
    unfold calls_Check_l6 calls_Check_b6
    rw [ltF (show l.n ≤ i by omega), cond_false, if_pos (fun j h3 h4 => by omega)]
  | succ q ih =>
    intro i n h1 h2
    obtain ⟨n, rfl⟩ : ∃ m, n = m + 1 := ⟨n - 1, by omega⟩
    unfold calls_Check_l6 calls_Check_b6
    rw [ltT (show i < l.n by omega), cond_true, nat_nonneg, Bool.and_self, cond_true, in_eq]
    simp only [Int.toNat_natCast, w64_succ (show i < 1000000000000 by omega)]
    by_cases h : fP c l i
    · have hd : decide (c.Low ≤ (l.f i).Floor ∧ (l.f i).Floor ≤ c.High) = true := decide_eq_true h
      rw [hd, Bool.not_true, cond_false, ih (i + 1) n (by omega) (by omega)]
      refine ite_congr (propext ⟨fun g j h3 h4 => ?_, fun g j h3 h4 => g j (by omega) h4⟩) (fun _ => rfl) (fun _ => rfl)
      by_cases hj : j = i
      · subst hj; exact h
      · exact g j (by omega) h4
    · have h' : ¬ (c.Low ≤ (l.f i).Floor ∧ (l.f i).Floor ≤ c.High) := h
      rw [decide_eq_false h', Bool.not_false, cond_true, if_neg (fun g => h (g i (Nat.le_refl _) (by omega)))]
open Classical in
theorem check_eq {N : Nat} (hN : 1000 < N) (c : api_Car) {l : Arr api_Press} (hn : l.n ≤ 1000) {R : Type} (k : Int → Option R) : calls_Check N c l k = k (errC c l) := by
  rw [calls_Check_def]
  unfold calls_Check_m errC
  rw [valid_eq]
  by_cases hc : VC c
  · rw [decide_eq_true hc, Bool.not_true, cond_false, if_pos hc, timed_eq hN hn]
    by_cases ht : tAll l
    · rw [decide_eq_true ht, Bool.not_true, cond_false, if_pos ht]
      refine (floors_l6 N hn _ _ l.n 0 N (by omega) (by omega)).trans ?_
      by_cases hf : fAll c l
      · rw [if_pos hf, if_pos (fun j _ hj => hf j hj)]
      · rw [if_neg hf, if_neg (fun g => hf fun j hj => g j (by omega) hj)]
    · rw [decide_eq_false ht, Bool.not_false, cond_true, if_neg ht]
  · rw [decide_eq_false hc, Bool.not_false, cond_true, if_neg hc]
theorem w64_succB {n : Nat} (h : n + 1 ≤ 9223372036854775807) : w64 ((n : Int) + 1) = ((n + 1 : Nat) : Int) := by
  rw [w64_eq (by omega) (by omega)]
  omega
theorem w64_predB {n : Nat} (h1 : 1 ≤ n) (h : n ≤ 9223372036854775807) : w64 ((n : Int) - 1) = ((n - 1 : Nat) : Int) := by
  rw [w64_eq (by omega) (by omega)]
  omega
open Classical in
theorem isP_l2 (N : Nat) {l : Arr api_Press} (hn : l.n ≤ 9223372036854775807) {R : Type} (kr : Bool → Option R) (k0 : Unit → Option R) : ∀ (q i n : Nat), i + q = l.n → q < n → (∀ j, j < i → tP l j) →
    newelref07_isPresses_l2 N n l (i : Int) kr k0 = if ∀ j, i ≤ j → j < l.n → tP l j then k0 () else kr false := by
  intro q
  induction q with
  | zero =>
    intro i n h1 h2 _
    obtain ⟨n, rfl⟩ : ∃ m, n = m + 1 := ⟨n - 1, by omega⟩
    unfold newelref07_isPresses_l2 newelref07_isPresses_b2
    rw [ltF (show l.n ≤ i by omega), cond_false, if_pos (fun j h3 h4 => by omega)]
  | succ q ih =>
    intro i n h1 h2 hp
    obtain ⟨n, rfl⟩ : ∃ m, n = m + 1 := ⟨n - 1, by omega⟩
    have go : tP l i → newelref07_isPresses_l2 N n l (w64 ((i : Int) + 1)) kr k0 = if ∀ j, i ≤ j → j < l.n → tP l j then k0 () else kr false := fun h => by
      rw [w64_succB (show i + 1 ≤ 9223372036854775807 by omega), ih (i + 1) n (by omega) (by omega) fun j hj => by
        by_cases e : j = i
        · subst e; exact h
        · exact hp j (by omega)]
      refine ite_congr (propext ⟨fun g j h3 h4 => ?_, fun g j h3 h4 => g j (by omega) h4⟩) (fun _ => rfl) (fun _ => rfl)
      by_cases hj : j = i
      · subst hj; exact h
      · exact g j (by omega) h4
    have no : ¬ tP l i → kr false = if ∀ j, i ≤ j → j < l.n → tP l j then k0 () else kr false := fun h => by
      rw [if_neg (fun g => h (g i (Nat.le_refl _) (by omega)))]
    unfold newelref07_isPresses_l2 newelref07_isPresses_b2
    rw [ltT (show i < l.n by omega), cond_true, nat_nonneg, Bool.and_self, cond_true, from_eq]
    simp only [Int.toNat_natCast]
    by_cases h : 0 ≤ (l.f i).At ∧ (l.f i).At ≤ 500
    · rw [decide_eq_true h, Bool.not_true, cond_false]
      cases i with
      | zero =>
        have : decide (((0 : Nat) : Int) > 0) = false := by simp
        rw [this, cond_false]
        exact go ⟨by simpa [prevA] using h.1, h.2⟩
      | succ i =>
        have e1 : decide (((i + 1 : Nat) : Int) > 0) = true := by simp
        have e2 : w64 (((i + 1 : Nat) : Int) - 1) = ((i : Nat) : Int) := w64_predB (n := i + 1) (by omega) (by omega)
        rw [e1, cond_true, e2, nat_nonneg, ltT (show i < l.n by omega), Bool.and_self, cond_true]
        simp only [Int.toNat_natCast]
        by_cases h3 : (l.f (i + 1)).At < (l.f i).At
        · rw [decide_eq_true h3, cond_true]
          refine no fun g => ?_
          have := g.1
          simp [prevA] at this
          omega
        · rw [decide_eq_false h3, cond_false]
          refine go ⟨?_, h.2⟩
          simp [prevA]
          omega
    · rw [decide_eq_false h, Bool.not_false, cond_true]
      refine no fun g => h ⟨?_, g.2⟩
      have hp' : ∀ j, j < i + 1 → tP l j := fun j hj => by
        by_cases e : j = i
        · subst e; exact g
        · exact hp j (by omega)
      exact tP_nonneg hp' i (by omega)
open Classical in
theorem isP_eq {N : Nat} {l : Arr api_Press} (hn : l.n ≤ 9223372036854775807) (hN : l.n < N) {R : Type} (k : Bool → Option R) : newelref07_isPresses N l k = k (decide (tAll l)) := by
  rw [newelref07_isPresses_def]
  unfold newelref07_isPresses_m
  refine Eq.trans (isP_l2 N hn (kr := fun r26 => k r26) (k0 := fun _ => k (decide ((l.n : Int) ≤ 200))) l.n 0 N (by omega) (by omega) (fun j hj => by omega)) ?_
  by_cases h : ∀ j, 0 ≤ j → j < l.n → tP l j
  · rw [if_pos h]
    congr 1
    have : ((l.n : Int) ≤ 200) ↔ tAll l := ⟨fun g => ⟨by omega, fun i hi => h i (by omega) hi⟩, fun g => by have := g.1; omega⟩
    exact decide_eq_decide.2 this
  · rw [if_neg h, decide_eq_false (fun g => h fun j _ hj => g.2 j hj)]
open Classical in
theorem refFloors_l6 (N : Nat) {c : api_Car} {l : Arr api_Press} (hn : l.n ≤ 9223372036854775807) {R : Type} (kr : Int → Option R) (k0 : Unit → Option R) : ∀ (q i n : Nat), i + q = l.n → q < n →
    newelref07_Check_l6 N n l (i : Int) c kr k0 = if ∀ j, i ≤ j → j < l.n → fP c l j then k0 () else kr 71 := by
  intro q
  induction q with
  | zero =>
    intro i n h1 h2
    obtain ⟨n, rfl⟩ : ∃ m, n = m + 1 := ⟨n - 1, by omega⟩
    unfold newelref07_Check_l6 newelref07_Check_b6
    rw [ltF (show l.n ≤ i by omega), cond_false, if_pos (fun j h3 h4 => by omega)]
  | succ q ih =>
    intro i n h1 h2
    obtain ⟨n, rfl⟩ : ∃ m, n = m + 1 := ⟨n - 1, by omega⟩
    unfold newelref07_Check_l6 newelref07_Check_b6
    rw [ltT (show i < l.n by omega), cond_true, nat_nonneg, Bool.and_self, cond_true, from_eq]
    simp only [Int.toNat_natCast, w64_succB (show i + 1 ≤ 9223372036854775807 by omega)]
    by_cases h : fP c l i
    · have hd : decide (c.Low ≤ (l.f i).Floor ∧ (l.f i).Floor ≤ c.High) = true := decide_eq_true h
      rw [hd, Bool.not_true, cond_false, ih (i + 1) n (by omega) (by omega)]
      refine ite_congr (propext ⟨fun g j h3 h4 => ?_, fun g j h3 h4 => g j (by omega) h4⟩) (fun _ => rfl) (fun _ => rfl)
      by_cases hj : j = i
      · subst hj; exact h
      · exact g j (by omega) h4
    · have h' : ¬ (c.Low ≤ (l.f i).Floor ∧ (l.f i).Floor ≤ c.High) := h
      rw [decide_eq_false h', Bool.not_false, cond_true, if_neg (fun g => h (g i (Nat.le_refl _) (by omega)))]
open Classical in
theorem refCheck {N : Nat} (c : api_Car) {l : Arr api_Press} (hn : l.n ≤ 9223372036854775807) (hN : l.n < N) {R : Type} (k : Int → Option R) : newelref07_Check N c l k = k (errC c l) := by
  rw [newelref07_Check_def]
  unfold newelref07_Check_m errC
  rw [refCar]
  by_cases hc : VC c
  · rw [if_pos hc, if_pos hc]
    have : ((0 : Int) != 0) = false := rfl
    rw [this, cond_false, isP_eq hn hN]
    by_cases ht : tAll l
    · rw [decide_eq_true ht, Bool.not_true, cond_false, if_pos ht]
      refine (refFloors_l6 N hn _ _ l.n 0 N (by omega) (by omega)).trans ?_
      by_cases hf : fAll c l
      · rw [if_pos hf, if_pos (fun j _ hj => hf j hj)]
      · rw [if_neg hf, if_neg (fun g => hf fun j hj => g j (by omega) hj)]
    · rw [decide_eq_false ht, Bool.not_false, cond_true, if_neg ht]
  · rw [if_neg hc, if_neg hc]
    rfl
theorem err_zero {c : api_Car} {l : Arr api_Press} (h : errC c l = 0) : ∃ n : Cn, n.Ok ∧ c = n.car ∧ VL n l := by
  unfold errC at h
  by_cases hc : VC c
  · rw [if_pos hc] at h
    by_cases ht : tAll l
    · rw [if_pos ht] at h
      by_cases hf : fAll c l
      · obtain ⟨n, h1, rfl⟩ := hc.cn
        exact ⟨n, h1, rfl, VL.of ht hf⟩
      · rw [if_neg hf] at h; cases h
    · rw [if_neg ht] at h; cases h
  · rw [if_neg hc] at h; cases h
theorem err_ok {n : Cn} (hn : n.Ok) {l : Arr api_Press} (hl : VL n l) : errC n.car l = 0 := by
  unfold errC
  rw [if_pos hn.vc, if_pos hl.all.1, if_pos hl.all.2]
end
end Ct
end Go.Proofs.Ytpillmoddoccfab
set_option linter.unusedVariables false
set_option linter.unusedSimpArgs false
set_option maxHeartbeats 0
set_option maxRecDepth 100000
namespace Go.Proofs.Ytpillmoddoccfab
namespace Ct
open Go.Sx
section
theorem setA_congr {a b : Arr Int} {n : Nat} (h : ∀ i, i < n → a.f i = b.f i) : setA a n = setA b n := by
  induction n with
  | zero => rfl
  | succ n ih => simp only [setA, ih fun i hi => h i (by omega), h n (by omega)]
structure Now (c : Cn) (now : Arr Int) (S : Nat → Prop) : Prop where
  g : ∀ j, j < now.n → 0 ≤ now.f j ∧ (c.L : Int) ≤ now.f j ∧ now.f j ≤ (c.H : Int)
  b : ∀ f, (setA now now.n).testBit f = true ↔ S f
def pushI (now : Arr Int) (v : Int) : Arr Int := lst intC (now.n + 1) (catC now.n (Cod.cell intC now.f) (litC [SV.int IntKind.i64 (0 : Int)] [[SV.int IntKind.i64 v]]))
theorem push_is (now : Arr Int) (v : Int) : (pushI now v).n = now.n + 1 ∧ (∀ j, j < now.n → (pushI now v).f j = now.f j) ∧ (pushI now v).f now.n = v := by
  have h := Arr.Is.push_int (a := now) (n := now.n) (g := fun j => if j < now.n then now.f j else v) ⟨rfl, fun i hi => by simp [hi]⟩ (z := [SV.int IntKind.i64 (0 : Int)]) (v := v) (by simp)
  exact ⟨h.1, fun j hj => (h.2 j (by omega)).trans (by simp [hj]), (h.2 now.n (by omega)).trans (by simp)⟩
theorem Now.push {c : Cn} {now : Arr Int} {S : Nat → Prop} (h : Now c now S) {v : Int} {g : Nat} (hv : v = (g : Int)) (hg : c.L ≤ g ∧ g ≤ c.H) : Now c (pushI now v) (fun f => S f ∨ f = g) := by
  subst hv
  obtain ⟨h1, h2, h3⟩ := push_is now (g : Int)
  refine ⟨fun j hj => ?_, fun f => ?_⟩
  · rw [h1] at hj
    by_cases hjn : j = now.n
    · rw [hjn, h3]; omega
    · rw [h2 j (by omega)]; exact h.g j (by omega)
  · rw [h1]
    simp only [setA, h3, Int.toNat_natCast]
    rw [setA_congr (fun i hi => h2 i hi), Nat.testBit_or, Bool.or_eq_true, h.b f, pow_bit, decide_eq_true_eq]
    exact or_congr_right eq_comm
theorem Now.nil (c : Cn) (f : Nat → Nat → SV) : Now c (lst intC 0 f) (fun _ => False) := ⟨fun j hj => by simp [lst] at hj, fun f => by simp [lst, setA]⟩
theorem Now.set {c : Cn} (hc : c.Ok) {l : Arr api_Press} (hl : VL c l) {p : Nat → Bool} {t k k' : Nat} {now : Arr Int} (hk : ∀ i, i < k → pA l i < t) (h1 : ∀ i, k ≤ i → i < k' → pA l i = t) (h2 : ∀ i, k' ≤ i → i < l.n → t < pA l i) (hk' : k' ≤ l.n)
    (h : Now c now fun f => ∃ i, k ≤ i ∧ i < k' ∧ p i = true ∧ pG l i = f) : setA now now.n = pP l p t := by
  refine Nat.eq_of_testBit_eq fun f => ?_
  have : (setA now now.n).testBit f = true ↔ (pP l p t).testBit f = true := by
    rw [h.b f]
    unfold pP
    rw [pset_bit]
    constructor
    · rintro ⟨i, a1, a2, a3, a4⟩
      exact ⟨i, by omega, h1 i a1 a2, a3, a4⟩
    · rintro ⟨i, a1, a2, a3, a4⟩
      refine ⟨i, ?_, ?_, a3, a4⟩
      · rcases Nat.lt_or_ge i k with g | g
        · have := hk i g; omega
        · exact g
      · rcases Nat.lt_or_ge i k' with g | g
        · exact g
        · have := h2 i g a1; omega
  cases h3 : (setA now now.n).testBit f <;> cases h4 : (pP l p t).testBit f <;> simp_all
def sub (l : Arr api_Press) (k : Nat) : Arr api_Press := ⟨l.n - k, fun i => l.f (k + i)⟩
theorem sub_zero (l : Arr api_Press) : sub l 0 = l := by simp [sub]
def allP : Nat → Bool := fun _ => true
end
end Ct
end Go.Proofs.Ytpillmoddoccfab
set_option linter.unusedVariables false
set_option linter.unusedSimpArgs false
set_option maxHeartbeats 0
set_option maxRecDepth 100000
namespace Go.Proofs.Ytpillmoddoccfab
namespace Ct
open Go.Sx
section
theorem wbit : ∀ z : Nat, z < 6 → ∀ s : Nat, s < 64 → wBit (s : Int) (z : Int) = s.testBit z := by decide +kernel
structure Pend (c : Cn) (l : Arr api_Press) (p : Nat → Bool) (t nx i : Nat) : Prop where
  lt : i < nx
  ok : p i = true
  late : t ≤ pA l i + wt c l p i
structure MI (c : Cn) (l : Arr api_Press) (p : Nat → Bool) (t nx : Nat) (m : Fm Int) : Prop where
  key : ∀ z, m.has z = true → ∃ i : Nat, Pend c l p t nx i ∧ z = (pG l i : Int)
  mem : ∀ z j, j < (m.at_ z).n → ∃ i : Nat, (m.at_ z).f j = (i : Int) ∧ Pend c l p t nx i ∧ z = (pG l i : Int)
  cov : ∀ i, Pend c l p t nx i → m.has (pG l i : Int) = true ∧ ∃ j, j < (m.at_ (pG l i : Int)).n ∧ (m.at_ (pG l i : Int)).f j = (i : Int)
  len : ∀ z, (m.at_ z).n ≤ nx
theorem MI.zero {c : Cn} {l : Arr api_Press} {p : Nat → Bool} : MI c l p 0 0 (fmD intC noHs noLn (noGt [SV.int IntKind.i64 (0 : Int)])) :=
  ⟨fun z h => by simp [fmD, noHs] at h, fun z j h => by simp [fmD, noLn, lst] at h, fun i h => absurd h.lt (Nat.not_lt_zero _), fun z => by simp [fmD, noLn, lst]⟩
theorem MI.skip {c : Cn} {l : Arr api_Press} {p : Nat → Bool} {t k : Nat} {m : Fm Int} (h : MI c l p t k m) (hp : p k = false) : MI c l p t (k + 1) m := by
  have up : ∀ i, Pend c l p t k i → Pend c l p t (k + 1) i := fun i g => ⟨Nat.lt_succ_of_lt g.lt, g.ok, g.late⟩
  have dn : ∀ i, Pend c l p t (k + 1) i → Pend c l p t k i := fun i g => ⟨by
    have := g.lt
    have : i ≠ k := fun e => by have := g.ok; rw [e, hp] at this; cases this
    omega, g.ok, g.late⟩
  exact ⟨fun z hz => by obtain ⟨i, a, b⟩ := h.key z hz; exact ⟨i, up i a, b⟩, fun z j hj => by obtain ⟨i, a, b, d⟩ := h.mem z j hj; exact ⟨i, a, up i b, d⟩, fun i hi => h.cov i (dn i hi), fun z => Nat.le_succ_of_le (h.len z)⟩
theorem MI.push {c : Cn} {l : Arr api_Press} {p : Nat → Bool} {t k : Nat} {m : Fm Int} (h : MI c l p t k m) (hk : k < l.n) (hp : p k = true) (hat : pA l k = t) (hG : (l.f k).Floor = (pG l k : Int)) :
    MI c l p t (k + 1) (fmD intC (fHs (api_Press.Floor (Arr.f l k)) (Fm.has m)) (fLn (api_Press.Floor (Arr.f l k)) (fmL m (api_Press.Floor (Arr.f l k)) + (1 : Nat)) (fmL m)) (fGt (api_Press.Floor (Arr.f l k)) (catC (fmL m (api_Press.Floor (Arr.f l k))) (fmG intC m (api_Press.Floor (Arr.f l k))) (litC [SV.int IntKind.i64 (0 : Int)] [[SV.int IntKind.i64 (k : Int)]])) (fmG intC m))) := by
  have up : ∀ i, Pend c l p t k i → Pend c l p t (k + 1) i := fun i g => ⟨Nat.lt_succ_of_lt g.lt, g.ok, g.late⟩
  have new : Pend c l p t (k + 1) k := ⟨Nat.lt_succ_self _, hp, by omega⟩
  rw [hG]
  generalize hz : ((pG l k : Nat) : Int) = z
  have a1 : ∀ y, (fmD intC (fHs z (Fm.has m)) (fLn z (fmL m z + (1 : Nat)) (fmL m)) (fGt z (catC (fmL m z) (fmG intC m z) (litC [SV.int IntKind.i64 (0 : Int)] [[SV.int IntKind.i64 (k : Int)]])) (fmG intC m))).at_ y = if y = z then pushI (m.at_ z) (k : Int) else m.at_ y := fun y => by
    by_cases hy : y = z
    · subst hy
      simp only [fmD, fLn, fGt, BEq.rfl, cond_true, if_true]
      rfl
    · have hb : (y == z) = false := by simp [hy]
      simp only [fmD, fLn, fGt, hb, cond_false, if_neg hy]
      rfl
  have a2 : ∀ y, (fmD intC (fHs z (Fm.has m)) (fLn z (fmL m z + (1 : Nat)) (fmL m)) (fGt z (catC (fmL m z) (fmG intC m z) (litC [SV.int IntKind.i64 (0 : Int)] [[SV.int IntKind.i64 (k : Int)]])) (fmG intC m))).has y = (y == z || m.has y) := fun y => rfl
  obtain ⟨b1, b2, b3⟩ := push_is (m.at_ z) (k : Int)
  refine ⟨fun y hy => ?_, fun y j hj => ?_, fun i hi => ?_, fun y => ?_⟩
  · rw [a2, Bool.or_eq_true, beq_iff_eq] at hy
    rcases hy with rfl | hy
    · exact ⟨k, new, hz.symm⟩
    · obtain ⟨i, g1, g2⟩ := h.key y hy
      exact ⟨i, up i g1, g2⟩
  · rw [a1] at hj ⊢
    by_cases hy : y = z
    · subst hy
      rw [if_pos rfl, b1] at hj
      rw [if_pos rfl]
      by_cases hjn : j = (m.at_ y).n
      · exact ⟨k, by rw [hjn, b3], new, hz.symm⟩
      · obtain ⟨i, g1, g2, g3⟩ := h.mem y j (by omega)
        exact ⟨i, by rw [b2 j (by omega)]; exact g1, up i g2, g3⟩
    · rw [if_neg hy] at hj ⊢
      obtain ⟨i, g1, g2, g3⟩ := h.mem y j hj
      exact ⟨i, g1, up i g2, g3⟩
  · rw [a2, a1]
    by_cases hik : i = k
    · subst hik
      rw [if_pos hz]
      refine ⟨by simp [hz], (m.at_ z).n, by rw [b1]; omega, b3⟩
    · have hi' : Pend c l p t k i := ⟨by have := hi.lt; omega, hi.ok, hi.late⟩
      obtain ⟨g1, j, g2, g3⟩ := h.cov i hi'
      refine ⟨by rw [g1, Bool.or_true], j, ?_⟩
      by_cases hy : ((pG l i : Nat) : Int) = z
      · rw [if_pos hy, b1]
        rw [hy] at g2 g3
        exact ⟨by omega, by rw [b2 j g2]; exact g3⟩
      · rw [if_neg hy]
        exact ⟨g2, g3⟩
  · rw [a1]
    split
    · rw [b1]
      have := h.len z
      omega
    · have := h.len y
      omega
structure WI (c : Cn) (l : Arr api_Press) (p : Nat → Bool) (t : Nat) (w : Arr Int) : Prop where
  n : w.n = l.n
  f : ∀ i, i < l.n → w.f i = if p i = true ∧ pA l i + wt c l p i < t then (wt c l p i : Int) else 0
theorem WI.zero {c : Cn} {l : Arr api_Press} {p : Nat → Bool} : WI c l p 0 (lst intC (Int.toNat (l.n : Int)) (zeroC [SV.int IntKind.i64 (0 : Int)])) := ⟨by simp [lst], fun i hi => by
  rw [if_neg (by omega)]
  rfl⟩
structure WE (c : Cn) (l : Arr api_Press) (p : Nat → Bool) (w : Arr Int) : Prop where
  n : w.n = l.n
  f : ∀ i, i < l.n → w.f i = if p i = true then (wt c l p i : Int) else 0
theorem WE.of {c : Cn} (hc : c.Ok) {l : Arr api_Press} (hl : VL c l) {p : Nat → Bool} {t k : Nat} {w : Arr Int} (hk : k = l.n) (h4 : ∀ i, i < k → pA l i < t) (hW : (st c l p t).W = 0) (hw : WI c l p t w) : WE c l p w := by
  refine ⟨hw.n, fun i hi => ?_⟩
  rw [hw.f i hi]
  by_cases hp : p i = true
  · have h5 := hc.h5
    have hg := (hl.pg hi).2
    have : pA l i + wt c l p i < t := Classical.byContradiction fun hn => by
      have := (wants_iff hc hl p t (f := pG l i) (by omega)).2 ⟨i, hi, hp, rfl, h4 i (by omega), by omega⟩
      rw [hW] at this
      simp at this
    rw [if_pos ⟨hp, this⟩, if_pos hp]
  · rw [if_neg (fun g => hp g.1), if_neg hp]
theorem wants_late {c : Cn} (hc : c.Ok) {l : Arr api_Press} (hl : VL c l) (p : Nat → Bool) {t : Nat} (ht : 590 ≤ t) : (st c l p t).W = 0 := Classical.byContradiction fun hn => by
  obtain ⟨f, h1, h2⟩ := zero_bits _ (st_ok hc hl p t).w6 hn
  obtain ⟨i, a1, a2, a3, a4, a5⟩ := (wants_iff hc hl p t h1).1 h2
  have := (hl.pa a1).2
  have := (wt_ok hc hl a1 a2).le
  omega
theorem round_eq {R : Type} {l : Arr api_Press} {t s : Int} {nl : Bool} {w : Arr Int} {m : Fm Int} {k : Arr Int → Fm Int → Option R} (h : wCond l s w m) : waitsRound l t s nl w m k = k (wNew l t s w m) (mNew s m) := by
  unfold waitsRound
  rw [if_pos h]
open Classical in
theorem round_inv {c : Cn} (hc : c.Ok) {l : Arr api_Press} (hl : VL c l) {p : Nat → Bool} {t k' : Nat} {m : Fm Int} {w : Arr Int} (hlt : ∀ i, i < k' → pA l i ≤ t) (h6 : ∀ i, k' ≤ i → i < l.n → t < pA l i) (hk : k' ≤ l.n) (hm : MI c l p t k' m) (hw : WI c l p t w) :
    wCond l (sv c l p t) w m ∧ MI c l p (t + 1) k' (mNew (sv c l p t) m) ∧ WI c l p (t + 1) (wNew l t (sv c l p t) w m) := by
  have h5 := hc.h5
  have hs := sv_lt hc hl p t
  have hn := hl.n
  have g6 : ∀ i, i < k' → pG l i < 6 := fun i hi => by have := (hl.pg (show i < l.n by omega)).2; omega
  have bit : ∀ i, i < k' → wBit (sv c l p t) (pG l i : Int) = (sv c l p t).testBit (pG l i) := fun i hi => wbit _ (g6 i hi) _ hs
  -- who is served now
  have hit : ∀ i, Pend c l p t k' i → ((sv c l p t).testBit (pG l i) = true ↔ pA l i + wt c l p i = t) := fun i hi => by
    have hil : i < l.n := Nat.lt_of_lt_of_le hi.lt hk
    have w1 := wt_ok hc hl hil hi.ok
    have hA := hlt i hi.lt
    constructor
    · intro hb
      refine Classical.byContradiction fun hne => ?_
      have := w1.no (t - pA l i) (by have := hi.late; omega)
      rw [show pA l i + (t - pA l i) = t by omega, hb] at this
      cases this
    · intro he
      have := w1.hit
      rwa [he] at this
  refine ⟨fun z hz => ?_, ⟨fun z hz => ?_, fun z j hj => ?_, fun i hi => ?_, fun z => ?_⟩, ⟨hw.n, fun i hi => ?_⟩⟩
  · obtain ⟨i, hi, rfl⟩ := hm.key z hz
    refine ⟨by omega, by have := hm.len (pG l i : Int); omega, fun _ j hj => ?_⟩
    obtain ⟨i', e1, e2, _⟩ := hm.mem _ j hj
    rw [e1, hw.n]
    have := e2.lt
    omega
  · simp only [mNew, Bool.and_eq_true, Bool.not_eq_true'] at hz
    obtain ⟨i, hi, rfl⟩ := hm.key z hz.1
    refine ⟨i, ⟨hi.lt, hi.ok, ?_⟩, rfl⟩
    have h2 := hz.2
    rw [bit i hi.lt] at h2
    have : pA l i + wt c l p i ≠ t := fun e => by rw [(hit i hi).2 e] at h2; cases h2
    have := hi.late
    omega
  · simp only [mNew] at hj ⊢
    cases hb : wBit (sv c l p t) z with
    | true => rw [hb] at hj; simp at hj
    | false =>
      rw [hb] at hj
      simp only [cond_false] at hj ⊢
      obtain ⟨i, e1, hi, rfl⟩ := hm.mem z j hj
      refine ⟨i, e1, ⟨hi.lt, hi.ok, ?_⟩, rfl⟩
      rw [bit i hi.lt] at hb
      have : pA l i + wt c l p i ≠ t := fun e => by rw [(hit i hi).2 e] at hb; cases hb
      have := hi.late
      omega
  · have hi' : Pend c l p t k' i := ⟨hi.lt, hi.ok, by have := hi.late; omega⟩
    obtain ⟨e1, j, e2, e3⟩ := hm.cov i hi'
    have hb : wBit (sv c l p t) (pG l i : Int) = false := by
      rw [bit i hi.lt]
      cases h : (sv c l p t).testBit (pG l i) with
      | false => rfl
      | true =>
        have := (hit i hi').1 h
        have := hi.late
        omega
    exact ⟨by simp [mNew, e1, hb], j, by simpa [mNew, hb] using e2, by simpa [mNew, hb] using e3⟩
  · simp only [mNew]
    cases wBit (sv c l p t) z with
    | true => exact Nat.zero_le _
    | false => exact hm.len z
  · have hA := (hl.pa hi)
    have hwh : wHit m (sv c l p t) i ↔ p i = true ∧ pA l i + wt c l p i = t := by
      constructor
      · rintro ⟨z, j, a1, a2, a3, a4⟩
        obtain ⟨i', e1, e2, rfl⟩ := hm.mem z j a3
        have : i' = i := by rw [e1] at a4; omega
        subst this
        rw [bit i' e2.lt] at a2
        exact ⟨e2.ok, (hit i' e2).1 a2⟩
      · rintro ⟨hp, he⟩
        have hik : i < k' := Classical.byContradiction fun hn => by have := h6 i (by omega) hi; omega
        have hpd : Pend c l p t k' i := ⟨hik, hp, by omega⟩
        obtain ⟨e1, j, e2, e3⟩ := hm.cov i hpd
        exact ⟨_, j, e1, by rw [bit i hik]; exact (hit i hpd).2 he, e2, e3⟩
    show (if wHit m (sv c l p t) i then wVal l t i else w.f i) = _
    by_cases hh : wHit m (sv c l p t) i
    · obtain ⟨hp, he⟩ := hwh.1 hh
      rw [if_pos hh, if_pos ⟨hp, by omega⟩]
      unfold wVal
      have w7 := (wt_ok hc hl hi hp).le
      rw [hA.1, w64_eq (by omega) (by omega)]
      omega
    · rw [if_neg hh, hw.f i hi]
      refine ite_congr (propext ⟨fun g => ⟨g.1, by omega⟩, fun g => ⟨g.1, ?_⟩⟩) (fun _ => rfl) (fun _ => rfl)
      have : pA l i + wt c l p i ≠ t := fun e => hh (hwh.2 ⟨g.1, e⟩)
      omega
theorem want1 (N : Nat) (k : Nat) {R : Type} (f : Bool → Option R) : calls_Waits_1 N (k : Int) f = f (allP k) := by
  rw [calls_Waits_1_def]
  rfl
end
namespace W
section
variable {N : Nat} {c : Cn} {l : Arr api_Press}
theorem l9 (N : Nat) (hc : c.Ok) (hl : VL c l) (t : Nat) (nl : Bool) (w : Arr Int) (cg : calls_cage) (k0 : Nat) : ∀ (q k n : Nat) (m : Fm Int) (nb : Bool) (now : Arr Int), k + q = l.n → q < n → k0 ≤ k → now.n + k0 ≤ k → MI c l allP t k m → Now c now (fun f => ∃ i, k0 ≤ i ∧ i < k ∧ allP i = true ∧ pG l i = f) → (∀ i, k0 ≤ i → i < k → pA l i = t) → (∀ i, k0 ≤ i → i < l.n → t ≤ pA l i) →
    ∃ (k' : Nat) (m' : Fm Int) (nb' : Bool) (now' : Arr Int), k ≤ k' ∧ k' ≤ l.n ∧ now'.n + k0 ≤ k' ∧ MI c l allP t k' m' ∧ Now c now' (fun f => ∃ i, k0 ≤ i ∧ i < k' ∧ allP i = true ∧ pG l i = f) ∧ (∀ i, k0 ≤ i → i < k' → pA l i = t) ∧ (∀ i, k' ≤ i → i < l.n → t < pA l i) ∧
      ∀ {R : Type} (k2 : Int → Fm Int → Bool → Arr Int → Option R), calls_waits_l9 N n l (k : Int) (t : Int) nl w m cg nb now k2 = k2 (k' : Int) m' nb' now' := by
  intro q
  induction q with
  | zero =>
    intro k n m nb now h1 h2 h3 h3' hm h4 h5 h6
    obtain ⟨n, rfl⟩ : ∃ m, n = m + 1 := ⟨n - 1, by omega⟩
    refine ⟨k, m, nb, now, by omega, by omega, h3', hm, h4, h5, fun i hi hi' => by omega, fun {R} k2 => ?_⟩
    unfold calls_waits_l9 calls_waits_b9
    rw [ltF (show l.n ≤ k by omega), cond_false]
  | succ q ih =>
    intro k n m nb now h1 h2 h3 h3' hm h4 h5 h6
    obtain ⟨n, rfl⟩ : ∃ m, n = m + 1 := ⟨n - 1, by omega⟩
    have hk : k < l.n := by omega
    have hln := hl.n
    have hA : (l.f k).At = (pA l k : Int) := (hl.pa hk).1
    have hG : (l.f k).Floor = (pG l k : Int) := (hl.pg hk).1
    have e0 : decide ((k : Int) < (l.n : Int)) = true := ltT hk
    have e1 : (decide ((0 : Int) ≤ (k : Int)) && decide ((k : Int) < (l.n : Int))) = true := by rw [nat_nonneg, e0]; rfl
    by_cases hat : pA l k = t
    · have e3 : ((pA l k : Int) == (t : Int)) = true := by simp [hat]
      cases hp : allP k with
      | true =>
        have hnow := h4.push hG (hl.pg hk).2
        have hps := push_is now (l.f k).Floor
        obtain ⟨k', m', nb', now', a1, a2, a3, am, a4, a5, a6, a7⟩ := ih (k + 1) n _ false (pushI now (l.f k).Floor) (by omega) (by omega) (by omega) (by rw [hps.1]; omega) (hm.push hk hp hat hG) (by
          refine ⟨hnow.g, fun f => (hnow.b f).trans ⟨?_, ?_⟩⟩
          · rintro (⟨i, b1, b2, b3⟩ | rfl)
            · exact ⟨i, b1, by omega, b3⟩
            · exact ⟨k, by omega, by omega, hp, rfl⟩
          · rintro ⟨i, b1, b2, b3, b4⟩
            by_cases e : i = k
            · subst e; exact .inr b4.symm
            · exact .inl ⟨i, b1, by omega, b3, b4⟩) (fun i b1 b2 => by
          by_cases e : i = k
          · subst e; exact hat
          · exact h5 i b1 (by omega)) h6
        refine ⟨k', m', nb', now', by omega, a2, a3, am, a4, a5, a6, fun {R} k2 => ?_⟩
        unfold calls_waits_l9 calls_waits_b9
        have e4 : room (now.n + 1) = true := room_of (by omega)
        have e5 : room (fmL m (l.f k).Floor + 1) = true := room_of (by have := hm.len (l.f k).Floor; show (m.at_ _).n + 1 ≤ _; omega)
        rw [e0, cond_true, nat_nonneg, Bool.and_self, cond_true]
        simp only [Int.toNat_natCast]
        rw [hA, e3, cond_true, want1, hp, cond_true, cond_true, cond_true, e5, cond_true, decide_eq_true True.intro, cond_true, cond_true, e4, cond_true, w64_succ (show k < 1000000000000 by omega)]
        exact a7 k2
      | false =>
        obtain ⟨k', m', nb', now', a1, a2, a3, am, a4, a5, a6, a7⟩ := ih (k + 1) n m nb now (by omega) (by omega) (by omega) (by omega) (hm.skip hp) (by
          refine ⟨h4.g, fun f => (h4.b f).trans ⟨?_, ?_⟩⟩
          · rintro ⟨i, b1, b2, b3⟩
            exact ⟨i, b1, by omega, b3⟩
          · rintro ⟨i, b1, b2, b3, b4⟩
            by_cases e : i = k
            · subst e; rw [hp] at b3; cases b3
            · exact ⟨i, b1, by omega, b3, b4⟩) (fun i b1 b2 => by
          by_cases e : i = k
          · subst e; exact hat
          · exact h5 i b1 (by omega)) h6
        refine ⟨k', m', nb', now', by omega, a2, a3, am, a4, a5, a6, fun {R} k2 => ?_⟩
        unfold calls_waits_l9 calls_waits_b9
        rw [e0, cond_true, nat_nonneg, Bool.and_self, cond_true]
        simp only [Int.toNat_natCast]
        rw [hA, e3, cond_true, want1, hp, cond_false, w64_succ (show k < 1000000000000 by omega)]
        exact a7 k2
    · refine ⟨k, m, nb, now, by omega, by omega, h3', hm, h4, h5, fun i hi hi' => ?_, fun {R} k2 => ?_⟩
      · have := h6 k (by omega) hk
        have := hl.pm hi hi'
        omega
      · unfold calls_waits_l9 calls_waits_b9
        have e3 : ((pA l k : Int) == (t : Int)) = false := by
          rw [beq_eq_false_iff_ne]
          omega
        rw [e0, cond_true, nat_nonneg, Bool.and_self, cond_true]
        simp only [Int.toNat_natCast]
        rw [hA, e3, cond_false]
theorem l6 {N : Nat} (hN : 2000 < N) (hc : c.Ok) (hl : VL c l) (nl : Bool) : ∀ (q t n k : Nat) (w : Arr Int) (m : Fm Int), t + q = 600 → q < n → k ≤ l.n → (∀ i, i < k → pA l i < t) → (∀ i, k ≤ i → i < l.n → t ≤ pA l i) → MI c l allP t k m → WI c l allP t w →
    ∃ w' : Arr Int, WE c l allP w' ∧ ∀ {R : Type} (k0 : Arr Int → Option R), calls_waits_l6 N n l (k : Int) (t : Int) nl w m ⟨c.car, (st c l allP t).ride⟩ k0 = k0 w' := by
  intro q
  induction q with
  | zero =>
    intro t n k w m h1 h2 h3 h4 h5 hm hw
    obtain ⟨n, rfl⟩ : ∃ m, n = m + 1 := ⟨n - 1, by omega⟩
    have hk : k = l.n := Classical.byContradiction fun hne => by
      have h6 : k < l.n := by omega
      have := h5 k (Nat.le_refl _) h6
      have := (hl.pa h6).2
      omega
    have hW := wants_late hc hl allP (t := t) (by omega)
    refine ⟨w, WE.of hc hl hk h4 hW hw, fun {R} k0 => ?_⟩
    unfold calls_waits_l6 calls_waits_b6
    have e1 : (api_Ride.Wants (calls_cage.Ride ⟨c.car, (st c l allP t).ride⟩) != (0 : Int)) = false := by
      show ((((st c l allP t).W : Nat) : Int) != 0) = false
      rw [nez, hW]
      rfl
    rw [ltF (show l.n ≤ k by omega), cond_false, e1, cond_false]
  | succ q ih =>
    intro t n k w m h1 h2 h3 h4 h5 hm hw
    obtain ⟨n, rfl⟩ : ∃ m, n = m + 1 := ⟨n - 1, by omega⟩
    have hln := hl.n
    obtain ⟨k', m', nb', now', a1, a2, a3, am, a4, a5, a6, a7⟩ := l9 N hc hl t nl w ⟨c.car, (st c l allP t).ride⟩ k (l.n - k) k N m true (lst intC (0 : Nat) (zeroC [SV.int IntKind.i64 (0 : Int)])) (by omega) (by omega) (Nat.le_refl _) (by simp [lst]) hm
      (by
        have := Now.nil c (zeroC [SV.int IntKind.i64 (0 : Int)])
        exact ⟨this.g, fun f => (this.b f).trans ⟨fun h => h.elim, fun ⟨i, b1, b2, _⟩ => by omega⟩⟩) (fun i b1 b2 => by omega) h5
    have hset := Now.set hc hl (p := allP) h4 a5 a6 a2 a4
    have hlt : ∀ i, i < k' → pA l i ≤ t := fun i hi => by
      rcases Nat.lt_or_ge i k with g | g
      · have := h4 i g; omega
      · have := a5 i g hi; omega
    obtain ⟨r1, r2, r3⟩ := round_inv hc hl hlt a6 a2 am hw
    obtain ⟨w', g1, g2⟩ := ih (t + 1) n k' (wNew l t (sv c l allP t) w m') (mNew (sv c l allP t) m') (by omega) (by omega) a2 (fun i hi => by have := hlt i hi; omega) (fun i hi hi' => by have := a6 i hi hi'; omega) r2 r3
    have go : ∀ {R : Type} (k0 : Arr Int → Option R), (calls_waits_l9 N N l (k : Int) (t : Int) nl w m ⟨c.car, (st c l allP t).ride⟩ true (lst intC (0 : Nat) (zeroC [SV.int IntKind.i64 (0 : Int)])) (fun r203 r204 r205 r206 =>
     calls_cage_tick N r206 ⟨c.car, (st c l allP t).ride⟩ (fun r207 r208 =>
     calls_waits_j0 N l r203 (t : Int) r207 nl w r204 r208 (fun r209 r210 =>
      calls_waits_l6 N n l r203 (w64 ((t : Int) + (1 : Int))) nl r209 r210 r208 k0)))) = k0 w' := fun {R} k0 => by
      refine (a7 _).trans ?_
      rw [tick_eq hc (st_ok hc hl allP t) a4.g (by omega) (by omega), hset, calls_waits_j0_def]
      unfold calls_waits_j0_m
      refine (round_eq r1).trans ?_
      rw [w64_succ (show t < 1000000000000 by omega)]
      exact g2 k0
    by_cases hkn : k < l.n
    · refine ⟨w', g1, fun {R} k0 => ?_⟩
      unfold calls_waits_l6 calls_waits_b6
      rw [ltT hkn, cond_true]
      exact go k0
    · by_cases hW : (st c l allP t).W = 0
      · refine ⟨w, WE.of hc hl (by omega) h4 hW hw, fun {R} k0 => ?_⟩
        unfold calls_waits_l6 calls_waits_b6
        have e1 : (api_Ride.Wants (calls_cage.Ride ⟨c.car, (st c l allP t).ride⟩) != (0 : Int)) = false := by
          show ((((st c l allP t).W : Nat) : Int) != 0) = false
          rw [nez, hW]
          rfl
        rw [ltF (show l.n ≤ k by omega), cond_false, e1, cond_false]
      · refine ⟨w', g1, fun {R} k0 => ?_⟩
        unfold calls_waits_l6 calls_waits_b6
        have e1 : (api_Ride.Wants (calls_cage.Ride ⟨c.car, (st c l allP t).ride⟩) != (0 : Int)) = true := by
          show ((((st c l allP t).W : Nat) : Int) != 0) = true
          rw [nez]
          simpa using hW
        rw [ltF (show l.n ≤ k by omega), cond_false, e1, cond_true]
        exact go k0
theorem eq {N : Nat} (hN : 2000 < N) (hc : c.Ok) (hl : VL c l) : ∃ w' : Arr Int, WE c l allP w' ∧ ∀ {R : Type} (k : Bool → Arr Int → Option R), calls_waits N c.car l k = k false w' := by
  obtain ⟨w', g1, g2⟩ := l6 hN hc hl false 600 0 N 0 (lst intC (Int.toNat (l.n : Int)) (zeroC [SV.int IntKind.i64 (0 : Int)])) (fmD intC noHs noLn (noGt [SV.int IntKind.i64 (0 : Int)])) (by omega) (by omega) (Nat.zero_le _) (fun i hi => by omega) (fun i _ _ => Nat.zero_le _) MI.zero WI.zero
  refine ⟨w', g1, fun {R} k => ?_⟩
  rw [calls_waits_def]
  unfold calls_waits_m
  have hln := hl.n
  have e1 : decide ((l.n : Int) ≤ (l.n : Int)) = true := by simp
  have e2 : decide ((l.n : Int) ≤ 1073741824) = true := by simp; omega
  rw [e1, e2, Bool.and_self, cond_true, calls_begin_def]
  exact g2 fun r => k false r
end
end W
end Ct
end Go.Proofs.Ytpillmoddoccfab
set_option linter.unusedVariables false
set_option linter.unusedSimpArgs false
set_option maxHeartbeats 0
set_option maxRecDepth 100000
namespace Go.Proofs.Ytpillmoddoccfab
namespace Ct
open Go.Sx
section
def cntB (b : Nat → Bool) : Nat → Nat
  | 0 => 0
  | n + 1 => cntB b n + (bif b n then 1 else 0)
def op (c : Cn) (l : Arr api_Press) (t j : Nat) : Bool := decide (t ≤ pA l j + wt c l allP j)
theorem waits_eq {N : Nat} (hN : 2000 < N) {c : Cn} (hc : c.Ok) {l : Arr api_Press} (hl : VL c l) : ∃ w' : Arr Int, WE c l allP w' ∧ ∀ {R : Type} (k : Int → Bool → Arr Int → Option R), calls_Waits N c.car l k = k 0 false w' := by
  have hln := hl.n
  obtain ⟨w, g1, g2⟩ := W.eq hN hc hl
  refine ⟨w, g1, fun {R} k => ?_⟩
  rw [calls_Waits_def]
  unfold calls_Waits_m
  rw [check_eq (by omega) _ (by omega), err_ok hc hl]
  exact g2 _
def farN (c : Cn) (f : Nat) : Nat := max (c.H - f) (f - c.L)
def worstN (c : Cn) (f : Nat) : Nat := if farN c f = 0 then 0 else 2 * farN c f * c.M + (2 * farN c f - 1) * c.S
set_option synthInstance.maxHeartbeats 0 in
set_option synthInstance.maxSize 1000 in
theorem worstP_eq (N : Nat) {c : Cn} (hc : c.Ok) {f : Nat} (hf : c.L ≤ f ∧ f ≤ c.H) {R : Type} (k : Int → Int → Option R) : calls_Worst N c.car (f : Int) k = k (worstN c f : Int) 0 := by
  have hk : ∀ f : Nat, f < 6 → ∀ L : Nat, L < 6 → ∀ H : Nat, H < 6 → (L ≤ f ∧ f ≤ H) → ∀ M : Nat, M < 4 → ∀ S : Nat, S < 5 →
      (bif mxI (w64 ((H : Int) - (f : Int))) (w64 ((f : Int) - (L : Int))) == (0 : Int) then (0 : Int) else w64 (w64 (w64 ((2 : Int) * mxI (w64 ((H : Int) - (f : Int))) (w64 ((f : Int) - (L : Int)))) * (M : Int)) + w64 (w64 (w64 ((2 : Int) * mxI (w64 ((H : Int) - (f : Int))) (w64 ((f : Int) - (L : Int)))) - (1 : Int)) * (S : Int)))) = (worstN ⟨L, H, 0, M, S⟩ f : Int) := by decide +kernel
  have h5 := hc.h5
  have hm := hc.m3
  have hs := hc.s4
  have hh := hk f (by omega) c.L (by omega) c.H (by omega) hf c.M (by omega) c.S (by omega)
  rw [calls_Worst_def]
  unfold calls_Worst_m
  rw [calls_serves_def]
  unfold calls_serves_m
  rw [valid_eq, decide_eq_true hc.vc, Bool.not_true, cond_false, in_eq, decide_eq_true (show (c.car.Low ≤ (f : Int) ∧ (f : Int) ≤ c.car.High) by show ((c.L : Nat) : Int) ≤ _ ∧ _ ≤ ((c.H : Nat) : Int); omega), Bool.not_true, cond_false]
  show calls_worst N c.car (f : Int) _ = _
  rw [calls_worst_def]
  unfold calls_worst_m
  rw [calls_far_def]
  unfold calls_far_m
  rw [show worstN c f = worstN ⟨c.L, c.H, 0, c.M, c.S⟩ f from rfl, ← hh]
  show (bif mxI (w64 ((c.H : Int) - (f : Int))) (w64 ((f : Int) - (c.L : Int))) == (0 : Int) then _ else _) = _
  cases (mxI (w64 ((c.H : Int) - (f : Int))) (w64 ((f : Int) - (c.L : Int))) == (0 : Int)) <;> rfl
end
end Ct
end Go.Proofs.Ytpillmoddoccfab
set_option linter.unusedVariables false
set_option linter.unusedSimpArgs false
set_option maxHeartbeats 0
set_option maxRecDepth 100000
namespace Go.Proofs.Ytpillmoddoccfab
namespace Ct
open Go.Sx
section
set_option synthInstance.maxHeartbeats 0 in
set_option synthInstance.maxSize 1000 in
theorem mv_far : ∀ L : Nat, L < 6 → ∀ H : Nat, H < 6 → ∀ F : Nat, F < 6 → ∀ f : Nat, f < 6 → (L ≤ F ∧ F ≤ H ∧ L ≤ f ∧ f ≤ H) → 
    ((F < H → mv ⟨L, H, 0, 1, 1⟩ true F f + 1 ≤ 2 * farN ⟨L, H, 0, 1, 1⟩ f) ∧ (L < F → mv ⟨L, H, 0, 1, 1⟩ false F f + 1 ≤ 2 * farN ⟨L, H, 0, 1, 1⟩ f) ∧ (f ≠ F → ∀ u : Bool, mv ⟨L, H, 0, 1, 1⟩ (dir ⟨L, H, 0, 1, 1⟩ u F) F f + 2 ≤ 2 * farN ⟨L, H, 0, 1, 1⟩ f)) := by decide +kernel
theorem pot_worst {c : Cn} (hc : c.Ok) {r : Rd} (h : Ok c r) {f : Nat} (hw : r.W.testBit f = true) : pot c r f ≤ worstN c f := by
  have h5 := hc.h5
  have hF := h.f
  have hf := h.w f hw
  obtain ⟨m1, m2, m3⟩ := mv_far c.L (by have := hc.ls; have := hc.sh; omega) c.H (by omega) r.F (by omega) f (by omega) ⟨hF.1, hF.2, hf.1, hf.2⟩
  have hmv : ∀ u, mv ⟨c.L, c.H, 0, 1, 1⟩ u r.F f = mv c u r.F f := fun u => rfl
  have hdir : ∀ u, dir ⟨c.L, c.H, 0, 1, 1⟩ u r.F = dir c u r.F := fun u => rfl
  have hfar : farN ⟨c.L, c.H, 0, 1, 1⟩ f = farN c f := rfl
  rw [hmv, hfar] at m1 m2
  have hd := h.d
  have fin : ∀ k x : Nat, k + 1 ≤ 2 * farN c f → x ≤ c.M → x + k * (c.S + c.M) ≤ worstN c f := fun k x h1 h2 => by
    unfold worstN
    rw [if_neg (by omega)]
    have := Nat.mul_le_mul_right (c.S + c.M) (show k ≤ 2 * farN c f - 1 by omega)
    have e : (2 * farN c f - 1) * (c.S + c.M) = (2 * farN c f - 1) * c.S + (2 * farN c f - 1) * c.M := Nat.mul_add _ _ _
    have e2 : 2 * farN c f * c.M = (2 * farN c f - 1) * c.M + c.M := by
      have := Nat.succ_mul (2 * farN c f - 1) c.M
      rwa [show (2 * farN c f - 1).succ = 2 * farN c f by omega] at this
    omega
  rcases (show r.doing = 0 ∨ r.doing = 1 ∨ r.doing = 2 by omega) with e | e | e
  · rw [(h.d0 e).2] at hw
    simp at hw
  · obtain ⟨g1, g2⟩ := h.d1 e
    obtain ⟨s1, s2⟩ := side_lt hc h.w g2
    unfold pot
    rw [if_neg (by omega)]
    cases hu : r.up with
    | true => exact fin _ _ (m1 (by have := s1 hu; omega)) g1.2
    | false => exact fin _ _ (m2 (by have := s2 hu; omega)) g1.2
  · obtain ⟨g1, g2, g3⟩ := h.d2 e
    have hne : f ≠ r.F := fun e => by rw [← e, hw] at g3; cases g3
    have m := m3 hne r.up
    rw [hdir, hmv, hfar] at m
    unfold pot
    rw [if_pos e]
    have := fin (mv c (dir c r.up r.F) r.F f + 1) c.M (by omega) (Nat.le_refl _)
    rw [Nat.succ_mul] at this
    omega
theorem wt_worst {c : Cn} (hc : c.Ok) {l : Arr api_Press} (hl : VL c l) {p : Nat → Bool} {i : Nat} (hi : i < l.n) (hp : p i = true) : wt c l p i ≤ worstN c (pG l i) := by
  have w := wt_ok hc hl hi hp
  by_cases h : 0 < wt c l p i
  · exact Nat.le_trans (w.pot h).1 (pot_worst hc (st_ok hc hl p _) (w.pot h).2)
  · omega
end
end Ct
end Go.Proofs.Ytpillmoddoccfab
