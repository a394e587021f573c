/-
  Several texts in one.
-/
import Derived.Test.YtlphgonhenegoaaQ2
set_option linter.unusedVariables false
set_option linter.unusedSimpArgs false
set_option maxHeartbeats 0
set_option maxRecDepth 100000
namespace Go.Proofs.Ytlphgonhenegoaa
open Go.Sx
section
theorem from_eq (N : Nat) (n lo hi : Int) {R : Type} (k : Bool → Option R) : newelref07_from N n lo hi k = k (decide (lo ≤ n ∧ n ≤ hi)) := by
  rw [newelref07_from_def]
  unfold newelref07_from_m
  by_cases h : n ≥ lo
  · have h' : lo ≤ n := h
    simp [h, h']
  · have h' : ¬ lo ≤ n := h
    simp [h, h']
theorem in_eq (N : Nat) (n lo hi : Int) {R : Type} (k : Bool → Option R) : calls_within N n lo hi k = k (decide (lo ≤ n ∧ n ≤ hi)) := by
  rw [calls_within_def]
  unfold calls_within_m
  by_cases h : n ≥ lo
  · have h' : lo ≤ n := h
    simp [h, h']
  · have h' : ¬ lo ≤ n := h
    simp [h, h']
structure VC (c : api_Car) : Prop where
  lo : 0 ≤ c.Low
  hi : c.High ≤ 5
  s : c.Low ≤ c.Start ∧ c.Start ≤ c.High
  m : 1 ≤ c.Move ∧ c.Move ≤ 3
  p : 1 ≤ c.Stop ∧ c.Stop ≤ 4
instance (c : api_Car) : Decidable (VC c) :=
  if h : 0 ≤ c.Low ∧ c.High ≤ 5 ∧ (c.Low ≤ c.Start ∧ c.Start ≤ c.High) ∧ (1 ≤ c.Move ∧ c.Move ≤ 3) ∧ (1 ≤ c.Stop ∧ c.Stop ≤ 4) then isTrue ⟨h.1, h.2.1, h.2.2.1, h.2.2.2.1, h.2.2.2.2⟩
  else isFalse fun v => h ⟨v.lo, v.hi, v.s, v.m, v.p⟩
theorem VC.cn {c : api_Car} (h : VC c) : ∃ n : Cn, n.Ok ∧ c = n.car := by
  obtain ⟨h1, h2, h3, h4, h5⟩ := h
  refine ⟨⟨c.Low.toNat, c.High.toNat, c.Start.toNat, c.Move.toNat, c.Stop.toNat⟩, ⟨by simp; omega, by simp; omega, by simp; omega, by simp; omega, by simp; omega, by simp; omega, by simp; omega⟩, ?_⟩
  obtain ⟨a1, a2, a3, a4, a5⟩ := c
  simp only at h1 h2 h3 h4 h5
  simp only [Cn.car, api_Car.mk.injEq]
  omega
theorem Cn.Ok.vc {n : Cn} (h : n.Ok) : VC n.car := by
  obtain ⟨h1, h2, h3, h4, h5, h6, h7⟩ := h
  exact ⟨by simp [Cn.car], by simp [Cn.car]; omega, by simp [Cn.car]; omega, by simp [Cn.car]; omega, by simp [Cn.car]; omega⟩
theorem refCar (N : Nat) (c : api_Car) {R : Type} (k : Int → Option R) : newelref07_CheckCar N c k = k (if VC c then 0 else 70) := by
  rw [newelref07_CheckCar_def]
  unfold newelref07_CheckCar_m
  simp only [from_eq]
  by_cases c1 : c.Low < 0
  · have : ¬ VC c := fun h => by have := h.lo; omega
    simp only [c1, this, decide_true, cond_true, if_false]
  by_cases c2 : c.Low ≤ c.Start ∧ c.Start ≤ c.High
  rotate_left
  · have : ¬ VC c := fun h => c2 h.s
    simp only [c1, c2, this, decide_false, Bool.not_false, cond_true, cond_false, if_false]
  by_cases c3 : c.High > 5
  · have : ¬ VC c := fun h => by have := h.hi; omega
    simp only [c1, c2, c3, this, and_self, decide_true, decide_false, Bool.not_true, cond_true, cond_false, if_false]
  by_cases c4 : 1 ≤ c.Move ∧ c.Move ≤ 3
  rotate_left
  · have : ¬ VC c := fun h => c4 h.m
    simp only [c1, c2, c3, c4, this, and_self, decide_true, decide_false, Bool.not_true, Bool.not_false, cond_true, cond_false, if_false]
  by_cases c5 : 1 ≤ c.Stop ∧ c.Stop ≤ 4
  rotate_left
  · have : ¬ VC c := fun h => c5 h.p
    simp only [c1, c2, c3, c4, c5, this, and_self, decide_true, decide_false, Bool.not_true, Bool.not_false, cond_true, cond_false, if_false]
  have : VC c := ⟨by omega, by omega, c2, c4, c5⟩
  simp only [c1, c2, c3, c4, c5, this, and_self, decide_true, decide_false, Bool.not_true, cond_true, cond_false, if_true]
theorem valid_eq (N : Nat) (c : api_Car) {R : Type} (k : Bool → Option R) : calls_valid N c k = k (decide (VC c)) := by
  rw [calls_valid_def]
  unfold calls_valid_m
  simp only [in_eq]
  by_cases c2 : c.Low ≤ c.Start ∧ c.Start ≤ c.High
  rotate_left
  · have : ¬ VC c := fun h => c2 h.s
    simp only [c2, this, decide_false, cond_false]
  by_cases c1 : c.Low ≥ 0
  rotate_left
  · have : ¬ VC c := fun h => c1 h.lo
    simp only [c1, c2, this, and_self, decide_true, decide_false, cond_false, cond_true]
  by_cases c3 : c.High ≤ 5
  rotate_left
  · have : ¬ VC c := fun h => c3 h.hi
    simp only [c1, c2, c3, this, and_self, decide_true, decide_false, cond_true, cond_false]
  by_cases c4 : 1 ≤ c.Move ∧ c.Move ≤ 3
  rotate_left
  · have : ¬ VC c := fun h => c4 h.m
    simp only [c1, c2, c3, c4, this, and_self, decide_true, decide_false, cond_true, cond_false]
  by_cases c5 : 1 ≤ c.Stop ∧ c.Stop ≤ 4
  rotate_left
  · have : ¬ VC c := fun h => c5 h.p
    simp only [c1, c2, c3, c4, c5, this, and_self, decide_true, decide_false, cond_true, cond_false]
  have : VC c := ⟨c1, c3, c2, c4, c5⟩
  simp only [c1, c2, c3, c4, c5, this, and_self, decide_true, cond_true]
def prevA (l : Arr api_Press) (i : Nat) : Int := if i = 0 then 0 else (l.f (i - 1)).At
def tP (l : Arr api_Press) (i : Nat) : Prop := prevA l i ≤ (l.f i).At ∧ (l.f i).At ≤ 500
def fP (c : api_Car) (l : Arr api_Press) (i : Nat) : Prop := c.Low ≤ (l.f i).Floor ∧ (l.f i).Floor ≤ c.High
def tAll (l : Arr api_Press) : Prop := l.n ≤ 200 ∧ ∀ i, i < l.n → tP l i
def fAll (c : api_Car) (l : Arr api_Press) : Prop := ∀ i, i < l.n → fP c l i
open Classical in
noncomputable def errC (c : api_Car) (l : Arr api_Press) : Int := if VC c then (if tAll l then (if fAll c l then 0 else 71) else 71) else 70
theorem tP_nonneg {l : Arr api_Press} {n : Nat} (h : ∀ i, i < n → tP l i) : ∀ i, i < n → 0 ≤ (l.f i).At := by
  intro i
  induction i with
  | zero => intro hi; have := (h 0 hi).1; simpa [prevA] using this
  | succ i ih =>
    intro hi
    have h1 := ih (by omega)
    have := (h (i + 1) hi).1
    simp [prevA] at this
    omega
theorem VL.of {n : Cn} {l : Arr api_Press} (h1 : tAll l) (h2 : fAll n.car l) : VL n l := by
  refine ⟨h1.1, fun i hi => ⟨tP_nonneg h1.2 i hi, (h1.2 i hi).2⟩, ?_, fun i hi => h2 i hi⟩
  intro i j hij
  induction j with
  | zero => intro _; have : i = 0 := by omega
            subst this; exact Int.le_refl _
  | succ j ih =>
    intro hj
    by_cases h : i = j + 1
    · subst h; exact Int.le_refl _
    · have := ih (by omega) (by omega)
      have h3 := (h1.2 (j + 1) hj).1
      simp [prevA] at h3
      omega
theorem VL.all {n : Cn} {l : Arr api_Press} (h : VL n l) : tAll l ∧ fAll n.car l := by
  refine ⟨⟨h.n, fun i hi => ⟨?_, (h.a i hi).2⟩⟩, fun i hi => h.g i hi⟩
  unfold prevA
  split
  · exact (h.a i hi).1
  · exact h.m _ _ (by omega) hi
open Classical in
theorem timed_l3 (N : Nat) {l : Arr api_Press} (hn : l.n ≤ 1000) {R : Type} (kr : Bool → Option R) (k0 : Unit → Option R) : ∀ (q i n : Nat), i + q = l.n → q < n →
    calls_timed_l3 N n l (prevA l i) l (l.n : Int) (i : Int) kr k0 = if ∀ j, i ≤ j → j < l.n → tP l j then k0 () else kr false := by
  intro q
  induction q with
  | zero =>
    intro i n h1 h2
    obtain ⟨n, rfl⟩ : ∃ m, n = m + 1 := ⟨n - 1, by omega⟩
    unfold calls_timed_l3 calls_timed_b3
    rw [ltF (show l.n ≤ i by omega), cond_false, if_pos (fun j h3 h4 => by omega)]
  | succ q ih =>
    intro i n h1 h2
    obtain ⟨n, rfl⟩ : ∃ m, n = m + 1 := ⟨n - 1, by omega⟩
    unfold calls_timed_l3 calls_timed_b3
    rw [ltT (show i < l.n by omega), cond_true, nat_nonneg, Bool.and_self, cond_true, in_eq]
    simp only [Int.toNat_natCast, w64_succ (show i < 1000000000000 by omega)]
    by_cases h : tP l i
    · have h' : prevA l i ≤ (l.f i).At ∧ (l.f i).At ≤ 500 := h
      have hd : decide (prevA l i ≤ (l.f i).At ∧ (l.f i).At ≤ 500) = true := decide_eq_true h'
      rw [hd, Bool.not_true, cond_false]
      have := ih (i + 1) n (by omega) (by omega)
      have hp : prevA l (i + 1) = (l.f i).At := by simp [prevA]
      rw [hp] at this
      rw [this]
      refine ite_congr (propext ⟨fun g j h3 h4 => ?_, fun g j h3 h4 => g j (by omega) h4⟩) (fun _ => rfl) (fun _ => rfl)
      by_cases hj : j = i
      · subst hj; exact h
      · exact g j (by omega) h4
    · have h' : ¬ (prevA l i ≤ (l.f i).At ∧ (l.f i).At ≤ 500) := h
      rw [decide_eq_false h', Bool.not_false, cond_true, if_neg (fun g => h (g i (Nat.le_refl _) (by omega)))]
open Classical in
theorem timed_eq {N : Nat} (hN : 1000 < N) {l : Arr api_Press} (hn : l.n ≤ 1000) {R : Type} (k : Bool → Option R) : calls_timed N l k = k (decide (tAll l)) := by
  rw [calls_timed_def]
  unfold calls_timed_m
  have := timed_l3 N hn (kr := fun r17 => k r17) (k0 := fun _ => k (decide ((l.n : Int) ≤ 200))) l.n 0 N (by omega) (by omega)
  have h0 : prevA l 0 = 0 := rfl
  rw [h0] at this
  refine Eq.trans this ?_
  by_cases h : ∀ j, 0 ≤ j → j < l.n → tP l j
  · rw [if_pos h]
    congr 1
    have : ((l.n : Int) ≤ 200) ↔ tAll l := ⟨fun g => ⟨by omega, fun i hi => h i (by omega) hi⟩, fun g => by have := g.1; omega⟩
    exact decide_eq_decide.2 this
  · rw [if_neg h, decide_eq_false (fun g => h fun j _ hj => g.2 j hj)]
open Classical in
theorem floors_l6 (N : Nat) {c : api_Car} {l : Arr api_Press} (hn : l.n ≤ 1000) {R : Type} (kr : Int → Option R) (k0 : Unit → Option R) : ∀ (q i n : Nat), i + q = l.n → q < n →
    calls_Check_l6 N n l (l.n : Int) (i : Int) c kr k0 = if ∀ j, i ≤ j → j < l.n → fP c l j then k0 () else kr 71 := by
  intro q
  induction q with
  | zero =>
    intro i n h1 h2
    obtain ⟨n, rfl⟩ : ∃ m, n = m + 1 := ⟨n - 1, by omega⟩
    unfold calls_Check_l6 calls_Check_b6
    rw [ltF (show l.n ≤ i by omega), cond_false, if_pos (fun j h3 h4 => by omega)]
  | succ q ih =>
    intro i n h1 h2
    obtain ⟨n, rfl⟩ : ∃ m, n = m + 1 := ⟨n - 1, by omega⟩
    unfold calls_Check_l6 calls_Check_b6
    rw [ltT (show i < l.n by omega), cond_true, nat_nonneg, Bool.and_self, cond_true, in_eq]
    simp only [Int.toNat_natCast, w64_succ (show i < 1000000000000 by omega)]
    by_cases h : fP c l i
    · have hd : decide (c.Low ≤ (l.f i).Floor ∧ (l.f i).Floor ≤ c.High) = true := decide_eq_true h
      rw [hd, Bool.not_true, cond_false, ih (i + 1) n (by omega) (by omega)]
      refine ite_congr (propext ⟨fun g j h3 h4 => ?_, fun g j h3 h4 => g j (by omega) h4⟩) (fun _ => rfl) (fun _ => rfl)
      by_cases hj : j = i
      · subst hj; exact h
      · exact g j (by omega) h4
    · have h' : ¬ (c.Low ≤ (l.f i).Floor ∧ (l.f i).Floor ≤ c.High) := h
      rw [decide_eq_false h', Bool.not_false, cond_true, if_neg (fun g => h (g i (Nat.le_refl _) (by omega)))]
open Classical in
theorem check_eq {N : Nat} (hN : 1000 < N) (c : api_Car) {l : Arr api_Press} (hn : l.n ≤ 1000) {R : Type} (k : Int → Option R) : calls_Check N c l k = k (errC c l) := by
  rw [calls_Check_def]
  unfold calls_Check_m errC
  rw [valid_eq]
  by_cases hc : VC c
  · rw [decide_eq_true hc, Bool.not_true, cond_false, if_pos hc, timed_eq hN hn]
    by_cases ht : tAll l
    · rw [decide_eq_true ht, Bool.not_true, cond_false, if_pos ht]
      refine (floors_l6 N hn _ _ l.n 0 N (by omega) (by omega)).trans ?_
      by_cases hf : fAll c l
      · rw [if_pos hf, if_pos (fun j _ hj => hf j hj)]
      · rw [if_neg hf, if_neg (fun g => hf fun j hj => g j (by omega) hj)]
    · rw [decide_eq_false ht, Bool.not_false, cond_true, if_neg ht]
  · rw [decide_eq_false hc, Bool.not_false, cond_true, if_neg hc]
open Classical in
theorem isP_l2 (N : Nat) {l : Arr api_Press} (hn : l.n ≤ 1000) {R : Type} (kr : Bool → Option R) (k0 : Unit → Option R) : ∀ (q i n : Nat), i + q = l.n → q < n → (∀ j, j < i → tP l j) →
    newelref07_isPresses_l2 N n l (i : Int) kr k0 = if ∀ j, i ≤ j → j < l.n → tP l j then k0 () else kr false := by
  intro q
  induction q with
  | zero =>
    intro i n h1 h2 _
    obtain ⟨n, rfl⟩ : ∃ m, n = m + 1 := ⟨n - 1, by omega⟩
    unfold newelref07_isPresses_l2 newelref07_isPresses_b2
    rw [ltF (show l.n ≤ i by omega), cond_false, if_pos (fun j h3 h4 => by omega)]
  | succ q ih =>
    intro i n h1 h2 hp
    obtain ⟨n, rfl⟩ : ∃ m, n = m + 1 := ⟨n - 1, by omega⟩
    have go : tP l i → newelref07_isPresses_l2 N n l (w64 ((i : Int) + 1)) kr k0 = if ∀ j, i ≤ j → j < l.n → tP l j then k0 () else kr false := fun h => by
      rw [w64_succ (show i < 1000000000000 by omega), ih (i + 1) n (by omega) (by omega) fun j hj => by
        by_cases e : j = i
        · subst e; exact h
        · exact hp j (by omega)]
      refine ite_congr (propext ⟨fun g j h3 h4 => ?_, fun g j h3 h4 => g j (by omega) h4⟩) (fun _ => rfl) (fun _ => rfl)
      by_cases hj : j = i
      · subst hj; exact h
      · exact g j (by omega) h4
    have no : ¬ tP l i → kr false = if ∀ j, i ≤ j → j < l.n → tP l j then k0 () else kr false := fun h => by
      rw [if_neg (fun g => h (g i (Nat.le_refl _) (by omega)))]
    unfold newelref07_isPresses_l2 newelref07_isPresses_b2
    rw [ltT (show i < l.n by omega), cond_true, nat_nonneg, Bool.and_self, cond_true, from_eq]
    simp only [Int.toNat_natCast]
    by_cases h : 0 ≤ (l.f i).At ∧ (l.f i).At ≤ 500
    · rw [decide_eq_true h, Bool.not_true, cond_false]
      cases i with
      | zero =>
        have : decide (((0 : Nat) : Int) > 0) = false := by simp
        rw [this, cond_false]
        exact go ⟨by simpa [prevA] using h.1, h.2⟩
      | succ i =>
        have e1 : decide (((i + 1 : Nat) : Int) > 0) = true := by simp
        have e2 : w64 (((i + 1 : Nat) : Int) - 1) = ((i : Nat) : Int) := w64_pred (n := i + 1) (by omega) (by omega)
        rw [e1, cond_true, e2, nat_nonneg, ltT (show i < l.n by omega), Bool.and_self, cond_true]
        simp only [Int.toNat_natCast]
        by_cases h3 : (l.f (i + 1)).At < (l.f i).At
        · rw [decide_eq_true h3, cond_true]
          refine no fun g => ?_
          have := g.1
          simp [prevA] at this
          omega
        · rw [decide_eq_false h3, cond_false]
          refine go ⟨?_, h.2⟩
          simp [prevA]
          omega
    · rw [decide_eq_false h, Bool.not_false, cond_true]
      refine no fun g => h ⟨?_, g.2⟩
      have hp' : ∀ j, j < i + 1 → tP l j := fun j hj => by
        by_cases e : j = i
        · subst e; exact g
        · exact hp j (by omega)
      exact tP_nonneg hp' i (by omega)
open Classical in
theorem isP_eq {N : Nat} (hN : 1000 < N) {l : Arr api_Press} (hn : l.n ≤ 1000) {R : Type} (k : Bool → Option R) : newelref07_isPresses N l k = k (decide (tAll l)) := by
  rw [newelref07_isPresses_def]
  unfold newelref07_isPresses_m
  refine Eq.trans (isP_l2 N hn (kr := fun r26 => k r26) (k0 := fun _ => k (decide ((l.n : Int) ≤ 200))) l.n 0 N (by omega) (by omega) (fun j hj => by omega)) ?_
  by_cases h : ∀ j, 0 ≤ j → j < l.n → tP l j
  · rw [if_pos h]
    congr 1
    have : ((l.n : Int) ≤ 200) ↔ tAll l := ⟨fun g => ⟨by omega, fun i hi => h i (by omega) hi⟩, fun g => by have := g.1; omega⟩
    exact decide_eq_decide.2 this
  · rw [if_neg h, decide_eq_false (fun g => h fun j _ hj => g.2 j hj)]
open Classical in
theorem refFloors_l6 (N : Nat) {c : api_Car} {l : Arr api_Press} (hn : l.n ≤ 1000) {R : Type} (kr : Int → Option R) (k0 : Unit → Option R) : ∀ (q i n : Nat), i + q = l.n → q < n →
    newelref07_Check_l6 N n l (i : Int) c kr k0 = if ∀ j, i ≤ j → j < l.n → fP c l j then k0 () else kr 71 := by
  intro q
  induction q with
  | zero =>
    intro i n h1 h2
    obtain ⟨n, rfl⟩ : ∃ m, n = m + 1 := ⟨n - 1, by omega⟩
    unfold newelref07_Check_l6 newelref07_Check_b6
    rw [ltF (show l.n ≤ i by omega), cond_false, if_pos (fun j h3 h4 => by omega)]
  | succ q ih =>
    intro i n h1 h2
    obtain ⟨n, rfl⟩ : ∃ m, n = m + 1 := ⟨n - 1, by omega⟩
    unfold newelref07_Check_l6 newelref07_Check_b6
    rw [ltT (show i < l.n by omega), cond_true, nat_nonneg, Bool.and_self, cond_true, from_eq]
    simp only [Int.toNat_natCast, w64_succ (show i < 1000000000000 by omega)]
    by_cases h : fP c l i
    · have hd : decide (c.Low ≤ (l.f i).Floor ∧ (l.f i).Floor ≤ c.High) = true := decide_eq_true h
      rw [hd, Bool.not_true, cond_false, ih (i + 1) n (by omega) (by omega)]
      refine ite_congr (propext ⟨fun g j h3 h4 => ?_, fun g j h3 h4 => g j (by omega) h4⟩) (fun _ => rfl) (fun _ => rfl)
      by_cases hj : j = i
      · subst hj; exact h
      · exact g j (by omega) h4
    · have h' : ¬ (c.Low ≤ (l.f i).Floor ∧ (l.f i).Floor ≤ c.High) := h
      rw [decide_eq_false h', Bool.not_false, cond_true, if_neg (fun g => h (g i (Nat.le_refl _) (by omega)))]
open Classical in
theorem refCheck {N : Nat} (hN : 1000 < N) (c : api_Car) {l : Arr api_Press} (hn : l.n ≤ 1000) {R : Type} (k : Int → Option R) : newelref07_Check N c l k = k (errC c l) := by
  rw [newelref07_Check_def]
  unfold newelref07_Check_m errC
  rw [refCar]
  by_cases hc : VC c
  · rw [if_pos hc, if_pos hc]
    have : ((0 : Int) != 0) = false := rfl
    rw [this, cond_false, isP_eq hN hn]
    by_cases ht : tAll l
    · rw [decide_eq_true ht, Bool.not_true, cond_false, if_pos ht]
      refine (refFloors_l6 N hn _ _ l.n 0 N (by omega) (by omega)).trans ?_
      by_cases hf : fAll c l
      · rw [if_pos hf, if_pos (fun j _ hj => hf j hj)]
      · rw [if_neg hf, if_neg (fun g => hf fun j hj => g j (by omega) hj)]
    · rw [decide_eq_false ht, Bool.not_false, cond_true, if_neg ht]
  · rw [if_neg hc, if_neg hc]
    rfl
theorem err_zero {c : api_Car} {l : Arr api_Press} (h : errC c l = 0) : ∃ n : Cn, n.Ok ∧ c = n.car ∧ VL n l := by
  unfold errC at h
  by_cases hc : VC c
  · rw [if_pos hc] at h
    by_cases ht : tAll l
    · rw [if_pos ht] at h
      by_cases hf : fAll c l
      · obtain ⟨n, h1, rfl⟩ := hc.cn
        exact ⟨n, h1, rfl, VL.of ht hf⟩
      · rw [if_neg hf] at h; cases h
    · rw [if_neg ht] at h; cases h
  · rw [if_neg hc] at h; cases h
theorem err_ok {n : Cn} (hn : n.Ok) {l : Arr api_Press} (hl : VL n l) : errC n.car l = 0 := by
  unfold errC
  rw [if_pos hn.vc, if_pos hl.all.1, if_pos hl.all.2]
end
end Go.Proofs.Ytlphgonhenegoaa
set_option linter.unusedVariables false
set_option linter.unusedSimpArgs false
set_option maxHeartbeats 0
set_option maxRecDepth 100000
namespace Go.Proofs.Ytlphgonhenegoaa
open Go.Sx
section
theorem setA_congr {a b : Arr Int} {n : Nat} (h : ∀ i, i < n → a.f i = b.f i) : setA a n = setA b n := by
  induction n with
  | zero => rfl
  | succ n ih => simp only [setA, ih fun i hi => h i (by omega), h n (by omega)]
structure Now (c : Cn) (now : Arr Int) (S : Nat → Prop) : Prop where
  g : ∀ j, j < now.n → 0 ≤ now.f j ∧ (c.L : Int) ≤ now.f j ∧ now.f j ≤ (c.H : Int)
  b : ∀ f, (setA now now.n).testBit f = true ↔ S f
def pushI (now : Arr Int) (v : Int) : Arr Int := lst intC (now.n + 1) (catC now.n (Cod.cell intC now.f) (litC [SV.int IntKind.i64 (0 : Int)] [[SV.int IntKind.i64 v]]))
theorem push_is (now : Arr Int) (v : Int) : (pushI now v).n = now.n + 1 ∧ (∀ j, j < now.n → (pushI now v).f j = now.f j) ∧ (pushI now v).f now.n = v := by
  have h := Arr.Is.push_int (a := now) (n := now.n) (g := fun j => if j < now.n then now.f j else v) ⟨rfl, fun i hi => by simp [hi]⟩ (z := [SV.int IntKind.i64 (0 : Int)]) (v := v) (by simp)
  exact ⟨h.1, fun j hj => (h.2 j (by omega)).trans (by simp [hj]), (h.2 now.n (by omega)).trans (by simp)⟩
theorem Now.push {c : Cn} {now : Arr Int} {S : Nat → Prop} (h : Now c now S) {v : Int} {g : Nat} (hv : v = (g : Int)) (hg : c.L ≤ g ∧ g ≤ c.H) : Now c (pushI now v) (fun f => S f ∨ f = g) := by
  subst hv
  obtain ⟨h1, h2, h3⟩ := push_is now (g : Int)
  refine ⟨fun j hj => ?_, fun f => ?_⟩
  · rw [h1] at hj
    by_cases hjn : j = now.n
    · rw [hjn, h3]; omega
    · rw [h2 j (by omega)]; exact h.g j (by omega)
  · rw [h1]
    simp only [setA, h3, Int.toNat_natCast]
    rw [setA_congr (fun i hi => h2 i hi), Nat.testBit_or, Bool.or_eq_true, h.b f, pow_bit, decide_eq_true_eq]
    exact or_congr_right eq_comm
theorem Now.nil (c : Cn) (f : Nat → Nat → SV) : Now c (lst intC 0 f) (fun _ => False) := ⟨fun j hj => by simp [lst] at hj, fun f => by simp [lst, setA]⟩
theorem Now.set {c : Cn} (hc : c.Ok) {l : Arr api_Press} (hl : VL c l) {p : Nat → Bool} {t k k' : Nat} {now : Arr Int} (hk : ∀ i, i < k → pA l i < t) (h1 : ∀ i, k ≤ i → i < k' → pA l i = t) (h2 : ∀ i, k' ≤ i → i < l.n → t < pA l i) (hk' : k' ≤ l.n)
    (h : Now c now fun f => ∃ i, k ≤ i ∧ i < k' ∧ p i = true ∧ pG l i = f) : setA now now.n = pP l p t := by
  refine Nat.eq_of_testBit_eq fun f => ?_
  have : (setA now now.n).testBit f = true ↔ (pP l p t).testBit f = true := by
    rw [h.b f]
    unfold pP
    rw [pset_bit]
    constructor
    · rintro ⟨i, a1, a2, a3, a4⟩
      exact ⟨i, by omega, h1 i a1 a2, a3, a4⟩
    · rintro ⟨i, a1, a2, a3, a4⟩
      refine ⟨i, ?_, ?_, a3, a4⟩
      · rcases Nat.lt_or_ge i k with g | g
        · have := hk i g; omega
        · exact g
      · rcases Nat.lt_or_ge i k' with g | g
        · exact g
        · have := h2 i g a1; omega
  cases h3 : (setA now now.n).testBit f <;> cases h4 : (pP l p t).testBit f <;> simp_all
def sub (l : Arr api_Press) (k : Nat) : Arr api_Press := ⟨l.n - k, fun i => l.f (k + i)⟩
theorem sub_zero (l : Arr api_Press) : sub l 0 = l := by simp [sub]
theorem sub_step (l : Arr api_Press) (k : Nat) : (lst api_PressC (Int.toNat (((sub l k).n : Nat) : Int) - Int.toNat (1 : Int)) fun (i j : Nat) => Cod.cell api_PressC (sub l k).f (Int.toNat (1 : Int) + i) j) = sub l (k + 1) := by
  have e1 : Int.toNat (((sub l k).n : Nat) : Int) - Int.toNat (1 : Int) = l.n - (k + 1) := by simp [sub]; omega
  rw [e1]
  show (⟨l.n - (k + 1), fun i => l.f (k + (1 + i))⟩ : Arr api_Press) = ⟨l.n - (k + 1), fun i => l.f (k + 1 + i)⟩
  congr 1
  funext i
  rw [Nat.add_assoc]
theorem play_l12 (N : Nat) {c : Cn} (hc : c.Ok) {l : Arr api_Press} (hl : VL c l) (t T t0 : Nat) (b : Bool) (rd : Arr api_Ride) (cg : calls_cage) (k0 : Nat) : ∀ (q k n : Nat) (nb : Bool) (now : Arr Int), k + q = l.n → q < n → k0 ≤ k → now.n + k0 = k → Now c now (fun f => ∃ i, k0 ≤ i ∧ i < k ∧ true = true ∧ pG l i = f) → (∀ i, k0 ≤ i → i < k → pA l i = t) → (∀ i, k0 ≤ i → i < l.n → t ≤ pA l i) →
    ∃ (k' : Nat) (nb' : Bool) (now' : Arr Int), k ≤ k' ∧ k' ≤ l.n ∧ now'.n + k0 = k' ∧ Now c now' (fun f => ∃ i, k0 ≤ i ∧ i < k' ∧ true = true ∧ pG l i = f) ∧ (∀ i, k0 ≤ i → i < k' → pA l i = t) ∧ (∀ i, k' ≤ i → i < l.n → t < pA l i) ∧
      ∀ {R : Type} (k2 : Arr api_Press → Bool → Arr Int → Option R), calls_Play_l12 N n (sub l k) (t : Int) (T : Int) (t0 : Int) b rd cg nb now k2 = k2 (sub l k') nb' now' := by
  intro q
  induction q with
  | zero =>
    intro k n nb now h1 h2 h3 h3' h4 h5 h6
    obtain ⟨n, rfl⟩ : ∃ m, n = m + 1 := ⟨n - 1, by omega⟩
    refine ⟨k, nb, now, by omega, by omega, h3', h4, h5, fun i hi hi' => by omega, fun {R} k2 => ?_⟩
    unfold calls_Play_l12 calls_Play_b12
    have : decide ((((sub l k).n : Nat) : Int) > 0) = false := by simp [sub]; omega
    rw [this, cond_false]
  | succ q ih =>
    intro k n nb now h1 h2 h3 h3' h4 h5 h6
    obtain ⟨n, rfl⟩ : ∃ m, n = m + 1 := ⟨n - 1, by omega⟩
    have hk : k < l.n := by omega
    have e1 : decide ((((sub l k).n : Nat) : Int) > 0) = true := by simp [sub]; omega
    have e2 : decide ((0 : Int) < (((sub l k).n : Nat) : Int)) = true := e1
    have hA : (api_Press.At ((sub l k).f (Int.toNat (0 : Int)))) = (pA l k : Int) := by
      show (l.f (k + 0)).At = _
      exact (hl.pa hk).1
    have hG : (api_Press.Floor ((sub l k).f (Int.toNat (0 : Int)))) = (pG l k : Int) := by
      show (l.f (k + 0)).Floor = _
      exact (hl.pg hk).1
    by_cases hat : pA l k = t
    · have hnow := h4.push (hG) (hl.pg hk).2
      have hp := push_is now (api_Press.Floor ((sub l k).f (Int.toNat (0 : Int))))
      obtain ⟨k', nb', now', a1, a2, a3, a4, a5, a6, a7⟩ := ih (k + 1) n false (pushI now (api_Press.Floor ((sub l k).f (Int.toNat (0 : Int))))) (by omega) (by omega) (by omega) (by rw [hp.1]; omega) (by
          refine ⟨hnow.g, fun f => (hnow.b f).trans ⟨?_, ?_⟩⟩
          · rintro (⟨i, b1, b2, b3⟩ | rfl)
            · exact ⟨i, b1, by omega, b3⟩
            · exact ⟨k, by omega, by omega, rfl, rfl⟩
          · rintro ⟨i, b1, b2, b3, b4⟩
            by_cases e : i = k
            · subst e; exact .inr b4.symm
            · exact .inl ⟨i, b1, by omega, b3, b4⟩) (fun i b1 b2 => by
          by_cases e : i = k
          · subst e; exact hat
          · exact h5 i b1 (by omega)) h6
      refine ⟨k', nb', now', by omega, a2, a3, a4, a5, a6, fun {R} k2 => ?_⟩
      unfold calls_Play_l12 calls_Play_b12
      have e3 : ((pA l k : Int) == (t : Int)) = true := by simp [hat]
      have e4 : room (now.n + 1) = true := room_of (by have := hl.n; omega)
      have e5 : decide ((1 : Int) ≤ (((sub l k).n : Nat) : Int)) = true := decide_eq_true (show (1 : Int) ≤ ((l.n - k : Nat) : Int) by omega)
      have e6 : decide ((((sub l k).n : Nat) : Int) ≤ (((sub l k).n : Nat) : Int)) = true := by simp
      rw [e1, cond_true, cond_true, hA, e3, cond_true, cond_true, e4, cond_true, e5, e6, Bool.and_self, cond_true, sub_step]
      exact a7 k2
    · refine ⟨k, nb, now, by omega, by omega, h3', h4, h5, fun i hi hi' => ?_, fun {R} k2 => ?_⟩
      · have := h6 k (by omega) hk
        have := hl.pm hi hi'
        omega
      · unfold calls_Play_l12 calls_Play_b12
        have e3 : ((pA l k : Int) == (t : Int)) = false := by
          rw [beq_eq_false_iff_ne]
          omega
        rw [e1, cond_true, cond_true, hA, e3, cond_false]
def allP : Nat → Bool := fun _ => true
def rideAt (c : Cn) (l : Arr api_Press) (t : Nat) : api_Ride := (st c l allP (t + 1)).ride
theorem ride_dec (x : api_Ride) : api_RideC.dec (lget (api_RideC.enc x)) = x := rfl
theorem play_l9 {N : Nat} (hN : 2000 < N) {c : Cn} (hc : c.Ok) {l : Arr api_Press} (hl : VL c l) (T : Nat) (hT : T ≤ 1000) : ∀ (q t n k : Nat) (b : Bool) (rd : Arr api_Ride), t + q = T → q < n → k ≤ l.n → (∀ i, i < k → pA l i < t) → (∀ i, k ≤ i → i < l.n → t ≤ pA l i) → rd.Is t (rideAt c l) →
    ∃ (b' : Bool) (rd' : Arr api_Ride), rd'.Is T (rideAt c l) ∧ ∀ {R : Type} (k0 : Bool → Arr api_Ride → Option R), calls_Play_l9 N n (sub l k) (T : Int) (t : Int) b rd ⟨c.car, (st c l allP t).ride⟩ k0 = k0 b' rd' := by
  intro q
  induction q with
  | zero =>
    intro t n k b rd h1 h2 h3 h4 h5 h6
    obtain ⟨n, rfl⟩ : ∃ m, n = m + 1 := ⟨n - 1, by omega⟩
    have : t = T := by omega
    subst this
    refine ⟨b, rd, h6, fun {R} k0 => ?_⟩
    unfold calls_Play_l9 calls_Play_b9
    rw [ltF (Nat.le_refl t), cond_false]
  | succ q ih =>
    intro t n k b rd h1 h2 h3 h4 h5 h6
    obtain ⟨n, rfl⟩ : ∃ m, n = m + 1 := ⟨n - 1, by omega⟩
    obtain ⟨k', nb', now', a1, a2, a3, a4, a5, a6, a7⟩ := play_l12 N hc hl t T t b rd ⟨c.car, (st c l allP t).ride⟩ k (l.n - k) k N true (lst intC (0 : Nat) (zeroC [SV.int IntKind.i64 (0 : Int)])) (by omega) (by have := hl.n; omega) (Nat.le_refl _) (by simp [lst])
      (by
        have := Now.nil c (zeroC [SV.int IntKind.i64 (0 : Int)])
        exact ⟨this.g, fun f => (this.b f).trans ⟨fun h => h.elim, fun ⟨i, b1, b2, _⟩ => by omega⟩⟩) (fun i b1 b2 => by omega) h5
    have hset := Now.set hc hl (p := allP) h4 a5 a6 a2 a4
    have hn : now'.n ≤ 1000 := by have := hl.n; omega
    obtain ⟨b', rd', g1, g2⟩ := ih (t + 1) n k' false (lst api_RideC (rd.n + 1) (catC rd.n (Cod.cell api_RideC rd.f) (litC [SV.int IntKind.i64 (0 : Int), SV.bool false, SV.bool false, SV.int IntKind.i64 (0 : Int), SV.int IntKind.i64 (0 : Int), SV.int IntKind.i64 (0 : Int)] [api_RideC.enc (rideAt c l t)])))
      (by omega) (by omega) a2 (fun i hi => by
        rcases Nat.lt_or_ge i k with g | g
        · have := h4 i g; omega
        · have := a5 i g hi; omega) (fun i hi hi' => by have := a6 i hi hi'; omega) (h6.push ride_dec (ride_dec _))
    refine ⟨b', rd', g1, fun {R} k0 => ?_⟩
    unfold calls_Play_l9 calls_Play_b9
    rw [ltT (show t < T by omega), cond_true]
    refine (a7 _).trans ?_
    rw [tick_eq hc (st_ok hc hl allP t) a4.g hn (by omega), hset]
    have e4 : room (rd.n + 1) = true := room_of (by have := h6.1; omega)
    rw [e4, cond_true, w64_succ (show t < 1000000000000 by omega)]
    exact g2 k0
theorem play_eq {N : Nat} (hN : 2000 < N) {c : Cn} (hc : c.Ok) {l : Arr api_Press} (hl : VL c l) {T : Nat} (hT : T ≤ 1000) :
    ∃ (b' : Bool) (rd' : Arr api_Ride), rd'.Is T (rideAt c l) ∧ ∀ {R : Type} (k : Int → Bool → Arr api_Ride → Option R), calls_Play N c.car l (T : Int) k = k 0 b' rd' := by
  obtain ⟨b', rd', g1, g2⟩ := play_l9 hN hc hl T hT T 0 N 0 true (lst api_RideC (0 : Nat) (zeroC [SV.int IntKind.i64 (0 : Int), SV.bool false, SV.bool false, SV.int IntKind.i64 (0 : Int), SV.int IntKind.i64 (0 : Int), SV.int IntKind.i64 (0 : Int)])) (by omega) (by omega) (Nat.zero_le _) (fun i hi => by omega) (fun i _ _ => Nat.zero_le _) .zero
  refine ⟨b', rd', g1, fun {R} k => ?_⟩
  rw [calls_Play_def]
  unfold calls_Play_m
  rw [check_eq (by omega) _ (by have := hl.n; omega), err_ok hc hl]
  have e0 : ((0 : Int) != 0) = false := rfl
  rw [e0, cond_false, in_eq, decide_eq_true (show (0 : Int) ≤ (T : Int) ∧ (T : Int) ≤ 1000 by omega), Bool.not_true, cond_false, calls_begin_def]
  have := g2 (fun r240 r241 => k (0 : Int) r240 r241)
  rw [sub_zero] at this
  exact this
end
end Go.Proofs.Ytlphgonhenegoaa
