/-
  Several texts in one.
-/
import Derived.Test.YtlphgonhenegoaaQ2
set_option linter.unusedVariables false
set_option linter.unusedSimpArgs false
set_option maxHeartbeats 0
set_option maxRecDepth 100000
namespace Go.Proofs.Ytlphgonhenegoaa
open Go.Sx
section
theorem from_eq (N : Nat) (n lo hi : Int) {R : Type} (k : Bool → Option R) : newelref07_from N n lo hi k = k (decide (lo ≤ n ∧ n ≤ hi)) := by
  rw [newelref07_from_def]
  unfold newelref07_from_m
  by_cases h : n ≥ lo
  · have h' : lo ≤ n := h
    simp [h, h']
  · have h' : ¬ lo ≤ n := h
    simp [h, h']
theorem in_eq (N : Nat) (n lo hi : Int) {R : Type} (k : Bool → Option R) : calls_within N n lo hi k = k (decide (lo ≤ n ∧ n ≤ hi)) := by
  rw [calls_within_def]
  unfold calls_within_m
  by_cases h : n ≥ lo
  · have h' : lo ≤ n := h
    simp [h, h']
  · have h' : ¬ lo ≤ n := h
    simp [h, h']
structure VC (c : api_Car) : Prop where
  lo : 0 ≤ c.Low
  hi : c.High ≤ 5
  s : c.Low ≤ c.Start ∧ c.Start ≤ c.High
  m : 1 ≤ c.Move ∧ c.Move ≤ 3
  p : 1 ≤ c.Stop ∧ c.Stop ≤ 4
instance (c : api_Car) : Decidable (VC c) :=
  if h : 0 ≤ c.Low ∧ c.High ≤ 5 ∧ (c.Low ≤ c.Start ∧ c.Start ≤ c.High) ∧ (1 ≤ c.Move ∧ c.Move ≤ 3) ∧ (1 ≤ c.Stop ∧ c.Stop ≤ 4) then isTrue ⟨h.1, h.2.1, h.2.2.1, h.2.2.2.1, h.2.2.2.2⟩
  else isFalse fun v => h ⟨v.lo, v.hi, v.s, v.m, v.p⟩
theorem VC.cn {c : api_Car} (h : VC c) : ∃ n : Cn, n.Ok ∧ c = n.car := by
  obtain ⟨h1, h2, h3, h4, h5⟩ := h
  refine ⟨⟨c.Low.toNat, c.High.toNat, c.Start.toNat, c.Move.toNat, c.Stop.toNat⟩, ⟨by simp; omega, by simp; omega, by simp; omega, by simp; omega, by simp; omega, by simp; omega, by simp; omega⟩, ?_⟩
  obtain ⟨a1, a2, a3, a4, a5⟩ := c
  simp only at h1 h2 h3 h4 h5
  simp only [Cn.car, api_Car.mk.injEq]
  omega
theorem Cn.Ok.vc {n : Cn} (h : n.Ok) : VC n.car := by
  obtain ⟨h1, h2, h3, h4, h5, h6, h7⟩ := h
  exact ⟨by simp [Cn.car], by simp [Cn.car]; omega, by simp [Cn.car]; omega, by simp [Cn.car]; omega, by simp [Cn.car]; omega⟩
theorem refCar (N : Nat) (c : api_Car) {R : Type} (k : Int → Option R) : newelref07_CheckCar N c k = k (if VC c then 0 else 70) := by
  rw [newelref07_CheckCar_def]
  unfold newelref07_CheckCar_m
  simp only [from_eq]
  by_cases c1 : c.Low < 0
  · have : ¬ VC c := fun h => by have := h.lo; omega
    simp only [c1, this, decide_true, cond_true, if_false]
  by_cases c2 : c.Low ≤ c.Start ∧ c.Start ≤ c.High
  rotate_left
  · have : ¬ VC c := fun h => c2 h.s
    simp only [c1, c2, this, decide_false, Bool.not_false, cond_true, cond_false, if_false]
  by_cases c3 : c.High > 5
  · have : ¬ VC c := fun h => by have := h.hi; omega
    simp only [c1, c2, c3, this, and_self, decide_true, decide_false, Bool.not_true, cond_true, cond_false, if_false]
  by_cases c4 : 1 ≤ c.Move ∧ c.Move ≤ 3
  rotate_left
  · have : ¬ VC c := fun h => c4 h.m
    simp only [c1, c2, c3, c4, this, and_self, decide_true, decide_false, Bool.not_true, Bool.not_false, cond_true, cond_false, if_false]
  by_cases c5 : 1 ≤ c.Stop ∧ c.Stop ≤ 4
  rotate_left
  · have : ¬ VC c := fun h => c5 h.p
    simp only [c1, c2, c3, c4, c5, this, and_self, decide_true, decide_false, Bool.not_true, Bool.not_false, cond_true, cond_false, if_false]
  have : VC c := ⟨by omega, by omega, c2, c4, c5⟩
  simp only [c1, c2, c3, c4, c5, this, and_self, decide_true, decide_false, Bool.not_true, cond_true, cond_false, if_true]
theorem valid_eq (N : Nat) (c : api_Car) {R : Type} (k : Bool → Option R) : calls_valid N c k = k (decide (VC c)) := by
  rw [calls_valid_def]
  unfold calls_valid_m
  simp only [in_eq]
  by_cases c2 : c.Low ≤ c.Start ∧ c.Start ≤ c.High
  rotate_left
  · have : ¬ VC c := fun h => c2 h.s
    simp only [c2, this, decide_false, cond_false]
  by_cases c1 : c.Low ≥ 0
  rotate_left
  · have : ¬ VC c := fun h => c1 h.lo
    simp only [c1, c2, this, and_self, decide_true, decide_false, cond_false, cond_true]
  by_cases c3 : c.High ≤ 5
  rotate_left
  · have : ¬ VC c := fun h => c3 h.hi
    simp only [c1, c2, c3, this, and_self, decide_true, decide_false, cond_true, cond_false]
  by_cases c4 : 1 ≤ c.Move ∧ c.Move ≤ 3
  rotate_left
  · have : ¬ VC c := fun h => c4 h.m
    simp only [c1, c2, c3, c4, this, and_self, decide_true, decide_false, cond_true, cond_false]
  by_cases c5 : 1 ≤ c.Stop ∧ c.Stop ≤ 4
  rotate_left
  · have : ¬ VC c := fun h => c5 h.p
    simp only [c1, c2, c3, c4, c5, this, and_self, decide_true, decide_false, cond_true, cond_false]
  have : VC c := ⟨c1, c3, c2, c4, c5⟩
  simp only [c1, c2, c3, c4, c5, this, and_self, decide_true, cond_true]
def prevA (l : Arr api_Press) (i : Nat) : Int := if i = 0 then 0 else (l.f (i - 1)).At
def tP (l : Arr api_Press) (i : Nat) : Prop := prevA l i ≤ (l.f i).At ∧ (l.f i).At ≤ 500
def fP (c : api_Car) (l : Arr api_Press) (i : Nat) : Prop := c.Low ≤ (l.f i).Floor ∧ (l.f i).Floor ≤ c.High
def tAll (l : Arr api_Press) : Prop := l.n ≤ 200 ∧ ∀ i, i < l.n → tP l i
def fAll (c : api_Car) (l : Arr api_Press) : Prop := ∀ i, i < l.n → fP c l i
open Classical in
noncomputable def errC (c : api_Car) (l : Arr api_Press) : Int := if VC c then (if tAll l then (if fAll c l then 0 else 71) else 71) else 70
theorem tP_nonneg {l : Arr api_Press} {n : Nat} (h : ∀ i, i < n → tP l i) : ∀ i, i < n → 0 ≤ (l.f i).At := by
  intro i
  induction i with
  | zero => intro hi; have := (h 0 hi).1; simpa [prevA] using this
  | succ i ih =>
    intro hi
    have h1 := ih (by omega)
    have := (h (i + 1) hi).1
    simp [prevA] at this
    omega
theorem VL.of {n : Cn} {l : Arr api_Press} (h1 : tAll l) (h2 : fAll n.car l) : VL n l := by
  refine ⟨h1.1, fun i hi => ⟨tP_nonneg h1.2 i hi, (h1.2 i hi).2⟩, ?_, fun i hi => h2 i hi⟩
  intro i j hij
  induction j with
  | zero => intro _; have : i = 0 := by omega
            subst this; exact Int.le_refl _
  | succ j ih =>
    intro hj
    by_cases h : i = j + 1
    · subst h; exact Int.le_refl _
    · have := ih (by omega) (by omega)
      have h3 := (h1.2 (j + 1) hj).1
      simp [prevA] at h3
      omega
theorem VL.all {n : Cn} {l : Arr api_Press} (h : VL n l) : tAll l ∧ fAll n.car l := by
  refine ⟨⟨h.n, fun i hi => ⟨?_, (h.a i hi).2⟩⟩, fun i hi => h.g i hi⟩
  unfold prevA
  split
  · exact (h.a i hi).1
  · exact h.m _ _ (by omega) hi
open Classical in
theorem timed_l3 (N : Nat) {l : Arr api_Press} (hn : l.n ≤ 1000) {R : Type} (kr : Bool → Option R) (k0 : Unit → Option R) : ∀ (q i n : Nat), i + q = l.n → q < n →
    calls_timed_l3 N n l (prevA l i) l (l.n : Int) (i : Int) kr k0 = if ∀ j, i ≤ j → j < l.n → tP l j then k0 () else kr false := by
  intro q
  induction q with
  | zero =>
    intro i n h1 h2
    obtain ⟨n, rfl⟩ : ∃ m, n = m + 1 := ⟨n - 1, by omega⟩
    unfold calls_timed_l3 calls_timed_b3
    rw [ltF (show l.n ≤ i by omega), cond_false, if_pos (fun j h3 h4 => by omega)]
  | succ q ih =>
    intro i n h1 h2
    obtain ⟨n, rfl⟩ : ∃ m, n = m + 1 := ⟨n - 1, by omega⟩
    unfold calls_timed_l3 calls_timed_b3
    rw [ltT (show i < l.n by omega), cond_true, nat_nonneg, Bool.and_self, cond_true, in_eq]
    simp only [Int.toNat_natCast, w64_succ (show i < 1000000000000 by omega)]
    by_cases h : tP l i
    · have h' : prevA l i ≤ (l.f i).At ∧ (l.f i).At ≤ 500 := h
      have hd : decide (prevA l i ≤ (l.f i).At ∧ (l.f i).At ≤ 500) = true := decide_eq_true h'
      rw [hd, Bool.not_true, cond_false]
      have := ih (i + 1) n (by omega) (by omega)
      have hp : prevA l (i + 1) = (l.f i).At := by simp [prevA]
      rw [hp] at this
      rw [this]
      refine ite_congr (propext ⟨fun g j h3 h4 => ?_, fun g j h3 h4 => g j (by omega) h4⟩) (fun _ => rfl) (fun _ => rfl)
      by_cases hj : j = i
      · subst hj; exact h
      · exact g j (by omega) h4
    · have h' : ¬ (prevA l i ≤ (l.f i).At ∧ (l.f i).At ≤ 500) := h
      rw [decide_eq_false h', Bool.not_false, cond_true, if_neg (fun g => h (g i (Nat.le_refl _) (by omega)))]
open Classical in
theorem timed_eq {N : Nat} (hN : 1000 < N) {l : Arr api_Press} (hn : l.n ≤ 1000) {R : Type} (k : Bool → Option R) : calls_timed N l k = k (decide (tAll l)) := by
  rw [calls_timed_def]
  unfold calls_timed_m
  have := timed_l3 N hn (kr := fun r17 => k r17) (k0 := fun _ => k (decide ((l.n : Int) ≤ 200))) l.n 0 N (by omega) (by omega)
  have h0 : prevA l 0 = 0 := rfl
  rw [h0] at this
  refine Eq.trans this ?_
  by_cases h : ∀ j, 0 ≤ j → j < l.n → tP l j
  · rw [if_pos h]
    congr 1
    have : ((l.n : Int) ≤ 200) ↔ tAll l := ⟨fun g => ⟨by omega, fun i hi => h i (by omega) hi⟩, fun g => by have := g.1; omega⟩
    exact decide_eq_decide.2 this
  · rw [if_neg h, decide_eq_false (fun g => h fun j _ hj => g.2 j hj)]
open Classical in
theorem floors_l6 (N : Nat) {c : api_Car} {l : Arr api_Press} (hn : l.n ≤ 1000) {R : Type} (kr : Int → Option R) (k0 : Unit → Option R) : ∀ (q i n : Nat), i + q = l.n → q < n →
    calls_Check_l6 N n l (l.n : Int) (i : Int) c kr k0 = if ∀ j, i ≤ j → j < l.n → fP c l j then k0 () else kr 71 := by
  intro q
  induction q with
  | zero =>
    intro i n h1 h2
    obtain ⟨n, rfl⟩ : ∃ m, n = m + 1 := ⟨n - 1, by omega⟩
    unfold calls_Check_l6 calls_Check_b6
    rw [ltF (show l.n ≤ i by omega), cond_false, if_pos (fun j h3 h4 => by omega)]
  | succ q ih =>
    intro i n h1 h2
    obtain ⟨n, rfl⟩ : ∃ m, n = m + 1 := ⟨n - 1, by omega⟩
    unfold calls_Check_l6 calls_Check_b6
    rw [ltT (show i < l.n by omega), cond_true, nat_nonneg, Bool.and_self, cond_true, in_eq]
    simp only [Int.toNat_natCast, w64_succ (show i < 1000000000000 by omega)]
    by_cases h : fP c l i
    · have hd : decide (c.Low ≤ (l.f i).Floor ∧ (l.f i).Floor ≤ c.High) = true := decide_eq_true h
      rw [hd, Bool.not_true, cond_false, ih (i + 1) n (by omega) (by omega)]
      refine ite_congr (propext ⟨fun g j h3 h4 => ?_, fun g j h3 h4 => g j (by omega) h4⟩) (fun _ => rfl) (fun _ => rfl)
      by_cases hj : j = i
      · subst hj; exact h
      · exact g j (by omega) h4
    · have h' : ¬ (c.Low ≤ (l.f i).Floor ∧ (l.f i).Floor ≤ c.High) := h
      rw [decide_eq_false h', Bool.not_false, cond_true, if_neg (fun g => h (g i (Nat.le_refl _) (by omega)))]
open Classical in
theorem check_eq {N : Nat} (hN : 1000 < N) (c : api_Car) {l : Arr api_Press} (hn : l.n ≤ 1000) {R : Type} (k : Int → Option R) : calls_Check N c l k = k (errC c l) := by
  rw [calls_Check_def]
  unfold calls_Check_m errC
  rw [valid_eq]
  by_cases hc : VC c
  · rw [decide_eq_true hc, Bool.not_true, cond_false, if_pos hc, timed_eq hN hn]
    by_cases ht : tAll l
    · rw [decide_eq_true ht, Bool.not_true, cond_false, if_pos ht]
      refine (floors_l6 N hn _ _ l.n 0 N (by omega) (by omega)).trans ?_
      by_cases hf : fAll c l
      · rw [if_pos hf, if_pos (fun j _ hj => hf j hj)]
      · rw [if_neg hf, if_neg (fun g => hf fun j hj => g j (by omega) hj)]
    · rw [decide_eq_false ht, Bool.not_false, cond_true, if_neg ht]
  · rw [decide_eq_false hc, Bool.not_false, cond_true, if_neg hc]
open Classical in
theorem isP_l2 (N : Nat) {l : Arr api_Press} (hn : l.n ≤ 1000) {R : Type} (kr : Bool → Option R) (k0 : Unit → Option R) : ∀ (q i n : Nat), i + q = l.n → q < n → (∀ j, j < i → tP l j) →
    newelref07_isPresses_l2 N n l (i : Int) kr k0 = if ∀ j, i ≤ j → j < l.n → tP l j then k0 () else kr false := by
  intro q
  induction q with
  | zero =>
    intro i n h1 h2 _
    obtain ⟨n, rfl⟩ : ∃ m, n = m + 1 := ⟨n - 1, by omega⟩
    unfold newelref07_isPresses_l2 newelref07_isPresses_b2
    rw [ltF (show l.n ≤ i by omega), cond_false, if_pos (fun j h3 h4 => by omega)]
  | succ q ih =>
    intro i n h1 h2 hp
    obtain ⟨n, rfl⟩ : ∃ m, n = m + 1 := ⟨n - 1, by omega⟩
    have go : tP l i → newelref07_isPresses_l2 N n l (w64 ((i : Int) + 1)) kr k0 = if ∀ j, i ≤ j → j < l.n → tP l j then k0 () else kr false := fun h => by
      rw [w64_succ (show i < 1000000000000 by omega), ih (i + 1) n (by omega) (by omega) fun j hj => by
        by_cases e : j = i
        · subst e; exact h
        · exact hp j (by omega)]
      refine ite_congr (propext ⟨fun g j h3 h4 => ?_, fun g j h3 h4 => g j (by omega) h4⟩) (fun _ => rfl) (fun _ => rfl)
      by_cases hj : j = i
      · subst hj; exact h
      · exact g j (by omega) h4
    have no : ¬ tP l i → kr false = if ∀ j, i ≤ j → j < l.n → tP l j then k0 () else kr false := fun h => by
      rw [if_neg (fun g => h (g i (Nat.le_refl _) (by omega)))]
    unfold newelref07_isPresses_l2 newelref07_isPresses_b2
    rw [ltT (show i < l.n by omega), cond_true, nat_nonneg, Bool.and_self, cond_true, from_eq]
    simp only [Int.toNat_natCast]
    by_cases h : 0 ≤ (l.f i).At ∧ (l.f i).At ≤ 500
    · rw [decide_eq_true h, Bool.not_true, cond_false]
      cases i with
      | zero =>
        have : decide (((0 : Nat) : Int) > 0) = false := by simp
        rw [this, cond_false]
        exact go ⟨by simpa [prevA] using h.1, h.2⟩
      | succ i =>
        have e1 : decide (((i + 1 : Nat) : Int) > 0) = true := by simp
        have e2 : w64 (((i + 1 : Nat) : Int) - 1) = ((i : Nat) : Int) := w64_pred (n := i + 1) (by omega) (by omega)
        rw [e1, cond_true, e2, nat_nonneg, ltT (show i < l.n by omega), Bool.and_self, cond_true]
        simp only [Int.toNat_natCast]
        by_cases h3 : (l.f (i + 1)).At < (l.f i).At
        · rw [decide_eq_true h3, cond_true]
          refine no fun g => ?_
          have := g.1
          simp [prevA] at this
          omega
        · rw [decide_eq_false h3, cond_false]
          refine go ⟨?_, h.2⟩
          simp [prevA]
          omega
    · rw [decide_eq_false h, Bool.not_false, cond_true]
      refine no fun g => h ⟨?_, g.2⟩
      have hp' : ∀ j, j < i + 1 → tP l j := fun j hj => by
        by_cases e : j = i
        · subst e; exact g
        · exact hp j (by omega)
      exact tP_nonneg hp' i (by omega)
open Classical in
theorem isP_eq {N : Nat} (hN : 1000 < N) {l : Arr api_Press} (hn : l.n ≤ 1000) {R : Type} (k : Bool → Option R) : newelref07_isPresses N l k = k (decide (tAll l)) := by
  rw [newelref07_isPresses_def]
  unfold newelref07_isPresses_m
  refine Eq.trans (isP_l2 N hn (kr := fun r26 => k r26) (k0 := fun _ => k (decide ((l.n : Int) ≤ 200))) l.n 0 N (by omega) (by omega) (fun j hj => by omega)) ?_
  by_cases h : ∀ j, 0 ≤ j → j < l.n → tP l j
  · rw [if_pos h]
    congr 1
    have : ((l.n : Int) ≤ 200) ↔ tAll l := ⟨fun g => ⟨by omega, fun i hi => h i (by omega) hi⟩, fun g => by have := g.1; omega⟩
    exact decide_eq_decide.2 this
  · rw [if_neg h, decide_eq_false (fun g => h fun j _ hj => g.2 j hj)]
open Classical in
theorem refFloors_l6 (N : Nat) {c : api_Car} {l : Arr api_Press} (hn : l.n ≤ 1000) {R : Type} (kr : Int → Option R) (k0 : Unit → Option R) : ∀ (q i n : Nat), i + q = l.n → q < n →
    newelref07_Check_l6 N n l (i : Int) c kr k0 = if ∀ j, i ≤ j → j < l.n → fP c l j then k0 () else kr 71 := by
  intro q
  induction q with
  | zero =>
    intro i n h1 h2
    obtain ⟨n, rfl⟩ : ∃ m, n = m + 1 := ⟨n - 1, by omega⟩
    unfold newelref07_Check_l6 newelref07_Check_b6
    rw [ltF (show l.n ≤ i by omega), cond_false, if_pos (fun j h3 h4 => by omega)]
  | succ q ih =>
    intro i n h1 h2
    obtain ⟨n, rfl⟩ : ∃ m, n = m + 1 := ⟨n - 1, by omega⟩
    unfold newelref07_Check_l6 newelref07_Check_b6
    rw [ltT (show i < l.n by omega), cond_true, nat_nonneg, Bool.and_self, cond_true, from_eq]
    simp only [Int.toNat_natCast, w64_succ (show i < 1000000000000 by omega)]
    by_cases h : fP c l i
    · have hd : decide (c.Low ≤ (l.f i).Floor ∧ (l.f i).Floor ≤ c.High) = true := decide_eq_true h
      rw [hd, Bool.not_true, cond_false, ih (i + 1) n (by omega) (by omega)]
      refine ite_congr (propext ⟨fun g j h3 h4 => ?_, fun g j h3 h4 => g j (by omega) h4⟩) (fun _ => rfl) (fun _ => rfl)
      by_cases hj : j = i
      · subst hj; exact h
      · exact g j (by omega) h4
    · have h' : ¬ (c.Low ≤ (l.f i).Floor ∧ (l.f i).Floor ≤ c.High) := h
      rw [decide_eq_false h', Bool.not_false, cond_true, if_neg (fun g => h (g i (Nat.le_refl _) (by omega)))]
open Classical in
theorem refCheck {N : Nat} (hN : 1000 < N) (c : api_Car) {l : Arr api_Press} (hn : l.n ≤ 1000) {R : Type} (k : Int → Option R) : newelref07_Check N c l k = k (errC c l) := by
  rw [newelref07_Check_def]
  unfold newelref07_Check_m errC
  rw [refCar]
  by_cases hc : VC c
  · rw [if_pos hc, if_pos hc]
    have : ((0 : Int) != 0) = false := rfl
    rw [this, cond_false, isP_eq hN hn]
    by_cases ht : tAll l
    · rw [decide_eq_true ht, Bool.not_true, cond_false, if_pos ht]
      refine (refFloors_l6 N hn _ _ l.n 0 N (by omega) (by omega)).trans ?_
      by_cases hf : fAll c l
      · rw [if_pos hf, if_pos (fun j _ hj => hf j hj)]
      · rw [if_neg hf, if_neg (fun g => hf fun j hj => g j (by omega) hj)]
    · rw [decide_eq_false ht, Bool.not_false, cond_true, if_neg ht]
  · rw [if_neg hc, if_neg hc]
    rfl
theorem err_ok {n : Cn} (hn : n.Ok) {l : Arr api_Press} (hl : VL n l) : errC n.car l = 0 := by
  unfold errC
  rw [if_pos hn.vc, if_pos hl.all.1, if_pos hl.all.2]
end
end Go.Proofs.Ytlphgonhenegoaa
set_option linter.unusedVariables false
set_option linter.unusedSimpArgs false
set_option maxHeartbeats 0
set_option maxRecDepth 100000
namespace Go.Proofs.Ytlphgonhenegoaa
open Go.Sx
section
theorem setA_congr {a b : Arr Int} {n : Nat} (h : ∀ i, i < n → a.f i = b.f i) : setA a n = setA b n := by
  induction n with
  | zero => rfl
  | succ n ih => simp only [setA, ih fun i hi => h i (by omega), h n (by omega)]
structure Now (c : Cn) (now : Arr Int) (S : Nat → Prop) : Prop where
  g : ∀ j, j < now.n → 0 ≤ now.f j ∧ (c.L : Int) ≤ now.f j ∧ now.f j ≤ (c.H : Int)
  b : ∀ f, (setA now now.n).testBit f = true ↔ S f
def pushI (now : Arr Int) (v : Int) : Arr Int := lst intC (now.n + 1) (catC now.n (Cod.cell intC now.f) (litC [SV.int IntKind.i64 (0 : Int)] [[SV.int IntKind.i64 v]]))
theorem push_is (now : Arr Int) (v : Int) : (pushI now v).n = now.n + 1 ∧ (∀ j, j < now.n → (pushI now v).f j = now.f j) ∧ (pushI now v).f now.n = v := by
  have h := Arr.Is.push_int (a := now) (n := now.n) (g := fun j => if j < now.n then now.f j else v) ⟨rfl, fun i hi => by simp [hi]⟩ (z := [SV.int IntKind.i64 (0 : Int)]) (v := v) (by simp)
  exact ⟨h.1, fun j hj => (h.2 j (by omega)).trans (by simp [hj]), (h.2 now.n (by omega)).trans (by simp)⟩
theorem Now.push {c : Cn} {now : Arr Int} {S : Nat → Prop} (h : Now c now S) {v : Int} {g : Nat} (hv : v = (g : Int)) (hg : c.L ≤ g ∧ g ≤ c.H) : Now c (pushI now v) (fun f => S f ∨ f = g) := by
  subst hv
  obtain ⟨h1, h2, h3⟩ := push_is now (g : Int)
  refine ⟨fun j hj => ?_, fun f => ?_⟩
  · rw [h1] at hj
    by_cases hjn : j = now.n
    · rw [hjn, h3]; omega
    · rw [h2 j (by omega)]; exact h.g j (by omega)
  · rw [h1]
    simp only [setA, h3, Int.toNat_natCast]
    rw [setA_congr (fun i hi => h2 i hi), Nat.testBit_or, Bool.or_eq_true, h.b f, pow_bit, decide_eq_true_eq]
    exact or_congr_right eq_comm
theorem Now.nil (c : Cn) (f : Nat → Nat → SV) : Now c (lst intC 0 f) (fun _ => False) := ⟨fun j hj => by simp [lst] at hj, fun f => by simp [lst, setA]⟩
theorem Now.set {c : Cn} (hc : c.Ok) {l : Arr api_Press} (hl : VL c l) {p : Nat → Bool} {t k k' : Nat} {now : Arr Int} (hk : ∀ i, i < k → pA l i < t) (h1 : ∀ i, k ≤ i → i < k' → pA l i = t) (h2 : ∀ i, k' ≤ i → i < l.n → t < pA l i) (hk' : k' ≤ l.n)
    (h : Now c now fun f => ∃ i, k ≤ i ∧ i < k' ∧ p i = true ∧ pG l i = f) : setA now now.n = pP l p t := by
  refine Nat.eq_of_testBit_eq fun f => ?_
  have : (setA now now.n).testBit f = true ↔ (pP l p t).testBit f = true := by
    rw [h.b f]
    unfold pP
    rw [pset_bit]
    constructor
    · rintro ⟨i, a1, a2, a3, a4⟩
      exact ⟨i, by omega, h1 i a1 a2, a3, a4⟩
    · rintro ⟨i, a1, a2, a3, a4⟩
      refine ⟨i, ?_, ?_, a3, a4⟩
      · rcases Nat.lt_or_ge i k with g | g
        · have := hk i g; omega
        · exact g
      · rcases Nat.lt_or_ge i k' with g | g
        · exact g
        · have := h2 i g a1; omega
  cases h3 : (setA now now.n).testBit f <;> cases h4 : (pP l p t).testBit f <;> simp_all
def sub (l : Arr api_Press) (k : Nat) : Arr api_Press := ⟨l.n - k, fun i => l.f (k + i)⟩
theorem sub_zero (l : Arr api_Press) : sub l 0 = l := by simp [sub]
def allP : Nat → Bool := fun _ => true
theorem pressed_l3 (N : Nat) {c : Cn} (hc : c.Ok) {l : Arr api_Press} (hl : VL c l) (t : Nat) {R : Type} (k0 : Int → Option R) : ∀ (q i n : Nat), i + q = l.n → q < n →
    newelref07_pressedAt_l3 N n l (t : Int) ((pset l allP t i : Nat) : Int) (i : Int) k0 = k0 ((pP l allP t : Nat) : Int) := by
  have h5 := hc.h5
  intro q
  induction q with
  | zero =>
    intro i n h1 h2
    obtain ⟨n, rfl⟩ : ∃ m, n = m + 1 := ⟨n - 1, by omega⟩
    have : i = l.n := by omega
    subst this
    unfold newelref07_pressedAt_l3 newelref07_pressedAt_b3
    rw [ltF (Nat.le_refl l.n), cond_false]
    rfl
  | succ q ih =>
    intro i n h1 h2
    obtain ⟨n, rfl⟩ : ∃ m, n = m + 1 := ⟨n - 1, by omega⟩
    have hi : i < l.n := by omega
    obtain ⟨g1, g2, g3⟩ := hl.pg hi
    have := ih (i + 1) n (by omega) (by omega)
    have hn := hl.n
    have hd : ∀ x : Int, x = (pG l i : Int) → decide (IntKind.wrap .u64 x < 0) = false := fun x hx => by
      subst hx
      rw [wrapU _ (by omega)]
      exact natF _
    unfold newelref07_pressedAt_l3 newelref07_pressedAt_b3
    rw [ltT hi, cond_true, nat_nonneg, Bool.and_self, cond_true, hd (l.f (Int.toNat (i : Int))).Floor g1]
    simp only [Int.toNat_natCast, w64_succ (show i < 1000000000000 by omega)]
    rw [(hl.pa hi).1, eqN]
    unfold pset at this
    cases ht : pA l i == t with
    | true =>
      rw [ht] at this
      simp only [allP, Bool.and_self, cond_true] at this
      simp only [cond_true, cond_false]
      rw [g1, wrapU _ (by omega), shl_eq (show pG l i < 60 by omega), or64 _ (pset_lt fun j hj => by have := (hl.pg (show j < l.n by omega)).2; omega) _ (pow_lt (by omega))]
      exact this
    | false =>
      rw [ht] at this
      simp only [Bool.false_and, cond_false] at this
      simp only [cond_false]
      exact this
theorem pressed_eq {N : Nat} (hN : 1000 < N) {c : Cn} (hc : c.Ok) {l : Arr api_Press} (hl : VL c l) (t : Nat) {R : Type} (k : Int → Option R) : newelref07_pressedAt N l (t : Int) k = k ((pP l allP t : Nat) : Int) := by
  rw [newelref07_pressedAt_def]
  exact pressed_l3 N hc hl t k l.n 0 N (by omega) (by have := hl.n; omega)
end
end Go.Proofs.Ytlphgonhenegoaa
