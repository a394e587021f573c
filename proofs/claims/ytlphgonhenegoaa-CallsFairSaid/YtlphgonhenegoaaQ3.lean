/-
  Several texts in one.
-/
import Derived.Test.YtlphgonhenegoaaP9
import Derived.Test.YtlphgonhenegoaaG3
set_option linter.unusedVariables false
set_option linter.unusedSimpArgs false
set_option maxHeartbeats 0
set_option maxRecDepth 100000
namespace Go.Proofs.Ytlphgonhenegoaa
open Go.Sx
section
def carsP (g : Arr api_Car) : Prop := ∀ i, i < g.n → VC (g.f i)
def inP (g : Arr api_Car) (x : api_Press) (i : Nat) : Prop := (g.f i).Low ≤ x.Floor ∧ x.Floor ≤ (g.f i).High
def onP (g : Arr api_Car) (x : api_Press) : Prop := ∃ i, i < g.n ∧ inP g x i
def allOn (g : Arr api_Car) (l : Arr api_Press) : Prop := ∀ i, i < l.n → onP g (l.f i)
open Classical in
noncomputable def errG (g : Arr api_Car) (l : Arr api_Press) : Int := if (1 ≤ (g.n : Int) ∧ (g.n : Int) ≤ 3) then (if carsP g then (if tAll l then (if allOn g l then 0 else 71) else 71) else 70) else 70
theorem idx1_l2 (N : Nat) {g : Arr api_Car} (hg : g.n ≤ 100) {R : Type} (kr : Int → Option R) (k0 : Unit → Option R) (kk : Bool → Option R) (h1 : ∀ i : Nat, kr (i : Int) = kk true) (h0 : k0 () = kk false) : ∀ (q i n : Nat), i + q = g.n → q < n → (∀ j, j < i → VC (g.f j)) →
    (carsP g → slices_IndexFunc___api_Car_api_Car__l2 N n g (g.n : Int) (i : Int) kr k0 = kk false) ∧ (¬ carsP g → slices_IndexFunc___api_Car_api_Car__l2 N n g (g.n : Int) (i : Int) kr k0 = kk true) := by
  intro q
  induction q with
  | zero =>
    intro i n a1 a2 a3
    obtain ⟨n, rfl⟩ : ∃ m, n = m + 1 := ⟨n - 1, by omega⟩
    have : carsP g := fun j hj => a3 j (by omega)
    refine ⟨fun _ => ?_, fun hn => absurd this hn⟩
    unfold slices_IndexFunc___api_Car_api_Car__l2 slices_IndexFunc___api_Car_api_Car__b2
    rw [ltF (show g.n ≤ i by omega), cond_false]
    exact h0
  | succ q ih =>
    intro i n a1 a2 a3
    obtain ⟨n, rfl⟩ : ∃ m, n = m + 1 := ⟨n - 1, by omega⟩
    have e0 : decide ((i : Int) < (g.n : Int)) = true := ltT (by omega)
    by_cases hv : VC (g.f i)
    · have next := ih (i + 1) n (by omega) (by omega) (fun j hj => by
        by_cases e : j = i
        · subst e; exact hv
        · exact a3 j (by omega))
      have go : slices_IndexFunc___api_Car_api_Car__l2 N (n + 1) g (g.n : Int) (i : Int) kr k0 = slices_IndexFunc___api_Car_api_Car__l2 N n g (g.n : Int) ((i + 1 : Nat) : Int) kr k0 := by
        conv => lhs; unfold slices_IndexFunc___api_Car_api_Car__l2 slices_IndexFunc___api_Car_api_Car__b2
        rw [e0, cond_true, nat_nonneg, Bool.true_and, cond_true, calls_group_1_def]
        unfold calls_group_1_m
        rw [valid_eq, decide_eq_true (show VC (Arr.f g (Int.toNat (i : Int))) from hv), Bool.not_true]
        show (bif false then _ else _) = _
        rw [cond_false, w64_succ (show i < 1000000000000 by omega)]
      rw [go]
      exact next
    · have hn : ¬ carsP g := fun h => hv (h i (by omega))
      refine ⟨fun h => absurd h hn, fun _ => ?_⟩
      unfold slices_IndexFunc___api_Car_api_Car__l2 slices_IndexFunc___api_Car_api_Car__b2
      rw [e0, cond_true, nat_nonneg, Bool.true_and, cond_true, calls_group_1_def]
      unfold calls_group_1_m
      rw [valid_eq, decide_eq_false (show ¬ VC (Arr.f g (Int.toNat (i : Int))) from hv), Bool.not_false]
      exact h1 i
open Classical in
theorem cont1_eq {N : Nat} (hN : 1000 < N) {g : Arr api_Car} (hg : g.n ≤ 100) {R : Type} (k : Bool → Option R) : slices_ContainsFunc___api_Car_api_Car_ N g k = k (!decide (carsP g)) := by
  rw [slices_ContainsFunc___api_Car_api_Car__def]
  unfold slices_ContainsFunc___api_Car_api_Car__m
  rw [slices_IndexFunc___api_Car_api_Car__def]
  unfold slices_IndexFunc___api_Car_api_Car__m
  obtain ⟨a1, a2⟩ := idx1_l2 N hg (fun r492 => k (decide (r492 ≥ (0 : Int)))) (fun (_ : Unit) => k (decide ((-1 : Int) ≥ (0 : Int)))) k (fun i => by rw [decide_eq_true (show (i : Int) ≥ 0 by omega)]) rfl g.n 0 N (by omega) (by omega) (fun j hj => by omega)
  by_cases h : carsP g
  · rw [decide_eq_true h]; exact a1 h
  · rw [decide_eq_false h]; exact a2 h
theorem idx2_l2 (N : Nat) {g : Arr api_Car} (hg : g.n ≤ 100) (x : api_Press) {R : Type} (kr : Int → Option R) (k0 : Unit → Option R) (kk : Bool → Option R) (h1 : ∀ i : Nat, kr (i : Int) = kk true) (h0 : k0 () = kk false) : ∀ (q i n : Nat), i + q = g.n → q < n → (∀ j, j < i → ¬ inP g x j) →
    (onP g x → slices_IndexFunc___api_Car_api_Car__v2_l2 N n g (g.n : Int) (i : Int) x kr k0 = kk true) ∧ (¬ onP g x → slices_IndexFunc___api_Car_api_Car__v2_l2 N n g (g.n : Int) (i : Int) x kr k0 = kk false) := by
  intro q
  induction q with
  | zero =>
    intro i n a1 a2 a3
    obtain ⟨n, rfl⟩ : ∃ m, n = m + 1 := ⟨n - 1, by omega⟩
    have : ¬ onP g x := fun ⟨j, j1, j2⟩ => a3 j (by omega) j2
    refine ⟨fun hn => absurd hn this, fun _ => ?_⟩
    unfold slices_IndexFunc___api_Car_api_Car__v2_l2 slices_IndexFunc___api_Car_api_Car__v2_b2
    rw [ltF (show g.n ≤ i by omega), cond_false]
    exact h0
  | succ q ih =>
    intro i n a1 a2 a3
    obtain ⟨n, rfl⟩ : ∃ m, n = m + 1 := ⟨n - 1, by omega⟩
    have e0 : decide ((i : Int) < (g.n : Int)) = true := ltT (by omega)
    by_cases hv : inP g x i
    · have hn : onP g x := ⟨i, by omega, hv⟩
      refine ⟨fun _ => ?_, fun h => absurd hn h⟩
      unfold slices_IndexFunc___api_Car_api_Car__v2_l2 slices_IndexFunc___api_Car_api_Car__v2_b2
      rw [e0, cond_true, nat_nonneg, Bool.true_and, cond_true, calls_group_2_def]
      unfold calls_group_2_m
      rw [in_eq, decide_eq_true (show (Arr.f g (Int.toNat (i : Int))).Low ≤ x.Floor ∧ x.Floor ≤ (Arr.f g (Int.toNat (i : Int))).High from hv)]
      exact h1 i
    · have next := ih (i + 1) n (by omega) (by omega) (fun j hj => by
        by_cases e : j = i
        · subst e; exact hv
        · exact a3 j (by omega))
      have go : slices_IndexFunc___api_Car_api_Car__v2_l2 N (n + 1) g (g.n : Int) (i : Int) x kr k0 = slices_IndexFunc___api_Car_api_Car__v2_l2 N n g (g.n : Int) ((i + 1 : Nat) : Int) x kr k0 := by
        conv => lhs; unfold slices_IndexFunc___api_Car_api_Car__v2_l2 slices_IndexFunc___api_Car_api_Car__v2_b2
        rw [e0, cond_true, nat_nonneg, Bool.true_and, cond_true, calls_group_2_def]
        unfold calls_group_2_m
        rw [in_eq, decide_eq_false (show ¬ ((Arr.f g (Int.toNat (i : Int))).Low ≤ x.Floor ∧ x.Floor ≤ (Arr.f g (Int.toNat (i : Int))).High) from hv)]
        show (bif false then _ else _) = _
        rw [cond_false, w64_succ (show i < 1000000000000 by omega)]
      rw [go]
      exact next
open Classical in
theorem cont2_eq {N : Nat} (hN : 1000 < N) {g : Arr api_Car} (hg : g.n ≤ 100) (x : api_Press) {R : Type} (k : Bool → Option R) : slices_ContainsFunc___api_Car_api_Car__v2 N g x k = k (decide (onP g x)) := by
  rw [slices_ContainsFunc___api_Car_api_Car__v2_def]
  unfold slices_ContainsFunc___api_Car_api_Car__v2_m
  rw [slices_IndexFunc___api_Car_api_Car__v2_def]
  unfold slices_IndexFunc___api_Car_api_Car__v2_m
  obtain ⟨a1, a2⟩ := idx2_l2 N hg x (fun r512 => k (decide (r512 ≥ (0 : Int)))) (fun (_ : Unit) => k (decide ((-1 : Int) ≥ (0 : Int)))) k (fun i => by rw [decide_eq_true (show (i : Int) ≥ 0 by omega)]) rfl g.n 0 N (by omega) (by omega) (fun j hj => by omega)
  by_cases h : onP g x
  · rw [decide_eq_true h]; exact a1 h
  · rw [decide_eq_false h]; exact a2 h
open Classical in
theorem group_l6 {N : Nat} (hN : 1000 < N) {g : Arr api_Car} (hg : g.n ≤ 100) {l : Arr api_Press} (hl : l.n ≤ 1000) {R : Type} (kr : Int → Option R) (k0 : Unit → Option R) : ∀ (q i n : Nat), i + q = l.n → q < n → (∀ j, j < i → onP g (l.f j)) →
    (allOn g l → calls_group_l6 N n g l (l.n : Int) (i : Int) kr k0 = k0 ()) ∧ (¬ allOn g l → calls_group_l6 N n g l (l.n : Int) (i : Int) kr k0 = kr 71) := by
  intro q
  induction q with
  | zero =>
    intro i n a1 a2 a3
    obtain ⟨n, rfl⟩ : ∃ m, n = m + 1 := ⟨n - 1, by omega⟩
    have : allOn g l := fun j hj => a3 j (by omega)
    refine ⟨fun _ => ?_, fun h => absurd this h⟩
    unfold calls_group_l6 calls_group_b6
    rw [ltF (show l.n ≤ i by omega), cond_false]
  | succ q ih =>
    intro i n a1 a2 a3
    obtain ⟨n, rfl⟩ : ∃ m, n = m + 1 := ⟨n - 1, by omega⟩
    have e0 : decide ((i : Int) < (l.n : Int)) = true := ltT (by omega)
    by_cases hv : onP g (l.f i)
    · have next := ih (i + 1) n (by omega) (by omega) (fun j hj => by
        by_cases e : j = i
        · subst e; exact hv
        · exact a3 j (by omega))
      have go : calls_group_l6 N (n + 1) g l (l.n : Int) (i : Int) kr k0 = calls_group_l6 N n g l (l.n : Int) ((i + 1 : Nat) : Int) kr k0 := by
        conv => lhs; unfold calls_group_l6 calls_group_b6
        rw [e0, cond_true, nat_nonneg, Bool.true_and, cond_true, cont2_eq hN hg, decide_eq_true (show onP g (Arr.f l (Int.toNat (i : Int))) from hv), Bool.not_true, cond_false, w64_succ (show i < 1000000000000 by omega)]
      rw [go]
      exact next
    · refine ⟨fun h => absurd (h i (by omega)) hv, fun _ => ?_⟩
      unfold calls_group_l6 calls_group_b6
      rw [e0, cond_true, nat_nonneg, Bool.true_and, cond_true, cont2_eq hN hg, decide_eq_false (show ¬ onP g (Arr.f l (Int.toNat (i : Int))) from hv), Bool.not_false, cond_true]
open Classical in
theorem group_eq {N : Nat} (hN : 1000 < N) {g : Arr api_Car} (hg : g.n ≤ 100) {l : Arr api_Press} (hl : l.n ≤ 1000) {R : Type} (k : Int → Option R) : calls_group N g l k = k (errG g l) := by
  rw [calls_group_def]
  unfold calls_group_m errG
  rw [in_eq]
  by_cases h1 : (1 ≤ (g.n : Int) ∧ (g.n : Int) ≤ 3)
  rotate_left
  · rw [decide_eq_false h1, if_neg h1]; rfl
  rw [decide_eq_true h1, if_pos h1, Bool.not_true, cond_false, cont1_eq hN hg]
  by_cases h2 : carsP g
  rotate_left
  · rw [decide_eq_false h2, if_neg h2]; rfl
  rw [decide_eq_true h2, if_pos h2, Bool.not_true, cond_false, timed_eq hN hl]
  by_cases h3 : tAll l
  rotate_left
  · rw [decide_eq_false h3, if_neg h3]; rfl
  rw [decide_eq_true h3, if_pos h3, Bool.not_true, cond_false]
  obtain ⟨a1, a2⟩ := group_l6 hN hg hl (fun r515 => k r515) (fun (_ : Unit) => k (0 : Int)) l.n 0 N (by omega) (by omega) (fun j hj => by omega)
  by_cases h4 : allOn g l
  · rw [if_pos h4]; exact a1 h4
  · rw [if_neg h4]; exact a2 h4
theorem rg_l4 (N : Nat) {g : Arr api_Car} (hg : g.n ≤ 100) (l : Arr api_Press) {R : Type} (kr : Int → Option R) (k0 : Unit → Option R) : ∀ (q i n : Nat), i + q = g.n → q < n → (∀ j, j < i → VC (g.f j)) →
    (carsP g → newelref07_CheckGroup_l4 N n g l (i : Int) kr k0 = k0 ()) ∧ (¬ carsP g → newelref07_CheckGroup_l4 N n g l (i : Int) kr k0 = kr 70) := by
  intro q
  induction q with
  | zero =>
    intro i n a1 a2 a3
    obtain ⟨n, rfl⟩ : ∃ m, n = m + 1 := ⟨n - 1, by omega⟩
    have : carsP g := fun j hj => a3 j (by omega)
    refine ⟨fun _ => ?_, fun hn => absurd this hn⟩
    unfold newelref07_CheckGroup_l4 newelref07_CheckGroup_b4
    rw [ltF (show g.n ≤ i by omega), cond_false]
  | succ q ih =>
    intro i n a1 a2 a3
    obtain ⟨n, rfl⟩ : ∃ m, n = m + 1 := ⟨n - 1, by omega⟩
    have e0 : decide ((i : Int) < (g.n : Int)) = true := ltT (by omega)
    by_cases hv : VC (g.f i)
    · have next := ih (i + 1) n (by omega) (by omega) (fun j hj => by
        by_cases e : j = i
        · subst e; exact hv
        · exact a3 j (by omega))
      have go : newelref07_CheckGroup_l4 N (n + 1) g l (i : Int) kr k0 = newelref07_CheckGroup_l4 N n g l ((i + 1 : Nat) : Int) kr k0 := by
        conv => lhs; unfold newelref07_CheckGroup_l4 newelref07_CheckGroup_b4
        rw [e0, cond_true, nat_nonneg, Bool.true_and, cond_true, refCar, if_pos (show VC (Arr.f g (Int.toNat (i : Int))) from hv), show ((0 : Int) != 0) = false from rfl, cond_false, w64_succ (show i < 1000000000000 by omega)]
      rw [go]
      exact next
    · have hn : ¬ carsP g := fun h => hv (h i (by omega))
      refine ⟨fun h => absurd h hn, fun _ => ?_⟩
      unfold newelref07_CheckGroup_l4 newelref07_CheckGroup_b4
      rw [e0, cond_true, nat_nonneg, Bool.true_and, cond_true, refCar, if_neg (show ¬ VC (Arr.f g (Int.toNat (i : Int))) from hv)]
      rfl
open Classical in
theorem rg_l15 (N : Nat) {g : Arr api_Car} (hg : g.n ≤ 100) {l : Arr api_Press} {x : Nat} (hx : x < l.n) {R : Type} (k : Bool → Option R) : ∀ (q i n : Nat) (b : Bool), i + q = g.n → q < n → (b = true ↔ ∃ j, j < i ∧ inP g (l.f x) j) →
    newelref07_CheckGroup_l15 N n g l (x : Int) b (i : Int) k = k (decide (onP g (l.f x))) := by
  intro q
  induction q with
  | zero =>
    intro i n b a1 a2 a3
    obtain ⟨n, rfl⟩ : ∃ m, n = m + 1 := ⟨n - 1, by omega⟩
    unfold newelref07_CheckGroup_l15 newelref07_CheckGroup_b15
    rw [ltF (show g.n ≤ i by omega), cond_false]
    have : i = g.n := by omega
    subst this
    congr 1
    cases b with
    | true => exact (decide_eq_true (show onP g (l.f x) from a3.1 rfl)).symm
    | false => exact (decide_eq_false (show ¬ onP g (l.f x) from fun h => by have := a3.2 h; cases this)).symm
  | succ q ih =>
    intro i n b a1 a2 a3
    obtain ⟨n, rfl⟩ : ∃ m, n = m + 1 := ⟨n - 1, by omega⟩
    have e0 : decide ((i : Int) < (g.n : Int)) = true := ltT (by omega)
    have e1 : decide ((x : Int) < (l.n : Int)) = true := ltT hx
    unfold newelref07_CheckGroup_l15 newelref07_CheckGroup_b15
    rw [e0, cond_true, e1, nat_nonneg, nat_nonneg, Bool.and_self, cond_true, w64_succ (show i < 1000000000000 by omega)]
    cases b with
    | true =>
      rw [cond_true]
      exact ih (i + 1) n true (by omega) (by omega) ⟨fun _ => by obtain ⟨j, j1, j2⟩ := a3.1 rfl; exact ⟨j, by omega, j2⟩, fun _ => rfl⟩
    | false =>
      rw [cond_false, cond_true, cond_true, from_eq]
      refine ih (i + 1) n _ (by omega) (by omega) ?_
      rw [decide_eq_true_eq]
      constructor
      · intro h
        exact ⟨i, by omega, h⟩
      · rintro ⟨j, j1, j2⟩
        by_cases e : j = i
        · subst e; exact j2
        · have := a3.2 ⟨j, by omega, j2⟩
          cases this
open Classical in
theorem rg_l11 {N : Nat} (hN : 1000 < N) {g : Arr api_Car} (hg : g.n ≤ 100) {l : Arr api_Press} (hl : l.n ≤ 1000) {R : Type} (kr : Int → Option R) (k0 : Unit → Option R) : ∀ (q i n : Nat), i + q = l.n → q < n → (∀ j, j < i → onP g (l.f j)) →
    (allOn g l → newelref07_CheckGroup_l11 N n g l (i : Int) kr k0 = k0 ()) ∧ (¬ allOn g l → newelref07_CheckGroup_l11 N n g l (i : Int) kr k0 = kr 71) := by
  intro q
  induction q with
  | zero =>
    intro i n a1 a2 a3
    obtain ⟨n, rfl⟩ : ∃ m, n = m + 1 := ⟨n - 1, by omega⟩
    have : allOn g l := fun j hj => a3 j (by omega)
    refine ⟨fun _ => ?_, fun h => absurd this h⟩
    unfold newelref07_CheckGroup_l11 newelref07_CheckGroup_b11
    rw [ltF (show l.n ≤ i by omega), cond_false]
  | succ q ih =>
    intro i n a1 a2 a3
    obtain ⟨n, rfl⟩ : ∃ m, n = m + 1 := ⟨n - 1, by omega⟩
    have e0 : decide ((i : Int) < (l.n : Int)) = true := ltT (by omega)
    have hi : i < l.n := by omega
    have in15 : ∀ kk : Bool → Option R, newelref07_CheckGroup_l15 N N g l (i : Int) false (0 : Int) kk = kk (decide (onP g (l.f i))) := fun kk => rg_l15 N hg hi kk g.n 0 N false (by omega) (by omega) ⟨fun h => (by cases h), fun ⟨j, j1, _⟩ => (by omega)⟩
    by_cases hv : onP g (l.f i)
    · have next := ih (i + 1) n (by omega) (by omega) (fun j hj => by
        by_cases e : j = i
        · subst e; exact hv
        · exact a3 j (by omega))
      have go : newelref07_CheckGroup_l11 N (n + 1) g l (i : Int) kr k0 = newelref07_CheckGroup_l11 N n g l ((i + 1 : Nat) : Int) kr k0 := by
        conv => lhs; unfold newelref07_CheckGroup_l11 newelref07_CheckGroup_b11
        rw [e0, cond_true, in15, decide_eq_true hv, Bool.not_true, cond_false, w64_succ (show i < 1000000000000 by omega)]
      rw [go]
      exact next
    · refine ⟨fun h => absurd (h i (by omega)) hv, fun _ => ?_⟩
      unfold newelref07_CheckGroup_l11 newelref07_CheckGroup_b11
      rw [e0, cond_true, in15, decide_eq_false hv, Bool.not_false, cond_true]
open Classical in
theorem refGroup_eq {N : Nat} (hN : 1000 < N) {g : Arr api_Car} (hg : g.n ≤ 100) {l : Arr api_Press} (hl : l.n ≤ 1000) {R : Type} (k : Int → Option R) : newelref07_CheckGroup N g l k = k (errG g l) := by
  rw [newelref07_CheckGroup_def]
  unfold newelref07_CheckGroup_m errG
  rw [from_eq]
  by_cases h1 : (1 ≤ (g.n : Int) ∧ (g.n : Int) ≤ 3)
  rotate_left
  · rw [decide_eq_false h1, if_neg h1]; rfl
  rw [decide_eq_true h1, if_pos h1, Bool.not_true, cond_false]
  obtain ⟨b1, b2⟩ := rg_l4 N hg l (fun r618 => k r618) (fun (_ : Unit) => newelref07_isPresses N l (fun r619 => bif !r619 then k (71 : Int) else newelref07_CheckGroup_l11 N N g l (0 : Int) (fun r630 => k r630) (fun (_ : Unit) => k (0 : Int)))) g.n 0 N (by omega) (by omega) (fun j hj => by omega)
  by_cases h2 : carsP g
  rotate_left
  · rw [if_neg h2]; exact b2 h2
  rw [if_pos h2]
  refine (b1 h2).trans ?_
  rw [isP_eq hN hl]
  by_cases h3 : tAll l
  rotate_left
  · rw [decide_eq_false h3, if_neg h3]; rfl
  rw [decide_eq_true h3, if_pos h3, Bool.not_true, cond_false]
  obtain ⟨a1, a2⟩ := rg_l11 hN hg hl (fun r630 => k r630) (fun (_ : Unit) => k (0 : Int)) l.n 0 N (by omega) (by omega) (fun j hj => by omega)
  by_cases h4 : allOn g l
  · rw [if_pos h4]; exact a1 h4
  · rw [if_neg h4]; exact a2 h4
end
end Go.Proofs.Ytlphgonhenegoaa
set_option linter.unusedVariables false
set_option linter.unusedSimpArgs false
set_option maxHeartbeats 0
set_option maxRecDepth 100000
namespace Go.Proofs.Ytlphgonhenegoaa
open Go.Sx
section
theorem mx_le (a b : Int) : a ≤ mxI a b ∧ b ≤ mxI a b ∧ (mxI a b = a ∨ mxI a b = b) := by
  unfold mxI
  split <;> omega
structure Gr (a : Arr Int) (n : Nat) (m : Int) : Prop where
  le : ∀ i, i < n → a.f i ≤ m
  ex : ∃ i, i < n ∧ m = a.f i
theorem max_l5 (N : Nat) {a : Arr Int} (ha : a.n ≤ 1000) {R : Type} (k0 : Int → Option R) : ∀ (q i n : Nat) (m : Int), i + q = a.n → q < n → Gr a i m →
    ∃ m', Gr a a.n m' ∧ slices_Max___int_int__l5 N n a m (i : Int) k0 = k0 m' := by
  intro q
  induction q with
  | zero =>
    intro i n m h1 h2 h3
    obtain ⟨n, rfl⟩ : ∃ m, n = m + 1 := ⟨n - 1, by omega⟩
    have : i = a.n := by omega
    subst this
    refine ⟨m, h3, ?_⟩
    unfold slices_Max___int_int__l5 slices_Max___int_int__b5
    rw [ltF (Nat.le_refl _), cond_false]
  | succ q ih =>
    intro i n m h1 h2 h3
    obtain ⟨n, rfl⟩ : ∃ m, n = m + 1 := ⟨n - 1, by omega⟩
    obtain ⟨x1, x2, x3⟩ := mx_le m (a.f i)
    obtain ⟨m', g1, g2⟩ := ih (i + 1) n (mxI m (a.f i)) (by omega) (by omega) ⟨fun j hj => by
      by_cases e : j = i
      · subst e; exact x2
      · exact Int.le_trans (h3.le j (by omega)) x1, by
      rcases x3 with e | e
      · obtain ⟨j, j1, j2⟩ := h3.ex
        exact ⟨j, by omega, by rw [e]; exact j2⟩
      · exact ⟨i, by omega, e⟩⟩
    refine ⟨m', g1, ?_⟩
    unfold slices_Max___int_int__l5 slices_Max___int_int__b5
    have e0 : decide ((i : Int) < (a.n : Int)) = true := ltT (by omega)
    rw [e0, cond_true, nat_nonneg, Bool.true_and, cond_true, w64_succ (show i < 1000000000000 by omega)]
    exact g2
theorem max_eq {N : Nat} (hN : 1000 < N) {a : Arr Int} (ha : a.n ≤ 1000) (h1 : 1 ≤ a.n) {R : Type} (k : Int → Option R) : ∃ m, Gr a a.n m ∧ slices_Max___int_int_ N a k = k m := by
  obtain ⟨m, g1, g2⟩ := max_l5 N ha k (a.n - 1) 1 N (a.f 0) (by omega) (by omega) ⟨fun j hj => (by
    have : j = 0 := by omega
    subst this
    exact Int.le_refl _), ⟨0, by omega, rfl⟩⟩
  refine ⟨m, g1, ?_⟩
  rw [slices_Max___int_int__def]
  unfold slices_Max___int_int__m
  rw [decide_eq_false (show ¬ (a.n : Int) < 1 by omega), cond_false, slices_Max___int_int__j0_def]
  unfold slices_Max___int_int__j0_m
  have e0 : decide ((0 : Int) < (a.n : Int)) = true := decide_eq_true (by omega)
  have e1 : (decide ((0 : Int) ≤ (0 : Int)) && decide ((0 : Int) < (a.n : Int))) = true := by rw [e0]; rfl
  simp only [e0, e1, cond_true]
  exact g2
structure Shr (g : Arr api_Car) (l : Arr api_Press) (sh : Arr Int) : Prop where
  n : sh.n = l.n
  i : ∀ k, k < l.n → 0 ≤ sh.f k ∧ sh.f k < (g.n : Int)
  o : ∀ k, k < l.n → inP g (l.f k) (sh.f k).toNat
def cnOf (x : api_Car) : Cn := ⟨x.Low.toNat, x.High.toNat, x.Start.toNat, x.Move.toNat, x.Stop.toNat⟩
theorem cnOf_ok {x : api_Car} (h : VC x) : (cnOf x).Ok ∧ x = (cnOf x).car := by
  obtain ⟨n, hn, rfl⟩ := h.cn
  have : cnOf n.car = n := by
    unfold cnOf Cn.car
    simp only [Int.toNat_natCast]
  rw [this]
  exact ⟨hn, rfl⟩
def wS (g : Arr api_Car) (l : Arr api_Press) (sh : Arr Int) (k : Nat) : Nat := wt (cnOf (g.f (sh.f k).toNat)) l (ofS sh (sh.f k)) k
structure Lng (g : Arr api_Car) (l : Arr api_Press) (sh : Arr Int) (i : Nat) (m : Int) : Prop where
  le : ∀ k, k < l.n → (sh.f k).toNat < i → ((wS g l sh k : Nat) : Int) ≤ m
  ex : m = 0 ∨ ∃ k, k < l.n ∧ (sh.f k).toNat < i ∧ m = ((wS g l sh k : Nat) : Int)
  z : 0 ≤ m
theorem Shr.vq {g : Arr api_Car} {l : Arr api_Press} {sh : Arr Int} (h : Shr g l sh) (hg : carsP g) (ht : tAll l) {i : Nat} (hi : i < g.n) : VQ (cnOf (g.f i)) l (ofS sh (i : Int)) := by
  obtain ⟨hc, hx⟩ := cnOf_ok (hg i hi)
  obtain ⟨h1, h2⟩ := ht
  have hm : ∀ i j, i ≤ j → j < l.n → (l.f i).At ≤ (l.f j).At := fun i j => by
    induction j with
    | zero =>
      intro a b
      have : i = 0 := by omega
      subst this; exact Int.le_refl _
    | succ j ih =>
      intro a b
      by_cases e : i = j + 1
      · subst e; exact Int.le_refl _
      · have h3 := (h2 (j + 1) b).1
        simp only [prevA, Nat.add_one_ne_zero, if_false, Nat.add_sub_cancel] at h3
        exact Int.le_trans (ih (by omega) (by omega)) h3
  refine ⟨h1, fun j hj => ⟨tP_nonneg h2 j hj, (h2 j hj).2⟩, hm, fun j hj hp => ?_⟩
  have hs : sh.f j = (i : Int) := by
    unfold ofS at hp
    simpa using hp
  have := h.o j hj
  rw [hs, Int.toNat_natCast] at this
  unfold inP at this
  rw [hx] at this
  exact this
theorem longest_l3 {N : Nat} (hN : 2000 < N) {g : Arr api_Car} (hgn : g.n ≤ 100) {l : Arr api_Press} {sh : Arr Int} (h : Shr g l sh) (hg : carsP g) (ht : tAll l) {R : Type} (k0 : Int → Option R) : ∀ (q i n : Nat) (m : Int), i + q = g.n → q < n → Lng g l sh i m →
    ∃ m', Lng g l sh g.n m' ∧ calls_longest_l3 N n l m g (g.n : Int) (i : Int) sh k0 = k0 m' := by
  have hln := ht.1
  intro q
  induction q with
  | zero =>
    intro i n m h1 h2 h3
    obtain ⟨n, rfl⟩ : ∃ m, n = m + 1 := ⟨n - 1, by omega⟩
    have : i = g.n := by omega
    subst this
    refine ⟨m, h3, ?_⟩
    unfold calls_longest_l3 calls_longest_b3
    rw [ltF (Nat.le_refl _), cond_false]
  | succ q ih =>
    intro i n m h1 h2 h3
    obtain ⟨n, rfl⟩ : ∃ m, n = m + 1 := ⟨n - 1, by omega⟩
    have hi : i < g.n := by omega
    obtain ⟨hc, hx⟩ := cnOf_ok (hg i hi)
    have hq := h.vq hg ht hi
    obtain ⟨w, w1, w2⟩ := W_v2.v2eq hN hc hq h.n
    have hpu := Arr.Is.push_int (a := w) (n := l.n) (g := fun k => if k < l.n then w.f k else 0) ⟨w1.n, fun k hk => by simp [hk]⟩ (z := [SV.int IntKind.i64 (0 : Int)]) (v := 0) (by simp only [Nat.lt_irrefl, if_false])
    have han : Arr.n (lst intC (Arr.n w + (1 : Nat)) (catC (Arr.n w) (Cod.cell intC (Arr.f w)) (litC [SV.int IntKind.i64 (0 : Int)] [[SV.int IntKind.i64 (0 : Int)]]))) = l.n + 1 := by rw [← w1.n]; rfl
    obtain ⟨M, m1, m2⟩ := max_eq (R := R) (show 1000 < N by omega) (a := lst intC (Arr.n w + (1 : Nat)) (catC (Arr.n w) (Cod.cell intC (Arr.f w)) (litC [SV.int IntKind.i64 (0 : Int)] [[SV.int IntKind.i64 (0 : Int)]]))) (by omega) (by omega) (fun r605 => calls_longest_l3 N n l (mxI m r605) g (g.n : Int) ((i + 1 : Nat) : Int) sh k0)
    rw [han] at m1
    have wS_eq : ∀ k, k < l.n → sh.f k = (i : Int) → w.f k = ((wS g l sh k : Nat) : Int) := fun k hk e => by
      rw [w1.f k hk, if_pos (by unfold ofS; rw [e, BEq.rfl])]
      unfold wS
      rw [e, Int.toNat_natCast]
    have el : ∀ k, k < l.n → Arr.f (lst intC (Arr.n w + (1 : Nat)) (catC (Arr.n w) (Cod.cell intC (Arr.f w)) (litC [SV.int IntKind.i64 (0 : Int)] [[SV.int IntKind.i64 (0 : Int)]]))) k = w.f k := fun k hk => by
      have := hpu.2 k (by omega)
      rw [if_pos hk] at this
      exact this
    have e0' : Arr.f (lst intC (Arr.n w + (1 : Nat)) (catC (Arr.n w) (Cod.cell intC (Arr.f w)) (litC [SV.int IntKind.i64 (0 : Int)] [[SV.int IntKind.i64 (0 : Int)]]))) l.n = 0 := by
      have := hpu.2 l.n (by omega)
      rw [if_neg (Nat.lt_irrefl _)] at this
      exact this
    obtain ⟨x1, x2, x3⟩ := mx_le m M
    have hM0 : 0 ≤ M := by have := m1.le l.n (by omega); rw [e0'] at this; exact this
    obtain ⟨m', g1, g2⟩ := ih (i + 1) n (mxI m M) (by omega) (by omega) ⟨fun k hk hlt => by
      by_cases e : (sh.f k).toNat < i
      · exact Int.le_trans (h3.le k hk e) x1
      · have hk0 := h.i k hk
        have hs : sh.f k = (i : Int) := by omega
        have := m1.le k (by omega)
        rw [el k hk, wS_eq k hk hs] at this
        exact Int.le_trans this x2, by
      rcases x3 with e | e
      · rcases h3.ex with z | ⟨k, k1, k2, k3⟩
        · exact .inl (e.trans z)
        · exact .inr ⟨k, k1, by omega, e.trans k3⟩
      · obtain ⟨j, j1, j2⟩ := m1.ex
        by_cases ej : j < l.n
        · rw [el j ej] at j2
          by_cases es : sh.f j = (i : Int)
          · exact .inr ⟨j, ej, by rw [es]; simp, by rw [e, j2, wS_eq j ej es]⟩
          · have : w.f j = 0 := by
              rw [w1.f j ej, if_neg]
              unfold ofS
              simpa using es
            exact .inl (by rw [e, j2, this])
        · have : j = l.n := by omega
          subst this
          rw [e0'] at j2
          exact .inl (e.trans j2), by have := h3.z; omega⟩
    refine ⟨m', g1, ?_⟩
    unfold calls_longest_l3 calls_longest_b3
    have e0 : decide ((i : Int) < (g.n : Int)) = true := ltT hi
    rw [e0, cond_true, nat_nonneg, Bool.true_and, cond_true, show Arr.f g (Int.toNat (i : Int)) = (cnOf (g.f i)).car from hx]
    refine (w2 _).trans ?_
    rw [room_of (by rw [w1.n]; omega), cond_true, w64_succ (show i < 1000000000000 by omega)]
    exact m2.trans g2
theorem longest_eq {N : Nat} (hN : 2000 < N) {g : Arr api_Car} (hgn : g.n ≤ 100) {l : Arr api_Press} {sh : Arr Int} (h : Shr g l sh) (hg : carsP g) (ht : tAll l) {R : Type} (k : Int → Option R) : ∃ m, Lng g l sh g.n m ∧ calls_longest N g l sh k = k m := by
  obtain ⟨m, g1, g2⟩ := longest_l3 hN hgn h hg ht k g.n 0 N 0 (by omega) (by omega) ⟨fun k hk h => by omega, .inl rfl, Int.le_refl _⟩
  refine ⟨m, g1, ?_⟩
  rw [calls_longest_def]
  exact g2
theorem Lng.unique {g : Arr api_Car} {l : Arr api_Press} {sh : Arr Int} {i : Nat} {m m' : Int} (h : Lng g l sh i m) (h' : Lng g l sh i m') : m = m' := by
  have a : m ≤ m' := by
    rcases h.ex with e | ⟨k, k1, k2, k3⟩
    · rw [e]; exact h'.z
    · rw [k3]; exact h'.le k k1 k2
  have b : m' ≤ m := by
    rcases h'.ex with e | ⟨k, k1, k2, k3⟩
    · rw [e]; exact h.z
    · rw [k3]; exact h.le k k1 k2
  omega
end
end Go.Proofs.Ytlphgonhenegoaa
set_option linter.unusedVariables false
set_option linter.unusedSimpArgs false
set_option maxHeartbeats 0
set_option maxRecDepth 100000
namespace Go.Proofs.Ytlphgonhenegoaa
open Go.Sx
section
structure Flt (l : Arr api_Press) (p : Nat → Bool) (k : Nat) (l' : Arr api_Press) (ix : Nat → Nat) : Prop where
  f : ∀ j, j < l'.n → l'.f j = l.f (ix j) ∧ ix j < k ∧ p (ix j) = true
  up : ∀ j j', j < j' → j' < l'.n → ix j < ix j'
  all : ∀ x, x < k → p x = true → ∃ j, j < l'.n ∧ ix j = x
variable {l l' : Arr api_Press} {p : Nat → Bool} {ix : Nat → Nat}
theorem Flt.ge {k : Nat} (h : Flt l p k l' ix) : ∀ j, j < l'.n → j ≤ ix j := by
  intro j
  induction j with
  | zero => intro _; exact Nat.zero_le _
  | succ j ih =>
    intro hj
    have := ih (by omega)
    have := h.up j (j + 1) (by omega) hj
    omega
theorem Flt.le {k : Nat} (h : Flt l p k l' ix) : l'.n ≤ k := by
  by_cases e : l'.n = 0
  · omega
  · have := h.ge (l'.n - 1) (by omega)
    have := (h.f (l'.n - 1) (by omega)).2.1
    omega
theorem Flt.pA (h : Flt l p l.n l' ix) {j : Nat} (hj : j < l'.n) : pA l' j = pA l (ix j) := by unfold _root_.Go.Proofs.Ytlphgonhenegoaa.pA; rw [(h.f j hj).1]
theorem Flt.pG (h : Flt l p l.n l' ix) {j : Nat} (hj : j < l'.n) : pG l' j = pG l (ix j) := by unfold _root_.Go.Proofs.Ytlphgonhenegoaa.pG; rw [(h.f j hj).1]
theorem Flt.pP (h : Flt l p l.n l' ix) (t : Nat) : pP l' allP t = pP l p t := by
  refine Nat.eq_of_testBit_eq fun f => ?_
  rw [Bool.eq_iff_iff]
  unfold _root_.Go.Proofs.Ytlphgonhenegoaa.pP
  rw [pset_bit, pset_bit]
  constructor
  · rintro ⟨j, j1, j2, j3, j4⟩
    obtain ⟨a, b, c⟩ := h.f j j1
    exact ⟨ix j, b, by rw [← h.pA j1]; exact j2, c, by rw [← h.pG j1]; exact j4⟩
  · rintro ⟨x, x1, x2, x3, x4⟩
    obtain ⟨j, j1, rfl⟩ := h.all x x1 x3
    exact ⟨j, j1, by rw [h.pA j1]; exact x2, rfl, by rw [h.pG j1]; exact x4⟩
theorem Flt.st (h : Flt l p l.n l' ix) (c : Cn) (t : Nat) : st c l' allP t = st c l p t := by
  induction t with
  | zero => rfl
  | succ t ih => unfold _root_.Go.Proofs.Ytlphgonhenegoaa.st; rw [ih, h.pP]
theorem Flt.wt (h : Flt l p l.n l' ix) (c : Cn) {j : Nat} (hj : j < l'.n) : wt c l' allP j = wt c l p (ix j) := by
  unfold _root_.Go.Proofs.Ytlphgonhenegoaa.wt
  rw [h.pA hj, h.pG hj]
  congr 1
  funext d
  unfold sv
  rw [h.st, h.pP]
theorem Flt.vl (h : Flt l p l.n l' ix) {c : Cn} (hv : VQ c l p) : VL c l' := by
  have hle := h.le
  obtain ⟨v1, v2, v3, v4⟩ := hv
  refine ⟨by omega, fun j hj => ?_, fun i j hij hj => ?_, fun j hj _ => ?_⟩
  · obtain ⟨a, b, d⟩ := h.f j hj
    rw [a]; exact v2 _ b
  · rw [(h.f i (by omega)).1, (h.f j hj).1]
    refine v3 _ _ ?_ (h.f j hj).2.1
    by_cases e : i = j
    · subst e; exact Nat.le_refl _
    · exact Nat.le_of_lt (h.up i j (by omega) hj)
  · obtain ⟨a, b, d⟩ := h.f j hj
    rw [a]; exact v4 _ b d
theorem Flt.skip {k : Nat} (h : Flt l p k l' ix) (hp : p k = false) : Flt l p (k + 1) l' ix :=
  ⟨fun j hj => by obtain ⟨a, b, d⟩ := h.f j hj; exact ⟨a, by omega, d⟩, h.up, fun x hx hpx => by
    by_cases e : x = k
    · subst e; rw [hp] at hpx; cases hpx
    · exact h.all x (by omega) hpx⟩
theorem Flt.take {k : Nat} (h : Flt l p k l' ix) (hp : p k = true) {l2 : Arr api_Press} (h2 : l2.Is (l'.n + 1) (fun j => if j < l'.n then l'.f j else l.f k)) : Flt l p (k + 1) l2 (fun j => if j < l'.n then ix j else k) := by
  have hn := h2.1
  refine ⟨fun j hj => ?_, fun j j' hjj hj => ?_, fun x hx hpx => ?_⟩
  · rw [h2.2 j (by omega)]
    by_cases e : j < l'.n
    · simp only [e, if_true]
      obtain ⟨a, b, d⟩ := h.f j e
      exact ⟨a, by omega, d⟩
    · simp only [e, if_false]
      exact ⟨trivial, by omega, hp⟩
  · show (if j < l'.n then ix j else k) < (if j' < l'.n then ix j' else k)
    by_cases e : j' < l'.n
    · rw [if_pos (show j < l'.n by omega), if_pos e]; exact h.up j j' hjj e
    · rw [if_pos (show j < l'.n by omega), if_neg e]; exact (h.f j (by omega)).2.1
  · by_cases e : x = k
    · exact ⟨l'.n, by omega, by simp [e]⟩
    · obtain ⟨j, j1, j2⟩ := h.all x (by omega) hpx
      exact ⟨j, by omega, by simp only [j1, if_true]; exact j2⟩
theorem pressDec (x : api_Press) : api_PressC.dec (lget (api_PressC.enc x)) = x := rfl
end
end Go.Proofs.Ytlphgonhenegoaa
set_option linter.unusedVariables false
set_option linter.unusedSimpArgs false
set_option maxHeartbeats 0
set_option maxRecDepth 100000
namespace Go.Proofs.Ytlphgonhenegoaa
open Go.Sx
section
def gvP (g : Arr api_Car) (l : Arr api_Press) (sh : Arr Int) (k : Nat) : Prop := (0 ≤ sh.f k ∧ sh.f k ≤ (g.n : Int) - 1) ∧ inP g (l.f k) (sh.f k).toNat
theorem Shr.of {g : Arr api_Car} {l : Arr api_Press} {sh : Arr Int} (hn : sh.n = l.n) (h : ∀ k, k < l.n → gvP g l sh k) : Shr g l sh := ⟨hn, fun k hk => by have := (h k hk).1; omega, fun k hk => (h k hk).2⟩
theorem Shr.gv {g : Arr api_Car} {l : Arr api_Press} {sh : Arr Int} (h : Shr g l sh) : ∀ k, k < l.n → gvP g l sh k := fun k hk => ⟨by have := h.i k hk; omega, h.o k hk⟩
open Classical in
theorem given_eq (N : Nat) {g : Arr api_Car} (hg : g.n ≤ 100) (x : api_Press) (s : Int) {R : Type} (k : Bool → Option R) : calls_given N g x s k = k (decide ((0 ≤ s ∧ s ≤ (g.n : Int) - 1) ∧ inP g x s.toNat)) := by
  rw [calls_given_def]
  unfold calls_given_m
  rw [in_eq, w64_eq (n := (g.n : Int) - 1) (by omega) (by omega)]
  by_cases h1 : 0 ≤ s ∧ s ≤ (g.n : Int) - 1
  · have e1 : (decide ((0 : Int) ≤ s) && decide (s < (g.n : Int))) = true := by simp; omega
    rw [decide_eq_true h1, cond_true, e1, cond_true, cond_true, in_eq]
    by_cases h2 : inP g x s.toNat
    · rw [decide_eq_true (show (Arr.f g (Int.toNat s)).Low ≤ x.Floor ∧ x.Floor ≤ (Arr.f g (Int.toNat s)).High from h2), decide_eq_true (show (0 ≤ s ∧ s ≤ (g.n : Int) - 1) ∧ inP g x s.toNat from ⟨h1, h2⟩)]
    · rw [decide_eq_false (show ¬ ((Arr.f g (Int.toNat s)).Low ≤ x.Floor ∧ x.Floor ≤ (Arr.f g (Int.toNat s)).High) from h2), decide_eq_false (show ¬ ((0 ≤ s ∧ s ≤ (g.n : Int) - 1) ∧ inP g x s.toNat) from fun h => h2 h.2)]
  · rw [decide_eq_false h1, cond_false, decide_eq_false (show ¬ ((0 ≤ s ∧ s ≤ (g.n : Int) - 1) ∧ inP g x s.toNat) from fun h => h1 h.1)]
open Classical in
theorem longest_l7 (N : Nat) {g : Arr api_Car} (hg : g.n ≤ 100) {l : Arr api_Press} (hl : l.n ≤ 1000) {sh : Arr Int} (hn : sh.n = l.n) {R : Type} (kr : Int → Int → Option R) (k0 : Unit → Option R) : ∀ (q i n : Nat), i + q = l.n → q < n → (∀ k, k < i → gvP g l sh k) →
    (Shr g l sh → calls_Longest_l7 N n g l sh l (l.n : Int) (i : Int) kr k0 = k0 ()) ∧ (¬ Shr g l sh → calls_Longest_l7 N n g l sh l (l.n : Int) (i : Int) kr k0 = kr 0 1) := by
  intro q
  induction q with
  | zero =>
    intro i n a1 a2 a3
    obtain ⟨n, rfl⟩ : ∃ m, n = m + 1 := ⟨n - 1, by omega⟩
    have : Shr g l sh := .of hn fun k hk => a3 k (by omega)
    refine ⟨fun _ => ?_, fun h => absurd this h⟩
    unfold calls_Longest_l7 calls_Longest_b7
    rw [ltF (show l.n ≤ i by omega), cond_false]
  | succ q ih =>
    intro i n a1 a2 a3
    obtain ⟨n, rfl⟩ : ∃ m, n = m + 1 := ⟨n - 1, by omega⟩
    have e0 : decide ((i : Int) < (l.n : Int)) = true := ltT (by omega)
    have e1 : decide ((i : Int) < (sh.n : Int)) = true := by rw [hn]; exact e0
    by_cases hv : gvP g l sh i
    · have next := ih (i + 1) n (by omega) (by omega) (fun j hj => by
        by_cases e : j = i
        · subst e; exact hv
        · exact a3 j (by omega))
      have go : calls_Longest_l7 N (n + 1) g l sh l (l.n : Int) (i : Int) kr k0 = calls_Longest_l7 N n g l sh l (l.n : Int) ((i + 1 : Nat) : Int) kr k0 := by
        conv => lhs; unfold calls_Longest_l7 calls_Longest_b7
        rw [e0, cond_true, e1, nat_nonneg, Bool.and_self, cond_true, cond_true, given_eq N hg, decide_eq_true (show (0 ≤ Arr.f sh (Int.toNat (i : Int)) ∧ Arr.f sh (Int.toNat (i : Int)) ≤ (g.n : Int) - 1) ∧ inP g (Arr.f l (Int.toNat (i : Int))) (Arr.f sh (Int.toNat (i : Int))).toNat from hv), Bool.not_true, cond_false, w64_succ (show i < 1000000000000 by omega)]
      rw [go]
      exact next
    · refine ⟨fun h => absurd (h.gv i (by omega)) hv, fun _ => ?_⟩
      unfold calls_Longest_l7 calls_Longest_b7
      rw [e0, cond_true, e1, nat_nonneg, Bool.and_self, cond_true, cond_true, given_eq N hg, decide_eq_false (show ¬ ((0 ≤ Arr.f sh (Int.toNat (i : Int)) ∧ Arr.f sh (Int.toNat (i : Int)) ≤ (g.n : Int) - 1) ∧ inP g (Arr.f l (Int.toNat (i : Int))) (Arr.f sh (Int.toNat (i : Int))).toNat) from hv), Bool.not_false, cond_true]
theorem errG_zero {g : Arr api_Car} {l : Arr api_Press} (h : errG g l = 0) : (1 ≤ g.n ∧ g.n ≤ 3) ∧ carsP g ∧ tAll l ∧ allOn g l := by
  unfold errG at h
  split at h
  · next h1 =>
    split at h
    · next h2 =>
      split at h
      · next h3 =>
        split at h
        · next h4 => exact ⟨by omega, h2, h3, h4⟩
        · cases h
      · cases h
    · cases h
  · cases h
end
end Go.Proofs.Ytlphgonhenegoaa
set_option linter.unusedVariables false
set_option linter.unusedSimpArgs false
set_option maxHeartbeats 0
set_option maxRecDepth 100000
namespace Go.Proofs.Ytlphgonhenegoaa
open Go.Sx
section
def dig (G L n k : Nat) : Nat := n / G ^ (L - 1 - k) % G
def dg (G L n : Nat) : Nat → Int := fun k => ((dig G L n k : Nat) : Int)
theorem div_pow_of {G q P n : Nat} (h1 : P * G ^ q ≤ n) (h2 : n < (P + 1) * G ^ q) : n / G ^ q = P := by
  have hp : 0 < G ^ q := by
    rcases Nat.eq_zero_or_pos (G ^ q) with h | h
    · rw [h] at h2; omega
    · exact h
  refine Nat.le_antisymm ?_ ((Nat.le_div_iff_mul_le hp).2 h1)
  have := (Nat.div_lt_iff_lt_mul hp).2 h2
  omega
theorem dig_pre {G i q P n : Nat} (h1 : P * G ^ q ≤ n) (h2 : n < (P + 1) * G ^ q) {k : Nat} (hk : k < i) : dig G (i + q) n k = dig G i P k := by
  unfold dig
  have : i + q - 1 - k = q + (i - 1 - k) := by omega
  rw [this, Nat.pow_add, ← Nat.div_div_eq_div_mul, div_pow_of h1 h2]
theorem dig_snoc {G i P c : Nat} (hc : c < G) : (∀ k, k < i → dig G (i + 1) (P * G + c) k = dig G i P k) ∧ dig G (i + 1) (P * G + c) i = c := by
  refine ⟨fun k hk => ?_, ?_⟩
  · refine dig_pre (i := i) (q := 1) (P := P) (n := P * G + c) ?_ ?_ hk
    · rw [Nat.pow_one]; omega
    · rw [Nat.pow_one, Nat.add_mul]; omega
  · unfold dig
    have : i + 1 - 1 - i = 0 := by omega
    rw [this, Nat.pow_zero, Nat.div_one, Nat.add_comm, Nat.add_mul_mod_self_right, Nat.mod_eq_of_lt hc]
theorem dig_lt {G : Nat} (hG : 0 < G) (L n k : Nat) : dig G L n k < G := Nat.mod_lt _ hG
structure BS where
  m : Int
  n : Nat
  x : Nat → Int
def stepB (val : (Nat → Int) → Int) (L : Nat) (x : Nat → Int) (s : BS) : BS := if 0 ≤ val x ∧ (s.m < 0 ∨ val x < s.m) then ⟨val x, L, x⟩ else s
def foldB (val : (Nat → Int) → Int) (G L : Nat) : Nat → Nat → BS → BS
  | _, 0, s => s
  | a, c + 1, s => foldB val G L (a + 1) c (stepB val L (dg G L a) s)
theorem foldB_add (val : (Nat → Int) → Int) (G L : Nat) : ∀ (c d a : Nat) (s : BS), foldB val G L a (c + d) s = foldB val G L (a + c) d (foldB val G L a c s) := by
  intro c
  induction c with
  | zero => intro d a s; simp [foldB]
  | succ c ih =>
    intro d a s
    rw [show c + 1 + d = (c + d) + 1 by omega]
    show foldB val G L (a + 1) (c + d) (stepB val L (dg G L a) s) = foldB val G L (a + (c + 1)) d (foldB val G L (a + 1) c (stepB val L (dg G L a) s))
    rw [ih, show a + 1 + c = a + (c + 1) by omega]
theorem foldB_id {val : (Nat → Int) → Int} {G L : Nat} : ∀ (c a : Nat) (s : BS), (∀ n, a ≤ n → n < a + c → val (dg G L n) < 0) → foldB val G L a c s = s := by
  intro c
  induction c with
  | zero => intro a s _; rfl
  | succ c ih =>
    intro a s h
    show foldB val G L (a + 1) c (stepB val L (dg G L a) s) = s
    have h0 := h a (Nat.le_refl _) (by omega)
    have : stepB val L (dg G L a) s = s := by
      unfold stepB
      rw [if_neg (fun h => by have := h.1; omega)]
    rw [this]
    exact ih (a + 1) s fun n h1 h2 => h n (by omega) (by omega)
structure BOk (val : (Nat → Int) → Int) (G L a b : Nat) (s : BS) : Prop where
  le : ∀ n, a ≤ n → n < b → 0 ≤ val (dg G L n) → 0 ≤ s.m ∧ s.m ≤ val (dg G L n)
  ex : (s.m = -1 ∧ s.n = 0) ∨ (s.n = L ∧ 0 ≤ s.m ∧ ∃ n, a ≤ n ∧ n < b ∧ s.m = val (dg G L n) ∧ s.x = dg G L n)
theorem BOk.step {val : (Nat → Int) → Int} {G L a b : Nat} {s : BS} (h : BOk val G L a b s) (hab : a ≤ b) : BOk val G L a (b + 1) (stepB val L (dg G L b) s) := by
  unfold stepB
  by_cases hc : 0 ≤ val (dg G L b) ∧ (s.m < 0 ∨ val (dg G L b) < s.m)
  · rw [if_pos hc]
    refine ⟨fun n h1 h2 h3 => ?_, .inr ⟨rfl, hc.1, b, hab, by omega, rfl, rfl⟩⟩
    by_cases e : n = b
    · subst e; exact ⟨hc.1, Int.le_refl _⟩
    · have := h.le n h1 (by omega) h3
      exact ⟨hc.1, by show val (dg G L b) ≤ _; omega⟩
  · rw [if_neg hc]
    refine ⟨fun n h1 h2 h3 => ?_, ?_⟩
    · by_cases e : n = b
      · subst e
        omega
      · exact h.le n h1 (by omega) h3
    · rcases h.ex with e | ⟨e1, e2, n, e3, e4, e5⟩
      · exact .inl e
      · exact .inr ⟨e1, e2, n, e3, by omega, e5⟩
theorem BOk.fold {val : (Nat → Int) → Int} {G L : Nat} : ∀ (c a b : Nat) (s : BS), a ≤ b → BOk val G L a b s → BOk val G L a (b + c) (foldB val G L b c s) := by
  intro c
  induction c with
  | zero => intro a b s _ h; exact h
  | succ c ih =>
    intro a b s hab h
    rw [show b + (c + 1) = b + 1 + c by omega]
    exact ih a (b + 1) _ (by omega) (h.step hab)
theorem pPS_congr {l : Arr api_Press} {p q : Nat → Bool} (h : ∀ k, k < l.n → p k = q k) (t : Nat) : pP l p t = pP l q t := by
  refine Nat.eq_of_testBit_eq fun f => ?_
  rw [Bool.eq_iff_iff]
  unfold pP
  rw [pset_bit, pset_bit]
  constructor
  · rintro ⟨j, j1, j2, j3, j4⟩
    exact ⟨j, j1, j2, by rw [← h j j1]; exact j3, j4⟩
  · rintro ⟨j, j1, j2, j3, j4⟩
    exact ⟨j, j1, j2, by rw [h j j1]; exact j3, j4⟩
theorem stS_congr {l : Arr api_Press} {p q : Nat → Bool} (h : ∀ k, k < l.n → p k = q k) (c : Cn) (t : Nat) : st c l p t = st c l q t := by
  induction t with
  | zero => rfl
  | succ t ih => unfold st; rw [ih, pPS_congr h]
theorem wtS_congr {l : Arr api_Press} {p q : Nat → Bool} (h : ∀ k, k < l.n → p k = q k) (c : Cn) (j : Nat) : wt c l p j = wt c l q j := by
  unfold wt
  congr 1
  funext d
  unfold sv
  rw [stS_congr h, pPS_congr h]
theorem wS_congr {g : Arr api_Car} {l : Arr api_Press} {sh sh' : Arr Int} (h : ∀ k, k < l.n → sh.f k = sh'.f k) {k : Nat} (hk : k < l.n) : wS g l sh k = wS g l sh' k := by
  unfold wS
  rw [h k hk]
  exact wtS_congr (fun j hj => by unfold ofS; rw [h j hj]) _ _
theorem Lng.congr {g : Arr api_Car} {l : Arr api_Press} {sh sh' : Arr Int} (h : ∀ k, k < l.n → sh.f k = sh'.f k) {i : Nat} {m : Int} (hl : Lng g l sh i m) : Lng g l sh' i m :=
  ⟨fun k hk hlt => by rw [← wS_congr h hk]; exact hl.le k hk (by rw [h k hk]; exact hlt), by
    rcases hl.ex with e | ⟨k, k1, k2, k3⟩
    · exact .inl e
    · exact .inr ⟨k, k1, by rw [← h k k1]; exact k2, by rw [← wS_congr h k1]; exact k3⟩, hl.z⟩
theorem Shr.congr {g : Arr api_Car} {l : Arr api_Press} {sh sh' : Arr Int} (hn : sh'.n = l.n) (h : ∀ k, k < l.n → sh.f k = sh'.f k) (hs : Shr g l sh) : Shr g l sh' :=
  ⟨hn, fun k hk => by rw [← h k hk]; exact hs.i k hk, fun k hk => by rw [← h k hk]; exact hs.o k hk⟩
open Classical in
noncomputable def valS (g : Arr api_Car) (l : Arr api_Press) (x : Nat → Int) : Int := if h : ∃ m, Shr g l ⟨l.n, x⟩ ∧ Lng g l ⟨l.n, x⟩ g.n m then h.choose else -1
theorem valS_good {g : Arr api_Car} {l : Arr api_Press} {sh : Arr Int} {x : Nat → Int} {m : Int} (h : Shr g l sh) (hm : Lng g l sh g.n m) (hx : ∀ k, k < l.n → sh.f k = x k) : valS g l x = m := by
  have hl : Lng g l ⟨l.n, x⟩ g.n m := hm.congr (sh' := ⟨l.n, x⟩) hx
  have he : ∃ m, Shr g l ⟨l.n, x⟩ ∧ Lng g l ⟨l.n, x⟩ g.n m := ⟨m, h.congr (sh' := ⟨l.n, x⟩) rfl hx, hl⟩
  unfold valS
  rw [dif_pos he]
  exact he.choose_spec.2.unique hl
theorem valS_bad {g : Arr api_Car} {l : Arr api_Press} {x : Nat → Int} (h : ¬ Shr g l ⟨l.n, x⟩) : valS g l x = -1 := by
  unfold valS
  rw [dif_neg fun ⟨m, hm, _⟩ => h hm]
theorem valS_nonneg {g : Arr api_Car} {l : Arr api_Press} {x : Nat → Int} (h : 0 ≤ valS g l x) : Shr g l ⟨l.n, x⟩ ∧ Lng g l ⟨l.n, x⟩ g.n (valS g l x) := by
  by_cases hs : Shr g l ⟨l.n, x⟩
  · refine ⟨hs, ?_⟩
    by_cases he : ∃ m, Shr g l ⟨l.n, x⟩ ∧ Lng g l ⟨l.n, x⟩ g.n m
    · obtain ⟨m, _, hm⟩ := he
      rw [valS_good hs hm fun _ _ => rfl]
      exact hm
    · unfold valS at h
      rw [dif_neg he] at h
      exact absurd h (by decide)
  · rw [valS_bad hs] at h
    exact absurd h (by decide)
end
end Go.Proofs.Ytlphgonhenegoaa
set_option linter.unusedVariables false
set_option linter.unusedSimpArgs false
set_option maxHeartbeats 0
set_option maxRecDepth 100000
namespace Go.Proofs.Ytlphgonhenegoaa
open Go.Sx
section
theorem clone_eq (N : Nat) {a : Arr Int} (h : a.n ≤ 1000) {R : Type} (k : Bool → Arr Int → Option R) : slices_Clone___int_int_ N false a k = k false a := by
  rw [slices_Clone___int_int__def]
  unfold slices_Clone___int_int__m
  rw [cond_false, room_of (by omega), cond_true]
  have e1 : (bif Arr.n a == (0 : Nat) then false else false) = false := by cases (Arr.n a == (0 : Nat)) <;> rfl
  rw [e1]
  refine congrArg (k false) ?_
  obtain ⟨n, f⟩ := a
  unfold lst
  congr 1
  · exact Nat.zero_add n
open Classical in
theorem sh_rec {N : Nat} (hN : 2000 < N) {g : Arr api_Car} (hgn : g.n ≤ 3) (hg : carsP g) {l : Arr api_Press} (ht : tAll l) : ∀ (q i d P : Nat) (sh : Arr Int) (nl : Bool) (best : Arr Int) (s : BS), i + q = l.n → q < d → sh.n = l.n →
    (∀ k, k < i → sh.f k = dg g.n i P k) → (∀ k, k < i → inP g (l.f k) (dig g.n i P k)) → (i = 0 ∨ 0 < g.n) → best.Is s.n s.x →
    ∃ (sh' : Arr Int) (nl' : Bool) (best' : Arr Int), sh'.n = l.n ∧ (∀ k, k < i → sh'.f k = sh.f k) ∧ best'.Is (foldB (valS g l) g.n l.n (P * g.n ^ q) (g.n ^ q) s).n (foldB (valS g l) g.n l.n (P * g.n ^ q) (g.n ^ q) s).x ∧
      ∀ {R : Type} (k : Int → Arr Int → Bool → Arr Int → Option R), calls_Share_1_r N d (i : Int) l g s.m false sh nl best k = k (foldB (valS g l) g.n l.n (P * g.n ^ q) (g.n ^ q) s).m sh' nl' best' := by
  have hln := ht.1
  intro q
  induction q with
  | zero =>
    intro i d P sh nl best s h1 h2 h3 h4 h5 h6 h7
    obtain ⟨d, rfl⟩ : ∃ m, d = m + 1 := ⟨d - 1, by omega⟩
    have hi : i = l.n := by omega
    subst hi
    rw [Nat.pow_zero, Nat.mul_one]
    have hs : Shr g l sh := ⟨h3, fun k hk => by
      have := dig_lt (show 0 < g.n by omega) l.n P k
      rw [h4 k hk]
      unfold dg
      omega, fun k hk => by rw [h4 k hk]; exact h5 k hk⟩
    obtain ⟨m, m1, _⟩ := longest_eq hN (show g.n ≤ 100 by omega) hs hg ht (fun _ => (none : Option Unit))
    have hv : valS g l (dg g.n l.n P) = m := valS_good hs m1 h4
    have hf : foldB (valS g l) g.n l.n P 1 s = stepB (valS g l) l.n (dg g.n l.n P) s := rfl
    rw [hf]
    unfold stepB
    rw [hv]
    have hm0 := m1.z
    have run : ∀ {R : Type} (k : Int → Arr Int → Bool → Arr Int → Option R), calls_Share_1_r N (d + 1) (l.n : Int) l g s.m false sh nl best k = (bif decide (s.m < (0 : Int)) then slices_Clone___int_int_ N false sh (fun r739 r740 => k m sh r739 r740) else bif decide (m < s.m) then slices_Clone___int_int_ N false sh (fun r741 r742 => k m sh r741 r742) else k s.m sh nl best) := fun {R} k => by
      show calls_Share_1_t N (calls_Share_1_r N d) (l.n : Int) l g s.m false sh nl best k = _
      unfold calls_Share_1_t
      rw [BEq.rfl, cond_true]
      obtain ⟨m', g1, g2⟩ := longest_eq hN (show g.n ≤ 100 by omega) hs hg ht (fun r738 => bif decide (s.m < (0 : Int)) then slices_Clone___int_int_ N false sh (fun r739 r740 => k r738 sh r739 r740) else bif decide (r738 < s.m) then slices_Clone___int_int_ N false sh (fun r741 r742 => k r738 sh r741 r742) else k s.m sh nl best)
      rw [g2, g1.unique m1]
    by_cases hc : s.m < 0 ∨ m < s.m
    · rw [if_pos ⟨hm0, hc⟩]
      refine ⟨sh, false, sh, h3, fun k _ => rfl, ⟨h3, h4⟩, fun {R} k => ?_⟩
      rw [run]
      by_cases e : s.m < 0
      · rw [decide_eq_true e, cond_true, clone_eq N (by omega)]
      · rw [decide_eq_false e, cond_false, decide_eq_true (show m < s.m by omega), cond_true, clone_eq N (by omega)]
    · rw [if_neg fun h => hc h.2]
      refine ⟨sh, nl, best, h3, fun k _ => rfl, h7, fun {R} k => ?_⟩
      rw [run, decide_eq_false (show ¬ s.m < 0 by omega), cond_false, decide_eq_false (show ¬ m < s.m by omega), cond_false]
  | succ q ih =>
    intro i d P sh nl best s h1 h2 h3 h4 h5 h6 h7
    obtain ⟨d, rfl⟩ : ∃ m, d = m + 1 := ⟨d - 1, by omega⟩
    have loop : ∀ (r c n : Nat) (sh : Arr Int) (nl : Bool) (best : Arr Int) (s : BS), c + r = g.n → r < n → sh.n = l.n → (∀ k, k < i → sh.f k = dg g.n i P k) → best.Is s.n s.x →
        ∃ (sh' : Arr Int) (nl' : Bool) (best' : Arr Int), sh'.n = l.n ∧ (∀ k, k < i → sh'.f k = sh.f k) ∧ best'.Is (foldB (valS g l) g.n l.n ((P * g.n + c) * g.n ^ q) (r * g.n ^ q) s).n (foldB (valS g l) g.n l.n ((P * g.n + c) * g.n ^ q) (r * g.n ^ q) s).x ∧
          ∀ {R : Type} (k0 : Int → Arr Int → Bool → Arr Int → Option R), calls_Share_1_l5 N (calls_Share_1_r N d) n (i : Int) (g.n : Int) (c : Int) l g s.m false sh nl best k0 = k0 (foldB (valS g l) g.n l.n ((P * g.n + c) * g.n ^ q) (r * g.n ^ q) s).m sh' nl' best' := by
      intro r
      induction r with
      | zero =>
        intro c n sh nl best s a1 a2 a3 a4 a5
        obtain ⟨n, rfl⟩ : ∃ m, n = m + 1 := ⟨n - 1, by omega⟩
        rw [Nat.zero_mul]
        refine ⟨sh, nl, best, a3, fun k _ => rfl, a5, fun {R} k0 => ?_⟩
        unfold calls_Share_1_l5 calls_Share_1_b5
        rw [ltF (show g.n ≤ c by omega), cond_false]
        rfl
      | succ r ihr =>
        intro c n sh nl best s a1 a2 a3 a4 a5
        obtain ⟨n, rfl⟩ : ∃ m, n = m + 1 := ⟨n - 1, by omega⟩
        have hc : c < g.n := by omega
        have hil : i < l.n := by omega
        have e0 : decide ((c : Int) < (g.n : Int)) = true := ltT hc
        have e1 : decide ((i : Int) < (l.n : Int)) = true := ltT hil
        have e2 : decide ((i : Int) < (sh.n : Int)) = true := by rw [a3]; exact e1
        have hsplit : foldB (valS g l) g.n l.n ((P * g.n + c) * g.n ^ q) ((r + 1) * g.n ^ q) s = foldB (valS g l) g.n l.n ((P * g.n + (c + 1)) * g.n ^ q) (r * g.n ^ q) (foldB (valS g l) g.n l.n ((P * g.n + c) * g.n ^ q) (g.n ^ q) s) := by
          rw [show (r + 1) * g.n ^ q = g.n ^ q + r * g.n ^ q by rw [Nat.succ_mul, Nat.add_comm], foldB_add, show (P * g.n + (c + 1)) * g.n ^ q = (P * g.n + c) * g.n ^ q + g.n ^ q by rw [← Nat.add_assoc, Nat.succ_mul]]
        rw [hsplit]
        obtain ⟨ds1, ds2⟩ := dig_snoc (G := g.n) (i := i) (P := P) hc
        have front : ∀ {R : Type} (k0 : Int → Arr Int → Bool → Arr Int → Option R), calls_Share_1_l5 N (calls_Share_1_r N d) (n + 1) (i : Int) (g.n : Int) (c : Int) l g s.m false sh nl best k0 =
            bif decide (inP g (l.f i) c) then calls_Share_1_r N d ((i + 1 : Nat) : Int) l g s.m false (lst intC (Arr.n sh) (setCs i (0 : Nat) (Cod.cell intC (Arr.f sh)) [SV.int IntKind.i64 (c : Int)])) nl best (fun r754 r755 r756 r757 => calls_Share_1_l5 N (calls_Share_1_r N d) n (i : Int) (g.n : Int) ((c + 1 : Nat) : Int) l g r754 false r755 r756 r757 k0)
            else calls_Share_1_l5 N (calls_Share_1_r N d) n (i : Int) (g.n : Int) ((c + 1 : Nat) : Int) l g s.m false sh nl best k0 := fun {R} k0 => by
          conv => lhs; unfold calls_Share_1_l5 calls_Share_1_b5
          rw [e0, cond_true, e1, nat_nonneg, Bool.and_self, cond_true, given_eq N (by omega), e2, Bool.and_self, w64_succ (show i < 1000000000000 by omega), w64_succ (show c < 1000000000000 by omega), Int.toNat_natCast]
          by_cases hin : inP g (l.f i) c
          · rw [decide_eq_true hin, decide_eq_true (show (0 ≤ (c : Int) ∧ (c : Int) ≤ (g.n : Int) - 1) ∧ inP g (Arr.f l i) (c : Int).toNat from ⟨by omega, hin⟩), cond_true, cond_true]
            rfl
          · rw [decide_eq_false hin, decide_eq_false (show ¬ ((0 ≤ (c : Int) ∧ (c : Int) ≤ (g.n : Int) - 1) ∧ inP g (Arr.f l i) (c : Int).toNat) from fun h => hin h.2), cond_false, cond_false]
        by_cases hin : inP g (l.f i) c
        · have sf : ∀ k, (lst intC (Arr.n sh) (setCs i (0 : Nat) (Cod.cell intC (Arr.f sh)) [SV.int IntKind.i64 (c : Int)])).f k = if k = i then (c : Int) else sh.f k := fun k => set_f sh (Arr.n sh) i (c : Int) k
          obtain ⟨sh1, nl1, best1, b1, b2, b3, b4⟩ := ih (i + 1) d (P * g.n + c) (lst intC (Arr.n sh) (setCs i (0 : Nat) (Cod.cell intC (Arr.f sh)) [SV.int IntKind.i64 (c : Int)])) nl best s (by omega) (by omega) a3 (fun k hk => by
            rw [sf]
            by_cases e : k = i
            · subst e
              rw [if_pos rfl]
              unfold dg
              rw [ds2]
            · rw [if_neg e, a4 k (by omega)]
              unfold dg
              rw [ds1 k (by omega)]) (fun k hk => by
            by_cases e : k = i
            · subst e
              rw [ds2]
              exact hin
            · rw [ds1 k (by omega)]
              exact h5 k (by omega)) (.inr (by omega)) a5
          obtain ⟨sh2, nl2, best2, c1, c2, c3, c4⟩ := ihr (c + 1) n sh1 nl1 best1 (foldB (valS g l) g.n l.n ((P * g.n + c) * g.n ^ q) (g.n ^ q) s) (by omega) (by omega) b1 (fun k hk => by
            rw [b2 k (by omega), sf, if_neg (by omega)]
            exact a4 k hk) b3
          refine ⟨sh2, nl2, best2, c1, fun k hk => by rw [c2 k hk, b2 k (by omega), sf, if_neg (by omega)], c3, fun {R} k0 => ?_⟩
          rw [front, decide_eq_true hin, cond_true, b4]
          exact c4 k0
        · have hid : foldB (valS g l) g.n l.n ((P * g.n + c) * g.n ^ q) (g.n ^ q) s = s := foldB_id _ _ _ fun n' n1 n2 => by
            have hno : ¬ Shr g l ⟨l.n, dg g.n l.n n'⟩ := fun hs => by
              have := hs.o i hil
              have hd := dig_pre (G := g.n) (i := i + 1) (q := q) (P := P * g.n + c) (n := n') n1 (by rw [Nat.succ_mul]; exact n2) (show i < i + 1 by omega)
              rw [show i + 1 + q = l.n by omega, ds2] at hd
              have e : ((dg g.n l.n n' i).toNat) = c := by unfold dg; rw [hd]; rfl
              exact hin (e ▸ this)
            rw [valS_bad hno]
            decide
          rw [hid]
          obtain ⟨sh2, nl2, best2, c1, c2, c3, c4⟩ := ihr (c + 1) n sh nl best s (by omega) (by omega) a3 a4 a5
          refine ⟨sh2, nl2, best2, c1, c2, c3, fun {R} k0 => ?_⟩
          rw [front, decide_eq_false hin, cond_false]
          exact c4 k0
    obtain ⟨sh', nl', best', g1, g2, g3, g4⟩ := loop g.n 0 N sh nl best s (by omega) (by omega) h3 h4 h7
    have ea : (P * g.n + 0) * g.n ^ q = P * g.n ^ (q + 1) := by rw [Nat.add_zero, Nat.mul_assoc, Nat.pow_succ, Nat.mul_comm (g.n ^ q)]
    have eb : g.n * g.n ^ q = g.n ^ (q + 1) := by rw [Nat.pow_succ, Nat.mul_comm]
    rw [ea, eb] at g3 g4
    refine ⟨sh', nl', best', g1, g2, g3, fun {R} k => ?_⟩
    show calls_Share_1_t N (calls_Share_1_r N d) (i : Int) l g s.m false sh nl best k = _
    unfold calls_Share_1_t
    have : ((i : Int) == (l.n : Int)) = false := by rw [beq_eq_false_iff_ne]; omega
    rw [this, cond_false]
    exact g4 k
noncomputable def bestS (g : Arr api_Car) (l : Arr api_Press) : BS := foldB (valS g l) g.n l.n 0 (g.n ^ l.n) ⟨-1, 0, fun _ => 0⟩
theorem zero_is {a : Nat → Nat → SV} (f : Nat → Int) : (lst intC (0 : Nat) a).Is 0 f := ⟨rfl, fun i hi => by omega⟩
theorem share_eq {N : Nat} (hN : 2000 < N) {g : Arr api_Car} (hgn : g.n ≤ 100) {l : Arr api_Press} (hl : l.n ≤ 1000) (he : errG g l = 0) (h6 : l.n ≤ 6) : ∃ (nl : Bool) (best : Arr Int), best.Is (bestS g l).n (bestS g l).x ∧ ∀ {R : Type} (k : Int → Bool → Arr Int → Option R), calls_Share N g l k = k 0 nl best := by
  obtain ⟨h1, h2, h3, h4⟩ := errG_zero he
  obtain ⟨sh', nl', best', g1, g2, g3, g4⟩ := sh_rec hN (by omega) h2 h3 l.n 0 N 0 (lst intC (Int.toNat (↑(Arr.n l) : Int)) (zeroC [SV.int IntKind.i64 (0 : Int)])) true (lst intC (0 : Nat) (zeroC [SV.int IntKind.i64 (0 : Int)])) ⟨-1, 0, fun _ => 0⟩ (by omega) (by omega) (Int.toNat_natCast _) (fun k hk => by omega) (fun k hk => by omega) (.inl rfl) (zero_is _)
  rw [Nat.zero_mul] at g3 g4
  refine ⟨nl', best', g3, fun {R} k => ?_⟩
  rw [calls_Share_def]
  unfold calls_Share_m
  rw [group_eq (by omega) hgn hl, he, show ((0 : Int) != 0) = false from rfl, cond_false, decide_eq_false (show ¬ ((l.n : Int) > 6) by omega), cond_false]
  have : (decide ((↑(Arr.n l) : Int) ≤ (↑(Arr.n l) : Int)) && decide ((↑(Arr.n l) : Int) ≤ (1073741824 : Int))) = true := by simp; omega
  rw [this, cond_true, calls_Share_1_def]
  unfold calls_Share_1_m
  exact g4 _
end
end Go.Proofs.Ytlphgonhenegoaa
