/-
  Several texts in one.
-/
import Derived.Test.YtlphgonhenegoaaP9
import Derived.Test.YtlphgonhenegoaaG3
set_option linter.unusedVariables false
set_option linter.unusedSimpArgs false
set_option maxHeartbeats 0
set_option maxRecDepth 100000
namespace Go.Proofs.Ytlphgonhenegoaa
open Go.Sx
section
def carsP (g : Arr api_Car) : Prop := ∀ i, i < g.n → VC (g.f i)
def inP (g : Arr api_Car) (x : api_Press) (i : Nat) : Prop := (g.f i).Low ≤ x.Floor ∧ x.Floor ≤ (g.f i).High
def onP (g : Arr api_Car) (x : api_Press) : Prop := ∃ i, i < g.n ∧ inP g x i
def allOn (g : Arr api_Car) (l : Arr api_Press) : Prop := ∀ i, i < l.n → onP g (l.f i)
open Classical in
noncomputable def errG (g : Arr api_Car) (l : Arr api_Press) : Int := if (1 ≤ (g.n : Int) ∧ (g.n : Int) ≤ 3) then (if carsP g then (if tAll l then (if allOn g l then 0 else 71) else 71) else 70) else 70
theorem idx1_l2 (N : Nat) {g : Arr api_Car} (hg : g.n ≤ 100) {R : Type} (kr : Int → Option R) (k0 : Unit → Option R) (kk : Bool → Option R) (h1 : ∀ i : Nat, kr (i : Int) = kk true) (h0 : k0 () = kk false) : ∀ (q i n : Nat), i + q = g.n → q < n → (∀ j, j < i → VC (g.f j)) →
    (carsP g → sIF_l2 N n g (g.n : Int) (i : Int) kr k0 = kk false) ∧ (¬ carsP g → sIF_l2 N n g (g.n : Int) (i : Int) kr k0 = kk true) := by
  intro q
  induction q with
  | zero =>
    intro i n a1 a2 a3
    obtain ⟨n, rfl⟩ : ∃ m, n = m + 1 := ⟨n - 1, by omega⟩
    have : carsP g := fun j hj => a3 j (by omega)
    refine ⟨fun _ => ?_, fun hn => absurd this hn⟩
    unfold sIF_l2 sIF_b2
    rw [ltF (show g.n ≤ i by omega), cond_false]
    exact h0
  | succ q ih =>
    intro i n a1 a2 a3
    obtain ⟨n, rfl⟩ : ∃ m, n = m + 1 := ⟨n - 1, by omega⟩
    have e0 : decide ((i : Int) < (g.n : Int)) = true := ltT (by omega)
    by_cases hv : VC (g.f i)
    · have next := ih (i + 1) n (by omega) (by omega) (fun j hj => by
        by_cases e : j = i
        · subst e; exact hv
        · exact a3 j (by omega))
      have go : sIF_l2 N (n + 1) g (g.n : Int) (i : Int) kr k0 = sIF_l2 N n g (g.n : Int) ((i + 1 : Nat) : Int) kr k0 := by
        conv => lhs; unfold sIF_l2 sIF_b2
        rw [e0, cond_true, nat_nonneg, Bool.true_and, cond_true, calls_group_1_def]
        unfold calls_group_1_m
        rw [valid_eq, decide_eq_true (show VC (Arr.f g (Int.toNat (i : Int))) from hv), Bool.not_true]
        show (bif false then _ else _) = _
        rw [cond_false, w64_succ (show i < 1000000000000 by omega)]
      rw [go]
      exact next
    · have hn : ¬ carsP g := fun h => hv (h i (by omega))
      refine ⟨fun h => absurd h hn, fun _ => ?_⟩
      unfold sIF_l2 sIF_b2
      rw [e0, cond_true, nat_nonneg, Bool.true_and, cond_true, calls_group_1_def]
      unfold calls_group_1_m
      rw [valid_eq, decide_eq_false (show ¬ VC (Arr.f g (Int.toNat (i : Int))) from hv), Bool.not_false]
      exact h1 i
open Classical in
theorem cont1_eq {N : Nat} (hN : 1000 < N) {g : Arr api_Car} (hg : g.n ≤ 100) {R : Type} (k : Bool → Option R) : sCF N g k = k (!decide (carsP g)) := by
  rw [sCF_def]
  unfold sCF_m
  rw [sIF_def]
  unfold sIF_m
  obtain ⟨a1, a2⟩ := idx1_l2 N hg (fun r492 => k (decide (r492 ≥ (0 : Int)))) (fun (_ : Unit) => k (decide ((-1 : Int) ≥ (0 : Int)))) k (fun i => by rw [decide_eq_true (show (i : Int) ≥ 0 by omega)]) rfl g.n 0 N (by omega) (by omega) (fun j hj => by omega)
  by_cases h : carsP g
  · rw [decide_eq_true h]; exact a1 h
  · rw [decide_eq_false h]; exact a2 h
theorem idx2_l2 (N : Nat) {g : Arr api_Car} (hg : g.n ≤ 100) (x : api_Press) {R : Type} (kr : Int → Option R) (k0 : Unit → Option R) (kk : Bool → Option R) (h1 : ∀ i : Nat, kr (i : Int) = kk true) (h0 : k0 () = kk false) : ∀ (q i n : Nat), i + q = g.n → q < n → (∀ j, j < i → ¬ inP g x j) →
    (onP g x → sIF_v2_l2 N n g (g.n : Int) (i : Int) x kr k0 = kk true) ∧ (¬ onP g x → sIF_v2_l2 N n g (g.n : Int) (i : Int) x kr k0 = kk false) := by
  intro q
  induction q with
  | zero =>
    intro i n a1 a2 a3
    obtain ⟨n, rfl⟩ : ∃ m, n = m + 1 := ⟨n - 1, by omega⟩
    have : ¬ onP g x := fun ⟨j, j1, j2⟩ => a3 j (by omega) j2
    refine ⟨fun hn => absurd hn this, fun _ => ?_⟩
    unfold sIF_v2_l2 sIF_v2_b2
    rw [ltF (show g.n ≤ i by omega), cond_false]
    exact h0
  | succ q ih =>
    intro i n a1 a2 a3
    obtain ⟨n, rfl⟩ : ∃ m, n = m + 1 := ⟨n - 1, by omega⟩
    have e0 : decide ((i : Int) < (g.n : Int)) = true := ltT (by omega)
    by_cases hv : inP g x i
    · have hn : onP g x := ⟨i, by omega, hv⟩
      refine ⟨fun _ => ?_, fun h => absurd hn h⟩
      unfold sIF_v2_l2 sIF_v2_b2
      rw [e0, cond_true, nat_nonneg, Bool.true_and, cond_true, calls_group_2_def]
      unfold calls_group_2_m
      rw [in_eq, decide_eq_true (show (Arr.f g (Int.toNat (i : Int))).Low ≤ x.Floor ∧ x.Floor ≤ (Arr.f g (Int.toNat (i : Int))).High from hv)]
      exact h1 i
    · have next := ih (i + 1) n (by omega) (by omega) (fun j hj => by
        by_cases e : j = i
        · subst e; exact hv
        · exact a3 j (by omega))
      have go : sIF_v2_l2 N (n + 1) g (g.n : Int) (i : Int) x kr k0 = sIF_v2_l2 N n g (g.n : Int) ((i + 1 : Nat) : Int) x kr k0 := by
        conv => lhs; unfold sIF_v2_l2 sIF_v2_b2
        rw [e0, cond_true, nat_nonneg, Bool.true_and, cond_true, calls_group_2_def]
        unfold calls_group_2_m
        rw [in_eq, decide_eq_false (show ¬ ((Arr.f g (Int.toNat (i : Int))).Low ≤ x.Floor ∧ x.Floor ≤ (Arr.f g (Int.toNat (i : Int))).High) from hv)]
        show (bif false then _ else _) = _
        rw [cond_false, w64_succ (show i < 1000000000000 by omega)]
      rw [go]
      exact next
open Classical in
theorem cont2_eq {N : Nat} (hN : 1000 < N) {g : Arr api_Car} (hg : g.n ≤ 100) (x : api_Press) {R : Type} (k : Bool → Option R) : sCF_v2 N g x k = k (decide (onP g x)) := by
  rw [sCF_v2_def]
  unfold sCF_v2_m
  rw [sIF_v2_def]
  unfold sIF_v2_m
  obtain ⟨a1, a2⟩ := idx2_l2 N hg x (fun r512 => k (decide (r512 ≥ (0 : Int)))) (fun (_ : Unit) => k (decide ((-1 : Int) ≥ (0 : Int)))) k (fun i => by rw [decide_eq_true (show (i : Int) ≥ 0 by omega)]) rfl g.n 0 N (by omega) (by omega) (fun j hj => by omega)
  by_cases h : onP g x
  · rw [decide_eq_true h]; exact a1 h
  · rw [decide_eq_false h]; exact a2 h
open Classical in
theorem group_l6 {N : Nat} (hN : 1000 < N) {g : Arr api_Car} (hg : g.n ≤ 100) {l : Arr api_Press} (hl : l.n ≤ 1000) {R : Type} (kr : Int → Option R) (k0 : Unit → Option R) : ∀ (q i n : Nat), i + q = l.n → q < n → (∀ j, j < i → onP g (l.f j)) →
    (allOn g l → calls_group_l6 N n g l (l.n : Int) (i : Int) kr k0 = k0 ()) ∧ (¬ allOn g l → calls_group_l6 N n g l (l.n : Int) (i : Int) kr k0 = kr 71) := by
  intro q
  induction q with
  | zero =>
    intro i n a1 a2 a3
    obtain ⟨n, rfl⟩ : ∃ m, n = m + 1 := ⟨n - 1, by omega⟩
    have : allOn g l := fun j hj => a3 j (by omega)
    refine ⟨fun _ => ?_, fun h => absurd this h⟩
    unfold calls_group_l6 calls_group_b6
    rw [ltF (show l.n ≤ i by omega), cond_false]
  | succ q ih =>
    intro i n a1 a2 a3
    obtain ⟨n, rfl⟩ : ∃ m, n = m + 1 := ⟨n - 1, by omega⟩
    have e0 : decide ((i : Int) < (l.n : Int)) = true := ltT (by omega)
    by_cases hv : onP g (l.f i)
    · have next := ih (i + 1) n (by omega) (by omega) (fun j hj => by
        by_cases e : j = i
        · subst e; exact hv
        · exact a3 j (by omega))
      have go : calls_group_l6 N (n + 1) g l (l.n : Int) (i : Int) kr k0 = calls_group_l6 N n g l (l.n : Int) ((i + 1 : Nat) : Int) kr k0 := by
        conv => lhs; unfold calls_group_l6 calls_group_b6
        rw [e0, cond_true, nat_nonneg, Bool.true_and, cond_true, cont2_eq hN hg, decide_eq_true (show onP g (Arr.f l (Int.toNat (i : Int))) from hv), Bool.not_true, cond_false, w64_succ (show i < 1000000000000 by omega)]
      rw [go]
      exact next
    · refine ⟨fun h => absurd (h i (by omega)) hv, fun _ => ?_⟩
      unfold calls_group_l6 calls_group_b6
      rw [e0, cond_true, nat_nonneg, Bool.true_and, cond_true, cont2_eq hN hg, decide_eq_false (show ¬ onP g (Arr.f l (Int.toNat (i : Int))) from hv), Bool.not_false, cond_true]
open Classical in
theorem group_eq {N : Nat} (hN : 1000 < N) {g : Arr api_Car} (hg : g.n ≤ 100) {l : Arr api_Press} (hl : l.n ≤ 1000) {R : Type} (k : Int → Option R) : calls_group N g l k = k (errG g l) := by
  rw [calls_group_def]
  unfold calls_group_m errG
  rw [in_eq]
  by_cases h1 : (1 ≤ (g.n : Int) ∧ (g.n : Int) ≤ 3)
  rotate_left
  · rw [decide_eq_false h1, if_neg h1]; rfl
  rw [decide_eq_true h1, if_pos h1, Bool.not_true, cond_false, cont1_eq hN hg]
  by_cases h2 : carsP g
  rotate_left
  · rw [decide_eq_false h2, if_neg h2]; rfl
  rw [decide_eq_true h2, if_pos h2, Bool.not_true, cond_false, timed_eq hN hl]
  by_cases h3 : tAll l
  rotate_left
  · rw [decide_eq_false h3, if_neg h3]; rfl
  rw [decide_eq_true h3, if_pos h3, Bool.not_true, cond_false]
  obtain ⟨a1, a2⟩ := group_l6 hN hg hl (fun r515 => k r515) (fun (_ : Unit) => k (0 : Int)) l.n 0 N (by omega) (by omega) (fun j hj => by omega)
  by_cases h4 : allOn g l
  · rw [if_pos h4]; exact a1 h4
  · rw [if_neg h4]; exact a2 h4
theorem rg_l4 (N : Nat) {g : Arr api_Car} (hg : g.n ≤ 100) (l : Arr api_Press) {R : Type} (kr : Int → Option R) (k0 : Unit → Option R) : ∀ (q i n : Nat), i + q = g.n → q < n → (∀ j, j < i → VC (g.f j)) →
    (carsP g → r7CheckGroup_l4 N n g l (i : Int) kr k0 = k0 ()) ∧ (¬ carsP g → r7CheckGroup_l4 N n g l (i : Int) kr k0 = kr 70) := by
  intro q
  induction q with
  | zero =>
    intro i n a1 a2 a3
    obtain ⟨n, rfl⟩ : ∃ m, n = m + 1 := ⟨n - 1, by omega⟩
    have : carsP g := fun j hj => a3 j (by omega)
    refine ⟨fun _ => ?_, fun hn => absurd this hn⟩
    unfold r7CheckGroup_l4 r7CheckGroup_b4
    rw [ltF (show g.n ≤ i by omega), cond_false]
  | succ q ih =>
    intro i n a1 a2 a3
    obtain ⟨n, rfl⟩ : ∃ m, n = m + 1 := ⟨n - 1, by omega⟩
    have e0 : decide ((i : Int) < (g.n : Int)) = true := ltT (by omega)
    by_cases hv : VC (g.f i)
    · have next := ih (i + 1) n (by omega) (by omega) (fun j hj => by
        by_cases e : j = i
        · subst e; exact hv
        · exact a3 j (by omega))
      have go : r7CheckGroup_l4 N (n + 1) g l (i : Int) kr k0 = r7CheckGroup_l4 N n g l ((i + 1 : Nat) : Int) kr k0 := by
        conv => lhs; unfold r7CheckGroup_l4 r7CheckGroup_b4
        rw [e0, cond_true, nat_nonneg, Bool.true_and, cond_true, refCar, if_pos (show VC (Arr.f g (Int.toNat (i : Int))) from hv), show ((0 : Int) != 0) = false from rfl, cond_false, w64_succ (show i < 1000000000000 by omega)]
      rw [go]
      exact next
    · have hn : ¬ carsP g := fun h => hv (h i (by omega))
      refine ⟨fun h => absurd h hn, fun _ => ?_⟩
      unfold r7CheckGroup_l4 r7CheckGroup_b4
      rw [e0, cond_true, nat_nonneg, Bool.true_and, cond_true, refCar, if_neg (show ¬ VC (Arr.f g (Int.toNat (i : Int))) from hv)]
      rfl
open Classical in
theorem rg_l15 (N : Nat) {g : Arr api_Car} (hg : g.n ≤ 100) {l : Arr api_Press} {x : Nat} (hx : x < l.n) {R : Type} (k : Bool → Option R) : ∀ (q i n : Nat) (b : Bool), i + q = g.n → q < n → (b = true ↔ ∃ j, j < i ∧ inP g (l.f x) j) →
    r7CheckGroup_l15 N n g l (x : Int) b (i : Int) k = k (decide (onP g (l.f x))) := by
  intro q
  induction q with
  | zero =>
    intro i n b a1 a2 a3
    obtain ⟨n, rfl⟩ : ∃ m, n = m + 1 := ⟨n - 1, by omega⟩
    unfold r7CheckGroup_l15 r7CheckGroup_b15
    rw [ltF (show g.n ≤ i by omega), cond_false]
    have : i = g.n := by omega
    subst this
    congr 1
    cases b with
    | true => exact (decide_eq_true (show onP g (l.f x) from a3.1 rfl)).symm
    | false => exact (decide_eq_false (show ¬ onP g (l.f x) from fun h => by have := a3.2 h; cases this)).symm
  | succ q ih =>
    intro i n b a1 a2 a3
    obtain ⟨n, rfl⟩ : ∃ m, n = m + 1 := ⟨n - 1, by omega⟩
    have e0 : decide ((i : Int) < (g.n : Int)) = true := ltT (by omega)
    have e1 : decide ((x : Int) < (l.n : Int)) = true := ltT hx
    unfold r7CheckGroup_l15 r7CheckGroup_b15
    rw [e0, cond_true, e1, nat_nonneg, nat_nonneg, Bool.and_self, cond_true, w64_succ (show i < 1000000000000 by omega)]
    cases b with
    | true =>
      rw [cond_true]
      exact ih (i + 1) n true (by omega) (by omega) ⟨fun _ => by obtain ⟨j, j1, j2⟩ := a3.1 rfl; exact ⟨j, by omega, j2⟩, fun _ => rfl⟩
    | false =>
      rw [cond_false, cond_true, cond_true, from_eq]
      refine ih (i + 1) n _ (by omega) (by omega) ?_
      rw [decide_eq_true_eq]
      constructor
      · intro h
        exact ⟨i, by omega, h⟩
      · rintro ⟨j, j1, j2⟩
        by_cases e : j = i
        · subst e; exact j2
        · have := a3.2 ⟨j, by omega, j2⟩
          cases this
open Classical in
theorem rg_l11 {N : Nat} (hN : 1000 < N) {g : Arr api_Car} (hg : g.n ≤ 100) {l : Arr api_Press} (hl : l.n ≤ 1000) {R : Type} (kr : Int → Option R) (k0 : Unit → Option R) : ∀ (q i n : Nat), i + q = l.n → q < n → (∀ j, j < i → onP g (l.f j)) →
    (allOn g l → r7CheckGroup_l11 N n g l (i : Int) kr k0 = k0 ()) ∧ (¬ allOn g l → r7CheckGroup_l11 N n g l (i : Int) kr k0 = kr 71) := by
  intro q
  induction q with
  | zero =>
    intro i n a1 a2 a3
    obtain ⟨n, rfl⟩ : ∃ m, n = m + 1 := ⟨n - 1, by omega⟩
    have : allOn g l := fun j hj => a3 j (by omega)
    refine ⟨fun _ => ?_, fun h => absurd this h⟩
    unfold r7CheckGroup_l11 r7CheckGroup_b11
    rw [ltF (show l.n ≤ i by omega), cond_false]
  | succ q ih =>
    intro i n a1 a2 a3
    obtain ⟨n, rfl⟩ : ∃ m, n = m + 1 := ⟨n - 1, by omega⟩
    have e0 : decide ((i : Int) < (l.n : Int)) = true := ltT (by omega)
    have hi : i < l.n := by omega
    have in15 : ∀ kk : Bool → Option R, r7CheckGroup_l15 N N g l (i : Int) false (0 : Int) kk = kk (decide (onP g (l.f i))) := fun kk => rg_l15 N hg hi kk g.n 0 N false (by omega) (by omega) ⟨fun h => (by cases h), fun ⟨j, j1, _⟩ => (by omega)⟩
    by_cases hv : onP g (l.f i)
    · have next := ih (i + 1) n (by omega) (by omega) (fun j hj => by
        by_cases e : j = i
        · subst e; exact hv
        · exact a3 j (by omega))
      have go : r7CheckGroup_l11 N (n + 1) g l (i : Int) kr k0 = r7CheckGroup_l11 N n g l ((i + 1 : Nat) : Int) kr k0 := by
        conv => lhs; unfold r7CheckGroup_l11 r7CheckGroup_b11
        rw [e0, cond_true, in15, decide_eq_true hv, Bool.not_true, cond_false, w64_succ (show i < 1000000000000 by omega)]
      rw [go]
      exact next
    · refine ⟨fun h => absurd (h i (by omega)) hv, fun _ => ?_⟩
      unfold r7CheckGroup_l11 r7CheckGroup_b11
      rw [e0, cond_true, in15, decide_eq_false hv, Bool.not_false, cond_true]
open Classical in
theorem refGroup_eq {N : Nat} (hN : 1000 < N) {g : Arr api_Car} (hg : g.n ≤ 100) {l : Arr api_Press} (hl : l.n ≤ 1000) {R : Type} (k : Int → Option R) : r7CheckGroup N g l k = k (errG g l) := by
  rw [r7CheckGroup_def]
  unfold r7CheckGroup_m errG
  rw [from_eq]
  by_cases h1 : (1 ≤ (g.n : Int) ∧ (g.n : Int) ≤ 3)
  rotate_left
  · rw [decide_eq_false h1, if_neg h1]; rfl
  rw [decide_eq_true h1, if_pos h1, Bool.not_true, cond_false]
  obtain ⟨b1, b2⟩ := rg_l4 N hg l (fun r618 => k r618) (fun (_ : Unit) => r7isPresses N l (fun r619 => bif !r619 then k (71 : Int) else r7CheckGroup_l11 N N g l (0 : Int) (fun r630 => k r630) (fun (_ : Unit) => k (0 : Int)))) g.n 0 N (by omega) (by omega) (fun j hj => by omega)
  by_cases h2 : carsP g
  rotate_left
  · rw [if_neg h2]; exact b2 h2
  rw [if_pos h2]
  refine (b1 h2).trans ?_
  rw [isP_eq hN hl]
  by_cases h3 : tAll l
  rotate_left
  · rw [decide_eq_false h3, if_neg h3]; rfl
  rw [decide_eq_true h3, if_pos h3, Bool.not_true, cond_false]
  obtain ⟨a1, a2⟩ := rg_l11 hN hg hl (fun r630 => k r630) (fun (_ : Unit) => k (0 : Int)) l.n 0 N (by omega) (by omega) (fun j hj => by omega)
  by_cases h4 : allOn g l
  · rw [if_pos h4]; exact a1 h4
  · rw [if_neg h4]; exact a2 h4
end
end Go.Proofs.Ytlphgonhenegoaa
set_option linter.unusedVariables false
set_option linter.unusedSimpArgs false
set_option maxHeartbeats 0
set_option maxRecDepth 100000
namespace Go.Proofs.Ytlphgonhenegoaa
open Go.Sx
section
structure Gr (a : Arr Int) (n : Nat) (m : Int) : Prop where
  le : ∀ i, i < n → a.f i ≤ m
  ex : ∃ i, i < n ∧ m = a.f i
structure Shr (g : Arr api_Car) (l : Arr api_Press) (sh : Arr Int) : Prop where
  n : sh.n = l.n
  i : ∀ k, k < l.n → 0 ≤ sh.f k ∧ sh.f k < (g.n : Int)
  o : ∀ k, k < l.n → inP g (l.f k) (sh.f k).toNat
def cnOf (x : api_Car) : Cn := ⟨x.Low.toNat, x.High.toNat, x.Start.toNat, x.Move.toNat, x.Stop.toNat⟩
def wS (g : Arr api_Car) (l : Arr api_Press) (sh : Arr Int) (k : Nat) : Nat := wt (cnOf (g.f (sh.f k).toNat)) l (ofS sh (sh.f k)) k
structure Lng (g : Arr api_Car) (l : Arr api_Press) (sh : Arr Int) (i : Nat) (m : Int) : Prop where
  le : ∀ k, k < l.n → (sh.f k).toNat < i → ((wS g l sh k : Nat) : Int) ≤ m
  ex : m = 0 ∨ ∃ k, k < l.n ∧ (sh.f k).toNat < i ∧ m = ((wS g l sh k : Nat) : Int)
  z : 0 ≤ m
end
end Go.Proofs.Ytlphgonhenegoaa
set_option linter.unusedVariables false
set_option linter.unusedSimpArgs false
set_option maxHeartbeats 0
set_option maxRecDepth 100000
namespace Go.Proofs.Ytlphgonhenegoaa
open Go.Sx
section
structure Flt (l : Arr api_Press) (p : Nat → Bool) (k : Nat) (l' : Arr api_Press) (ix : Nat → Nat) : Prop where
  f : ∀ j, j < l'.n → l'.f j = l.f (ix j) ∧ ix j < k ∧ p (ix j) = true
  up : ∀ j j', j < j' → j' < l'.n → ix j < ix j'
  all : ∀ x, x < k → p x = true → ∃ j, j < l'.n ∧ ix j = x
variable {l l' : Arr api_Press} {p : Nat → Bool} {ix : Nat → Nat}
theorem Flt.ge {k : Nat} (h : Flt l p k l' ix) : ∀ j, j < l'.n → j ≤ ix j := by
  intro j
  induction j with
  | zero => intro _; exact Nat.zero_le _
  | succ j ih =>
    intro hj
    have := ih (by omega)
    have := h.up j (j + 1) (by omega) hj
    omega
theorem Flt.le {k : Nat} (h : Flt l p k l' ix) : l'.n ≤ k := by
  by_cases e : l'.n = 0
  · omega
  · have := h.ge (l'.n - 1) (by omega)
    have := (h.f (l'.n - 1) (by omega)).2.1
    omega
theorem Flt.pA (h : Flt l p l.n l' ix) {j : Nat} (hj : j < l'.n) : pA l' j = pA l (ix j) := by unfold _root_.Go.Proofs.Ytlphgonhenegoaa.pA; rw [(h.f j hj).1]
theorem Flt.pG (h : Flt l p l.n l' ix) {j : Nat} (hj : j < l'.n) : pG l' j = pG l (ix j) := by unfold _root_.Go.Proofs.Ytlphgonhenegoaa.pG; rw [(h.f j hj).1]
theorem Flt.pP (h : Flt l p l.n l' ix) (t : Nat) : pP l' allP t = pP l p t := by
  refine Nat.eq_of_testBit_eq fun f => ?_
  rw [Bool.eq_iff_iff]
  unfold _root_.Go.Proofs.Ytlphgonhenegoaa.pP
  rw [pset_bit, pset_bit]
  constructor
  · rintro ⟨j, j1, j2, j3, j4⟩
    obtain ⟨a, b, c⟩ := h.f j j1
    exact ⟨ix j, b, by rw [← h.pA j1]; exact j2, c, by rw [← h.pG j1]; exact j4⟩
  · rintro ⟨x, x1, x2, x3, x4⟩
    obtain ⟨j, j1, rfl⟩ := h.all x x1 x3
    exact ⟨j, j1, by rw [h.pA j1]; exact x2, rfl, by rw [h.pG j1]; exact x4⟩
theorem Flt.st (h : Flt l p l.n l' ix) (c : Cn) (t : Nat) : st c l' allP t = st c l p t := by
  induction t with
  | zero => rfl
  | succ t ih => unfold _root_.Go.Proofs.Ytlphgonhenegoaa.st; rw [ih, h.pP]
theorem Flt.wt (h : Flt l p l.n l' ix) (c : Cn) {j : Nat} (hj : j < l'.n) : wt c l' allP j = wt c l p (ix j) := by
  unfold _root_.Go.Proofs.Ytlphgonhenegoaa.wt
  rw [h.pA hj, h.pG hj]
  congr 1
  funext d
  unfold sv
  rw [h.st, h.pP]
theorem Flt.vl (h : Flt l p l.n l' ix) {c : Cn} (hv : VQ c l p) : VL c l' := by
  have hle := h.le
  obtain ⟨v1, v2, v3, v4⟩ := hv
  refine ⟨by omega, fun j hj => ?_, fun i j hij hj => ?_, fun j hj _ => ?_⟩
  · obtain ⟨a, b, d⟩ := h.f j hj
    rw [a]; exact v2 _ b
  · rw [(h.f i (by omega)).1, (h.f j hj).1]
    refine v3 _ _ ?_ (h.f j hj).2.1
    by_cases e : i = j
    · subst e; exact Nat.le_refl _
    · exact Nat.le_of_lt (h.up i j (by omega) hj)
  · obtain ⟨a, b, d⟩ := h.f j hj
    rw [a]; exact v4 _ b d
theorem Flt.skip {k : Nat} (h : Flt l p k l' ix) (hp : p k = false) : Flt l p (k + 1) l' ix :=
  ⟨fun j hj => by obtain ⟨a, b, d⟩ := h.f j hj; exact ⟨a, by omega, d⟩, h.up, fun x hx hpx => by
    by_cases e : x = k
    · subst e; rw [hp] at hpx; cases hpx
    · exact h.all x (by omega) hpx⟩
theorem Flt.take {k : Nat} (h : Flt l p k l' ix) (hp : p k = true) {l2 : Arr api_Press} (h2 : l2.Is (l'.n + 1) (fun j => if j < l'.n then l'.f j else l.f k)) : Flt l p (k + 1) l2 (fun j => if j < l'.n then ix j else k) := by
  have hn := h2.1
  refine ⟨fun j hj => ?_, fun j j' hjj hj => ?_, fun x hx hpx => ?_⟩
  · rw [h2.2 j (by omega)]
    by_cases e : j < l'.n
    · simp only [e, if_true]
      obtain ⟨a, b, d⟩ := h.f j e
      exact ⟨a, by omega, d⟩
    · simp only [e, if_false]
      exact ⟨trivial, by omega, hp⟩
  · show (if j < l'.n then ix j else k) < (if j' < l'.n then ix j' else k)
    by_cases e : j' < l'.n
    · rw [if_pos (show j < l'.n by omega), if_pos e]; exact h.up j j' hjj e
    · rw [if_pos (show j < l'.n by omega), if_neg e]; exact (h.f j (by omega)).2.1
  · by_cases e : x = k
    · exact ⟨l'.n, by omega, by simp [e]⟩
    · obtain ⟨j, j1, j2⟩ := h.all x (by omega) hpx
      exact ⟨j, by omega, by simp only [j1, if_true]; exact j2⟩
end
end Go.Proofs.Ytlphgonhenegoaa
set_option linter.unusedVariables false
set_option linter.unusedSimpArgs false
set_option maxHeartbeats 0
set_option maxRecDepth 100000
namespace Go.Proofs.Ytlphgonhenegoaa
open Go.Sx
section
def gvP (g : Arr api_Car) (l : Arr api_Press) (sh : Arr Int) (k : Nat) : Prop := (0 ≤ sh.f k ∧ sh.f k ≤ (g.n : Int) - 1) ∧ inP g (l.f k) (sh.f k).toNat
theorem Shr.of {g : Arr api_Car} {l : Arr api_Press} {sh : Arr Int} (hn : sh.n = l.n) (h : ∀ k, k < l.n → gvP g l sh k) : Shr g l sh := ⟨hn, fun k hk => by have := (h k hk).1; omega, fun k hk => (h k hk).2⟩
theorem errG_zero {g : Arr api_Car} {l : Arr api_Press} (h : errG g l = 0) : (1 ≤ g.n ∧ g.n ≤ 3) ∧ carsP g ∧ tAll l ∧ allOn g l := by
  unfold errG at h
  split at h
  · next h1 =>
    split at h
    · next h2 =>
      split at h
      · next h3 =>
        split at h
        · next h4 => exact ⟨by omega, h2, h3, h4⟩
        · cases h
      · cases h
    · cases h
  · cases h
end
end Go.Proofs.Ytlphgonhenegoaa
set_option linter.unusedVariables false
set_option linter.unusedSimpArgs false
set_option maxHeartbeats 0
set_option maxRecDepth 100000
namespace Go.Proofs.Ytlphgonhenegoaa
open Go.Sx
section
def dig (G L n k : Nat) : Nat := n / G ^ (L - 1 - k) % G
def dg (G L n : Nat) : Nat → Int := fun k => ((dig G L n k : Nat) : Int)
theorem div_pow_of {G q P n : Nat} (h1 : P * G ^ q ≤ n) (h2 : n < (P + 1) * G ^ q) : n / G ^ q = P := by
  have hp : 0 < G ^ q := by
    rcases Nat.eq_zero_or_pos (G ^ q) with h | h
    · rw [h] at h2; omega
    · exact h
  refine Nat.le_antisymm ?_ ((Nat.le_div_iff_mul_le hp).2 h1)
  have := (Nat.div_lt_iff_lt_mul hp).2 h2
  omega
theorem dig_pre {G i q P n : Nat} (h1 : P * G ^ q ≤ n) (h2 : n < (P + 1) * G ^ q) {k : Nat} (hk : k < i) : dig G (i + q) n k = dig G i P k := by
  unfold dig
  have : i + q - 1 - k = q + (i - 1 - k) := by omega
  rw [this, Nat.pow_add, ← Nat.div_div_eq_div_mul, div_pow_of h1 h2]
theorem dig_snoc {G i P c : Nat} (hc : c < G) : (∀ k, k < i → dig G (i + 1) (P * G + c) k = dig G i P k) ∧ dig G (i + 1) (P * G + c) i = c := by
  refine ⟨fun k hk => ?_, ?_⟩
  · refine dig_pre (i := i) (q := 1) (P := P) (n := P * G + c) ?_ ?_ hk
    · rw [Nat.pow_one]; omega
    · rw [Nat.pow_one, Nat.add_mul]; omega
  · unfold dig
    have : i + 1 - 1 - i = 0 := by omega
    rw [this, Nat.pow_zero, Nat.div_one, Nat.add_comm, Nat.add_mul_mod_self_right, Nat.mod_eq_of_lt hc]
structure BS where
  m : Int
  n : Nat
  x : Nat → Int
def stepB (val : (Nat → Int) → Int) (L : Nat) (x : Nat → Int) (s : BS) : BS := if 0 ≤ val x ∧ (s.m < 0 ∨ val x < s.m) then ⟨val x, L, x⟩ else s
def foldB (val : (Nat → Int) → Int) (G L : Nat) : Nat → Nat → BS → BS
  | _, 0, s => s
  | a, c + 1, s => foldB val G L (a + 1) c (stepB val L (dg G L a) s)
theorem foldB_add (val : (Nat → Int) → Int) (G L : Nat) : ∀ (c d a : Nat) (s : BS), foldB val G L a (c + d) s = foldB val G L (a + c) d (foldB val G L a c s) := by
  intro c
  induction c with
  | zero => intro d a s; simp [foldB]
  | succ c ih =>
    intro d a s
    rw [show c + 1 + d = (c + d) + 1 by omega]
    show foldB val G L (a + 1) (c + d) (stepB val L (dg G L a) s) = foldB val G L (a + (c + 1)) d (foldB val G L (a + 1) c (stepB val L (dg G L a) s))
    rw [ih, show a + 1 + c = a + (c + 1) by omega]
theorem foldB_id {val : (Nat → Int) → Int} {G L : Nat} : ∀ (c a : Nat) (s : BS), (∀ n, a ≤ n → n < a + c → val (dg G L n) < 0) → foldB val G L a c s = s := by
  intro c
  induction c with
  | zero => intro a s _; rfl
  | succ c ih =>
    intro a s h
    show foldB val G L (a + 1) c (stepB val L (dg G L a) s) = s
    have h0 := h a (Nat.le_refl _) (by omega)
    have : stepB val L (dg G L a) s = s := by
      unfold stepB
      rw [if_neg (fun h => by have := h.1; omega)]
    rw [this]
    exact ih (a + 1) s fun n h1 h2 => h n (by omega) (by omega)
structure BOk (val : (Nat → Int) → Int) (G L a b : Nat) (s : BS) : Prop where
  le : ∀ n, a ≤ n → n < b → 0 ≤ val (dg G L n) → 0 ≤ s.m ∧ s.m ≤ val (dg G L n)
  ex : (s.m = -1 ∧ s.n = 0) ∨ (s.n = L ∧ 0 ≤ s.m ∧ ∃ n, a ≤ n ∧ n < b ∧ s.m = val (dg G L n) ∧ s.x = dg G L n)
theorem BOk.step {val : (Nat → Int) → Int} {G L a b : Nat} {s : BS} (h : BOk val G L a b s) (hab : a ≤ b) : BOk val G L a (b + 1) (stepB val L (dg G L b) s) := by
  unfold stepB
  by_cases hc : 0 ≤ val (dg G L b) ∧ (s.m < 0 ∨ val (dg G L b) < s.m)
  · rw [if_pos hc]
    refine ⟨fun n h1 h2 h3 => ?_, .inr ⟨rfl, hc.1, b, hab, by omega, rfl, rfl⟩⟩
    by_cases e : n = b
    · subst e; exact ⟨hc.1, Int.le_refl _⟩
    · have := h.le n h1 (by omega) h3
      exact ⟨hc.1, by show val (dg G L b) ≤ _; omega⟩
  · rw [if_neg hc]
    refine ⟨fun n h1 h2 h3 => ?_, ?_⟩
    · by_cases e : n = b
      · subst e
        omega
      · exact h.le n h1 (by omega) h3
    · rcases h.ex with e | ⟨e1, e2, n, e3, e4, e5⟩
      · exact .inl e
      · exact .inr ⟨e1, e2, n, e3, by omega, e5⟩
theorem BOk.fold {val : (Nat → Int) → Int} {G L : Nat} : ∀ (c a b : Nat) (s : BS), a ≤ b → BOk val G L a b s → BOk val G L a (b + c) (foldB val G L b c s) := by
  intro c
  induction c with
  | zero => intro a b s _ h; exact h
  | succ c ih =>
    intro a b s hab h
    rw [show b + (c + 1) = b + 1 + c by omega]
    exact ih a (b + 1) _ (by omega) (h.step hab)
theorem pPS_congr {l : Arr api_Press} {p q : Nat → Bool} (h : ∀ k, k < l.n → p k = q k) (t : Nat) : pP l p t = pP l q t := by
  refine Nat.eq_of_testBit_eq fun f => ?_
  rw [Bool.eq_iff_iff]
  unfold pP
  rw [pset_bit, pset_bit]
  constructor
  · rintro ⟨j, j1, j2, j3, j4⟩
    exact ⟨j, j1, j2, by rw [← h j j1]; exact j3, j4⟩
  · rintro ⟨j, j1, j2, j3, j4⟩
    exact ⟨j, j1, j2, by rw [h j j1]; exact j3, j4⟩
theorem stS_congr {l : Arr api_Press} {p q : Nat → Bool} (h : ∀ k, k < l.n → p k = q k) (c : Cn) (t : Nat) : st c l p t = st c l q t := by
  induction t with
  | zero => rfl
  | succ t ih => unfold st; rw [ih, pPS_congr h]
theorem wtS_congr {l : Arr api_Press} {p q : Nat → Bool} (h : ∀ k, k < l.n → p k = q k) (c : Cn) (j : Nat) : wt c l p j = wt c l q j := by
  unfold wt
  congr 1
  funext d
  unfold sv
  rw [stS_congr h, pPS_congr h]
theorem wS_congr {g : Arr api_Car} {l : Arr api_Press} {sh sh' : Arr Int} (h : ∀ k, k < l.n → sh.f k = sh'.f k) {k : Nat} (hk : k < l.n) : wS g l sh k = wS g l sh' k := by
  unfold wS
  rw [h k hk]
  exact wtS_congr (fun j hj => by unfold ofS; rw [h j hj]) _ _
theorem Lng.congr {g : Arr api_Car} {l : Arr api_Press} {sh sh' : Arr Int} (h : ∀ k, k < l.n → sh.f k = sh'.f k) {i : Nat} {m : Int} (hl : Lng g l sh i m) : Lng g l sh' i m :=
  ⟨fun k hk hlt => by rw [← wS_congr h hk]; exact hl.le k hk (by rw [h k hk]; exact hlt), by
    rcases hl.ex with e | ⟨k, k1, k2, k3⟩
    · exact .inl e
    · exact .inr ⟨k, k1, by rw [← h k k1]; exact k2, by rw [← wS_congr h k1]; exact k3⟩, hl.z⟩
theorem Shr.congr {g : Arr api_Car} {l : Arr api_Press} {sh sh' : Arr Int} (hn : sh'.n = l.n) (h : ∀ k, k < l.n → sh.f k = sh'.f k) (hs : Shr g l sh) : Shr g l sh' :=
  ⟨hn, fun k hk => by rw [← h k hk]; exact hs.i k hk, fun k hk => by rw [← h k hk]; exact hs.o k hk⟩
end
end Go.Proofs.Ytlphgonhenegoaa
set_option linter.unusedVariables false
set_option linter.unusedSimpArgs false
set_option maxHeartbeats 0
set_option maxRecDepth 100000
namespace Go.Proofs.Ytlphgonhenegoaa
open Go.Sx
section
theorem clone_eq (N : Nat) {a : Arr Int} (h : a.n ≤ 1000) {R : Type} (k : Bool → Arr Int → Option R) : slices_Clone___int_int_ N false a k = k false a := by
  rw [slices_Clone___int_int__def]
  unfold slices_Clone___int_int__m
  rw [cond_false, room_of (by omega), cond_true]
  have e1 : (bif Arr.n a == (0 : Nat) then false else false) = false := by cases (Arr.n a == (0 : Nat)) <;> rfl
  rw [e1]
  refine congrArg (k false) ?_
  obtain ⟨n, f⟩ := a
  unfold lst
  congr 1
  · exact Nat.zero_add n
theorem zero_is {a : Nat → Nat → SV} (f : Nat → Int) : (lst intC (0 : Nat) a).Is 0 f := ⟨rfl, fun i hi => by omega⟩
theorem w64_small {x : Nat} (h : x ≤ 1000) : w64 (x : Int) = (x : Int) := w64_eq (by omega) (by omega)
end
end Go.Proofs.Ytlphgonhenegoaa
