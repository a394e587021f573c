import Derived.Test.YtpillmoddoccfabDoorSiP2
set_option linter.unusedVariables false
set_option linter.unusedSimpArgs false
set_option linter.unusedSectionVars false
set_option maxHeartbeats 0
set_option maxRecDepth 100000
namespace Go.Proofs.YtpillmoddoccfabDoor
namespace Si
open Go.Sx
open Classical
noncomputable section
variable {R : Type}
def valV (p : api_Place) (n : Int) : Int := if n = 0 then p.Values.a0 else p.Values.a1
def rawL (m : api_Machine) (p : api_Place) (inp : Nat) (x : api_Literal) : Bool :=
  if x.Kind = 1 then inp.testBit x.Number.toNat else if x.Kind = 2 then decide (valV p x.Number ≥ x.Value) else (m.States.f p.State.toNat).Shows.toNat.testBit x.Number.toNat
def litV (m : api_Machine) (p : api_Place) (inp : Nat) (x : api_Literal) : Bool := !(rawL m p inp x) == x.Not
def termV (m : api_Machine) (p : api_Place) (inp : Nat) (t : Arr api_Literal) : Prop := ∀ j, j < t.n → litV m p inp (t.f j) = true
def condV (m : api_Machine) (p : api_Place) (inp : Nat) (c : Arr (Arr api_Literal)) : Prop := ∃ i, i < c.n ∧ termV m p inp (c.f i)
structure PlP (m : api_Machine) (p : api_Place) : Prop where
  s : 0 ≤ p.State ∧ p.State < (m.States.n : Int)
  a0 : 0 ≤ p.Values.a0 ∧ p.Values.a0 ≤ (if 0 < m.Counters.n then (m.Counters.f 0).Max else 0)
  a1 : 0 ≤ p.Values.a1 ∧ p.Values.a1 ≤ (if 1 < m.Counters.n then (m.Counters.f 1).Max else 0)
section
variable {m : api_Machine} (v : VM m) {p : api_Place} (hp : PlP m p) {inp : Nat} (hi : inp < 16)
include v hp hi
theorem lit_eq (N : Nat) {x : api_Literal} (h : litP m x) (k : Bool → Option R) : sP_literal N m.Inputs m.Outputs m.Counters m.States m.Rules x p (inp : Int) k = k (litV m p inp x) := by
  have v1 := v.i
  have v2 := v.c
  have v3 := v.o
  rw [sP_literal_def]
  unfold sP_literal_m litV rawL
  rcases h with ⟨h1, h2, h3⟩ | ⟨h1, h2, h3⟩ | ⟨h1, h2, h3⟩
  · have e : (x.Kind == 1) = true := by rw [h1]; rfl
    have c1 : ¬ (x.Number < 0) := by omega
    have hb := bit64 (a := (inp : Int)) (by omega) (by omega) (i := x.Number.toNat) (by omega)
    rw [Int.toNat_natCast] at hb
    rw [show w64 _ = _ from hb] 
    simp only [e, cond_true, c1, decide_false, cond_false, h1, if_true]
    cases inp.testBit x.Number.toNat <;> rfl
  · have e1 : (x.Kind == 1) = false := by rw [h1]; rfl
    have e2 : (x.Kind == 2) = true := by rw [h1]; rfl
    have c1 : (decide ((0 : Int) ≤ x.Number) && decide (x.Number < (((2 : Nat) : Nat) : Int))) = true := by simp; omega
    have hv : pickI x.Number 0 [p.Values.a0, p.Values.a1] = valV p x.Number := by
      unfold valV
      by_cases e : x.Number = 0
      · rw [if_pos e, e]; rfl
      · have : x.Number = 1 := by omega
        rw [if_neg e, this]; rfl
    rw [if_neg (show ¬ x.Kind = 1 by omega), if_pos h1]
    simp only [e1, e2, cond_true, cond_false, c1, hv]
  · have e1 : (x.Kind == 1) = false := by rw [h1]; rfl
    have e2 : (x.Kind == 2) = false := by rw [h1]; rfl
    have e3 : (x.Kind == 3) = false := by rw [h1]; rfl
    have e4 : (x.Kind == 4) = true := by rw [h1]; rfl
    have c1 : ¬ (x.Number < 0) := by omega
    have hs := hp.s
    have c2 : (decide ((0 : Int) ≤ p.State) && decide (p.State < (m.States.n : Int))) = true := by simp; omega
    have hsh := v.sh p.State.toNat (by omega)
    have hpw : 2 ^ m.Outputs.n ≤ 2 ^ 6 := Nat.pow_le_pow_right (by omega) v3
    have hb := bit64 (a := (m.States.f p.State.toNat).Shows) hsh.1 (by omega) (i := x.Number.toNat) (by omega)
    rw [show w64 (↑(BitVec.toNat (BitVec.ofInt (IntKind.bits IntKind.i64) (Int.fdiv (m.States.f p.State.toNat).Shows ((2 : Int) ^ min (Int.toNat x.Number) (IntKind.bits IntKind.i64))) &&& BitVec.ofInt (IntKind.bits IntKind.i64) (1 : Int))) : Int) = _ from hb]
    rw [if_neg (show ¬ x.Kind = 1 by omega), if_neg (show ¬ x.Kind = 2 by omega)]
    simp only [e1, e2, e3, e4, cond_true, cond_false, c1, c2, decide_false]
    cases (m.States.f p.State.toNat).Shows.toNat.testBit x.Number.toNat <;> rfl
theorem idx3_l2 (N : Nat) {t : Arr api_Literal} (hn : t.n ≤ 6) (ht : ∀ j, j < t.n → litP m (t.f j)) (k : Bool → Option R) : ∀ (q i n : Nat), i + q = t.n → q < n → (∀ j, j < i → litV m p inp (t.f j) = true) →
    ixL_v3_l2 N n t (t.n : Int) (i : Int) m.Inputs m.Outputs m.Counters m.States m.Rules p (inp : Int) (fun r => k (decide (r ≥ 0))) (fun _ => k (decide ((-1 : Int) ≥ 0))) = k (!decide (termV m p inp t)) := by
  intro q
  induction q with
  | zero =>
    intro i n h1 h2 h3
    obtain ⟨n, rfl⟩ : ∃ m, n = m + 1 := ⟨n - 1, by omega⟩
    unfold ixL_v3_l2 ixL_v3_b2
    simp only [ltF (show t.n ≤ i by omega), cond_false]
    rw [decide_eq_true (show termV m p inp t from fun j hj => h3 j (by omega))]
    rfl
  | succ q ih =>
    intro i n h1 h2 h3
    obtain ⟨n, rfl⟩ : ∃ m, n = m + 1 := ⟨n - 1, by omega⟩
    unfold ixL_v3_l2 ixL_v3_b2
    have e : ∀ kk : Bool → Option R, sP_Holds_1_1 N (t.f i) m.Inputs m.Outputs m.Counters m.States m.Rules p (inp : Int) kk = kk (!litV m p inp (t.f i)) := fun kk => by
      rw [sP_Holds_1_1_def]
      unfold sP_Holds_1_1_m
      rw [lit_eq v hp hi N (ht i (by omega))]
    simp only [ltT (show i < t.n by omega), nat_nonneg, Bool.and_self, cond_true, Int.toNat_natCast, w64_succ (show i < 1000000000000 by omega), e]
    cases hl : litV m p inp (t.f i)
    · simp only [Bool.not_false, cond_true]
      rw [decide_eq_false (show ¬ termV m p inp t from fun h => by have := h i (by omega); rw [hl] at this; cases this)]
      have : (i : Int) ≥ 0 := by omega
      simp only [this, decide_true, Bool.not_false]
    · simp only [Bool.not_true, cond_false]
      exact ih (i + 1) n (by omega) (by omega) (fun j hj => by
        by_cases ej : j = i
        · subst ej; exact hl
        · exact h3 j (by omega))
theorem holds1_eq {N : Nat} (hN : 100 ≤ N) {t : Arr api_Literal} (hn : t.n ≤ 6) (ht : ∀ j, j < t.n → litP m (t.f j)) (k : Bool → Int → Int → Int → Option R) :
    sP_Holds_1 N t m.Inputs m.Outputs m.Counters m.States m.Rules p.State p.Values.a0 p.Values.a1 (inp : Int) k = k (decide (termV m p inp t)) p.State p.Values.a0 p.Values.a1 := by
  rw [sP_Holds_1_def]
  unfold sP_Holds_1_m
  rw [coL_v3_def]
  unfold coL_v3_m
  rw [ixL_v3_def]
  unfold ixL_v3_m
  have hpe : (api_Place.mk p.State (Arr2_int.mk p.Values.a0 p.Values.a1)) = p := rfl
  rw [hpe]
  refine (idx3_l2 v hp hi N hn ht (fun r => k (!r) p.State p.Values.a0 p.Values.a1) t.n 0 N (by omega) (by omega) (fun j hj => by omega)).trans ?_
  rw [Bool.not_not]
theorem idxC_l2 (N : Nat) (hN : 100 ≤ N) {c : Arr (Arr api_Literal)} (h : condP m c) (k : Bool → Option R) : ∀ (q i n : Nat), i + q = c.n → q < n → (∀ j, j < i → ¬ termV m p inp (c.f j)) →
    ixT_l2 N n c (c.n : Int) (i : Int) m.Inputs m.Outputs m.Counters m.States m.Rules p.State p.Values.a0 p.Values.a1 (inp : Int) (fun r _ _ _ => k (decide (r ≥ 0))) (fun _ _ _ => k (decide ((-1 : Int) ≥ 0))) = k (decide (condV m p inp c)) := by
  intro q
  induction q with
  | zero =>
    intro i n h1 h2 h3
    obtain ⟨n, rfl⟩ : ∃ m, n = m + 1 := ⟨n - 1, by omega⟩
    unfold ixT_l2 ixT_b2
    simp only [ltF (show c.n ≤ i by omega), cond_false]
    rw [decide_eq_false (show ¬ condV m p inp c from fun ⟨j, h4, h5⟩ => h3 j (by omega) h5)]
    rfl
  | succ q ih =>
    intro i n h1 h2 h3
    obtain ⟨n, rfl⟩ : ∃ m, n = m + 1 := ⟨n - 1, by omega⟩
    obtain ⟨t1, t2⟩ := h.t i (by omega)
    have hn := h.n
    unfold ixT_l2 ixT_b2
    simp only [ltT (show i < c.n by omega), nat_nonneg, Bool.and_self, cond_true, Int.toNat_natCast, w64_succ (show i < 1000000000000 by omega), holds1_eq v hp hi hN t1 t2]
    by_cases hh : termV m p inp (c.f i)
    · rw [decide_eq_true hh, cond_true, decide_eq_true (show condV m p inp c from ⟨i, by omega, hh⟩)]
    · rw [decide_eq_false hh, cond_false]
      exact ih (i + 1) n (by omega) (by omega) (fun j hj => by
        by_cases ej : j = i
        · subst ej; exact hh
        · exact h3 j (by omega))
theorem holds_eq {N : Nat} (hN : 100 ≤ N) {c : Arr (Arr api_Literal)} (h : condP m c) (k : Bool → Option R) :
    sP_Holds N m.Inputs m.Outputs m.Counters m.States m.Rules c p (inp : Int) k = k (decide (condV m p inp c)) := by
  rw [sP_Holds_def]
  unfold sP_Holds_m
  rw [coT_def]
  unfold coT_m
  rw [ixT_def]
  unfold ixT_m
  have hn := h.n
  exact idxC_l2 v hp hi N hN h k c.n 0 N (by omega) (by omega) (fun j hj => by omega)
end
def setV (m : api_Machine) (x : api_Set) (p : api_Place) : api_Place :=
  let w := valV p x.Counter
  let z := if x.Kind = 1 then 0 else if x.Kind = 2 then mnI (w + 1) (m.Counters.f x.Counter.toNat).Max else mxI (w - 1) 0
  ⟨p.State, ⟨if x.Counter = 0 then z else p.Values.a0, if x.Counter = 1 then z else p.Values.a1⟩⟩
def setsV (m : api_Machine) (s : Arr api_Set) (p : api_Place) : Nat → api_Place
  | 0 => p
  | i + 1 => setV m (s.f i) (setsV m s p i)
def fires (m : api_Machine) (p : api_Place) (inp : Nat) (i : Nat) : Prop := ((m.Rules.f i).From = -1 ∨ (m.Rules.f i).From = p.State) ∧ condV m p inp (m.Rules.f i).When
def stepV (m : api_Machine) (p : api_Place) (inp : Nat) : Nat → Nat → api_Place
  | 0, _ => p
  | q + 1, i => if fires m p inp i then ⟨(m.Rules.f i).To, (setsV m (m.Rules.f i).Sets p (m.Rules.f i).Sets.n).Values⟩ else stepV m p inp q (i + 1)
def stepE (m : api_Machine) (p : api_Place) (inp : Nat) : api_Place := stepV m p inp m.Rules.n 0
theorem val_le {m : api_Machine} (v : VM m) {p : api_Place} (hp : PlP m p) {x : Int} (h0 : 0 ≤ x) (h1 : x < (m.Counters.n : Int)) : 0 ≤ valV p x ∧ valV p x ≤ (m.Counters.f x.toNat).Max ∧ 1 ≤ (m.Counters.f x.toNat).Max ∧ (m.Counters.f x.toNat).Max ≤ 7 := by
  have hc := v.c
  have hm := v.cm x.toNat (by omega)
  unfold valV
  by_cases e : x = 0
  · subst e
    have := hp.a0
    rw [if_pos (by omega)] at this
    rw [if_pos rfl]
    exact ⟨this.1, this.2, hm⟩
  · have e1 : x = 1 := by omega
    subst e1
    have := hp.a1
    rw [if_pos (by omega)] at this
    rw [if_neg (by omega)]
    exact ⟨this.1, this.2, hm⟩
theorem set_pl {m : api_Machine} (v : VM m) {p : api_Place} (hp : PlP m p) {x : api_Set} (hk : 1 ≤ x.Kind ∧ x.Kind ≤ 3) (hc : 0 ≤ x.Counter ∧ x.Counter ≤ (m.Counters.n : Int) - 1) : PlP m (setV m x p) := by
  obtain ⟨b1, b2, b3, b4⟩ := val_le v hp hc.1 (show x.Counter < (m.Counters.n : Int) by omega)
  have hv := v.c
  have hz : 0 ≤ (if x.Kind = 1 then 0 else if x.Kind = 2 then mnI (valV p x.Counter + 1) (m.Counters.f x.Counter.toNat).Max else mxI (valV p x.Counter - 1) 0) ∧ (if x.Kind = 1 then 0 else if x.Kind = 2 then mnI (valV p x.Counter + 1) (m.Counters.f x.Counter.toNat).Max else mxI (valV p x.Counter - 1) 0) ≤ (m.Counters.f x.Counter.toNat).Max := by
    split
    · omega
    · split
      · rw [mnI_eq]; omega
      · rw [mxI_eq]; omega
  show PlP m ⟨p.State, ⟨if x.Counter = 0 then (if x.Kind = 1 then 0 else if x.Kind = 2 then mnI (valV p x.Counter + 1) (m.Counters.f x.Counter.toNat).Max else mxI (valV p x.Counter - 1) 0) else p.Values.a0, if x.Counter = 1 then (if x.Kind = 1 then 0 else if x.Kind = 2 then mnI (valV p x.Counter + 1) (m.Counters.f x.Counter.toNat).Max else mxI (valV p x.Counter - 1) 0) else p.Values.a1⟩⟩
  generalize (if x.Kind = 1 then (0 : Int) else if x.Kind = 2 then mnI (valV p x.Counter + 1) (m.Counters.f x.Counter.toNat).Max else mxI (valV p x.Counter - 1) 0) = z at *
  refine ⟨hp.s, ?_, ?_⟩
  · show 0 ≤ (if x.Counter = 0 then z else p.Values.a0) ∧ (if x.Counter = 0 then z else p.Values.a0) ≤ _
    by_cases e : x.Counter = 0
    · rw [if_pos e, if_pos (show 0 < m.Counters.n by omega)]
      rw [e] at hz
      exact hz
    · rw [if_neg e]; exact hp.a0
  · show 0 ≤ (if x.Counter = 1 then z else p.Values.a1) ∧ (if x.Counter = 1 then z else p.Values.a1) ≤ _
    by_cases e : x.Counter = 1
    · rw [if_pos e, if_pos (show 1 < m.Counters.n by omega)]
      rw [e] at hz
      exact hz
    · rw [if_neg e]; exact hp.a1
theorem sets_pl {m : api_Machine} (v : VM m) {p : api_Place} (hp : PlP m p) {r : api_Rule} (h : ruleP m r) : ∀ i, i ≤ r.Sets.n → PlP m (setsV m r.Sets p i) := by
  intro i
  induction i with
  | zero => intro _; exact hp
  | succ i ih =>
    intro hi
    obtain ⟨s1, s2⟩ := h.s i (by omega)
    exact set_pl v (ih (by omega)) s1 s2
theorem step_pl {m : api_Machine} (v : VM m) {p : api_Place} (hp : PlP m p) (inp : Nat) : PlP m (stepE m p inp) := by
  have key : ∀ q i, i + q = m.Rules.n → PlP m (stepV m p inp q i) := by
    intro q
    induction q with
    | zero => intro i _; exact hp
    | succ q ih =>
      intro i hi
      simp only [stepV]
      split
      · have h := v.rules i (by omega)
        have hs := sets_pl v hp h _ (Nat.le_refl _)
        exact ⟨⟨h.to.1, by show (m.Rules.f i).To < (m.States.n : Int); have := h.to.2; omega⟩, hs.a0, hs.a1⟩
      · exact ih (i + 1) (by omega)
  exact key m.Rules.n 0 (by omega)
section
variable {m : api_Machine} (v : VM m)
include v
theorem set_eq (N : Nat) {p : api_Place} (hp : PlP m p) {x : api_Set} (hk : 1 ≤ x.Kind ∧ x.Kind ≤ 3) (hc : 0 ≤ x.Counter ∧ x.Counter ≤ (m.Counters.n : Int) - 1) (k : api_Place → Option R) :
    sP_set N m.Inputs m.Outputs m.Counters m.States m.Rules x p k = k (setV m x p) := by
  obtain ⟨b1, b2, b3, b4⟩ := val_le v hp hc.1 (show x.Counter < (m.Counters.n : Int) by omega)
  have hv := v.c
  rw [sP_set_def]
  unfold sP_set_m setV
  have c1 : (decide ((0 : Int) ≤ x.Counter) && decide (x.Counter < (((2 : Nat) : Nat) : Int))) = true := by simp; omega
  have c2 : (decide ((0 : Int) ≤ x.Counter) && decide (x.Counter < (m.Counters.n : Int))) = true := by simp; omega
  have hpick : pickI x.Counter 0 [p.Values.a0, p.Values.a1] = valV p x.Counter := by
    unfold valV
    by_cases e : x.Counter = 0
    · rw [if_pos e, e]; rfl
    · have : x.Counter = 1 := by omega
      rw [if_neg e, this]; rfl
  have w1 : w64 (valV p x.Counter + 1) = valV p x.Counter + 1 := w64_eq (by omega) (by omega)
  have w2 : w64 (valV p x.Counter - 1) = valV p x.Counter - 1 := w64_eq (by omega) (by omega)
  have q0 : (x.Counter == (((0 : Nat) : Nat) : Int)) = decide (x.Counter = 0) := by by_cases e : x.Counter = 0 <;> simp [e]
  have q1 : (x.Counter == (((0 : Nat) + (1 : Nat) : Nat) : Int)) = decide (x.Counter = 1) := by by_cases e : x.Counter = 1 <;> simp [e]
  simp only [c1, cond_true, hpick, w1, w2, q0, q1]
  rcases (show x.Kind = 1 ∨ x.Kind = 2 ∨ x.Kind = 3 by omega) with h | h | h
  · have e1 : (x.Kind == 1) = true := by rw [h]; rfl
    simp only [e1, cond_true, h, if_true]
    by_cases a : x.Counter = 0 <;> by_cases b : x.Counter = 1 <;> simp [a, b]
  · have e1 : (x.Kind == 1) = false := by rw [h]; rfl
    have e2 : (x.Kind == 2) = true := by rw [h]; rfl
    have k1 : ¬ ((2 : Int) = 1) := by omega
    simp only [e1, e2, cond_true, cond_false, c2, h, k1, if_false, if_true]
    by_cases a : x.Counter = 0 <;> by_cases b : x.Counter = 1 <;> simp [a, b]
  · have e1 : (x.Kind == 1) = false := by rw [h]; rfl
    have e2 : (x.Kind == 2) = false := by rw [h]; rfl
    have e3 : (x.Kind == 3) = true := by rw [h]; rfl
    have k1 : ¬ ((3 : Int) = 1) := by omega
    have k2 : ¬ ((3 : Int) = 2) := by omega
    simp only [e1, e2, e3, cond_true, cond_false, h, k1, k2, if_false]
    by_cases a : x.Counter = 0 <;> by_cases b : x.Counter = 1 <;> simp [a, b]
theorem step_l6 (N : Nat) {p : api_Place} (hp : PlP m p) {r : api_Rule} (h : ruleP m r) (p2 : api_Place) (r2 : api_Rule) (k2 : api_Place → Option R) : ∀ (q i n : Nat), i + q = r.Sets.n → q < n →
    sP_Step_l6 N n r.Sets (r.Sets.n : Int) (i : Int) m.Inputs m.Outputs m.Counters m.States m.Rules (setsV m r.Sets p i) p2 r2 k2 = k2 (setsV m r.Sets p r.Sets.n) := by
  intro q
  induction q with
  | zero =>
    intro i n h1 h2
    obtain ⟨n, rfl⟩ : ∃ m, n = m + 1 := ⟨n - 1, by omega⟩
    have : i = r.Sets.n := by omega
    subst this
    unfold sP_Step_l6 sP_Step_b6
    simp only [ltF (Nat.le_refl r.Sets.n), cond_false]
  | succ q ih =>
    intro i n h1 h2
    obtain ⟨n, rfl⟩ : ∃ m, n = m + 1 := ⟨n - 1, by omega⟩
    obtain ⟨s1, s2⟩ := h.s i (by omega)
    have hn := h.n
    unfold sP_Step_l6 sP_Step_b6
    simp only [ltT (show i < r.Sets.n by omega), nat_nonneg, Bool.and_self, cond_true, Int.toNat_natCast, w64_succ (show i < 1000000000000 by omega), set_eq v N (sets_pl v hp h i (by omega)) s1 s2]
    exact ih (i + 1) n (by omega) (by omega)
theorem step_l2 (N : Nat) (hN : 100 ≤ N) {p : api_Place} (hp : PlP m p) {inp : Nat} (hi : inp < 16) (p2 : api_Place) (k0 : api_Place → Option R) : ∀ (q i n : Nat), i + q = m.Rules.n → q < n →
    sP_Step_l2 N n (inp : Int) m.Rules (m.Rules.n : Int) (i : Int) m.Inputs m.Outputs m.Counters m.States m.Rules p p2 k0 = k0 (stepV m p inp q i) := by
  intro q
  induction q with
  | zero =>
    intro i n h1 h2
    obtain ⟨n, rfl⟩ : ∃ m, n = m + 1 := ⟨n - 1, by omega⟩
    unfold sP_Step_l2 sP_Step_b2
    simp only [ltF (show m.Rules.n ≤ i by omega), cond_false]
    rfl
  | succ q ih =>
    intro i n h1 h2
    obtain ⟨n, rfl⟩ : ∃ m, n = m + 1 := ⟨n - 1, by omega⟩
    have h := v.rules i (by omega)
    have hr := v.r
    have hn := h.n
    have ih' := ih (i + 1) n (by omega) (by omega)
    have h6 := fun (p2 : api_Place) (r2 : api_Rule) (k2 : api_Place → Option R) => step_l6 v N hp h p2 r2 k2 (m.Rules.f i).Sets.n 0 N (by omega) (by omega)
    unfold sP_Step_l2 sP_Step_b2
    simp only [ltT (show i < m.Rules.n by omega), nat_nonneg, Bool.and_self, cond_true, Int.toNat_natCast, w64_succ (show i < 1000000000000 by omega), holds_eq v hp hi hN h.w, stepV]
    by_cases c1 : (m.Rules.f i).From = -1
    · have e1 : ((m.Rules.f i).From != -1) = false := by simpa using c1
      simp only [e1, cond_false]
      by_cases c2 : condV m p inp (m.Rules.f i).When
      · rw [decide_eq_true c2, if_pos (show fires m p inp i from ⟨.inl c1, c2⟩)]
        simp only [Bool.not_true, cond_false]
        exact h6 _ _ _
      · rw [decide_eq_false c2, if_neg (show ¬ fires m p inp i from fun g => c2 g.2)]
        simp only [Bool.not_false, cond_true]
        exact ih'
    · have e1 : ((m.Rules.f i).From != -1) = true := by simpa using c1
      simp only [e1, cond_true]
      by_cases c3 : (m.Rules.f i).From = p.State
      · have e3 : ((m.Rules.f i).From != p.State) = false := by simpa using c3
        simp only [e3, cond_false]
        by_cases c2 : condV m p inp (m.Rules.f i).When
        · rw [decide_eq_true c2, if_pos (show fires m p inp i from ⟨.inr c3, c2⟩)]
          simp only [Bool.not_true, cond_false]
          exact h6 _ _ _
        · rw [decide_eq_false c2, if_neg (show ¬ fires m p inp i from fun g => c2 g.2)]
          simp only [Bool.not_false, cond_true]
          exact ih'
      · have e3 : ((m.Rules.f i).From != p.State) = true := by simpa using c3
        rw [if_neg (show ¬ fires m p inp i from fun g => by rcases g.1 with g | g <;> contradiction)]
        simp only [e3, cond_true]
        exact ih'
theorem step_eq {N : Nat} (hN : 200 ≤ N) {p : api_Place} (hp : PlP m p) {inp : Nat} (hi : inp < 16) (k : api_Place → Option R) :
    sP_Step N m.Inputs m.Outputs m.Counters m.States m.Rules p (inp : Int) k = k (stepE m p inp) := by
  have hr := v.r
  rw [sP_Step_def]
  unfold sP_Step_m
  exact step_l2 v N (by omega) hp hi _ (fun r => k r) m.Rules.n 0 N (by omega) (by omega)
end
end
end Si
end Go.Proofs.YtpillmoddoccfabDoor
