/-
  Works: what is wrong with a plan.
-/
import Derived.Test.YtpillmoddoccfabWkP8
import Derived.Test.YtpillmoddoccfabSxMath
set_option linter.unusedSectionVars false
set_option linter.unusedVariables false
set_option linter.unusedSimpArgs false
set_option maxHeartbeats 0
set_option maxRecDepth 100000
namespace Go.Proofs.Ytpillmoddoccfab
namespace Wk
open Go.Sx
section
/-- The first number from i on, of so many, for which something is so. -/
def fnd (P : Nat → Bool) : Nat → Nat → Option Nat
  | 0, _ => none
  | q + 1, i => bif P i then some i else fnd P q (i + 1)
theorem fnd_none {P : Nat → Bool} : ∀ {q i : Nat}, fnd P q i = none → ∀ j, i ≤ j → j < i + q → P j = false := by
  intro q
  induction q with
  | zero => intro i _ j h1 h2; omega
  | succ q ih =>
    intro i h j h1 h2
    simp only [fnd] at h
    cases hp : P i <;> rw [hp] at h <;> simp only [cond_true, cond_false, reduceCtorEq] at h
    by_cases e : j = i
    · subst e; exact hp
    · exact ih h j (by omega) (by omega)
theorem fnd_some {P : Nat → Bool} : ∀ {q i j : Nat}, fnd P q i = some j → P j = true ∧ i ≤ j ∧ j < i + q := by
  intro q
  induction q with
  | zero => intro i j h; cases h
  | succ q ih =>
    intro i j h
    simp only [fnd] at h
    cases hp : P i <;> rw [hp] at h <;> simp only [cond_true, cond_false] at h
    · have := ih h; exact ⟨this.1, by omega, by omega⟩
    · injection h with h; subst h; exact ⟨hp, by omega, by omega⟩
def anyN (P : Nat → Bool) : Nat → Nat → Bool
  | 0, _ => false
  | q + 1, i => P i || anyN P q (i + 1)
theorem anyN_iff {P : Nat → Bool} : ∀ {q i : Nat}, anyN P q i = true ↔ ∃ j, i ≤ j ∧ j < i + q ∧ P j = true := by
  intro q
  induction q with
  | zero => intro i; constructor
            · intro h; cases h
            · rintro ⟨j, h1, h2, _⟩; omega
  | succ q ih =>
    intro i
    simp only [anyN, Bool.or_eq_true, ih]
    constructor
    · rintro (h | ⟨j, h1, h2, h3⟩)
      · exact ⟨i, by omega, by omega, h⟩
      · exact ⟨j, by omega, by omega, h3⟩
    · rintro ⟨j, h1, h2, h3⟩
      by_cases e : j = i
      · subst e; exact .inl h3
      · exact .inr ⟨j, by omega, by omega, h3⟩

def bad1 (w : api_Works) (p : Arr Int) (i : Nat) : Bool := decide (p.f i < 0) || decide (p.f i > w.Until - (w.Jobs.f i).Nights)
def late (w : api_Works) (p : Arr Int) (i k : Nat) : Bool := decide (p.f ((w.Jobs.f i).After.f k).toNat + (w.Jobs.f ((w.Jobs.f i).After.f k).toNat).Nights > p.f i)
def bad2 (w : api_Works) (p : Arr Int) (i : Nat) : Bool := anyN (late w p i) (w.Jobs.f i).After.n 0
/-- The machines that are out in a night, how many jobs, whether two are at one machine. -/
def nt (w : api_Works) (p : Arr Int) (x : Int) : Nat → Nat × Nat × Bool
  | 0 => (0, 0, false)
  | i + 1 => bif decide (p.f i ≤ x) && decide (x < p.f i + (w.Jobs.f i).Nights) then
      ((nt w p x i).1 ||| 2 ^ (w.Jobs.f i).Machine.toNat, (nt w p x i).2.1 + 1, (nt w p x i).2.2 || (nt w p x i).1.testBit (w.Jobs.f i).Machine.toNat)
    else nt w p x i
def ntA (w : api_Works) (p : Arr Int) (x : Int) : Nat × Nat × Bool := nt w p x w.Jobs.n
def bad3 (w : api_Works) (p : Arr Int) (x : Nat) : Bool := (ntA w p x).2.2
def bad4 (w : api_Works) (p : Arr Int) (x : Nat) : Bool := decide ((((ntA w p x).2.1 : Nat) : Int) > w.Crews)
def inSet (w : api_Works) (S : Nat) (i : Nat) : Bool := decide ((((S &&& (w.Never.f i).toNat) : Nat) : Int) = w.Never.f i)
def bad5 (w : api_Works) (p : Arr Int) (x : Nat) : Bool := anyN (inSet w (ntA w p x).1) w.Never.n 0
def jdg (w : api_Works) (p : Arr Int) : Int × Int :=
  match fnd (bad1 w p) w.Jobs.n 0 with
  | some i => (1, i)
  | none => match fnd (bad2 w p) w.Jobs.n 0 with
    | some i => (2, i)
    | none => match fnd (bad3 w p) w.Until.toNat 0 with
      | some i => (3, i)
      | none => match fnd (bad4 w p) w.Until.toNat 0 with
        | some i => (4, i)
        | none => match fnd (bad5 w p) w.Until.toNat 0 with
          | some i => (5, i)
          | none => (0, 0)
end
open Classical
noncomputable section
variable {R : Type}
/-- A plan that lies within some nights. -/
def PB (w : api_Works) (p : Arr Int) : Prop := p.n = w.Jobs.n ∧ ∀ i, i < w.Jobs.n → 0 ≤ p.f i ∧ p.f i ≤ 24

theorem nt_lt {w : api_Works} (v : VW w) (p : Arr Int) (x : Int) : ∀ i, i ≤ w.Jobs.n → (nt w p x i).1 < 4096 ∧ (nt w p x i).2.1 ≤ i := by
  intro i
  induction i with
  | zero => intro _; exact ⟨by show 0 < 4096; omega, Nat.le_refl _⟩
  | succ i ih =>
    intro hi
    have h := ih (by omega)
    have hm := (v.jobs i (by omega)).m
    have hm2 := v.m
    unfold job at hm
    simp only [nt]
    cases hc : (decide (p.f i ≤ x) && decide (x < p.f i + (w.Jobs.f i).Nights))
    · exact ⟨h.1, by simp only [cond_false]; omega⟩
    · refine ⟨?_, by simp only [cond_true]; omega⟩
      have hlt : 2 ^ (w.Jobs.f i).Machine.toNat < 2 ^ 12 := Nat.pow_lt_pow_right (by omega) (by omega)
      exact Nat.or_lt_two_pow (n := 12) h.1 hlt

section
variable {w : api_Works} (v : VW w) {p : Arr Int} (hn : p.n = w.Jobs.n)
include v hn
theorem r_l2 (N : Nat) (kr : Int → Int → Option R) (k0 : Unit → Option R) : ∀ (q i n : Nat), i + q = w.Jobs.n → q < n →
    newelref09_reason_l2 N n p (i : Int) w kr k0 = match fnd (bad1 w p) q i with | some j => kr 1 (j : Int) | none => k0 () := by
  intro q
  induction q with
  | zero =>
    intro i n h1 h2
    obtain ⟨n, rfl⟩ : ∃ m, n = m + 1 := ⟨n - 1, by omega⟩
    unfold newelref09_reason_l2 newelref09_reason_b2
    rw [ltF (show w.Jobs.n ≤ i by omega), cond_false]; rfl
  | succ q ih =>
    intro i n h1 h2
    obtain ⟨n, rfl⟩ : ∃ m, n = m + 1 := ⟨n - 1, by omega⟩
    have hj := (v.jobs i (by omega)).n
    have hu := v.u
    have hjn := v.j
    unfold job at hj
    unfold newelref09_reason_l2 newelref09_reason_b2
    simp only [hn, ltT (show i < w.Jobs.n by omega), nat_nonneg, Bool.and_self, cond_true, Int.toNat_natCast (n := i), w64_succ (show i < 1000000000000 by omega), fnd, bad1,
      w64_eq (show -9223372036854775808 ≤ w.Until - (w.Jobs.f i).Nights by omega) (by omega)]
    by_cases c1 : p.f i < 0
    · simp only [c1, decide_true, cond_true, Bool.true_or]
    by_cases c2 : p.f i > w.Until - (w.Jobs.f i).Nights
    · simp only [c1, c2, decide_true, decide_false, cond_true, cond_false, Bool.or_true]
    simp only [c1, c2, decide_false, cond_false, Bool.or_false]
    exact ih (i + 1) n (by omega) (by omega)

variable (hb : ∀ i, i < w.Jobs.n → 0 ≤ p.f i ∧ p.f i ≤ 24)
include hb
theorem r_l10 (N : Nat) {i : Nat} (hi : i < w.Jobs.n) (kr : Int → Option R) (k4 : Unit → Option R) : ∀ (q k n : Nat), k + q = (w.Jobs.f i).After.n → q < n → q ≤ 10 →
    newelref09_reason_l10 N n p (i : Int) (k : Int) w kr k4 = bif anyN (late w p i) q k then kr 2 else k4 () := by
  intro q
  induction q with
  | zero =>
    intro k n h1 h2 _
    obtain ⟨n, rfl⟩ : ∃ m, n = m + 1 := ⟨n - 1, by omega⟩
    unfold newelref09_reason_l10 newelref09_reason_b10
    simp only [ltT hi, nat_nonneg, Int.toNat_natCast, Bool.and_self, cond_true]
    rw [ltF (show (w.Jobs.f i).After.n ≤ k by omega), cond_false]; rfl
  | succ q ih =>
    intro k n h1 h2 h3
    obtain ⟨n, rfl⟩ : ∃ m, n = m + 1 := ⟨n - 1, by omega⟩
    have ha := v.nf i hi k (by unfold job; omega)
    have hq := (v.jobs i hi).a k (by unfold job; omega)
    unfold job at ha
    obtain ⟨a, hA⟩ : ∃ a : Nat, (w.Jobs.f i).After.f k = (a : Int) := ⟨((w.Jobs.f i).After.f k).toNat, by omega⟩
    have hai : a < i := by omega
    have hba := hb a (by omega)
    have hja := (v.jobs a (by omega)).n
    have hkb : k < 1000000000000 := by
      have : ∀ z, z ≤ k → (z : Int) ≤ (w.Jobs.f i).After.f z := by
        intro z
        induction z with
        | zero => intro _; have := v.nf i hi 0 (by unfold job; omega); unfold job at this; omega
        | succ z ihz => intro hz; have := ihz (by omega); have h5 := ((v.jobs i hi).a (z + 1) (by unfold job; omega)).1; have h5 : (w.Jobs.f i).After.f z + 1 ≤ (w.Jobs.f i).After.f (z + 1) := h5; omega
      have := this k (Nat.le_refl _); have := v.j; omega
    unfold job at hja
    unfold newelref09_reason_l10 newelref09_reason_b10
    simp only [hn, ltT (show k < (w.Jobs.f i).After.n by omega), ltT hi, hA, ltT (show a < w.Jobs.n by omega), nat_nonneg, Bool.and_self, cond_true, Int.toNat_natCast, w64_succ hkb, anyN, late,
      w64_eq (show -9223372036854775808 ≤ p.f a + (w.Jobs.f a).Nights by omega) (by omega)]
    by_cases c : p.f a + (w.Jobs.f a).Nights > p.f i
    · have c' : p.f i < p.f a + (w.Jobs.f a).Nights := c
      simp only [c, c', decide_true, cond_true, Bool.true_or]
    · have c' : ¬ p.f i < p.f a + (w.Jobs.f a).Nights := c
      simp only [c, c', decide_false, cond_false, Bool.false_or]
      exact ih (k + 1) n (by omega) (by omega) (by omega)
omit hn hb in
theorem after_le {i : Nat} (hi : i < w.Jobs.n) : (w.Jobs.f i).After.n ≤ 10 := by
  rcases Nat.lt_or_ge 10 (w.Jobs.f i).After.n with h | h
  · exfalso
    have : ∀ z : Nat, z ≤ 10 → (z : Int) ≤ (w.Jobs.f i).After.f z := by
      intro z
      induction z with
      | zero => intro _; have := v.nf i hi 0 (by unfold job; omega); unfold job at this; omega
      | succ z ihz => intro hz; have := ihz (by omega); have h5 := ((v.jobs i hi).a (z + 1) (by unfold job; omega)).1; have h5 : (w.Jobs.f i).After.f z + 1 ≤ (w.Jobs.f i).After.f (z + 1) := h5; omega
    have h1 := this 10 (Nat.le_refl _)
    have h2 := v.nf i hi 10 (by unfold job; omega)
    unfold job at h2
    have := v.j
    omega
  · exact h
theorem r_l7 (N : Nat) (hN : 20 ≤ N) (kr : Int → Int → Option R) (k2 : Unit → Option R) : ∀ (q i n : Nat), i + q = w.Jobs.n → q < n →
    newelref09_reason_l7 N n p (i : Int) w kr k2 = match fnd (bad2 w p) q i with | some j => kr 2 (j : Int) | none => k2 () := by
  intro q
  induction q with
  | zero =>
    intro i n h1 h2
    obtain ⟨n, rfl⟩ : ∃ m, n = m + 1 := ⟨n - 1, by omega⟩
    unfold newelref09_reason_l7 newelref09_reason_b7
    rw [ltF (show w.Jobs.n ≤ i by omega), cond_false]; rfl
  | succ q ih =>
    intro i n h1 h2
    obtain ⟨n, rfl⟩ : ∃ m, n = m + 1 := ⟨n - 1, by omega⟩
    have hjn := v.j
    have hal := after_le v (show i < w.Jobs.n by omega)
    have := r_l10 (R := R) v hn hb N (show i < w.Jobs.n by omega) (fun r => kr r (i : Int)) (fun _ => newelref09_reason_l7 N n p (w64 ((i : Int) + 1)) w kr k2) (w.Jobs.f i).After.n 0 N (by omega) (by omega) hal
    rw [show ((0 : Nat) : Int) = 0 from rfl, w64_succ (show i < 1000000000000 by omega)] at this
    unfold newelref09_reason_l7 newelref09_reason_b7
    simp only [ltT (show i < w.Jobs.n by omega), cond_true, w64_succ (show i < 1000000000000 by omega), fnd]
    rw [this, show bad2 w p i = anyN (late w p i) (w.Jobs.f i).After.n 0 from rfl]
    cases anyN (late w p i) (w.Jobs.f i).After.n 0
    · exact ih (i + 1) n (by omega) (by omega)
    · rfl

/-! ### A night -/
omit hn hb v in
theorem and_pow (k S : Nat) : ((S &&& 2 ^ k) != 0) = S.testBit k := by
  cases h : S.testBit k
  · have : S &&& 2 ^ k = 0 := by
      apply Nat.eq_of_testBit_eq
      intro j
      rw [Nat.testBit_and, Nat.zero_testBit, Nat.testBit_two_pow]
      by_cases e : k = j
      · subst e; rw [h]; rfl
      · simp [e]
    rw [this]; rfl
  · have h2 : (S &&& 2 ^ k).testBit k = true := by rw [Nat.testBit_and, h, Nat.testBit_two_pow]; simp
    have : S &&& 2 ^ k ≠ 0 := fun g => by rw [g, Nat.zero_testBit] at h2; cases h2
    simpa using this
omit hn hb v in
theorem or_bit {S : Nat} (hS : S < 4096) {m : Int} (h : 0 ≤ m) (h2 : m ≤ 12) : w64 (↑(BitVec.toNat (BitVec.ofInt (IntKind.bits IntKind.i64) ((S : Nat) : Int) ||| BitVec.ofInt (IntKind.bits IntKind.i64) (w64 ((1 : Int) * (2 : Int) ^ min (Int.toNat m) (IntKind.bits IntKind.i64))))) : Int) = ((S ||| 2 ^ m.toNat : Nat) : Int) := by
  rw [shl_eq h h2]
  have := pow_le12 h2
  exact or64 (by omega) (by omega)
omit hn hb v in
theorem and_bit {S : Nat} (hS : S < 4096) {m : Int} (h : 0 ≤ m) (h2 : m ≤ 12) : (w64 (↑(BitVec.toNat (BitVec.ofInt (IntKind.bits IntKind.i64) ((S : Nat) : Int) &&& BitVec.ofInt (IntKind.bits IntKind.i64) (w64 ((1 : Int) * (2 : Int) ^ min (Int.toNat m) (IntKind.bits IntKind.i64))))) : Int) != (0 : Int)) = S.testBit m.toNat := by
  rw [shl_eq h h2]
  have := pow_le12 h2
  rw [show w64 _ = ((S &&& 2 ^ m.toNat : Nat) : Int) from and64 (by omega) (by omega)]
  have hk := and_pow m.toNat S
  rw [← hk]
  cases hc : S &&& 2 ^ m.toNat <;> rfl
omit hn hb v in
theorem shr_bit {S : Nat} (hS : S < 4096) {m : Int} (h : 0 ≤ m) (h2 : m ≤ 12) : (w64 (↑(BitVec.toNat (BitVec.ofInt (IntKind.bits IntKind.i64) (Int.fdiv ((S : Nat) : Int) ((2 : Int) ^ min (Int.toNat m) (IntKind.bits IntKind.i64))) &&& BitVec.ofInt (IntKind.bits IntKind.i64) (1 : Int))) : Int) == (1 : Int)) = S.testBit m.toNat := by
  rw [show w64 _ = if ((S : Nat) : Int).toNat.testBit m.toNat then 1 else 0 from bit64 (by omega) (by omega) (by omega)]
  rw [Int.toNat_natCast]
  cases S.testBit m.toNat <;> rfl
theorem s_night (N : Nat) (x : Int) (hx : 0 ≤ x ∧ x ≤ 1000) (k0 : Int → Int → Bool → Option R) : ∀ (q i n : Nat), i + q = w.Jobs.n → q < n →
    shaft_night_l2 N n p x (((nt w p x i).1 : Nat) : Int) (((nt w p x i).2.1 : Nat) : Int) (nt w p x i).2.2 w.Jobs (w.Jobs.n : Int) (i : Int) k0 = k0 (((ntA w p x).1 : Nat) : Int) (((ntA w p x).2.1 : Nat) : Int) (ntA w p x).2.2 := by
  intro q
  induction q with
  | zero =>
    intro i n h1 h2
    obtain ⟨n, rfl⟩ : ∃ m, n = m + 1 := ⟨n - 1, by omega⟩
    unfold shaft_night_l2 shaft_night_b2
    rw [ltF (show w.Jobs.n ≤ i by omega), cond_false]
    have : i = w.Jobs.n := by omega
    subst this; rfl
  | succ q ih =>
    intro i n h1 h2
    obtain ⟨n, rfl⟩ : ∃ m, n = m + 1 := ⟨n - 1, by omega⟩
    have hr := ih (i + 1) n (by omega) (by omega)
    rw [← hr]
    have hS := nt_lt v p x i (by omega)
    have hm := (v.jobs i (by omega)).m
    have hni := (v.jobs i (by omega)).n
    have hm2 := v.m
    have hjn := v.j
    have hbi := hb i (by omega)
    unfold job at hm hni
    conv => lhs; unfold shaft_night_l2 shaft_night_b2
    simp only [hn, ltT (show i < w.Jobs.n by omega), nat_nonneg, Bool.and_self, cond_true, Int.toNat_natCast (n := i), w64_succ (show i < 1000000000000 by omega),
      w64_eq (show -9223372036854775808 ≤ p.f i + (w.Jobs.f i).Nights by omega) (by omega), decide_eq_false (show ¬ (w.Jobs.f i).Machine < 0 by omega), cond_false,
      or_bit hS.1 hm.1 (by omega), shr_bit hS.1 hm.1 (by omega), w64_succ (show (nt w p x i).2.1 < 1000000000000 by omega), nt]
    by_cases c1 : p.f i ≤ x
    rotate_left
    · simp only [c1, decide_false, cond_false, Bool.false_and]
    by_cases c2 : x < p.f i + (w.Jobs.f i).Nights
    rotate_left
    · simp only [c1, c2, decide_true, decide_false, cond_true, cond_false, Bool.and_false]
    simp only [c1, c2, decide_true, cond_true, Bool.and_self]
    cases h : (nt w p x i).2.2
    · simp only [cond_false, Bool.false_or]
    · simp only [cond_true, Bool.true_or]
theorem r_out (N : Nat) (x : Int) (hx : 0 ≤ x ∧ x ≤ 1000) (k0 : Int → Int → Bool → Option R) : ∀ (q i n : Nat), i + q = w.Jobs.n → q < n →
    newelref09_out_l2 N n p x (((nt w p x i).1 : Nat) : Int) (((nt w p x i).2.1 : Nat) : Int) (nt w p x i).2.2 (i : Int) w k0 = k0 (((ntA w p x).1 : Nat) : Int) (((ntA w p x).2.1 : Nat) : Int) (ntA w p x).2.2 := by
  intro q
  induction q with
  | zero =>
    intro i n h1 h2
    obtain ⟨n, rfl⟩ : ∃ m, n = m + 1 := ⟨n - 1, by omega⟩
    unfold newelref09_out_l2 newelref09_out_b2
    rw [ltF (show w.Jobs.n ≤ i by omega), cond_false]
    have : i = w.Jobs.n := by omega
    subst this; rfl
  | succ q ih =>
    intro i n h1 h2
    obtain ⟨n, rfl⟩ : ∃ m, n = m + 1 := ⟨n - 1, by omega⟩
    have hr := ih (i + 1) n (by omega) (by omega)
    rw [← hr]
    have hS := nt_lt v p x i (by omega)
    have hm := (v.jobs i (by omega)).m
    have hni := (v.jobs i (by omega)).n
    have hm2 := v.m
    have hjn := v.j
    have hbi := hb i (by omega)
    unfold job at hm hni
    have hat : ∀ k : Bool → Option R, newelref09_at N w p (i : Int) x k = k (decide (p.f i ≤ x) && decide (x < p.f i + (w.Jobs.f i).Nights)) := fun k => by
      rw [newelref09_at_def]
      unfold newelref09_at_m
      simp only [hn, ltT (show i < w.Jobs.n by omega), nat_nonneg, Bool.and_self, cond_true, Int.toNat_natCast (n := i), w64_eq (show -9223372036854775808 ≤ x - p.f i by omega) (by omega)]
      by_cases c1 : p.f i ≤ x
      · simp only [c1, decide_true, cond_true, Bool.true_and]
        congr 1
        exact decide_eq_decide.2 ⟨fun h => by omega, fun h => by omega⟩
      · simp only [c1, decide_false, cond_false, Bool.false_and]
    conv => lhs; unfold newelref09_out_l2 newelref09_out_b2
    simp only [hat, ltT (show i < w.Jobs.n by omega), nat_nonneg, Bool.and_self, cond_true, Int.toNat_natCast (n := i), w64_succ (show i < 1000000000000 by omega), u64_pos hm.1 (by omega),
      decide_eq_false (show ¬ (w.Jobs.f i).Machine < 0 by omega), cond_false,
      or_bit hS.1 hm.1 (by omega), and_bit hS.1 hm.1 (by omega), w64_succ (show (nt w p x i).2.1 < 1000000000000 by omega), nt]
    cases hc : (decide (p.f i ≤ x) && decide (x < p.f i + (w.Jobs.f i).Nights))
    · simp only [cond_false]
    simp only [cond_true]
    cases h : (nt w p x i).2.2
    · simp only [cond_false, Bool.false_or]
    · simp only [cond_true, Bool.true_or]
theorem night_eq (N : Nat) (hN : 20 ≤ N) (x : Int) (hx : 0 ≤ x ∧ x ≤ 1000) (k : Int → Int → Bool → Option R) : shaft_night N w p x k = k (((ntA w p x).1 : Nat) : Int) (((ntA w p x).2.1 : Nat) : Int) (ntA w p x).2.2 := by
  rw [shaft_night_def]
  unfold shaft_night_m
  exact s_night v hn hb N x hx (fun r714 r715 r716 => k r714 r715 r716) w.Jobs.n 0 N (by omega) (by have := v.j; omega)
theorem out_eq (N : Nat) (hN : 20 ≤ N) (x : Int) (hx : 0 ≤ x ∧ x ≤ 1000) (k : Int → Int → Bool → Option R) : newelref09_out N w p x k = k (((ntA w p x).1 : Nat) : Int) (((ntA w p x).2.1 : Nat) : Int) (ntA w p x).2.2 := by
  rw [newelref09_out_def]
  unfold newelref09_out_m
  exact r_out v hn hb N x hx (fun r714 r715 r716 => k r714 r715 r716) w.Jobs.n 0 N (by omega) (by have := v.j; omega)
end
end
end Wk
end Go.Proofs.Ytpillmoddoccfab
