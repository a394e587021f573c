/-
  Works: the checks.
-/
import Derived.Test.YtpillmoddoccfabWkP1
import Derived.Test.YtpillmoddoccfabSxMath
set_option linter.unusedSectionVars false
set_option linter.unusedVariables false
set_option linter.unusedSimpArgs false
set_option maxHeartbeats 0
set_option maxRecDepth 100000
namespace Go.Proofs.Ytpillmoddoccfab
namespace Wk
open Go.Sx
open Classical
noncomputable section
variable {R : Type}
def job (w : api_Works) (i : Nat) : api_Job := w.Jobs.f i
def prevA (a : Arr Int) : Nat → Int
  | 0 => -1
  | k + 1 => a.f k
def okA (a : Arr Int) (i : Nat) (k : Nat) : Prop := prevA a k + 1 ≤ a.f k ∧ a.f k ≤ (i : Int) - 1
structure JobOk (w : api_Works) (i : Nat) : Prop where
  m : 0 ≤ (job w i).Machine ∧ (job w i).Machine ≤ w.Machines - 1
  n : 1 ≤ (job w i).Nights ∧ (job w i).Nights ≤ 24
  a : ∀ k, k < (job w i).After.n → okA (job w i).After i k
structure VW (w : api_Works) : Prop where
  m : 1 ≤ w.Machines ∧ w.Machines ≤ 12
  j : 1 ≤ w.Jobs.n ∧ w.Jobs.n ≤ 6
  nv : w.Never.n ≤ 20
  c : 1 ≤ w.Crews ∧ w.Crews ≤ 6
  u : 1 ≤ w.Until ∧ w.Until ≤ 24
  jobs : ∀ i, i < w.Jobs.n → JobOk w i
  never : ∀ i, i < w.Never.n → 1 ≤ w.Never.f i ∧ w.Never.f i ≤ ((2 ^ w.Machines.toNat : Nat) : Int) - 1
def errW (w : api_Works) : Int := if VW w then 0 else 92
/-- Not larger than a statement looks at. -/
structure NF (w : api_Works) : Prop where
  j : w.Jobs.n ≤ 10
  nv : w.Never.n ≤ 30
  a : ∀ i, i < w.Jobs.n → (job w i).After.n ≤ 10
theorem VW.nf {w : api_Works} (v : VW w) : ∀ i, i < w.Jobs.n → ∀ k, k < (job w i).After.n → 0 ≤ (job w i).After.f k ∧ (job w i).After.f k < (i : Int) := by
  intro i hi k hk
  have h := (v.jobs i hi).a k hk
  refine ⟨?_, by unfold okA at h; omega⟩
  have : ∀ k, k < (job w i).After.n → 0 ≤ (job w i).After.f k := by
    intro k
    induction k with
    | zero => intro hk; have h : (-1 : Int) + 1 ≤ _ := ((v.jobs i hi).a 0 hk).1; omega
    | succ k ih => intro hk; have := ih (by omega); have h : (job w i).After.f k + 1 ≤ _ := ((v.jobs i hi).a (k + 1) hk).1; omega
  exact this k hk

theorem u64_pos {n : Int} (h : 0 ≤ n) (h2 : n < 1000) : IntKind.wrap IntKind.u64 n = n := by
  have := u64_nat (n := n.toNat) (by omega)
  rwa [show ((n.toNat : Nat) : Int) = n by omega] at this
theorem shl_eq {m : Int} (h : 0 ≤ m) (h2 : m ≤ 12) : w64 ((1 : Int) * (2 : Int) ^ min (Int.toNat m) (IntKind.bits IntKind.i64)) = ((2 ^ m.toNat : Nat) : Int) := by
  have h1 : (2 : Nat) ^ m.toNat ≤ 2 ^ 12 := Nat.pow_le_pow_right (by omega) (by omega)
  have h2 : min (Int.toNat m) (IntKind.bits IntKind.i64) = m.toNat := by show min m.toNat 64 = m.toNat; omega
  rw [h2, Int.one_mul, show ((2 : Int) ^ m.toNat) = ((2 ^ m.toNat : Nat) : Int) by push_cast; rfl]
  generalize (2 : Nat) ^ m.toNat = x at h1 ⊢
  exact w64_eq (by omega) (by omega)
theorem pow_le12 {m : Int} (h2 : m ≤ 12) : (2 : Nat) ^ m.toNat ≤ 4096 := by
  have h1 : (2 : Nat) ^ m.toNat ≤ 2 ^ 12 := Nat.pow_le_pow_right (by omega) (by omega)
  exact h1
theorem full_eq {m : Int} (h : 0 ≤ m) (h2 : m ≤ 12) : w64 (w64 ((1 : Int) * (2 : Int) ^ min (Int.toNat m) (IntKind.bits IntKind.i64)) - 1) = ((2 ^ m.toNat : Nat) : Int) - 1 := by
  rw [shl_eq h h2]
  have := pow_le12 h2
  generalize (2 : Nat) ^ m.toNat = x at this ⊢
  exact w64_eq (by omega) (by omega)

theorem wide_eq (N : Nat) (n lo hi : Int) (k : Bool → Option R) : shaft_CheckWorks_1 N n lo hi k = k (decide (lo ≤ n ∧ n ≤ hi)) := by
  rw [shaft_CheckWorks_1_def]
  unfold shaft_CheckWorks_1_m
  by_cases h : lo ≤ n
  · simp only [h, decide_true, cond_true, true_and]
  · have : ¬ (lo ≤ n ∧ n ≤ hi) := fun g => h g.1
    rw [decide_eq_false this]
    simp only [h, decide_false, cond_false]

/-! ### The jobs ahead of a job -/
theorem rAfter (N : Nat) (w : api_Works) (j : api_Job) {i : Nat} (hi : i ≤ 10) (kr : Int → Option R) (k2 : Unit → Option R) : ∀ (q k n : Nat), k + q = j.After.n → j.After.n ≤ 10 → q < n → (∀ x, x < k → okA j.After i x) →
    newelref09_CheckWorks_l11 N n (i : Int) (prevA j.After k) (k : Int) w j kr k2 = if (∀ x, x < j.After.n → okA j.After i x) then k2 () else kr 92 := by
  intro q
  induction q with
  | zero =>
    intro k n h1 h0 h2 h3
    obtain ⟨n, rfl⟩ : ∃ m, n = m + 1 := ⟨n - 1, by omega⟩
    rw [if_pos (fun x hx => h3 x (by omega))]
    unfold newelref09_CheckWorks_l11 newelref09_CheckWorks_b11
    rw [ltF (show j.After.n ≤ k by omega), cond_false]
  | succ q ih =>
    intro k n h1 h0 h2 h3
    obtain ⟨n, rfl⟩ : ∃ m, n = m + 1 := ⟨n - 1, by omega⟩
    have hb : -1 ≤ prevA j.After k ∧ prevA j.After k ≤ 10 := by
      cases k with
      | zero => exact ⟨by show (-1 : Int) ≤ -1; omega, by show (-1 : Int) ≤ 10; omega⟩
      | succ k =>
        have : ∀ x, x < k + 1 → -1 ≤ j.After.f x ∧ j.After.f x ≤ 10 := by
          intro x
          induction x with
          | zero => intro hx; obtain ⟨a, b⟩ := h3 0 hx; have a : (-1 : Int) + 1 ≤ _ := a; exact ⟨by omega, by omega⟩
          | succ x ihx => intro hx; obtain ⟨a, b⟩ := h3 (x + 1) hx; have a : j.After.f x + 1 ≤ _ := a; have := ihx (by omega); exact ⟨by omega, by omega⟩
        exact this k (by omega)
    unfold newelref09_CheckWorks_l11 newelref09_CheckWorks_b11
    simp only [ltT (show k < j.After.n by omega), nat_nonneg, Bool.and_self, cond_true, Int.toNat_natCast (n := k), w64_succ (show k < 1000000000000 by omega), within_eq,
      w64_eq (show -9223372036854775808 ≤ prevA j.After k + 1 by omega) (by omega), w64_eq (show -9223372036854775808 ≤ (i : Int) - 1 by omega) (by omega)]
    by_cases c : okA j.After i k
    · have c' : prevA j.After k + 1 ≤ j.After.f k ∧ j.After.f k ≤ (i : Int) - 1 := c
      rw [decide_eq_true c']
      exact ih (k + 1) n (by omega) h0 (by omega) (fun x hx => by
        by_cases e : x = k
        · subst e; exact c
        · exact h3 x (by omega))
    · have c' : ¬ (prevA j.After k + 1 ≤ j.After.f k ∧ j.After.f k ≤ (i : Int) - 1) := c
      rw [decide_eq_false c', if_neg (fun h => c (h k (by omega)))]
      rfl

theorem sAfter (N : Nat) (w : api_Works) (J : Arr api_Job) (m x1 : Int) (a : Arr Int) {i : Nat} (hi : i ≤ 10) (kr : Int → Option R) (k2 : Unit → Option R) : ∀ (q k n : Nat), k + q = a.n → a.n ≤ 10 → q < n → (∀ x, x < k → okA a i x) →
    shaft_CheckWorks_l11 N n (i : Int) (prevA a k + 1) J m x1 a (a.n : Int) (k : Int) w kr k2 = if (∀ x, x < a.n → okA a i x) then k2 () else kr 92 := by
  intro q
  induction q with
  | zero =>
    intro k n h1 h0 h2 h3
    obtain ⟨n, rfl⟩ : ∃ m, n = m + 1 := ⟨n - 1, by omega⟩
    rw [if_pos (fun x hx => h3 x (by omega))]
    unfold shaft_CheckWorks_l11 shaft_CheckWorks_b11
    rw [ltF (show a.n ≤ k by omega), cond_false]
  | succ q ih =>
    intro k n h1 h0 h2 h3
    obtain ⟨n, rfl⟩ : ∃ m, n = m + 1 := ⟨n - 1, by omega⟩
    unfold shaft_CheckWorks_l11 shaft_CheckWorks_b11
    simp only [ltT (show k < a.n by omega), nat_nonneg, Bool.and_self, cond_true, Int.toNat_natCast (n := k), w64_succ (show k < 1000000000000 by omega), wide_eq,
      w64_eq (show -9223372036854775808 ≤ (i : Int) - 1 by omega) (by omega)]
    by_cases c : okA a i k
    · have c' : prevA a k + 1 ≤ a.f k ∧ a.f k ≤ (i : Int) - 1 := c
      have hb : ∀ x, x < k + 1 → -1 ≤ a.f x ∧ a.f x ≤ 10 := by
        have h3' : ∀ x, x < k + 1 → okA a i x := fun x hx => by
          by_cases e : x = k
          · subst e; exact c
          · exact h3 x (by omega)
        intro x
        induction x with
        | zero => intro hx; obtain ⟨a, b⟩ := h3' 0 hx; have a : (-1 : Int) + 1 ≤ _ := a; exact ⟨by omega, by omega⟩
        | succ x ihx => intro hx; obtain ⟨p, b⟩ := h3' (x + 1) hx; have p : a.f x + 1 ≤ _ := p; have := ihx (by omega); exact ⟨by omega, by omega⟩
      have hk := hb k (by omega)
      rw [decide_eq_true c', w64_eq (show -9223372036854775808 ≤ a.f k + 1 by omega) (by omega)]
      exact ih (k + 1) n (by omega) h0 (by omega) (fun x hx => by
        by_cases e : x = k
        · subst e; exact c
        · exact h3 x (by omega))
    · have c' : ¬ (prevA a k + 1 ≤ a.f k ∧ a.f k ≤ (i : Int) - 1) := c
      rw [decide_eq_false c', if_neg (fun h => c (h k (by omega)))]
      rfl

theorem jobOk_iff {w : api_Works} {i : Nat} : JobOk w i ↔ ((0 ≤ (w.Jobs.f i).Machine ∧ (w.Jobs.f i).Machine ≤ w.Machines - 1) ∧ (1 ≤ (w.Jobs.f i).Nights ∧ (w.Jobs.f i).Nights ≤ 24) ∧ ∀ k, k < (w.Jobs.f i).After.n → okA (w.Jobs.f i).After i k) :=
  ⟨fun h => ⟨h.m, h.n, h.a⟩, fun h => ⟨h.1, h.2.1, h.2.2⟩⟩

theorem rJobs {w : api_Works} (hm : 1 ≤ w.Machines ∧ w.Machines ≤ 12) (nf : NF w) (N : Nat) (hN : 20 ≤ N) (kr : Int → Option R) (k0 : Unit → Option R) : ∀ (q i n : Nat), i + q = w.Jobs.n → q < n → (∀ x, x < i → JobOk w x) →
    newelref09_CheckWorks_l4 N n (i : Int) w kr k0 = if (∀ x, x < w.Jobs.n → JobOk w x) then k0 () else kr 92 := by
  intro q
  induction q with
  | zero =>
    intro i n h1 h2 h3
    obtain ⟨n, rfl⟩ : ∃ m, n = m + 1 := ⟨n - 1, by omega⟩
    rw [if_pos (fun x hx => h3 x (by omega))]
    unfold newelref09_CheckWorks_l4 newelref09_CheckWorks_b4
    rw [ltF (show w.Jobs.n ≤ i by omega), cond_false]
  | succ q ih =>
    intro i n h1 h2 h3
    obtain ⟨n, rfl⟩ : ∃ m, n = m + 1 := ⟨n - 1, by omega⟩
    have hj := nf.j
    have ha : (w.Jobs.f i).After.n ≤ 10 := nf.a i (by omega)
    have key : ∀ T : Option R, (JobOk w i → T = if (∀ x, x < w.Jobs.n → JobOk w x) then k0 () else kr 92) → (if JobOk w i then T else kr 92) = if (∀ x, x < w.Jobs.n → JobOk w x) then k0 () else kr 92 := fun T hT => by
      by_cases c : JobOk w i
      · rw [if_pos c]; exact hT c
      · rw [if_neg c, if_neg (fun h => c (h i (by omega)))]
    have hr := key (newelref09_CheckWorks_l4 N n ((i + 1 : Nat) : Int) w kr k0) (fun c => ih (i + 1) n (by omega) (by omega) (fun x hx => by
        by_cases e : x = i
        · subst e; exact c
        · exact h3 x (by omega)))
    rw [← hr]
    conv => lhs; unfold newelref09_CheckWorks_l4 newelref09_CheckWorks_b4
    have hA := rAfter (R := R) N w (w.Jobs.f i) (i := i) (by omega) (fun r529 => kr r529) (fun _ => newelref09_CheckWorks_l4 N n (w64 ((i : Int) + 1)) w kr k0) (w.Jobs.f i).After.n 0 N (by omega) ha (by omega) (fun x hx => by omega)
    have hA' : newelref09_CheckWorks_l11 N N (i : Int) (-1) 0 w (w.Jobs.f i) (fun r529 => kr r529) (fun _ => newelref09_CheckWorks_l4 N n (w64 ((i : Int) + 1)) w kr k0) = _ := hA
    simp only [ltT (show i < w.Jobs.n by omega), nat_nonneg, Bool.and_self, cond_true, Int.toNat_natCast (n := i), within_eq, w64_eq (show -9223372036854775808 ≤ w.Machines - 1 by omega) (by omega)]
    rw [hA', w64_succ (show i < 1000000000000 by omega)]
    by_cases c1 : 0 ≤ (w.Jobs.f i).Machine ∧ (w.Jobs.f i).Machine ≤ w.Machines - 1
    rotate_left
    · rw [decide_eq_false c1, if_neg (show ¬ JobOk w i from fun h => c1 h.m)]; rfl
    by_cases c2 : 1 ≤ (w.Jobs.f i).Nights ∧ (w.Jobs.f i).Nights ≤ 24
    rotate_left
    · rw [decide_eq_true c1, decide_eq_false c2, if_neg (show ¬ JobOk w i from fun h => c2 h.n)]; rfl
    rw [decide_eq_true c1, decide_eq_true c2]
    simp only [Bool.not_true, cond_false]
    by_cases c3 : ∀ k, k < (w.Jobs.f i).After.n → okA (w.Jobs.f i).After i k
    · rw [if_pos c3, if_pos (show JobOk w i from ⟨c1, c2, c3⟩)]
    · rw [if_neg c3, if_neg (show ¬ JobOk w i from fun h => c3 h.a)]

theorem sJobs {w : api_Works} (hm : 1 ≤ w.Machines ∧ w.Machines ≤ 12) (nf : NF w) (N : Nat) (hN : 20 ≤ N) (kr : Int → Option R) (k0 : Unit → Option R) : ∀ (q i n : Nat), i + q = w.Jobs.n → q < n → (∀ x, x < i → JobOk w x) →
    shaft_CheckWorks_l5 N n w.Jobs (w.Jobs.n : Int) (i : Int) w kr k0 = if (∀ x, x < w.Jobs.n → JobOk w x) then k0 () else kr 92 := by
  intro q
  induction q with
  | zero =>
    intro i n h1 h2 h3
    obtain ⟨n, rfl⟩ : ∃ m, n = m + 1 := ⟨n - 1, by omega⟩
    rw [if_pos (fun x hx => h3 x (by omega))]
    unfold shaft_CheckWorks_l5 shaft_CheckWorks_b5
    rw [ltF (show w.Jobs.n ≤ i by omega), cond_false]
  | succ q ih =>
    intro i n h1 h2 h3
    obtain ⟨n, rfl⟩ : ∃ m, n = m + 1 := ⟨n - 1, by omega⟩
    have hj := nf.j
    have ha : (w.Jobs.f i).After.n ≤ 10 := nf.a i (by omega)
    have key : ∀ T : Option R, (JobOk w i → T = if (∀ x, x < w.Jobs.n → JobOk w x) then k0 () else kr 92) → (if JobOk w i then T else kr 92) = if (∀ x, x < w.Jobs.n → JobOk w x) then k0 () else kr 92 := fun T hT => by
      by_cases c : JobOk w i
      · rw [if_pos c]; exact hT c
      · rw [if_neg c, if_neg (fun h => c (h i (by omega)))]
    have hr := key (shaft_CheckWorks_l5 N n w.Jobs (w.Jobs.n : Int) ((i + 1 : Nat) : Int) w kr k0) (fun c => ih (i + 1) n (by omega) (by omega) (fun x hx => by
        by_cases e : x = i
        · subst e; exact c
        · exact h3 x (by omega)))
    rw [← hr]
    conv => lhs; unfold shaft_CheckWorks_l5 shaft_CheckWorks_b5
    have hA := sAfter (R := R) N w w.Jobs (w.Jobs.n : Int) (i : Int) (w.Jobs.f i).After (i := i) (by omega) (fun r559 => kr r559) (fun _ => shaft_CheckWorks_l5 N n w.Jobs (w.Jobs.n : Int) (w64 ((i : Int) + 1)) w kr k0) (w.Jobs.f i).After.n 0 N (by omega) ha (by omega) (fun x hx => by omega)
    have hA' : shaft_CheckWorks_l11 N N (i : Int) 0 w.Jobs (w.Jobs.n : Int) (i : Int) (w.Jobs.f i).After ((w.Jobs.f i).After.n : Int) 0 w (fun r559 => kr r559) (fun _ => shaft_CheckWorks_l5 N n w.Jobs (w.Jobs.n : Int) (w64 ((i : Int) + 1)) w kr k0) = _ := hA
    simp only [ltT (show i < w.Jobs.n by omega), nat_nonneg, Bool.and_self, cond_true, Int.toNat_natCast (n := i), wide_eq, w64_eq (show -9223372036854775808 ≤ w.Machines - 1 by omega) (by omega)]
    rw [hA', w64_succ (show i < 1000000000000 by omega)]
    by_cases c1 : 0 ≤ (w.Jobs.f i).Machine ∧ (w.Jobs.f i).Machine ≤ w.Machines - 1
    rotate_left
    · rw [decide_eq_false c1, if_neg (show ¬ JobOk w i from fun h => c1 h.m)]; rfl
    by_cases c2 : 1 ≤ (w.Jobs.f i).Nights ∧ (w.Jobs.f i).Nights ≤ 24
    rotate_left
    · rw [decide_eq_true c1, decide_eq_false c2, if_neg (show ¬ JobOk w i from fun h => c2 h.n)]; rfl
    rw [decide_eq_true c1, decide_eq_true c2]
    simp only [Bool.not_true, cond_false]
    by_cases c3 : ∀ k, k < (w.Jobs.f i).After.n → okA (w.Jobs.f i).After i k
    · rw [if_pos c3, if_pos (show JobOk w i from ⟨c1, c2, c3⟩)]
    · rw [if_neg c3, if_neg (show ¬ JobOk w i from fun h => c3 h.a)]

def neverOk (w : api_Works) : Prop := ∀ i, i < w.Never.n → 1 ≤ w.Never.f i ∧ w.Never.f i ≤ ((2 ^ w.Machines.toNat : Nat) : Int) - 1
theorem rNever {w : api_Works} (hm : 1 ≤ w.Machines ∧ w.Machines ≤ 12) (N : Nat) (kr : Int → Option R) (k4 : Unit → Option R) : ∀ (q i n : Nat), i + q = w.Never.n → w.Never.n ≤ 30 → q < n → (∀ x, x < i → 1 ≤ w.Never.f x ∧ w.Never.f x ≤ ((2 ^ w.Machines.toNat : Nat) : Int) - 1) →
    newelref09_CheckWorks_l17 N n (i : Int) w kr k4 = if neverOk w then k4 () else kr 92 := by
  intro q
  induction q with
  | zero =>
    intro i n h1 h0 h2 h3
    obtain ⟨n, rfl⟩ : ∃ m, n = m + 1 := ⟨n - 1, by omega⟩
    rw [if_pos (show neverOk w from fun x hx => h3 x (by omega))]
    unfold newelref09_CheckWorks_l17 newelref09_CheckWorks_b17
    rw [ltF (show w.Never.n ≤ i by omega), cond_false]
  | succ q ih =>
    intro i n h1 h0 h2 h3
    obtain ⟨n, rfl⟩ : ∃ m, n = m + 1 := ⟨n - 1, by omega⟩
    unfold newelref09_CheckWorks_l17 newelref09_CheckWorks_b17
    simp only [ltT (show i < w.Never.n by omega), nat_nonneg, Bool.and_self, cond_true, Int.toNat_natCast (n := i), within_eq, w64_succ (show i < 1000000000000 by omega), u64_pos (show 0 ≤ w.Machines by omega) (by omega),
      full_eq (show 0 ≤ w.Machines by omega) hm.2]
    rw [decide_eq_false (show ¬ w.Machines < 0 by omega), cond_false]
    by_cases c : 1 ≤ w.Never.f i ∧ w.Never.f i ≤ ((2 ^ w.Machines.toNat : Nat) : Int) - 1
    · rw [decide_eq_true c]
      exact ih (i + 1) n (by omega) h0 (by omega) (fun x hx => by
        by_cases e : x = i
        · subst e; exact c
        · exact h3 x (by omega))
    · rw [decide_eq_false c, if_neg (fun h => c (h i (by omega)))]; rfl

theorem sNever {w : api_Works} (hm : 1 ≤ w.Machines ∧ w.Machines ≤ 12) (J : Arr api_Job) (V : Arr Int) (c u : Int) (N : Nat) (kr : Int → Option R) (k0 : Unit → Option R) (hkr : ∀ i : Nat, kr (i : Int) = kr 0) : ∀ (q i n : Nat), i + q = w.Never.n → w.Never.n ≤ 30 → q < n → (∀ x, x < i → 1 ≤ w.Never.f x ∧ w.Never.f x ≤ ((2 ^ w.Machines.toNat : Nat) : Int) - 1) →
    slices_IndexFunc___int_int__l2 N n w.Never (w.Never.n : Int) (i : Int) w.Machines J V c u kr k0 = if neverOk w then k0 () else kr 0 := by
  intro q
  induction q with
  | zero =>
    intro i n h1 h0 h2 h3
    obtain ⟨n, rfl⟩ : ∃ m, n = m + 1 := ⟨n - 1, by omega⟩
    rw [if_pos (show neverOk w from fun x hx => h3 x (by omega))]
    unfold slices_IndexFunc___int_int__l2 slices_IndexFunc___int_int__b2
    rw [ltF (show w.Never.n ≤ i by omega), cond_false]
  | succ q ih =>
    intro i n h1 h0 h2 h3
    obtain ⟨n, rfl⟩ : ∃ m, n = m + 1 := ⟨n - 1, by omega⟩
    have hc : ∀ (x : Int) (k : Bool → Option R), shaft_CheckWorks_2 N x w.Machines J V c u k = k !(decide (1 ≤ x ∧ x ≤ ((2 ^ w.Machines.toNat : Nat) : Int) - 1)) := fun x k => by
      rw [shaft_CheckWorks_2_def]
      unfold shaft_CheckWorks_2_m
      rw [decide_eq_false (show ¬ w.Machines < 0 by omega), cond_false, full_eq (by omega) hm.2, wide_eq]
    unfold slices_IndexFunc___int_int__l2 slices_IndexFunc___int_int__b2
    simp only [ltT (show i < w.Never.n by omega), nat_nonneg, Bool.and_self, cond_true, Int.toNat_natCast (n := i), w64_succ (show i < 1000000000000 by omega), hc]
    by_cases c : 1 ≤ w.Never.f i ∧ w.Never.f i ≤ ((2 ^ w.Machines.toNat : Nat) : Int) - 1
    · rw [decide_eq_true c]
      exact ih (i + 1) n (by omega) h0 (by omega) (fun x hx => by
        by_cases e : x = i
        · subst e; exact c
        · exact h3 x (by omega))
    · rw [decide_eq_false c, if_neg (fun h => c (h i (by omega)))]; exact hkr i

theorem gt20 {n : Nat} : decide (((n : Nat) : Int) > (20 : Int)) = !decide (n ≤ 20) := by
  by_cases h : n ≤ 20
  · rw [decide_eq_true h, decide_eq_false (by omega)]; rfl
  · rw [decide_eq_false h, decide_eq_true (by omega)]; rfl
theorem VW.jI {w : api_Works} (v : VW w) : 1 ≤ ((w.Jobs.n : Nat) : Int) ∧ ((w.Jobs.n : Nat) : Int) ≤ 6 := by have := v.j; omega

theorem rWorks_eq {w : api_Works} (nf : NF w) (N : Nat) (hN : 100 ≤ N) (k : Int → Option R) : newelref09_CheckWorks N w k = k (errW w) := by
  rw [newelref09_CheckWorks_def]
  unfold newelref09_CheckWorks_m
  simp only [within_eq, gt20]
  by_cases c1 : 1 ≤ w.Machines ∧ w.Machines ≤ 12
  rotate_left
  · rw [decide_eq_false c1, errW, if_neg (fun v => c1 v.m)]; rfl
  by_cases c2 : 1 ≤ ((w.Jobs.n : Nat) : Int) ∧ ((w.Jobs.n : Nat) : Int) ≤ 6
  rotate_left
  · rw [decide_eq_true c1, decide_eq_false c2, errW, if_neg (fun v => c2 v.jI)]; rfl
  by_cases c3 : w.Never.n ≤ 20
  rotate_left
  · rw [decide_eq_true c1, decide_eq_true c2, decide_eq_false c3, errW, if_neg (fun v => c3 v.nv)]; rfl
  by_cases c4 : 1 ≤ w.Crews ∧ w.Crews ≤ 6
  rotate_left
  · rw [decide_eq_true c1, decide_eq_true c2, decide_eq_true c3, decide_eq_false c4, errW, if_neg (fun v => c4 v.c)]; rfl
  by_cases c5 : 1 ≤ w.Until ∧ w.Until ≤ 24
  rotate_left
  · rw [decide_eq_true c1, decide_eq_true c2, decide_eq_true c3, decide_eq_true c4, decide_eq_false c5, errW, if_neg (fun v => c5 v.u)]; rfl
  rw [decide_eq_true c1, decide_eq_true c2, decide_eq_true c3, decide_eq_true c4, decide_eq_true c5]
  simp only [Bool.not_true, cond_false]
  have hj := rJobs (R := R) c1 nf N (by omega) (fun r530 => k r530) (fun _ => newelref09_CheckWorks_l17 N N 0 w (fun r534 => k r534) (fun _ => k 0)) w.Jobs.n 0 N (by omega) (by have := nf.j; omega) (fun x hx => by omega)
  rw [show ((0 : Nat) : Int) = 0 from rfl] at hj
  rw [hj]
  by_cases c6 : ∀ x, x < w.Jobs.n → JobOk w x
  rotate_left
  · rw [if_neg c6, errW, if_neg (fun v => c6 v.jobs)]
  rw [if_pos c6]
  have hn := rNever (R := R) c1 N (fun r534 => k r534) (fun _ => k 0) w.Never.n 0 N (by omega) (by omega) (by omega) (fun x hx => by omega)
  rw [show ((0 : Nat) : Int) = 0 from rfl] at hn
  rw [hn]
  by_cases c7 : neverOk w
  · rw [if_pos c7, errW, if_pos ⟨c1, by omega, c3, c4, c5, c6, c7⟩]
  · rw [if_neg c7, errW, if_neg (fun v => c7 v.never)]

theorem sWorks_eq {w : api_Works} (nf : NF w) (N : Nat) (hN : 100 ≤ N) (k : Int → Option R) : shaft_CheckWorks N w k = k (errW w) := by
  rw [shaft_CheckWorks_def]
  unfold shaft_CheckWorks_m
  simp only [wide_eq, gt20]
  by_cases c1 : 1 ≤ w.Machines ∧ w.Machines ≤ 12
  rotate_left
  · rw [decide_eq_false c1, errW, if_neg (fun v => c1 v.m)]; rfl
  by_cases c2 : 1 ≤ ((w.Jobs.n : Nat) : Int) ∧ ((w.Jobs.n : Nat) : Int) ≤ 6
  rotate_left
  · rw [decide_eq_true c1, decide_eq_false c2, errW, if_neg (fun v => c2 v.jI)]; rfl
  by_cases c3 : w.Never.n ≤ 20
  rotate_left
  · rw [decide_eq_true c1, decide_eq_true c2, decide_eq_false c3, errW, if_neg (fun v => c3 v.nv)]; rfl
  by_cases c4 : 1 ≤ w.Crews ∧ w.Crews ≤ 6
  rotate_left
  · rw [decide_eq_true c1, decide_eq_true c2, decide_eq_true c3, decide_eq_false c4, errW, if_neg (fun v => c4 v.c)]; rfl
  by_cases c5 : 1 ≤ w.Until ∧ w.Until ≤ 24
  rotate_left
  · rw [decide_eq_true c1, decide_eq_true c2, decide_eq_true c3, decide_eq_true c4, decide_eq_false c5, errW, if_neg (fun v => c5 v.u)]; rfl
  rw [decide_eq_true c1, decide_eq_true c2, decide_eq_true c3, decide_eq_true c4, decide_eq_true c5]
  simp only [Bool.not_true, cond_false]
  have hj := sJobs (R := R) c1 nf N (by omega) (fun r560 => k r560) (fun _ => slices_ContainsFunc___int_int_ N w.Never w.Machines w.Jobs w.Never w.Crews w.Until (fun r591 => bif r591 then k 92 else k 0)) w.Jobs.n 0 N (by omega) (by have := nf.j; omega) (fun x hx => by omega)
  rw [show ((0 : Nat) : Int) = 0 from rfl] at hj
  rw [hj]
  by_cases c6 : ∀ x, x < w.Jobs.n → JobOk w x
  rotate_left
  · rw [if_neg c6, errW, if_neg (fun v => c6 v.jobs)]
  rw [if_pos c6, slices_ContainsFunc___int_int__def]
  unfold slices_ContainsFunc___int_int__m
  rw [slices_IndexFunc___int_int__def]
  unfold slices_IndexFunc___int_int__m
  have hn := sNever (R := R) c1 w.Jobs w.Never w.Crews w.Until N (fun r589 => bif decide (r589 ≥ 0) then k 92 else k 0) (fun _ => bif decide ((-1 : Int) ≥ 0) then k 92 else k 0) (fun i => by
    try dsimp only
    rw [decide_eq_true (show (i : Int) ≥ 0 by omega)]; rfl) w.Never.n 0 N (by omega) (by omega) (by omega) (fun x hx => by omega)
  rw [show ((0 : Nat) : Int) = 0 from rfl] at hn
  refine Eq.trans hn ?_
  by_cases c7 : neverOk w
  · rw [if_pos c7, errW, if_pos ⟨c1, by omega, c3, c4, c5, c6, c7⟩]; rfl
  · rw [if_neg c7, errW, if_neg (fun v => c7 v.never)]; rfl
end
end Wk
end Go.Proofs.Ytpillmoddoccfab
