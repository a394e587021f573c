import Derived.Test.YtckkodiefpdmhaaDoorQ1
import Derived.Test.YtckkodiefpdmhaaDoorQ1
set_option linter.unusedSectionVars false
set_option linter.unusedVariables false
set_option linter.unusedSimpArgs false
set_option maxHeartbeats 0
set_option maxRecDepth 100000
namespace Go.Proofs.YtckkodiefpdmhaaDoor
open Go.Sx
open Classical
noncomputable section
variable {R : Type}
def job (w : api_Works) (i : Nat) : api_Job := w.Jobs.f i
def prevA (a : Arr Int) : Nat → Int
  | 0 => -1
  | k + 1 => a.f k
def okA (a : Arr Int) (i : Nat) (k : Nat) : Prop := prevA a k + 1 ≤ a.f k ∧ a.f k ≤ (i : Int) - 1
structure JobOk (w : api_Works) (i : Nat) : Prop where
  m : 0 ≤ (job w i).Machine ∧ (job w i).Machine ≤ w.Machines - 1
  n : 1 ≤ (job w i).Nights ∧ (job w i).Nights ≤ 24
  a : ∀ k, k < (job w i).After.n → okA (job w i).After i k
structure VW (w : api_Works) : Prop where
  m : 1 ≤ w.Machines ∧ w.Machines ≤ 12
  j : 1 ≤ w.Jobs.n ∧ w.Jobs.n ≤ 6
  nv : w.Never.n ≤ 20
  c : 1 ≤ w.Crews ∧ w.Crews ≤ 6
  u : 1 ≤ w.Until ∧ w.Until ≤ 24
  jobs : ∀ i, i < w.Jobs.n → JobOk w i
  never : ∀ i, i < w.Never.n → 1 ≤ w.Never.f i ∧ w.Never.f i ≤ ((2 ^ w.Machines.toNat : Nat) : Int) - 1
def errW (w : api_Works) : Int := if VW w then 0 else 92
structure NF (w : api_Works) : Prop where
  j : w.Jobs.n ≤ 10
  nv : w.Never.n ≤ 30
  a : ∀ i, i < w.Jobs.n → (job w i).After.n ≤ 10
theorem VW.nf {w : api_Works} (v : VW w) : ∀ i, i < w.Jobs.n → ∀ k, k < (job w i).After.n → 0 ≤ (job w i).After.f k ∧ (job w i).After.f k < (i : Int) := by
  intro i hi k hk
  have h := (v.jobs i hi).a k hk
  refine ⟨?_, by unfold okA at h; omega⟩
  have : ∀ k, k < (job w i).After.n → 0 ≤ (job w i).After.f k := by
    intro k
    induction k with
    | zero => intro hk; have h : (-1 : Int) + 1 ≤ _ := ((v.jobs i hi).a 0 hk).1; omega
    | succ k ih => intro hk; have := ih (by omega); have h : (job w i).After.f k + 1 ≤ _ := ((v.jobs i hi).a (k + 1) hk).1; omega
  exact this k hk
theorem u64_pos {n : Int} (h : 0 ≤ n) (h2 : n < 1000) : IntKind.wrap IntKind.u64 n = n := by
  have := u64_nat (n := n.toNat) (by omega)
  rwa [show ((n.toNat : Nat) : Int) = n by omega] at this
theorem shl_eq {m : Int} (h : 0 ≤ m) (h2 : m ≤ 12) : w64 ((1 : Int) * (2 : Int) ^ min (Int.toNat m) (IntKind.bits IntKind.i64)) = ((2 ^ m.toNat : Nat) : Int) := by
  have h1 : (2 : Nat) ^ m.toNat ≤ 2 ^ 12 := Nat.pow_le_pow_right (by omega) (by omega)
  have h2 : min (Int.toNat m) (IntKind.bits IntKind.i64) = m.toNat := by show min m.toNat 64 = m.toNat; omega
  rw [h2, Int.one_mul, show ((2 : Int) ^ m.toNat) = ((2 ^ m.toNat : Nat) : Int) by push_cast; rfl]
  generalize (2 : Nat) ^ m.toNat = x at h1 ⊢
  exact w64_eq (by omega) (by omega)
theorem pow_le12 {m : Int} (h2 : m ≤ 12) : (2 : Nat) ^ m.toNat ≤ 4096 := by
  have h1 : (2 : Nat) ^ m.toNat ≤ 2 ^ 12 := Nat.pow_le_pow_right (by omega) (by omega)
  exact h1
theorem full_eq {m : Int} (h : 0 ≤ m) (h2 : m ≤ 12) : w64 (w64 ((1 : Int) * (2 : Int) ^ min (Int.toNat m) (IntKind.bits IntKind.i64)) - 1) = ((2 ^ m.toNat : Nat) : Int) - 1 := by
  rw [shl_eq h h2]
  have := pow_le12 h2
  generalize (2 : Nat) ^ m.toNat = x at this ⊢
  exact w64_eq (by omega) (by omega)
theorem wide_eq (N : Nat) (n lo hi : Int) (k : Bool → Option R) : shaft_CheckWorks_1 N n lo hi k = k (decide (lo ≤ n ∧ n ≤ hi)) := by
  rw [shaft_CheckWorks_1_def]
  unfold shaft_CheckWorks_1_m
  by_cases h : lo ≤ n
  · simp only [h, decide_true, cond_true, true_and]
  · have : ¬ (lo ≤ n ∧ n ≤ hi) := fun g => h g.1
    rw [decide_eq_false this]
    simp only [h, decide_false, cond_false]
theorem rAfter (N : Nat) (w : api_Works) (j : api_Job) {i : Nat} (hi : i ≤ 10) (kr : Int → Option R) (k2 : Unit → Option R) : ∀ (q k n : Nat), k + q = j.After.n → j.After.n ≤ 10 → q < n → (∀ x, x < k → okA j.After i x) →
    newelref09_CheckWorks_l11 N n (i : Int) (prevA j.After k) (k : Int) w j kr k2 = if (∀ x, x < j.After.n → okA j.After i x) then k2 () else kr 92 := by
  intro q
  induction q with
  | zero =>
    intro k n h1 h0 h2 h3
    obtain ⟨n, rfl⟩ : ∃ m, n = m + 1 := ⟨n - 1, by omega⟩
    rw [if_pos (fun x hx => h3 x (by omega))]
    unfold newelref09_CheckWorks_l11 newelref09_CheckWorks_b11
    rw [ltF (show j.After.n ≤ k by omega), cond_false]
  | succ q ih =>
    intro k n h1 h0 h2 h3
    obtain ⟨n, rfl⟩ : ∃ m, n = m + 1 := ⟨n - 1, by omega⟩
    have hb : -1 ≤ prevA j.After k ∧ prevA j.After k ≤ 10 := by
      cases k with
      | zero => exact ⟨by show (-1 : Int) ≤ -1; omega, by show (-1 : Int) ≤ 10; omega⟩
      | succ k =>
        have : ∀ x, x < k + 1 → -1 ≤ j.After.f x ∧ j.After.f x ≤ 10 := by
          intro x
          induction x with
          | zero => intro hx; obtain ⟨a, b⟩ := h3 0 hx; have a : (-1 : Int) + 1 ≤ _ := a; exact ⟨by omega, by omega⟩
          | succ x ihx => intro hx; obtain ⟨a, b⟩ := h3 (x + 1) hx; have a : j.After.f x + 1 ≤ _ := a; have := ihx (by omega); exact ⟨by omega, by omega⟩
        exact this k (by omega)
    unfold newelref09_CheckWorks_l11 newelref09_CheckWorks_b11
    simp only [ltT (show k < j.After.n by omega), nat_nonneg, Bool.and_self, cond_true, Int.toNat_natCast (n := k), w64_succ (show k < 1000000000000 by omega), within_eq,
      w64_eq (show -9223372036854775808 ≤ prevA j.After k + 1 by omega) (by omega), w64_eq (show -9223372036854775808 ≤ (i : Int) - 1 by omega) (by omega)]
    by_cases c : okA j.After i k
    · have c' : prevA j.After k + 1 ≤ j.After.f k ∧ j.After.f k ≤ (i : Int) - 1 := c
      rw [decide_eq_true c']
      exact ih (k + 1) n (by omega) h0 (by omega) (fun x hx => by
        by_cases e : x = k
        · subst e; exact c
        · exact h3 x (by omega))
    · have c' : ¬ (prevA j.After k + 1 ≤ j.After.f k ∧ j.After.f k ≤ (i : Int) - 1) := c
      rw [decide_eq_false c', if_neg (fun h => c (h k (by omega)))]
      rfl
theorem sAfter (N : Nat) (w : api_Works) (J : Arr api_Job) (m x1 : Int) (a : Arr Int) {i : Nat} (hi : i ≤ 10) (kr : Int → Option R) (k2 : Unit → Option R) : ∀ (q k n : Nat), k + q = a.n → a.n ≤ 10 → q < n → (∀ x, x < k → okA a i x) →
    shaft_CheckWorks_l11 N n (i : Int) (prevA a k + 1) J m x1 a (a.n : Int) (k : Int) w kr k2 = if (∀ x, x < a.n → okA a i x) then k2 () else kr 92 := by
  intro q
  induction q with
  | zero =>
    intro k n h1 h0 h2 h3
    obtain ⟨n, rfl⟩ : ∃ m, n = m + 1 := ⟨n - 1, by omega⟩
    rw [if_pos (fun x hx => h3 x (by omega))]
    unfold shaft_CheckWorks_l11 shaft_CheckWorks_b11
    rw [ltF (show a.n ≤ k by omega), cond_false]
  | succ q ih =>
    intro k n h1 h0 h2 h3
    obtain ⟨n, rfl⟩ : ∃ m, n = m + 1 := ⟨n - 1, by omega⟩
    unfold shaft_CheckWorks_l11 shaft_CheckWorks_b11
    simp only [ltT (show k < a.n by omega), nat_nonneg, Bool.and_self, cond_true, Int.toNat_natCast (n := k), w64_succ (show k < 1000000000000 by omega), wide_eq,
      w64_eq (show -9223372036854775808 ≤ (i : Int) - 1 by omega) (by omega)]
    by_cases c : okA a i k
    · have c' : prevA a k + 1 ≤ a.f k ∧ a.f k ≤ (i : Int) - 1 := c
      have hb : ∀ x, x < k + 1 → -1 ≤ a.f x ∧ a.f x ≤ 10 := by
        have h3' : ∀ x, x < k + 1 → okA a i x := fun x hx => by
          by_cases e : x = k
          · subst e; exact c
          · exact h3 x (by omega)
        intro x
        induction x with
        | zero => intro hx; obtain ⟨a, b⟩ := h3' 0 hx; have a : (-1 : Int) + 1 ≤ _ := a; exact ⟨by omega, by omega⟩
        | succ x ihx => intro hx; obtain ⟨p, b⟩ := h3' (x + 1) hx; have p : a.f x + 1 ≤ _ := p; have := ihx (by omega); exact ⟨by omega, by omega⟩
      have hk := hb k (by omega)
      rw [decide_eq_true c', w64_eq (show -9223372036854775808 ≤ a.f k + 1 by omega) (by omega)]
      exact ih (k + 1) n (by omega) h0 (by omega) (fun x hx => by
        by_cases e : x = k
        · subst e; exact c
        · exact h3 x (by omega))
    · have c' : ¬ (prevA a k + 1 ≤ a.f k ∧ a.f k ≤ (i : Int) - 1) := c
      rw [decide_eq_false c', if_neg (fun h => c (h k (by omega)))]
      rfl
theorem rJobs {w : api_Works} (hm : 1 ≤ w.Machines ∧ w.Machines ≤ 12) (nf : NF w) (N : Nat) (hN : 20 ≤ N) (kr : Int → Option R) (k0 : Unit → Option R) : ∀ (q i n : Nat), i + q = w.Jobs.n → q < n → (∀ x, x < i → JobOk w x) →
    newelref09_CheckWorks_l4 N n (i : Int) w kr k0 = if (∀ x, x < w.Jobs.n → JobOk w x) then k0 () else kr 92 := by
  intro q
  induction q with
  | zero =>
    intro i n h1 h2 h3
    obtain ⟨n, rfl⟩ : ∃ m, n = m + 1 := ⟨n - 1, by omega⟩
    rw [if_pos (fun x hx => h3 x (by omega))]
    unfold newelref09_CheckWorks_l4 newelref09_CheckWorks_b4
    rw [ltF (show w.Jobs.n ≤ i by omega), cond_false]
  | succ q ih =>
    intro i n h1 h2 h3
    obtain ⟨n, rfl⟩ : ∃ m, n = m + 1 := ⟨n - 1, by omega⟩
    have hj := nf.j
    have ha : (w.Jobs.f i).After.n ≤ 10 := nf.a i (by omega)
    have key : ∀ T : Option R, (JobOk w i → T = if (∀ x, x < w.Jobs.n → JobOk w x) then k0 () else kr 92) → (if JobOk w i then T else kr 92) = if (∀ x, x < w.Jobs.n → JobOk w x) then k0 () else kr 92 := fun T hT => by
      by_cases c : JobOk w i
      · rw [if_pos c]; exact hT c
      · rw [if_neg c, if_neg (fun h => c (h i (by omega)))]
    have hr := key (newelref09_CheckWorks_l4 N n ((i + 1 : Nat) : Int) w kr k0) (fun c => ih (i + 1) n (by omega) (by omega) (fun x hx => by
        by_cases e : x = i
        · subst e; exact c
        · exact h3 x (by omega)))
    rw [← hr]
    conv => lhs; unfold newelref09_CheckWorks_l4 newelref09_CheckWorks_b4
    have hA := rAfter (R := R) N w (w.Jobs.f i) (i := i) (by omega) (fun r529 => kr r529) (fun _ => newelref09_CheckWorks_l4 N n (w64 ((i : Int) + 1)) w kr k0) (w.Jobs.f i).After.n 0 N (by omega) ha (by omega) (fun x hx => by omega)
    have hA' : newelref09_CheckWorks_l11 N N (i : Int) (-1) 0 w (w.Jobs.f i) (fun r529 => kr r529) (fun _ => newelref09_CheckWorks_l4 N n (w64 ((i : Int) + 1)) w kr k0) = _ := hA
    simp only [ltT (show i < w.Jobs.n by omega), nat_nonneg, Bool.and_self, cond_true, Int.toNat_natCast (n := i), within_eq, w64_eq (show -9223372036854775808 ≤ w.Machines - 1 by omega) (by omega)]
    rw [hA', w64_succ (show i < 1000000000000 by omega)]
    by_cases c1 : 0 ≤ (w.Jobs.f i).Machine ∧ (w.Jobs.f i).Machine ≤ w.Machines - 1
    rotate_left
    · rw [decide_eq_false c1, if_neg (show ¬ JobOk w i from fun h => c1 h.m)]; rfl
    by_cases c2 : 1 ≤ (w.Jobs.f i).Nights ∧ (w.Jobs.f i).Nights ≤ 24
    rotate_left
    · rw [decide_eq_true c1, decide_eq_false c2, if_neg (show ¬ JobOk w i from fun h => c2 h.n)]; rfl
    rw [decide_eq_true c1, decide_eq_true c2]
    simp only [Bool.not_true, cond_false]
    by_cases c3 : ∀ k, k < (w.Jobs.f i).After.n → okA (w.Jobs.f i).After i k
    · rw [if_pos c3, if_pos (show JobOk w i from ⟨c1, c2, c3⟩)]
    · rw [if_neg c3, if_neg (show ¬ JobOk w i from fun h => c3 h.a)]
theorem sJobs {w : api_Works} (hm : 1 ≤ w.Machines ∧ w.Machines ≤ 12) (nf : NF w) (N : Nat) (hN : 20 ≤ N) (kr : Int → Option R) (k0 : Unit → Option R) : ∀ (q i n : Nat), i + q = w.Jobs.n → q < n → (∀ x, x < i → JobOk w x) →
    shaft_CheckWorks_l5 N n w.Jobs (w.Jobs.n : Int) (i : Int) w kr k0 = if (∀ x, x < w.Jobs.n → JobOk w x) then k0 () else kr 92 := by
  intro q
  induction q with
  | zero =>
    intro i n h1 h2 h3
    obtain ⟨n, rfl⟩ : ∃ m, n = m + 1 := ⟨n - 1, by omega⟩
    rw [if_pos (fun x hx => h3 x (by omega))]
    unfold shaft_CheckWorks_l5 shaft_CheckWorks_b5
    rw [ltF (show w.Jobs.n ≤ i by omega), cond_false]
  | succ q ih =>
    intro i n h1 h2 h3
    obtain ⟨n, rfl⟩ : ∃ m, n = m + 1 := ⟨n - 1, by omega⟩
    have hj := nf.j
    have ha : (w.Jobs.f i).After.n ≤ 10 := nf.a i (by omega)
    have key : ∀ T : Option R, (JobOk w i → T = if (∀ x, x < w.Jobs.n → JobOk w x) then k0 () else kr 92) → (if JobOk w i then T else kr 92) = if (∀ x, x < w.Jobs.n → JobOk w x) then k0 () else kr 92 := fun T hT => by
      by_cases c : JobOk w i
      · rw [if_pos c]; exact hT c
      · rw [if_neg c, if_neg (fun h => c (h i (by omega)))]
    have hr := key (shaft_CheckWorks_l5 N n w.Jobs (w.Jobs.n : Int) ((i + 1 : Nat) : Int) w kr k0) (fun c => ih (i + 1) n (by omega) (by omega) (fun x hx => by
        by_cases e : x = i
        · subst e; exact c
        · exact h3 x (by omega)))
    rw [← hr]
    conv => lhs; unfold shaft_CheckWorks_l5 shaft_CheckWorks_b5
    have hA := sAfter (R := R) N w w.Jobs (w.Jobs.n : Int) (i : Int) (w.Jobs.f i).After (i := i) (by omega) (fun r559 => kr r559) (fun _ => shaft_CheckWorks_l5 N n w.Jobs (w.Jobs.n : Int) (w64 ((i : Int) + 1)) w kr k0) (w.Jobs.f i).After.n 0 N (by omega) ha (by omega) (fun x hx => by omega)
    have hA' : shaft_CheckWorks_l11 N N (i : Int) 0 w.Jobs (w.Jobs.n : Int) (i : Int) (w.Jobs.f i).After ((w.Jobs.f i).After.n : Int) 0 w (fun r559 => kr r559) (fun _ => shaft_CheckWorks_l5 N n w.Jobs (w.Jobs.n : Int) (w64 ((i : Int) + 1)) w kr k0) = _ := hA
    simp only [ltT (show i < w.Jobs.n by omega), nat_nonneg, Bool.and_self, cond_true, Int.toNat_natCast (n := i), wide_eq, w64_eq (show -9223372036854775808 ≤ w.Machines - 1 by omega) (by omega)]
    rw [hA', w64_succ (show i < 1000000000000 by omega)]
    by_cases c1 : 0 ≤ (w.Jobs.f i).Machine ∧ (w.Jobs.f i).Machine ≤ w.Machines - 1
    rotate_left
    · rw [decide_eq_false c1, if_neg (show ¬ JobOk w i from fun h => c1 h.m)]; rfl
    by_cases c2 : 1 ≤ (w.Jobs.f i).Nights ∧ (w.Jobs.f i).Nights ≤ 24
    rotate_left
    · rw [decide_eq_true c1, decide_eq_false c2, if_neg (show ¬ JobOk w i from fun h => c2 h.n)]; rfl
    rw [decide_eq_true c1, decide_eq_true c2]
    simp only [Bool.not_true, cond_false]
    by_cases c3 : ∀ k, k < (w.Jobs.f i).After.n → okA (w.Jobs.f i).After i k
    · rw [if_pos c3, if_pos (show JobOk w i from ⟨c1, c2, c3⟩)]
    · rw [if_neg c3, if_neg (show ¬ JobOk w i from fun h => c3 h.a)]
def neverOk (w : api_Works) : Prop := ∀ i, i < w.Never.n → 1 ≤ w.Never.f i ∧ w.Never.f i ≤ ((2 ^ w.Machines.toNat : Nat) : Int) - 1
theorem rNever {w : api_Works} (hm : 1 ≤ w.Machines ∧ w.Machines ≤ 12) (N : Nat) (kr : Int → Option R) (k4 : Unit → Option R) : ∀ (q i n : Nat), i + q = w.Never.n → w.Never.n ≤ 30 → q < n → (∀ x, x < i → 1 ≤ w.Never.f x ∧ w.Never.f x ≤ ((2 ^ w.Machines.toNat : Nat) : Int) - 1) →
    newelref09_CheckWorks_l17 N n (i : Int) w kr k4 = if neverOk w then k4 () else kr 92 := by
  intro q
  induction q with
  | zero =>
    intro i n h1 h0 h2 h3
    obtain ⟨n, rfl⟩ : ∃ m, n = m + 1 := ⟨n - 1, by omega⟩
    rw [if_pos (show neverOk w from fun x hx => h3 x (by omega))]
    unfold newelref09_CheckWorks_l17 newelref09_CheckWorks_b17
    rw [ltF (show w.Never.n ≤ i by omega), cond_false]
  | succ q ih =>
    intro i n h1 h0 h2 h3
    obtain ⟨n, rfl⟩ : ∃ m, n = m + 1 := ⟨n - 1, by omega⟩
    unfold newelref09_CheckWorks_l17 newelref09_CheckWorks_b17
    simp only [ltT (show i < w.Never.n by omega), nat_nonneg, Bool.and_self, cond_true, Int.toNat_natCast (n := i), within_eq, w64_succ (show i < 1000000000000 by omega), u64_pos (show 0 ≤ w.Machines by omega) (by omega),
      full_eq (show 0 ≤ w.Machines by omega) hm.2]
    rw [decide_eq_false (show ¬ w.Machines < 0 by omega), cond_false]
    by_cases c : 1 ≤ w.Never.f i ∧ w.Never.f i ≤ ((2 ^ w.Machines.toNat : Nat) : Int) - 1
    · rw [decide_eq_true c]
      exact ih (i + 1) n (by omega) h0 (by omega) (fun x hx => by
        by_cases e : x = i
        · subst e; exact c
        · exact h3 x (by omega))
    · rw [decide_eq_false c, if_neg (fun h => c (h i (by omega)))]; rfl
theorem sNever {w : api_Works} (hm : 1 ≤ w.Machines ∧ w.Machines ≤ 12) (J : Arr api_Job) (V : Arr Int) (c u : Int) (N : Nat) (kr : Int → Option R) (k0 : Unit → Option R) (hkr : ∀ i : Nat, kr (i : Int) = kr 0) : ∀ (q i n : Nat), i + q = w.Never.n → w.Never.n ≤ 30 → q < n → (∀ x, x < i → 1 ≤ w.Never.f x ∧ w.Never.f x ≤ ((2 ^ w.Machines.toNat : Nat) : Int) - 1) →
    slices_IndexFunc___int_int__l2 N n w.Never (w.Never.n : Int) (i : Int) w.Machines J V c u kr k0 = if neverOk w then k0 () else kr 0 := by
  intro q
  induction q with
  | zero =>
    intro i n h1 h0 h2 h3
    obtain ⟨n, rfl⟩ : ∃ m, n = m + 1 := ⟨n - 1, by omega⟩
    rw [if_pos (show neverOk w from fun x hx => h3 x (by omega))]
    unfold slices_IndexFunc___int_int__l2 slices_IndexFunc___int_int__b2
    rw [ltF (show w.Never.n ≤ i by omega), cond_false]
  | succ q ih =>
    intro i n h1 h0 h2 h3
    obtain ⟨n, rfl⟩ : ∃ m, n = m + 1 := ⟨n - 1, by omega⟩
    have hc : ∀ (x : Int) (k : Bool → Option R), shaft_CheckWorks_2 N x w.Machines J V c u k = k !(decide (1 ≤ x ∧ x ≤ ((2 ^ w.Machines.toNat : Nat) : Int) - 1)) := fun x k => by
      rw [shaft_CheckWorks_2_def]
      unfold shaft_CheckWorks_2_m
      rw [decide_eq_false (show ¬ w.Machines < 0 by omega), cond_false, full_eq (by omega) hm.2, wide_eq]
    unfold slices_IndexFunc___int_int__l2 slices_IndexFunc___int_int__b2
    simp only [ltT (show i < w.Never.n by omega), nat_nonneg, Bool.and_self, cond_true, Int.toNat_natCast (n := i), w64_succ (show i < 1000000000000 by omega), hc]
    by_cases c : 1 ≤ w.Never.f i ∧ w.Never.f i ≤ ((2 ^ w.Machines.toNat : Nat) : Int) - 1
    · rw [decide_eq_true c]
      exact ih (i + 1) n (by omega) h0 (by omega) (fun x hx => by
        by_cases e : x = i
        · subst e; exact c
        · exact h3 x (by omega))
    · rw [decide_eq_false c, if_neg (fun h => c (h i (by omega)))]; exact hkr i
theorem gt20 {n : Nat} : decide (((n : Nat) : Int) > (20 : Int)) = !decide (n ≤ 20) := by
  by_cases h : n ≤ 20
  · rw [decide_eq_true h, decide_eq_false (by omega)]; rfl
  · rw [decide_eq_false h, decide_eq_true (by omega)]; rfl
theorem VW.jI {w : api_Works} (v : VW w) : 1 ≤ ((w.Jobs.n : Nat) : Int) ∧ ((w.Jobs.n : Nat) : Int) ≤ 6 := by have := v.j; omega
theorem rWorks_eq {w : api_Works} (nf : NF w) (N : Nat) (hN : 100 ≤ N) (k : Int → Option R) : newelref09_CheckWorks N w k = k (errW w) := by
  rw [newelref09_CheckWorks_def]
  unfold newelref09_CheckWorks_m
  simp only [within_eq, gt20]
  by_cases c1 : 1 ≤ w.Machines ∧ w.Machines ≤ 12
  rotate_left
  · rw [decide_eq_false c1, errW, if_neg (fun v => c1 v.m)]; rfl
  by_cases c2 : 1 ≤ ((w.Jobs.n : Nat) : Int) ∧ ((w.Jobs.n : Nat) : Int) ≤ 6
  rotate_left
  · rw [decide_eq_true c1, decide_eq_false c2, errW, if_neg (fun v => c2 v.jI)]; rfl
  by_cases c3 : w.Never.n ≤ 20
  rotate_left
  · rw [decide_eq_true c1, decide_eq_true c2, decide_eq_false c3, errW, if_neg (fun v => c3 v.nv)]; rfl
  by_cases c4 : 1 ≤ w.Crews ∧ w.Crews ≤ 6
  rotate_left
  · rw [decide_eq_true c1, decide_eq_true c2, decide_eq_true c3, decide_eq_false c4, errW, if_neg (fun v => c4 v.c)]; rfl
  by_cases c5 : 1 ≤ w.Until ∧ w.Until ≤ 24
  rotate_left
  · rw [decide_eq_true c1, decide_eq_true c2, decide_eq_true c3, decide_eq_true c4, decide_eq_false c5, errW, if_neg (fun v => c5 v.u)]; rfl
  rw [decide_eq_true c1, decide_eq_true c2, decide_eq_true c3, decide_eq_true c4, decide_eq_true c5]
  simp only [Bool.not_true, cond_false]
  have hj := rJobs (R := R) c1 nf N (by omega) (fun r530 => k r530) (fun _ => newelref09_CheckWorks_l17 N N 0 w (fun r534 => k r534) (fun _ => k 0)) w.Jobs.n 0 N (by omega) (by have := nf.j; omega) (fun x hx => by omega)
  rw [show ((0 : Nat) : Int) = 0 from rfl] at hj
  rw [hj]
  by_cases c6 : ∀ x, x < w.Jobs.n → JobOk w x
  rotate_left
  · rw [if_neg c6, errW, if_neg (fun v => c6 v.jobs)]
  rw [if_pos c6]
  have hn := rNever (R := R) c1 N (fun r534 => k r534) (fun _ => k 0) w.Never.n 0 N (by omega) (by omega) (by omega) (fun x hx => by omega)
  rw [show ((0 : Nat) : Int) = 0 from rfl] at hn
  rw [hn]
  by_cases c7 : neverOk w
  · rw [if_pos c7, errW, if_pos ⟨c1, by omega, c3, c4, c5, c6, c7⟩]
  · rw [if_neg c7, errW, if_neg (fun v => c7 v.never)]
theorem sWorks_eq {w : api_Works} (nf : NF w) (N : Nat) (hN : 100 ≤ N) (k : Int → Option R) : shaft_CheckWorks N w k = k (errW w) := by
  rw [shaft_CheckWorks_def]
  unfold shaft_CheckWorks_m
  simp only [wide_eq, gt20]
  by_cases c1 : 1 ≤ w.Machines ∧ w.Machines ≤ 12
  rotate_left
  · rw [decide_eq_false c1, errW, if_neg (fun v => c1 v.m)]; rfl
  by_cases c2 : 1 ≤ ((w.Jobs.n : Nat) : Int) ∧ ((w.Jobs.n : Nat) : Int) ≤ 6
  rotate_left
  · rw [decide_eq_true c1, decide_eq_false c2, errW, if_neg (fun v => c2 v.jI)]; rfl
  by_cases c3 : w.Never.n ≤ 20
  rotate_left
  · rw [decide_eq_true c1, decide_eq_true c2, decide_eq_false c3, errW, if_neg (fun v => c3 v.nv)]; rfl
  by_cases c4 : 1 ≤ w.Crews ∧ w.Crews ≤ 6
  rotate_left
  · rw [decide_eq_true c1, decide_eq_true c2, decide_eq_true c3, decide_eq_false c4, errW, if_neg (fun v => c4 v.c)]; rfl
  by_cases c5 : 1 ≤ w.Until ∧ w.Until ≤ 24
  rotate_left
  · rw [decide_eq_true c1, decide_eq_true c2, decide_eq_true c3, decide_eq_true c4, decide_eq_false c5, errW, if_neg (fun v => c5 v.u)]; rfl
  rw [decide_eq_true c1, decide_eq_true c2, decide_eq_true c3, decide_eq_true c4, decide_eq_true c5]
  simp only [Bool.not_true, cond_false]
  have hj := sJobs (R := R) c1 nf N (by omega) (fun r560 => k r560) (fun _ => slices_ContainsFunc___int_int_ N w.Never w.Machines w.Jobs w.Never w.Crews w.Until (fun r591 => bif r591 then k 92 else k 0)) w.Jobs.n 0 N (by omega) (by have := nf.j; omega) (fun x hx => by omega)
  rw [show ((0 : Nat) : Int) = 0 from rfl] at hj
  rw [hj]
  by_cases c6 : ∀ x, x < w.Jobs.n → JobOk w x
  rotate_left
  · rw [if_neg c6, errW, if_neg (fun v => c6 v.jobs)]
  rw [if_pos c6, slices_ContainsFunc___int_int__def]
  unfold slices_ContainsFunc___int_int__m
  rw [slices_IndexFunc___int_int__def]
  unfold slices_IndexFunc___int_int__m
  have hn := sNever (R := R) c1 w.Jobs w.Never w.Crews w.Until N (fun r589 => bif decide (r589 ≥ 0) then k 92 else k 0) (fun _ => bif decide ((-1 : Int) ≥ 0) then k 92 else k 0) (fun i => by
    try dsimp only
    rw [decide_eq_true (show (i : Int) ≥ 0 by omega)]; rfl) w.Never.n 0 N (by omega) (by omega) (by omega) (fun x hx => by omega)
  rw [show ((0 : Nat) : Int) = 0 from rfl] at hn
  refine Eq.trans hn ?_
  by_cases c7 : neverOk w
  · rw [if_pos c7, errW, if_pos ⟨c1, by omega, c3, c4, c5, c6, c7⟩]; rfl
  · rw [if_neg c7, errW, if_neg (fun v => c7 v.never)]; rfl
end
end Go.Proofs.YtckkodiefpdmhaaDoor
set_option linter.unusedVariables false
set_option linter.unusedSimpArgs false
set_option maxHeartbeats 0
set_option maxRecDepth 100000
namespace Go.Proofs.YtckkodiefpdmhaaDoor
open Go.Sx
section
def fnd (P : Nat → Bool) : Nat → Nat → Option Nat
  | 0, _ => none
  | q + 1, i => bif P i then some i else fnd P q (i + 1)
theorem fnd_none {P : Nat → Bool} : ∀ {q i : Nat}, fnd P q i = none → ∀ j, i ≤ j → j < i + q → P j = false := by
  intro q
  induction q with
  | zero => intro i _ j h1 h2; omega
  | succ q ih =>
    intro i h j h1 h2
    simp only [fnd] at h
    cases hp : P i <;> rw [hp] at h <;> simp only [cond_true, cond_false, reduceCtorEq] at h
    by_cases e : j = i
    · subst e; exact hp
    · exact ih h j (by omega) (by omega)
theorem fnd_some {P : Nat → Bool} : ∀ {q i j : Nat}, fnd P q i = some j → P j = true ∧ i ≤ j ∧ j < i + q := by
  intro q
  induction q with
  | zero => intro i j h; cases h
  | succ q ih =>
    intro i j h
    simp only [fnd] at h
    cases hp : P i <;> rw [hp] at h <;> simp only [cond_true, cond_false] at h
    · have := ih h; exact ⟨this.1, by omega, by omega⟩
    · injection h with h; subst h; exact ⟨hp, by omega, by omega⟩
def anyN (P : Nat → Bool) : Nat → Nat → Bool
  | 0, _ => false
  | q + 1, i => P i || anyN P q (i + 1)
theorem anyN_iff {P : Nat → Bool} : ∀ {q i : Nat}, anyN P q i = true ↔ ∃ j, i ≤ j ∧ j < i + q ∧ P j = true := by
  intro q
  induction q with
  | zero => intro i; constructor
            · intro h; cases h
            · rintro ⟨j, h1, h2, _⟩; omega
  | succ q ih =>
    intro i
    simp only [anyN, Bool.or_eq_true, ih]
    constructor
    · rintro (h | ⟨j, h1, h2, h3⟩)
      · exact ⟨i, by omega, by omega, h⟩
      · exact ⟨j, by omega, by omega, h3⟩
    · rintro ⟨j, h1, h2, h3⟩
      by_cases e : j = i
      · subst e; exact .inl h3
      · exact .inr ⟨j, by omega, by omega, h3⟩
def bad1 (w : api_Works) (p : Arr Int) (i : Nat) : Bool := decide (p.f i < 0) || decide (p.f i > w.Until - (w.Jobs.f i).Nights)
def late (w : api_Works) (p : Arr Int) (i k : Nat) : Bool := decide (p.f ((w.Jobs.f i).After.f k).toNat + (w.Jobs.f ((w.Jobs.f i).After.f k).toNat).Nights > p.f i)
def bad2 (w : api_Works) (p : Arr Int) (i : Nat) : Bool := anyN (late w p i) (w.Jobs.f i).After.n 0
def nt (w : api_Works) (p : Arr Int) (x : Int) : Nat → Nat × Nat × Bool
  | 0 => (0, 0, false)
  | i + 1 => bif decide (p.f i ≤ x) && decide (x < p.f i + (w.Jobs.f i).Nights) then
      ((nt w p x i).1 ||| 2 ^ (w.Jobs.f i).Machine.toNat, (nt w p x i).2.1 + 1, (nt w p x i).2.2 || (nt w p x i).1.testBit (w.Jobs.f i).Machine.toNat)
    else nt w p x i
def ntA (w : api_Works) (p : Arr Int) (x : Int) : Nat × Nat × Bool := nt w p x w.Jobs.n
def bad3 (w : api_Works) (p : Arr Int) (x : Nat) : Bool := (ntA w p x).2.2
def bad4 (w : api_Works) (p : Arr Int) (x : Nat) : Bool := decide ((((ntA w p x).2.1 : Nat) : Int) > w.Crews)
def inSet (w : api_Works) (S : Nat) (i : Nat) : Bool := decide ((((S &&& (w.Never.f i).toNat) : Nat) : Int) = w.Never.f i)
def bad5 (w : api_Works) (p : Arr Int) (x : Nat) : Bool := anyN (inSet w (ntA w p x).1) w.Never.n 0
def jdg (w : api_Works) (p : Arr Int) : Int × Int :=
  match fnd (bad1 w p) w.Jobs.n 0 with
  | some i => (1, i)
  | none => match fnd (bad2 w p) w.Jobs.n 0 with
    | some i => (2, i)
    | none => match fnd (bad3 w p) w.Until.toNat 0 with
      | some i => (3, i)
      | none => match fnd (bad4 w p) w.Until.toNat 0 with
        | some i => (4, i)
        | none => match fnd (bad5 w p) w.Until.toNat 0 with
          | some i => (5, i)
          | none => (0, 0)
end
open Classical
noncomputable section
variable {R : Type}
theorem nt_lt {w : api_Works} (v : VW w) (p : Arr Int) (x : Int) : ∀ i, i ≤ w.Jobs.n → (nt w p x i).1 < 4096 ∧ (nt w p x i).2.1 ≤ i := by
  intro i
  induction i with
  | zero => intro _; exact ⟨by show 0 < 4096; omega, Nat.le_refl _⟩
  | succ i ih =>
    intro hi
    have h := ih (by omega)
    have hm := (v.jobs i (by omega)).m
    have hm2 := v.m
    unfold job at hm
    simp only [nt]
    cases hc : (decide (p.f i ≤ x) && decide (x < p.f i + (w.Jobs.f i).Nights))
    · exact ⟨h.1, by simp only [cond_false]; omega⟩
    · refine ⟨?_, by simp only [cond_true]; omega⟩
      have hlt : 2 ^ (w.Jobs.f i).Machine.toNat < 2 ^ 12 := Nat.pow_lt_pow_right (by omega) (by omega)
      exact Nat.or_lt_two_pow (n := 12) h.1 hlt
section
variable {w : api_Works} (v : VW w) {p : Arr Int} (hn : p.n = w.Jobs.n)
include v hn
theorem s_l2 (N : Nat) (kr : Int → Int → Option R) (k0 : Unit → Option R) : ∀ (q i n : Nat), i + q = w.Jobs.n → q < n →
    shaft_judge_l2 N n p w.Jobs (w.Jobs.n : Int) (i : Int) w kr k0 = match fnd (bad1 w p) q i with | some j => kr 1 (j : Int) | none => k0 () := by
  intro q
  induction q with
  | zero =>
    intro i n h1 h2
    obtain ⟨n, rfl⟩ : ∃ m, n = m + 1 := ⟨n - 1, by omega⟩
    unfold shaft_judge_l2 shaft_judge_b2
    rw [ltF (show w.Jobs.n ≤ i by omega), cond_false]; rfl
  | succ q ih =>
    intro i n h1 h2
    obtain ⟨n, rfl⟩ : ∃ m, n = m + 1 := ⟨n - 1, by omega⟩
    have hj := (v.jobs i (by omega)).n
    have hu := v.u
    have hjn := v.j
    unfold job at hj
    unfold shaft_judge_l2 shaft_judge_b2
    simp only [hn, ltT (show i < w.Jobs.n by omega), nat_nonneg, Bool.and_self, cond_true, Int.toNat_natCast (n := i), w64_succ (show i < 1000000000000 by omega), fnd, bad1,
      w64_eq (show -9223372036854775808 ≤ w.Until - (w.Jobs.f i).Nights by omega) (by omega)]
    by_cases c1 : p.f i < 0
    · simp only [c1, decide_true, cond_true, Bool.true_or]
    by_cases c2 : p.f i > w.Until - (w.Jobs.f i).Nights
    · simp only [c1, c2, decide_true, decide_false, cond_true, cond_false, Bool.or_true]
    simp only [c1, c2, decide_false, cond_false, Bool.or_false]
    exact ih (i + 1) n (by omega) (by omega)
theorem r_l2 (N : Nat) (kr : Int → Int → Option R) (k0 : Unit → Option R) : ∀ (q i n : Nat), i + q = w.Jobs.n → q < n →
    newelref09_reason_l2 N n p (i : Int) w kr k0 = match fnd (bad1 w p) q i with | some j => kr 1 (j : Int) | none => k0 () := by
  intro q
  induction q with
  | zero =>
    intro i n h1 h2
    obtain ⟨n, rfl⟩ : ∃ m, n = m + 1 := ⟨n - 1, by omega⟩
    unfold newelref09_reason_l2 newelref09_reason_b2
    rw [ltF (show w.Jobs.n ≤ i by omega), cond_false]; rfl
  | succ q ih =>
    intro i n h1 h2
    obtain ⟨n, rfl⟩ : ∃ m, n = m + 1 := ⟨n - 1, by omega⟩
    have hj := (v.jobs i (by omega)).n
    have hu := v.u
    have hjn := v.j
    unfold job at hj
    unfold newelref09_reason_l2 newelref09_reason_b2
    simp only [hn, ltT (show i < w.Jobs.n by omega), nat_nonneg, Bool.and_self, cond_true, Int.toNat_natCast (n := i), w64_succ (show i < 1000000000000 by omega), fnd, bad1,
      w64_eq (show -9223372036854775808 ≤ w.Until - (w.Jobs.f i).Nights by omega) (by omega)]
    by_cases c1 : p.f i < 0
    · simp only [c1, decide_true, cond_true, Bool.true_or]
    by_cases c2 : p.f i > w.Until - (w.Jobs.f i).Nights
    · simp only [c1, c2, decide_true, decide_false, cond_true, cond_false, Bool.or_true]
    simp only [c1, c2, decide_false, cond_false, Bool.or_false]
    exact ih (i + 1) n (by omega) (by omega)
variable (hb : ∀ i, i < w.Jobs.n → 0 ≤ p.f i ∧ p.f i ≤ 24)
include hb
theorem s_l11 (N : Nat) (m x1 : Int) {i : Nat} (hi : i < w.Jobs.n) (kr : Int → Option R) (k4 : Unit → Option R) : ∀ (q k n : Nat), k + q = (w.Jobs.f i).After.n → q < n → q ≤ 10 →
    shaft_judge_l11 N n p (i : Int) w.Jobs m x1 (w.Jobs.f i).After ((w.Jobs.f i).After.n : Int) (k : Int) w kr k4 = bif anyN (late w p i) q k then kr 2 else k4 () := by
  intro q
  induction q with
  | zero =>
    intro k n h1 h2 _
    obtain ⟨n, rfl⟩ : ∃ m, n = m + 1 := ⟨n - 1, by omega⟩
    unfold shaft_judge_l11 shaft_judge_b11
    rw [ltF (show (w.Jobs.f i).After.n ≤ k by omega), cond_false]; rfl
  | succ q ih =>
    intro k n h1 h2 h3
    obtain ⟨n, rfl⟩ : ∃ m, n = m + 1 := ⟨n - 1, by omega⟩
    have ha := v.nf i hi k (by unfold job; omega)
    have hq := (v.jobs i hi).a k (by unfold job; omega)
    unfold job at ha
    obtain ⟨a, hA⟩ : ∃ a : Nat, (w.Jobs.f i).After.f k = (a : Int) := ⟨((w.Jobs.f i).After.f k).toNat, by omega⟩
    have hai : a < i := by omega
    have hba := hb a (by omega)
    have hja := (v.jobs a (by omega)).n
    have hkb : k < 1000000000000 := by
      -- the list ascends below i
      have : ∀ z, z ≤ k → (z : Int) ≤ (w.Jobs.f i).After.f z := by
        intro z
        induction z with
        | zero => intro _; have := v.nf i hi 0 (by unfold job; omega); unfold job at this; omega
        | succ z ihz => intro hz; have := ihz (by omega); have h5 := ((v.jobs i hi).a (z + 1) (by unfold job; omega)).1; have h5 : (w.Jobs.f i).After.f z + 1 ≤ (w.Jobs.f i).After.f (z + 1) := h5; omega
      have := this k (Nat.le_refl _); have := v.j; omega
    unfold job at hja
    unfold shaft_judge_l11 shaft_judge_b11
    simp only [hn, ltT (show k < (w.Jobs.f i).After.n by omega), ltT hi, hA, ltT (show a < w.Jobs.n by omega), nat_nonneg, Bool.and_self, cond_true, Int.toNat_natCast, w64_succ hkb, anyN, late,
      w64_eq (show -9223372036854775808 ≤ p.f a + (w.Jobs.f a).Nights by omega) (by omega)]
    by_cases c : p.f a + (w.Jobs.f a).Nights > p.f i
    · simp only [c, decide_true, cond_true, Bool.true_or]
    · simp only [c, decide_false, cond_false, Bool.false_or]
      exact ih (k + 1) n (by omega) (by omega) (by omega)
theorem r_l10 (N : Nat) {i : Nat} (hi : i < w.Jobs.n) (kr : Int → Option R) (k4 : Unit → Option R) : ∀ (q k n : Nat), k + q = (w.Jobs.f i).After.n → q < n → q ≤ 10 →
    newelref09_reason_l10 N n p (i : Int) (k : Int) w kr k4 = bif anyN (late w p i) q k then kr 2 else k4 () := by
  intro q
  induction q with
  | zero =>
    intro k n h1 h2 _
    obtain ⟨n, rfl⟩ : ∃ m, n = m + 1 := ⟨n - 1, by omega⟩
    unfold newelref09_reason_l10 newelref09_reason_b10
    simp only [ltT hi, nat_nonneg, Int.toNat_natCast, Bool.and_self, cond_true]
    rw [ltF (show (w.Jobs.f i).After.n ≤ k by omega), cond_false]; rfl
  | succ q ih =>
    intro k n h1 h2 h3
    obtain ⟨n, rfl⟩ : ∃ m, n = m + 1 := ⟨n - 1, by omega⟩
    have ha := v.nf i hi k (by unfold job; omega)
    have hq := (v.jobs i hi).a k (by unfold job; omega)
    unfold job at ha
    obtain ⟨a, hA⟩ : ∃ a : Nat, (w.Jobs.f i).After.f k = (a : Int) := ⟨((w.Jobs.f i).After.f k).toNat, by omega⟩
    have hai : a < i := by omega
    have hba := hb a (by omega)
    have hja := (v.jobs a (by omega)).n
    have hkb : k < 1000000000000 := by
      have : ∀ z, z ≤ k → (z : Int) ≤ (w.Jobs.f i).After.f z := by
        intro z
        induction z with
        | zero => intro _; have := v.nf i hi 0 (by unfold job; omega); unfold job at this; omega
        | succ z ihz => intro hz; have := ihz (by omega); have h5 := ((v.jobs i hi).a (z + 1) (by unfold job; omega)).1; have h5 : (w.Jobs.f i).After.f z + 1 ≤ (w.Jobs.f i).After.f (z + 1) := h5; omega
      have := this k (Nat.le_refl _); have := v.j; omega
    unfold job at hja
    unfold newelref09_reason_l10 newelref09_reason_b10
    simp only [hn, ltT (show k < (w.Jobs.f i).After.n by omega), ltT hi, hA, ltT (show a < w.Jobs.n by omega), nat_nonneg, Bool.and_self, cond_true, Int.toNat_natCast, w64_succ hkb, anyN, late,
      w64_eq (show -9223372036854775808 ≤ p.f a + (w.Jobs.f a).Nights by omega) (by omega)]
    by_cases c : p.f a + (w.Jobs.f a).Nights > p.f i
    · have c' : p.f i < p.f a + (w.Jobs.f a).Nights := c
      simp only [c, c', decide_true, cond_true, Bool.true_or]
    · have c' : ¬ p.f i < p.f a + (w.Jobs.f a).Nights := c
      simp only [c, c', decide_false, cond_false, Bool.false_or]
      exact ih (k + 1) n (by omega) (by omega) (by omega)
omit hn hb in
theorem after_le {i : Nat} (hi : i < w.Jobs.n) : (w.Jobs.f i).After.n ≤ 10 := by
  rcases Nat.lt_or_ge 10 (w.Jobs.f i).After.n with h | h
  · exfalso
    have : ∀ z : Nat, z ≤ 10 → (z : Int) ≤ (w.Jobs.f i).After.f z := by
      intro z
      induction z with
      | zero => intro _; have := v.nf i hi 0 (by unfold job; omega); unfold job at this; omega
      | succ z ihz => intro hz; have := ihz (by omega); have h5 := ((v.jobs i hi).a (z + 1) (by unfold job; omega)).1; have h5 : (w.Jobs.f i).After.f z + 1 ≤ (w.Jobs.f i).After.f (z + 1) := h5; omega
    have h1 := this 10 (Nat.le_refl _)
    have h2 := v.nf i hi 10 (by unfold job; omega)
    unfold job at h2
    have := v.j
    omega
  · exact h
theorem s_l8 (N : Nat) (hN : 20 ≤ N) (kr : Int → Int → Option R) (k2 : Unit → Option R) : ∀ (q i n : Nat), i + q = w.Jobs.n → q < n →
    shaft_judge_l8 N n p w.Jobs (w.Jobs.n : Int) (i : Int) w kr k2 = match fnd (bad2 w p) q i with | some j => kr 2 (j : Int) | none => k2 () := by
  intro q
  induction q with
  | zero =>
    intro i n h1 h2
    obtain ⟨n, rfl⟩ : ∃ m, n = m + 1 := ⟨n - 1, by omega⟩
    unfold shaft_judge_l8 shaft_judge_b8
    rw [ltF (show w.Jobs.n ≤ i by omega), cond_false]; rfl
  | succ q ih =>
    intro i n h1 h2
    obtain ⟨n, rfl⟩ : ∃ m, n = m + 1 := ⟨n - 1, by omega⟩
    have hjn := v.j
    have hal := after_le v (show i < w.Jobs.n by omega)
    have := s_l11 (R := R) v hn hb N (w.Jobs.n : Int) (i : Int) (show i < w.Jobs.n by omega) (fun r691 => kr r691 (i : Int)) (fun _ => shaft_judge_l8 N n p w.Jobs (w.Jobs.n : Int) (w64 ((i : Int) + 1)) w kr k2) (w.Jobs.f i).After.n 0 N (by omega) (by omega) hal
    rw [show ((0 : Nat) : Int) = 0 from rfl, w64_succ (show i < 1000000000000 by omega)] at this
    unfold shaft_judge_l8 shaft_judge_b8
    simp only [ltT (show i < w.Jobs.n by omega), nat_nonneg, Bool.and_self, cond_true, Int.toNat_natCast (n := i), w64_succ (show i < 1000000000000 by omega), fnd]
    rw [this, show bad2 w p i = anyN (late w p i) (w.Jobs.f i).After.n 0 from rfl]
    cases anyN (late w p i) (w.Jobs.f i).After.n 0
    · exact ih (i + 1) n (by omega) (by omega)
    · rfl
theorem r_l7 (N : Nat) (hN : 20 ≤ N) (kr : Int → Int → Option R) (k2 : Unit → Option R) : ∀ (q i n : Nat), i + q = w.Jobs.n → q < n →
    newelref09_reason_l7 N n p (i : Int) w kr k2 = match fnd (bad2 w p) q i with | some j => kr 2 (j : Int) | none => k2 () := by
  intro q
  induction q with
  | zero =>
    intro i n h1 h2
    obtain ⟨n, rfl⟩ : ∃ m, n = m + 1 := ⟨n - 1, by omega⟩
    unfold newelref09_reason_l7 newelref09_reason_b7
    rw [ltF (show w.Jobs.n ≤ i by omega), cond_false]; rfl
  | succ q ih =>
    intro i n h1 h2
    obtain ⟨n, rfl⟩ : ∃ m, n = m + 1 := ⟨n - 1, by omega⟩
    have hjn := v.j
    have hal := after_le v (show i < w.Jobs.n by omega)
    have := r_l10 (R := R) v hn hb N (show i < w.Jobs.n by omega) (fun r => kr r (i : Int)) (fun _ => newelref09_reason_l7 N n p (w64 ((i : Int) + 1)) w kr k2) (w.Jobs.f i).After.n 0 N (by omega) (by omega) hal
    rw [show ((0 : Nat) : Int) = 0 from rfl, w64_succ (show i < 1000000000000 by omega)] at this
    unfold newelref09_reason_l7 newelref09_reason_b7
    simp only [ltT (show i < w.Jobs.n by omega), cond_true, w64_succ (show i < 1000000000000 by omega), fnd]
    rw [this, show bad2 w p i = anyN (late w p i) (w.Jobs.f i).After.n 0 from rfl]
    cases anyN (late w p i) (w.Jobs.f i).After.n 0
    · exact ih (i + 1) n (by omega) (by omega)
    · rfl
omit hn hb v in
theorem and_pow (k S : Nat) : ((S &&& 2 ^ k) != 0) = S.testBit k := by
  cases h : S.testBit k
  · have : S &&& 2 ^ k = 0 := by
      apply Nat.eq_of_testBit_eq
      intro j
      rw [Nat.testBit_and, Nat.zero_testBit, Nat.testBit_two_pow]
      by_cases e : k = j
      · subst e; rw [h]; rfl
      · simp [e]
    rw [this]; rfl
  · have h2 : (S &&& 2 ^ k).testBit k = true := by rw [Nat.testBit_and, h, Nat.testBit_two_pow]; simp
    have : S &&& 2 ^ k ≠ 0 := fun g => by rw [g, Nat.zero_testBit] at h2; cases h2
    simpa using this
omit hn hb v in
theorem or_bit {S : Nat} (hS : S < 4096) {m : Int} (h : 0 ≤ m) (h2 : m ≤ 12) : w64 (↑(BitVec.toNat (BitVec.ofInt (IntKind.bits IntKind.i64) ((S : Nat) : Int) ||| BitVec.ofInt (IntKind.bits IntKind.i64) (w64 ((1 : Int) * (2 : Int) ^ min (Int.toNat m) (IntKind.bits IntKind.i64))))) : Int) = ((S ||| 2 ^ m.toNat : Nat) : Int) := by
  rw [shl_eq h h2]
  have := pow_le12 h2
  exact or64 (by omega) (by omega)
omit hn hb v in
theorem and_bit {S : Nat} (hS : S < 4096) {m : Int} (h : 0 ≤ m) (h2 : m ≤ 12) : (w64 (↑(BitVec.toNat (BitVec.ofInt (IntKind.bits IntKind.i64) ((S : Nat) : Int) &&& BitVec.ofInt (IntKind.bits IntKind.i64) (w64 ((1 : Int) * (2 : Int) ^ min (Int.toNat m) (IntKind.bits IntKind.i64))))) : Int) != (0 : Int)) = S.testBit m.toNat := by
  rw [shl_eq h h2]
  have := pow_le12 h2
  rw [show w64 _ = ((S &&& 2 ^ m.toNat : Nat) : Int) from and64 (by omega) (by omega)]
  have hk := and_pow m.toNat S
  rw [← hk]
  cases hc : S &&& 2 ^ m.toNat <;> rfl
omit hn hb v in
theorem shr_bit {S : Nat} (hS : S < 4096) {m : Int} (h : 0 ≤ m) (h2 : m ≤ 12) : (w64 (↑(BitVec.toNat (BitVec.ofInt (IntKind.bits IntKind.i64) (Int.fdiv ((S : Nat) : Int) ((2 : Int) ^ min (Int.toNat m) (IntKind.bits IntKind.i64))) &&& BitVec.ofInt (IntKind.bits IntKind.i64) (1 : Int))) : Int) == (1 : Int)) = S.testBit m.toNat := by
  rw [show w64 _ = if ((S : Nat) : Int).toNat.testBit m.toNat then 1 else 0 from bit64 (by omega) (by omega) (by omega)]
  rw [Int.toNat_natCast]
  cases S.testBit m.toNat <;> rfl
theorem s_night (N : Nat) (x : Int) (hx : 0 ≤ x ∧ x ≤ 1000) (k0 : Int → Int → Bool → Option R) : ∀ (q i n : Nat), i + q = w.Jobs.n → q < n →
    shaft_night_l2 N n p x (((nt w p x i).1 : Nat) : Int) (((nt w p x i).2.1 : Nat) : Int) (nt w p x i).2.2 w.Jobs (w.Jobs.n : Int) (i : Int) k0 = k0 (((ntA w p x).1 : Nat) : Int) (((ntA w p x).2.1 : Nat) : Int) (ntA w p x).2.2 := by
  intro q
  induction q with
  | zero =>
    intro i n h1 h2
    obtain ⟨n, rfl⟩ : ∃ m, n = m + 1 := ⟨n - 1, by omega⟩
    unfold shaft_night_l2 shaft_night_b2
    rw [ltF (show w.Jobs.n ≤ i by omega), cond_false]
    have : i = w.Jobs.n := by omega
    subst this; rfl
  | succ q ih =>
    intro i n h1 h2
    obtain ⟨n, rfl⟩ : ∃ m, n = m + 1 := ⟨n - 1, by omega⟩
    have hr := ih (i + 1) n (by omega) (by omega)
    rw [← hr]
    have hS := nt_lt v p x i (by omega)
    have hm := (v.jobs i (by omega)).m
    have hni := (v.jobs i (by omega)).n
    have hm2 := v.m
    have hjn := v.j
    have hbi := hb i (by omega)
    unfold job at hm hni
    conv => lhs; unfold shaft_night_l2 shaft_night_b2
    simp only [hn, ltT (show i < w.Jobs.n by omega), nat_nonneg, Bool.and_self, cond_true, Int.toNat_natCast (n := i), w64_succ (show i < 1000000000000 by omega),
      w64_eq (show -9223372036854775808 ≤ p.f i + (w.Jobs.f i).Nights by omega) (by omega), decide_eq_false (show ¬ (w.Jobs.f i).Machine < 0 by omega), cond_false,
      or_bit hS.1 hm.1 (by omega), shr_bit hS.1 hm.1 (by omega), w64_succ (show (nt w p x i).2.1 < 1000000000000 by omega), nt]
    by_cases c1 : p.f i ≤ x
    rotate_left
    · simp only [c1, decide_false, cond_false, Bool.false_and]
    by_cases c2 : x < p.f i + (w.Jobs.f i).Nights
    rotate_left
    · simp only [c1, c2, decide_true, decide_false, cond_true, cond_false, Bool.and_false]
    simp only [c1, c2, decide_true, cond_true, Bool.and_self]
    cases h : (nt w p x i).2.2
    · simp only [cond_false, Bool.false_or]
    · simp only [cond_true, Bool.true_or]
theorem r_out (N : Nat) (x : Int) (hx : 0 ≤ x ∧ x ≤ 1000) (k0 : Int → Int → Bool → Option R) : ∀ (q i n : Nat), i + q = w.Jobs.n → q < n →
    newelref09_out_l2 N n p x (((nt w p x i).1 : Nat) : Int) (((nt w p x i).2.1 : Nat) : Int) (nt w p x i).2.2 (i : Int) w k0 = k0 (((ntA w p x).1 : Nat) : Int) (((ntA w p x).2.1 : Nat) : Int) (ntA w p x).2.2 := by
  intro q
  induction q with
  | zero =>
    intro i n h1 h2
    obtain ⟨n, rfl⟩ : ∃ m, n = m + 1 := ⟨n - 1, by omega⟩
    unfold newelref09_out_l2 newelref09_out_b2
    rw [ltF (show w.Jobs.n ≤ i by omega), cond_false]
    have : i = w.Jobs.n := by omega
    subst this; rfl
  | succ q ih =>
    intro i n h1 h2
    obtain ⟨n, rfl⟩ : ∃ m, n = m + 1 := ⟨n - 1, by omega⟩
    have hr := ih (i + 1) n (by omega) (by omega)
    rw [← hr]
    have hS := nt_lt v p x i (by omega)
    have hm := (v.jobs i (by omega)).m
    have hni := (v.jobs i (by omega)).n
    have hm2 := v.m
    have hjn := v.j
    have hbi := hb i (by omega)
    unfold job at hm hni
    have hat : ∀ k : Bool → Option R, newelref09_at N w p (i : Int) x k = k (decide (p.f i ≤ x) && decide (x < p.f i + (w.Jobs.f i).Nights)) := fun k => by
      rw [newelref09_at_def]
      unfold newelref09_at_m
      simp only [hn, ltT (show i < w.Jobs.n by omega), nat_nonneg, Bool.and_self, cond_true, Int.toNat_natCast (n := i), w64_eq (show -9223372036854775808 ≤ x - p.f i by omega) (by omega)]
      by_cases c1 : p.f i ≤ x
      · simp only [c1, decide_true, cond_true, Bool.true_and]
        congr 1
        exact decide_eq_decide.2 ⟨fun h => by omega, fun h => by omega⟩
      · simp only [c1, decide_false, cond_false, Bool.false_and]
    conv => lhs; unfold newelref09_out_l2 newelref09_out_b2
    simp only [hat, ltT (show i < w.Jobs.n by omega), nat_nonneg, Bool.and_self, cond_true, Int.toNat_natCast (n := i), w64_succ (show i < 1000000000000 by omega), u64_pos hm.1 (by omega),
      decide_eq_false (show ¬ (w.Jobs.f i).Machine < 0 by omega), cond_false,
      or_bit hS.1 hm.1 (by omega), and_bit hS.1 hm.1 (by omega), w64_succ (show (nt w p x i).2.1 < 1000000000000 by omega), nt]
    cases hc : (decide (p.f i ≤ x) && decide (x < p.f i + (w.Jobs.f i).Nights))
    · simp only [cond_false]
    simp only [cond_true]
    cases h : (nt w p x i).2.2
    · simp only [cond_false, Bool.false_or]
    · simp only [cond_true, Bool.true_or]
theorem night_eq (N : Nat) (hN : 20 ≤ N) (x : Int) (hx : 0 ≤ x ∧ x ≤ 1000) (k : Int → Int → Bool → Option R) : shaft_night N w p x k = k (((ntA w p x).1 : Nat) : Int) (((ntA w p x).2.1 : Nat) : Int) (ntA w p x).2.2 := by
  rw [shaft_night_def]
  unfold shaft_night_m
  exact s_night v hn hb N x hx (fun r714 r715 r716 => k r714 r715 r716) w.Jobs.n 0 N (by omega) (by have := v.j; omega)
theorem out_eq (N : Nat) (hN : 20 ≤ N) (x : Int) (hx : 0 ≤ x ∧ x ≤ 1000) (k : Int → Int → Bool → Option R) : newelref09_out N w p x k = k (((ntA w p x).1 : Nat) : Int) (((ntA w p x).2.1 : Nat) : Int) (ntA w p x).2.2 := by
  rw [newelref09_out_def]
  unfold newelref09_out_m
  exact r_out v hn hb N x hx (fun r714 r715 r716 => k r714 r715 r716) w.Jobs.n 0 N (by omega) (by have := v.j; omega)
end
end
end Go.Proofs.YtckkodiefpdmhaaDoor
set_option linter.unusedVariables false
set_option linter.unusedSimpArgs false
set_option maxHeartbeats 0
set_option maxRecDepth 100000
namespace Go.Proofs.YtckkodiefpdmhaaDoor
open Go.Sx
open Classical
noncomputable section
variable {R : Type}
section
variable {w : api_Works} (v : VW w) {p : Arr Int} (hn : p.n = w.Jobs.n) (hb : ∀ i, i < w.Jobs.n → 0 ≤ p.f i ∧ p.f i ≤ 24)
include v
theorem never_eq {S : Nat} (hS : S < 4096) {i : Nat} (hi : i < w.Never.n) : (w64 (↑(BitVec.toNat (BitVec.ofInt (IntKind.bits IntKind.i64) ((S : Nat) : Int) &&& BitVec.ofInt (IntKind.bits IntKind.i64) (w.Never.f i))) : Int) == w.Never.f i) = inSet w S i := by
  have h := v.never i hi
  have hp := pow_le12 v.m.2
  obtain ⟨m, hm⟩ : ∃ m : Nat, w.Never.f i = (m : Int) := ⟨(w.Never.f i).toNat, by omega⟩
  rw [inSet, hm, show w64 _ = ((S &&& m : Nat) : Int) from and64 (by omega) (by omega), Int.toNat_natCast]
  rw [Bool.eq_iff_iff, decide_eq_true_eq, beq_iff_eq]
theorem set_index (N : Nat) {S : Nat} (hS : S < 4096) (kr : Int → Option R) (k0 : Unit → Option R) (hkr : ∀ i : Nat, kr (i : Int) = kr 0) : ∀ (q i n : Nat), i + q = w.Never.n → q < n →
    slices_IndexFunc___int_int__v2_l2 N n w.Never (w.Never.n : Int) (i : Int) ((S : Nat) : Int) kr k0 = bif anyN (inSet w S) q i then kr 0 else k0 () := by
  intro q
  induction q with
  | zero =>
    intro i n h1 h2
    obtain ⟨n, rfl⟩ : ∃ m, n = m + 1 := ⟨n - 1, by omega⟩
    unfold slices_IndexFunc___int_int__v2_l2 slices_IndexFunc___int_int__v2_b2
    rw [ltF (show w.Never.n ≤ i by omega), cond_false]; rfl
  | succ q ih =>
    intro i n h1 h2
    obtain ⟨n, rfl⟩ : ∃ m, n = m + 1 := ⟨n - 1, by omega⟩
    have hnv := v.nv
    have hj : ∀ k : Bool → Option R, shaft_judge_3_1 N (w.Never.f i) ((S : Nat) : Int) k = k (inSet w S i) := fun k => by
      rw [shaft_judge_3_1_def]
      unfold shaft_judge_3_1_m
      rw [never_eq v hS (by omega)]
    unfold slices_IndexFunc___int_int__v2_l2 slices_IndexFunc___int_int__v2_b2
    simp only [ltT (show i < w.Never.n by omega), nat_nonneg, Bool.and_self, cond_true, Int.toNat_natCast (n := i), w64_succ (show i < 1000000000000 by omega), hj, anyN]
    cases inSet w S i
    · exact ih (i + 1) n (by omega) (by omega)
    · exact hkr i
theorem set_contains (N : Nat) (hN : 40 ≤ N) {S : Nat} (hS : S < 4096) (k : Bool → Option R) : slices_ContainsFunc___int_int__v2 N w.Never ((S : Nat) : Int) k = k (anyN (inSet w S) w.Never.n 0) := by
  rw [slices_ContainsFunc___int_int__v2_def]
  unfold slices_ContainsFunc___int_int__v2_m
  rw [slices_IndexFunc___int_int__v2_def]
  unfold slices_IndexFunc___int_int__v2_m
  have := set_index (R := R) v N hS (fun r773 => k (decide (r773 ≥ 0))) (fun _ => k (decide ((-1 : Int) ≥ 0))) (fun i => by
    try dsimp only
    rw [decide_eq_true (show (i : Int) ≥ 0 by omega)]; rfl) w.Never.n 0 N (by omega) (by have := v.nv; omega)
  refine Eq.trans this ?_
  cases anyN (inSet w S) w.Never.n 0 <;> rfl
include hn hb
theorem ntA_lt (x : Int) : (ntA w p x).1 < 4096 ∧ (ntA w p x).2.1 ≤ w.Jobs.n := nt_lt v p x _ (Nat.le_refl _)
theorem l22a (N : Nat) (hN : 40 ≤ N) (c c2 : Int) (kr : Int → Int → Option R) (k8 : Unit → Option R) : ∀ (q x n : Nat), x + q = w.Until.toNat → q < n →
    shaft_judge_l22 N n p c c2 w.Until (x : Int) w kr k8 = match fnd (bad3 w p) q x with | some j => kr (w64 (3 + c)) (j : Int) | none => k8 () := by
  have hu := v.u
  intro q
  induction q with
  | zero =>
    intro x n h1 h2
    obtain ⟨n, rfl⟩ : ∃ m, n = m + 1 := ⟨n - 1, by omega⟩
    unfold shaft_judge_l22 shaft_judge_b22
    rw [decide_eq_false (by omega), cond_false]; rfl
  | succ q ih =>
    intro x n h1 h2
    obtain ⟨n, rfl⟩ : ∃ m, n = m + 1 := ⟨n - 1, by omega⟩
    unfold shaft_judge_l22 shaft_judge_b22
    rw [decide_eq_true (show (x : Int) < w.Until by omega), cond_true, night_eq v hn hb N (by omega) (x : Int) (by omega), shaft_judge_1_def]
    unfold shaft_judge_1_m
    simp only [fnd, w64_succ (show x < 1000000000000 by omega)]
    rw [show (ntA w p (x : Int)).2.2 = bad3 w p x from rfl]
    cases bad3 w p x
    · exact ih (x + 1) n (by omega) (by omega)
    · rfl
theorem l22b (N : Nat) (hN : 40 ≤ N) (c c2 : Int) (kr : Int → Int → Option R) (k8 : Unit → Option R) : ∀ (q x n : Nat), x + q = w.Until.toNat → q < n →
    shaft_judge_l22v1 N n p c c2 w.Until (x : Int) w kr k8 = match fnd (bad4 w p) q x with | some j => kr (w64 (3 + c)) (j : Int) | none => k8 () := by
  have hu := v.u
  intro q
  induction q with
  | zero =>
    intro x n h1 h2
    obtain ⟨n, rfl⟩ : ∃ m, n = m + 1 := ⟨n - 1, by omega⟩
    unfold shaft_judge_l22v1 shaft_judge_b22v1
    rw [decide_eq_false (by omega), cond_false]; rfl
  | succ q ih =>
    intro x n h1 h2
    obtain ⟨n, rfl⟩ : ∃ m, n = m + 1 := ⟨n - 1, by omega⟩
    unfold shaft_judge_l22v1 shaft_judge_b22v1
    rw [decide_eq_true (show (x : Int) < w.Until by omega), cond_true, night_eq v hn hb N (by omega) (x : Int) (by omega), shaft_judge_2_def]
    unfold shaft_judge_2_m
    simp only [fnd, w64_succ (show x < 1000000000000 by omega)]
    rw [show decide ((((ntA w p (x : Int)).2.1 : Nat) : Int) > w.Crews) = bad4 w p x from rfl]
    cases bad4 w p x
    · exact ih (x + 1) n (by omega) (by omega)
    · rfl
theorem l22c (N : Nat) (hN : 40 ≤ N) (c c2 : Int) (kr : Int → Int → Option R) (k8 : Unit → Option R) : ∀ (q x n : Nat), x + q = w.Until.toNat → q < n →
    shaft_judge_l22v2 N n p c c2 w.Until (x : Int) w kr k8 = match fnd (bad5 w p) q x with | some j => kr (w64 (3 + c)) (j : Int) | none => k8 () := by
  have hu := v.u
  intro q
  induction q with
  | zero =>
    intro x n h1 h2
    obtain ⟨n, rfl⟩ : ∃ m, n = m + 1 := ⟨n - 1, by omega⟩
    unfold shaft_judge_l22v2 shaft_judge_b22v2
    rw [decide_eq_false (by omega), cond_false]; rfl
  | succ q ih =>
    intro x n h1 h2
    obtain ⟨n, rfl⟩ : ∃ m, n = m + 1 := ⟨n - 1, by omega⟩
    unfold shaft_judge_l22v2 shaft_judge_b22v2
    rw [decide_eq_true (show (x : Int) < w.Until by omega), cond_true, night_eq v hn hb N (by omega) (x : Int) (by omega), shaft_judge_3_def]
    unfold shaft_judge_3_m
    rw [set_contains v N hN (ntA_lt v hn hb (x : Int)).1]
    simp only [fnd, w64_succ (show x < 1000000000000 by omega)]
    rw [show anyN (inSet w (ntA w p (x : Int)).1) w.Never.n 0 = bad5 w p x from rfl]
    cases bad5 w p x
    · exact ih (x + 1) n (by omega) (by omega)
    · rfl
theorem l24 (N : Nat) (r x : Int) (tw : Bool) (jb : Int) {S : Nat} (hS : S < 4096) (k10 : Bool → Option R) : ∀ (q i n : Nat) (b : Bool), i + q = w.Never.n → q < n →
    newelref09_reason_l24 N n p r x ((S : Nat) : Int) jb tw b (i : Int) w k10 = k10 (b || anyN (inSet w S) q i) := by
  have hnv := v.nv
  intro q
  induction q with
  | zero =>
    intro i n b h1 h2
    obtain ⟨n, rfl⟩ : ∃ m, n = m + 1 := ⟨n - 1, by omega⟩
    unfold newelref09_reason_l24 newelref09_reason_b24
    rw [ltF (show w.Never.n ≤ i by omega), cond_false]
    simp [anyN]
  | succ q ih =>
    intro i n b h1 h2
    obtain ⟨n, rfl⟩ : ∃ m, n = m + 1 := ⟨n - 1, by omega⟩
    unfold newelref09_reason_l24 newelref09_reason_b24
    simp only [ltT (show i < w.Never.n by omega), nat_nonneg, Bool.and_self, cond_true, Int.toNat_natCast (n := i), w64_succ (show i < 1000000000000 by omega), never_eq v hS (show i < w.Never.n by omega), anyN]
    cases b
    · simp only [cond_false, Bool.false_or]
      exact ih (i + 1) n _ (by omega) (by omega)
    · simp only [cond_true, Bool.true_or]
      have := ih (i + 1) n true (by omega) (by omega)
      rw [Bool.true_or] at this
      exact this
def badR (w : api_Works) (p : Arr Int) (r : Nat) : Nat → Bool := if r = 3 then bad3 w p else if r = 4 then bad4 w p else bad5 w p
theorem l19 (N : Nat) (hN : 40 ≤ N) {r : Nat} (hr : 3 ≤ r ∧ r ≤ 5) (kr : Int → Option R) (k8 : Unit → Option R) : ∀ (q x n : Nat), x + q = w.Until.toNat → q < n →
    newelref09_reason_l19 N n p (r : Int) (x : Int) w kr k8 = match fnd (badR w p r) q x with | some j => kr (j : Int) | none => k8 () := by
  have hu := v.u
  intro q
  induction q with
  | zero =>
    intro x n h1 h2
    obtain ⟨n, rfl⟩ : ∃ m, n = m + 1 := ⟨n - 1, by omega⟩
    unfold newelref09_reason_l19 newelref09_reason_b19
    rw [decide_eq_false (by omega), cond_false]; rfl
  | succ q ih =>
    intro x n h1 h2
    obtain ⟨n, rfl⟩ : ∃ m, n = m + 1 := ⟨n - 1, by omega⟩
    have hih := ih (x + 1) n (by omega) (by omega)
    have h24 := fun k10 => l24 (R := R) v hn hb N (r : Int) (x : Int) (ntA w p (x : Int)).2.2 (((ntA w p (x : Int)).2.1 : Nat) : Int) (ntA_lt v hn hb (x : Int)).1 k10 w.Never.n 0 N false (by omega) (by have := v.nv; omega)
    rw [show ((0 : Nat) : Int) = 0 from rfl] at h24
    unfold newelref09_reason_l19 newelref09_reason_b19
    rw [decide_eq_true (show (x : Int) < w.Until by omega), cond_true, out_eq v hn hb N (by omega) (x : Int) (by omega), h24]
    simp only [fnd, w64_succ (show x < 1000000000000 by omega), Bool.false_or]
    rw [hih]
    rw [show anyN (inSet w (ntA w p (x : Int)).1) w.Never.n 0 = bad5 w p x from rfl, show decide ((((ntA w p (x : Int)).2.1 : Nat) : Int) > w.Crews) = bad4 w p x from rfl, show (ntA w p (x : Int)).2.2 = bad3 w p x from rfl]
    have : r = 3 ∨ r = 4 ∨ r = 5 := by omega
    rcases this with rfl | rfl | rfl
    · rw [show badR w p 3 x = bad3 w p x from rfl, show (((3 : Nat) : Int) == 3) = true from rfl, show (((3 : Nat) : Int) == 4) = false from rfl, show (((3 : Nat) : Int) == 5) = false from rfl]
      cases bad3 w p x <;> rfl
    · rw [show badR w p 4 x = bad4 w p x from rfl, show (((4 : Nat) : Int) == 3) = false from rfl, show (((4 : Nat) : Int) == 4) = true from rfl, show (((4 : Nat) : Int) == 5) = false from rfl]
      cases bad4 w p x <;> rfl
    · rw [show badR w p 5 x = bad5 w p x from rfl, show (((5 : Nat) : Int) == 3) = false from rfl, show (((5 : Nat) : Int) == 4) = false from rfl, show (((5 : Nat) : Int) == 5) = true from rfl]
      cases bad5 w p x <;> rfl
end
theorem bounds_of {w : api_Works} (v : VW w) {p : Arr Int} (h : fnd (bad1 w p) w.Jobs.n 0 = none) : ∀ i, i < w.Jobs.n → 0 ≤ p.f i ∧ p.f i + (w.Jobs.f i).Nights ≤ w.Until := by
  intro i hi
  have := fnd_none h i (by omega) (by omega)
  simp only [bad1, Bool.or_eq_false_iff, decide_eq_false_iff_not] at this
  omega
theorem bounds24 {w : api_Works} (v : VW w) {p : Arr Int} (h : fnd (bad1 w p) w.Jobs.n 0 = none) : ∀ i, i < w.Jobs.n → 0 ≤ p.f i ∧ p.f i ≤ 24 := by
  intro i hi
  have h1 := bounds_of v h i hi
  have h2 := (v.jobs i hi).n
  have h3 := v.u
  unfold job at h2
  omega
theorem judge_eq {w : api_Works} (v : VW w) {p : Arr Int} (hn : p.n = w.Jobs.n) (N : Nat) (hN : 100 ≤ N) (k : Int → Int → Option R) : shaft_judge N w p k = k (jdg w p).1 (jdg w p).2 := by
  rw [shaft_judge_def]
  unfold shaft_judge_m jdg
  have hj := v.j
  have hu := v.u
  have h2 := s_l2 (R := R) v hn N (fun r675 r676 => k r675 r676) (fun _ => shaft_judge_l8 N N p w.Jobs (w.Jobs.n : Int) 0 w (fun r692 r693 => k r692 r693) (fun _ => shaft_judge_l19 N N p 0 w (fun r779 r780 => k r779 r780) (fun _ => k 0 0))) w.Jobs.n 0 N (by omega) (by omega)
  rw [show ((0 : Nat) : Int) = 0 from rfl] at h2
  rw [h2]
  cases h1 : fnd (bad1 w p) w.Jobs.n 0 with
  | some i => rfl
  | none =>
    have hb := bounds24 v h1
    simp only
    have h8 := s_l8 (R := R) v hn hb N (by omega) (fun r692 r693 => k r692 r693) (fun _ => shaft_judge_l19 N N p 0 w (fun r779 r780 => k r779 r780) (fun _ => k 0 0)) w.Jobs.n 0 N (by omega) (by omega)
    rw [show ((0 : Nat) : Int) = 0 from rfl] at h8
    rw [h8]
    cases h3 : fnd (bad2 w p) w.Jobs.n 0 with
    | some i => rfl
    | none =>
      simp only
      obtain ⟨n, hNn⟩ : ∃ m, N = m + 4 := ⟨N - 4, by omega⟩
      have ea := fun (kr : Int → Int → Option R) k8 => l22a (R := R) v hn hb N (by omega) 0 0 kr k8 w.Until.toNat 0 N (by omega) (by omega)
      have eb := fun (kr : Int → Int → Option R) k8 => l22b (R := R) v hn hb N (by omega) 1 1 kr k8 w.Until.toNat 0 N (by omega) (by omega)
      have ec := fun (kr : Int → Int → Option R) k8 => l22c (R := R) v hn hb N (by omega) 2 2 kr k8 w.Until.toNat 0 N (by omega) (by omega)
      rw [show ((0 : Nat) : Int) = 0 from rfl] at ea eb ec
      rw [show w64 (3 + 0) = 3 by rw [w64_eq (by omega) (by omega)]; rfl] at ea
      rw [show w64 (3 + 1) = 4 by rw [w64_eq (by omega) (by omega)]; rfl] at eb
      rw [show w64 (3 + 2) = 5 by rw [w64_eq (by omega) (by omega)]; rfl] at ec
      have run : ∀ n, shaft_judge_l19 N (n + 4) p 0 w (fun r779 r780 => k r779 r780) (fun _ => k 0 0) = match fnd (bad3 w p) w.Until.toNat 0 with
          | some j => k 3 (j : Int)
          | none => match fnd (bad4 w p) w.Until.toNat 0 with
            | some j => k 4 (j : Int)
            | none => match fnd (bad5 w p) w.Until.toNat 0 with
              | some j => k 5 (j : Int)
              | none => k 0 0 := by
        intro n
        simp only [shaft_judge_l19, shaft_judge_b19, lt0, lt1, lt2, lt3, cond_true, cond_false, e00, e10, e11, e20, e21, e22, w0, w1, w2, ea, eb, ec]
      have := run n
      rw [← hNn] at this
      rw [this]
      cases fnd (bad3 w p) w.Until.toNat 0 <;> simp only
      cases fnd (bad4 w p) w.Until.toNat 0 <;> simp only
      cases fnd (bad5 w p) w.Until.toNat 0 <;> simp only
theorem reason_eq {w : api_Works} (v : VW w) {p : Arr Int} (hn : p.n = w.Jobs.n) (N : Nat) (hN : 100 ≤ N) (k : Int → Int → Option R) : newelref09_reason N w p k = k (jdg w p).1 (jdg w p).2 := by
  rw [newelref09_reason_def]
  unfold newelref09_reason_m jdg
  have hj := v.j
  have hu := v.u
  have h2 := r_l2 (R := R) v hn N (fun r675 r676 => k r675 r676) (fun _ => newelref09_reason_l7 N N p 0 w (fun r692 r693 => k r692 r693) (fun _ => newelref09_reason_l16 N N p 3 w (fun r779 r780 => k r779 r780) (fun _ => k 0 0))) w.Jobs.n 0 N (by omega) (by omega)
  rw [show ((0 : Nat) : Int) = 0 from rfl] at h2
  rw [h2]
  cases h1 : fnd (bad1 w p) w.Jobs.n 0 with
  | some i => rfl
  | none =>
    have hb := bounds24 v h1
    simp only
    have h8 := r_l7 (R := R) v hn hb N (by omega) (fun r692 r693 => k r692 r693) (fun _ => newelref09_reason_l16 N N p 3 w (fun r779 r780 => k r779 r780) (fun _ => k 0 0)) w.Jobs.n 0 N (by omega) (by omega)
    rw [show ((0 : Nat) : Int) = 0 from rfl] at h8
    rw [h8]
    cases h3 : fnd (bad2 w p) w.Jobs.n 0 with
    | some i => rfl
    | none =>
      simp only
      obtain ⟨n, hNn⟩ : ∃ m, N = m + 4 := ⟨N - 4, by omega⟩
      have ea := fun (kr : Int → Option R) k8 => l19 (R := R) v hn hb N (by omega) (r := 3) (by omega) kr k8 w.Until.toNat 0 N (by omega) (by omega)
      have eb := fun (kr : Int → Option R) k8 => l19 (R := R) v hn hb N (by omega) (r := 4) (by omega) kr k8 w.Until.toNat 0 N (by omega) (by omega)
      have ec := fun (kr : Int → Option R) k8 => l19 (R := R) v hn hb N (by omega) (r := 5) (by omega) kr k8 w.Until.toNat 0 N (by omega) (by omega)
      rw [show ((0 : Nat) : Int) = 0 from rfl] at ea eb ec
      rw [show ((3 : Nat) : Int) = 3 from rfl] at ea
      rw [show ((4 : Nat) : Int) = 4 from rfl] at eb
      rw [show ((5 : Nat) : Int) = 5 from rfl] at ec
      have run : ∀ n, newelref09_reason_l16 N (n + 4) p 3 w (fun r779 r780 => k r779 r780) (fun _ => k 0 0) = match fnd (bad3 w p) w.Until.toNat 0 with
          | some j => k 3 (j : Int)
          | none => match fnd (bad4 w p) w.Until.toNat 0 with
            | some j => k 4 (j : Int)
            | none => match fnd (bad5 w p) w.Until.toNat 0 with
              | some j => k 5 (j : Int)
              | none => k 0 0 := by
        intro n
        simp only [newelref09_reason_l16, newelref09_reason_b16, show decide ((3 : Int) ≤ 5) = true from rfl, show decide ((4 : Int) ≤ 5) = true from rfl, show decide ((5 : Int) ≤ 5) = true from rfl, show decide ((6 : Int) ≤ 5) = false from rfl, cond_true, cond_false,
          show w64 (3 + 1) = 4 by rw [w64_eq (by omega) (by omega)]; rfl, show w64 (4 + 1) = 5 by rw [w64_eq (by omega) (by omega)]; rfl, show w64 (5 + 1) = 6 by rw [w64_eq (by omega) (by omega)]; rfl, ea, eb, ec]
        rfl
      have := run n
      rw [← hNn] at this
      rw [this]
      cases fnd (bad3 w p) w.Until.toNat 0 <;> simp only
      cases fnd (bad4 w p) w.Until.toNat 0 <;> simp only
      cases fnd (bad5 w p) w.Until.toNat 0 <;> simp only
end
end Go.Proofs.YtckkodiefpdmhaaDoor
set_option linter.unusedVariables false
set_option linter.unusedSimpArgs false
set_option linter.unusedSectionVars false
set_option maxHeartbeats 0
set_option maxRecDepth 100000
namespace Go.Proofs.YtckkodiefpdmhaaDoor
open Go.Sx
section
def digL (U : Nat) : Nat → Nat → Nat → Nat
  | 0, _, _ => 0
  | n + 1, x, i => bif i == n then x % U else digL U n (x / U) i
theorem digL_last (U n x : Nat) : digL U (n + 1) x n = x % U := by simp [digL]
theorem digL_low {U n x i : Nat} (h : i < n) : digL U (n + 1) x i = digL U n (x / U) i := by
  have : (i == n) = false := by simp; omega
  simp [digL, this]
theorem digL_lt {U : Nat} (hU : 0 < U) : ∀ {n x i : Nat}, digL U n x i < U := by
  intro n
  induction n with
  | zero => intro x i; exact hU
  | succ n ih =>
    intro x i
    simp only [digL]
    cases i == n
    · exact ih
    · exact Nat.mod_lt _ hU
def endN (w : api_Works) (f : Nat → Int) : Nat → Int
  | 0 => 0
  | i + 1 => max (endN w f i) (f i + (w.Jobs.f i).Nights)
def planA (w : api_Works) (x : Nat) : Arr Int := ⟨w.Jobs.n, fun i => ((digL w.Until.toNat w.Jobs.n x i : Nat) : Int)⟩
def endX (w : api_Works) (x : Nat) : Int := endN w (planA w x).f w.Jobs.n
def okX (w : api_Works) (x : Nat) : Bool := (jdg w (planA w x)).1 == 0
def stP (w : api_Works) : Nat → Option (Nat × Int)
  | 0 => none
  | x + 1 => match stP w x with
    | none => bif okX w x then some (x, endX w x) else none
    | some (b, e) => bif decide (endX w x < e) && okX w x then some (x, endX w x) else some (b, e)
end
open Classical
noncomputable section
variable {R : Type}
theorem fnd_congr {P Q : Nat → Bool} : ∀ {q i : Nat}, (∀ j, i ≤ j → j < i + q → P j = Q j) → fnd P q i = fnd Q q i := by
  intro q
  induction q with
  | zero => intro i _; rfl
  | succ q ih => intro i h; simp only [fnd]; rw [h i (by omega) (by omega), ih (fun j h1 h2 => h j (by omega) (by omega))]
theorem anyN_congr {P Q : Nat → Bool} : ∀ {q i : Nat}, (∀ j, i ≤ j → j < i + q → P j = Q j) → anyN P q i = anyN Q q i := by
  intro q
  induction q with
  | zero => intro i _; rfl
  | succ q ih => intro i h; simp only [anyN]; rw [h i (by omega) (by omega), ih (fun j h1 h2 => h j (by omega) (by omega))]
theorem nt_congr {w : api_Works} {p p' : Arr Int} (x : Int) : ∀ i, (∀ j, j < i → p.f j = p'.f j) → nt w p x i = nt w p' x i := by
  intro i
  induction i with
  | zero => intro _; rfl
  | succ i ih => intro h; simp only [nt]; rw [h i (by omega), ih (fun j hj => h j (by omega))]
theorem endN_congr {w : api_Works} {f f' : Nat → Int} : ∀ i, (∀ j, j < i → f j = f' j) → endN w f i = endN w f' i := by
  intro i
  induction i with
  | zero => intro _; rfl
  | succ i ih => intro h; simp only [endN]; rw [h i (by omega), ih (fun j hj => h j (by omega))]
theorem jdg_congr {w : api_Works} (v : VW w) {p p' : Arr Int} (h : ∀ j, j < w.Jobs.n → p.f j = p'.f j) : jdg w p = jdg w p' := by
  have e1 : fnd (bad1 w p) w.Jobs.n 0 = fnd (bad1 w p') w.Jobs.n 0 := fnd_congr fun j _ hj => by simp only [bad1]; rw [h j (by omega)]
  have e2 : fnd (bad2 w p) w.Jobs.n 0 = fnd (bad2 w p') w.Jobs.n 0 := fnd_congr fun j _ hj => by
    simp only [bad2]
    refine anyN_congr fun k _ hk => ?_
    have := v.nf j (by omega) k (by unfold job; omega)
    unfold job at this
    simp only [late]
    rw [h j (by omega), h _ (by omega)]
  have en : ∀ x, ntA w p x = ntA w p' x := fun x => nt_congr x _ h
  have e3 : bad3 w p = bad3 w p' := funext fun x => by simp only [bad3, en]
  have e4 : bad4 w p = bad4 w p' := funext fun x => by simp only [bad4, en]
  have e5 : bad5 w p = bad5 w p' := funext fun x => by simp only [bad5, en]
  unfold jdg
  rw [e1, e2, e3, e4, e5]
section
variable {w : api_Works} (v : VW w)
include v
theorem sends_eq {p : Arr Int} (hn : p.n = w.Jobs.n) (hb : ∀ i, i < w.Jobs.n → 0 ≤ p.f i ∧ p.f i ≤ 24) (N : Nat) (hN : 20 ≤ N) (k : Int → Option R) : shaft_ends N w p k = k (endN w p.f w.Jobs.n) := by
  have hj := v.j
  have key : ∀ (q i n : Nat), i + q = w.Jobs.n → q < n → shaft_ends_l2 N n p (endN w p.f i) w.Jobs (w.Jobs.n : Int) (i : Int) (fun r => k r) = k (endN w p.f w.Jobs.n) := by
    intro q
    induction q with
    | zero =>
      intro i n h1 h2
      obtain ⟨n, rfl⟩ : ∃ m, n = m + 1 := ⟨n - 1, by omega⟩
      unfold shaft_ends_l2 shaft_ends_b2
      rw [ltF (show w.Jobs.n ≤ i by omega), cond_false, show i = w.Jobs.n by omega]
    | succ q ih =>
      intro i n h1 h2
      obtain ⟨n, rfl⟩ : ∃ m, n = m + 1 := ⟨n - 1, by omega⟩
      have hni := (v.jobs i (by omega)).n
      have hbi := hb i (by omega)
      unfold job at hni
      unfold shaft_ends_l2 shaft_ends_b2
      simp only [hn, ltT (show i < w.Jobs.n by omega), nat_nonneg, Bool.and_self, cond_true, Int.toNat_natCast (n := i), w64_succ (show i < 1000000000000 by omega),
        w64_eq (show -9223372036854775808 ≤ p.f i + (w.Jobs.f i).Nights by omega) (by omega), mxI_eq]
      exact ih (i + 1) n (by omega) (by omega)
  rw [shaft_ends_def]
  unfold shaft_ends_m
  exact key w.Jobs.n 0 N (by omega) (by omega)
theorem rends_eq {p : Arr Int} (hn : p.n = w.Jobs.n) (hb : ∀ i, i < w.Jobs.n → 0 ≤ p.f i ∧ p.f i ≤ 24) (N : Nat) (hN : 20 ≤ N) (k : Int → Option R) : newelref09_End N w p k = k (endN w p.f w.Jobs.n) := by
  have hj := v.j
  have key : ∀ (q i n : Nat), i + q = w.Jobs.n → q < n → newelref09_End_l3 N n p (endN w p.f i) (i : Int) w (fun r => k r) = k (endN w p.f w.Jobs.n) := by
    intro q
    induction q with
    | zero =>
      intro i n h1 h2
      obtain ⟨n, rfl⟩ : ∃ m, n = m + 1 := ⟨n - 1, by omega⟩
      unfold newelref09_End_l3 newelref09_End_b3
      rw [hn, ltF (show w.Jobs.n ≤ i by omega), cond_false, show i = w.Jobs.n by omega]
    | succ q ih =>
      intro i n h1 h2
      obtain ⟨n, rfl⟩ : ∃ m, n = m + 1 := ⟨n - 1, by omega⟩
      have hni := (v.jobs i (by omega)).n
      have hbi := hb i (by omega)
      unfold job at hni
      unfold newelref09_End_l3 newelref09_End_b3
      simp only [hn, ltT (show i < w.Jobs.n by omega), nat_nonneg, Bool.and_self, cond_true, Int.toNat_natCast (n := i), w64_succ (show i < 1000000000000 by omega),
        w64_eq (show -9223372036854775808 ≤ p.f i + (w.Jobs.f i).Nights by omega) (by omega), mxI_eq]
      exact ih (i + 1) n (by omega) (by omega)
  rw [newelref09_End_def]
  unfold newelref09_End_m
  exact key w.Jobs.n 0 N (by omega) (by omega)
def DG (w : api_Works) (p : Arr Int) (x : Nat) : Prop := p.n = w.Jobs.n ∧ ∀ i, i < w.Jobs.n → p.f i = ((digL w.Until.toNat w.Jobs.n x i : Nat) : Int)
theorem DG.b {p : Arr Int} {x : Nat} (h : DG w p x) : ∀ i, i < w.Jobs.n → 0 ≤ p.f i ∧ p.f i ≤ 24 := fun i hi => by
  have hu := v.u
  have := digL_lt (U := w.Until.toNat) (by omega) (n := w.Jobs.n) (x := x) (i := i)
  rw [h.2 i hi]
  omega
theorem DG.judge {p : Arr Int} {x : Nat} (h : DG w p x) : jdg w p = jdg w (planA w x) := jdg_congr v h.2
omit v in
theorem DG.ends {p : Arr Int} {x : Nat} (h : DG w p x) : endN w p.f w.Jobs.n = endX w x := endN_congr _ h.2
omit v in
theorem set_g (c : Nat) (a : Nat → Int) (m : Nat) (x : Int) (j : Nat) : (lst intC c (setCs m 0 (Cod.cell intC a) [SV.int IntKind.i64 x])).f j = if j = m then x else a j := by
  show intC.dec (fun k => setCs m 0 (Cod.cell intC a) [SV.int IntKind.i64 x] j k) = _
  by_cases e : j = m
  · subst e
    rw [if_pos rfl]
    simp [setCs, setC, intC, toI]
  · have e0 : (j == m) = false := by simpa using e
    rw [if_neg e]
    show intC.dec (fun k => setC m 0 (Cod.cell intC a) (SV.int IntKind.i64 x) j k) = a j
    simp only [setC, e0, Bool.false_and, cond_false]
    rfl
theorem next_l18 {U : Nat} (hU : w.Until = (U : Int)) (N : Nat) (en : Int) (nl : Bool) (best : Arr Int) (f0 : Bool) (K : Int → Arr Int → Option R) {x : Nat} (hx : x < U ^ w.Jobs.n) : ∀ (k n : Nat) (y : Nat) (cur : Arr Int), k ≤ w.Jobs.n → k < n → cur.n = w.Jobs.n → y < U ^ k → x + 1 = (y + 1) * U ^ (w.Jobs.n - k) →
    (∀ j, j < k → cur.f j = ((digL U k y j : Nat) : Int)) → (∀ j, k ≤ j → j < w.Jobs.n → cur.f j = 0) →
    (∀ j, j < w.Jobs.n → digL U w.Jobs.n (x + 1) j = if j < k then digL U k (y + 1) j else 0) →
    (x + 1 = U ^ w.Jobs.n ∧ ∃ cur', shaft_Plan_l18 N n en ((k : Int) - 1) w nl best f0 cur K = K (-1) cur') ∨
    (x + 1 < U ^ w.Jobs.n ∧ ∃ (i : Nat) (cur' : Arr Int), i < w.Jobs.n ∧ cur'.n = w.Jobs.n ∧ (0 ≤ cur'.f i ∧ cur'.f i ≤ 24) ∧ (∀ j, j < w.Jobs.n → (if j = i then cur'.f i + 1 else cur'.f j) = ((digL U w.Jobs.n (x + 1) j : Nat) : Int)) ∧ shaft_Plan_l18 N n en ((k : Int) - 1) w nl best f0 cur K = K (i : Int) cur') := by
  have hu := v.u
  have hj := v.j
  intro k
  induction k with
  | zero =>
    intro n y cur h1 h2 h3 h4 h5 h6 h7 h8
    obtain ⟨n, rfl⟩ : ∃ m, n = m + 1 := ⟨n - 1, by omega⟩
    left
    have hy : y = 0 := by simpa using h4
    subst hy
    refine ⟨by rw [h5]; simp, cur, ?_⟩
    unfold shaft_Plan_l18 shaft_Plan_b18
    rfl
  | succ k ih =>
    intro n y cur h1 h2 h3 h4 h5 h6 h7 h8
    obtain ⟨n, rfl⟩ : ∃ m, n = m + 1 := ⟨n - 1, by omega⟩
    have hk := h6 k (by omega)
    rw [digL_last] at hk
    have hmod : y % U < U := Nat.mod_lt _ (by omega)
    have hdm := Nat.div_add_mod y U
    have e1 : ((k + 1 : Nat) : Int) - 1 = (k : Int) := by omega
    have hdiv : y / U < U ^ k := by
      rw [Nat.div_lt_iff_lt_mul (by omega)]
      rw [Nat.pow_succ] at h4
      exact h4
    rw [e1]
    unfold shaft_Plan_l18 shaft_Plan_b18
    have hge : decide ((k : Int) ≥ 0) = true := decide_eq_true (by omega)
    simp only [hge, nat_nonneg, h3, ltT (show k < w.Jobs.n by omega), Int.toNat_natCast, hk, hU, w64_eq (show -9223372036854775808 ≤ (U : Int) - 1 by omega) (by omega), w64_eq (show -9223372036854775808 ≤ (k : Int) - 1 by omega) (by omega), Bool.and_self, cond_true]
    by_cases c : y % U = U - 1
    · rw [show (((y % U : Nat) : Int) == (U : Int) - 1) = true by rw [beq_iff_eq]; omega, cond_true]
      have hs1 : (y + 1) % U = 0 := by
        have : y + 1 = U * (y / U + 1) := by rw [Nat.mul_add, Nat.mul_one]; omega
        rw [this]; exact Nat.mul_mod_right _ _
      have hs2 : (y + 1) / U = y / U + 1 := by
        have : y + 1 = U * (y / U + 1) := by rw [Nat.mul_add, Nat.mul_one]; omega
        rw [this]; exact Nat.mul_div_cancel_left _ (by omega)
      refine ih n (y / U) _ (by omega) (by omega) rfl hdiv ?_ (fun j hj => ?_) (fun j hj1 hj2 => ?_) (fun j hj => ?_)
      · rw [h5, show w.Jobs.n - k = w.Jobs.n - (k + 1) + 1 by omega, Nat.pow_succ]
        have : y + 1 = (y / U + 1) * U := by rw [Nat.add_mul, Nat.one_mul, Nat.mul_comm]; omega
        rw [this, Nat.mul_assoc, Nat.mul_comm U]
      · rw [set_g, if_neg (by omega), h6 j (by omega), digL_low hj]
      · rw [set_g]
        by_cases e : j = k
        · rw [if_pos e]
        · rw [if_neg e]; exact h7 j (by omega) hj2
      · rw [h8 j hj]
        by_cases e : j < k
        · rw [if_pos (by omega), if_pos e, digL_low e, hs2]
        · rw [if_neg e]
          by_cases e2 : j = k
          · subst e2; rw [if_pos (by omega), digL_last, hs1]
          · rw [if_neg (by omega)]
    · right
      rw [show (((y % U : Nat) : Int) == (U : Int) - 1) = false by rw [beq_eq_false_iff_ne]; omega, cond_false]
      have hs1 : (y + 1) % U = y % U + 1 := by
        have : y + 1 = (y % U + 1) + U * (y / U) := by omega
        rw [this, Nat.add_mul_mod_self_left, Nat.mod_eq_of_lt (by omega)]
      have hs2 : (y + 1) / U = y / U := by
        have : y + 1 = (y % U + 1) + U * (y / U) := by omega
        rw [this, Nat.add_mul_div_left _ _ (by omega), Nat.div_eq_of_lt (by omega)]; omega
      refine ⟨?_, k, cur, by omega, h3, by rw [hk]; omega, fun j hj => ?_, rfl⟩
      · -- the prefix is not full
        have hlt : y + 1 < U ^ (k + 1) := by
          rcases Nat.lt_or_ge (y + 1) (U ^ (k + 1)) with g | g
          · exact g
          · exfalso
            have he : y + 1 = U ^ (k + 1) := by omega
            rw [he, Nat.pow_succ, Nat.mul_mod_left] at hs1
            omega
        rw [h5]
        have hp : U ^ w.Jobs.n = U ^ (k + 1) * U ^ (w.Jobs.n - (k + 1)) := by rw [← Nat.pow_add]; congr 1; omega
        rw [hp]
        exact Nat.mul_lt_mul_of_pos_right hlt (Nat.pow_pos (by omega))
      · rw [h8 j hj]
        by_cases e : j = k
        · subst e
          rw [if_pos rfl, if_pos (by omega), digL_last, hs1, hk]; omega
        · rw [if_neg e]
          by_cases e2 : j < k
          · rw [if_pos (by omega), h6 j (by omega), digL_low e2, digL_low e2, hs2]
          · rw [if_neg (by omega), h7 j (by omega) hj]; rfl
end
end
end Go.Proofs.YtckkodiefpdmhaaDoor
set_option linter.unusedVariables false
set_option linter.unusedSimpArgs false
set_option linter.unusedSectionVars false
set_option maxHeartbeats 0
set_option maxRecDepth 100000
namespace Go.Proofs.YtckkodiefpdmhaaDoor
open Go.Sx
open Classical
noncomputable section
variable {R : Type}
def cnt (w : api_Works) : Nat := w.Until.toNat ^ w.Jobs.n
def plE (w : api_Works) : Int := if ¬ VW w then 92 else if cnt w > 200000 then 2 else match stP w (cnt w) with | none => 3 | some _ => 0
def plEnd (w : api_Works) : Int := if plE w = 0 then (match stP w (cnt w) with | none => 0 | some (_, e) => e) else 0
def PlanOk (w : api_Works) (arr : Arr Int) : Prop := (plE w = 0 → ∃ b e, stP w (cnt w) = some (b, e) ∧ DG w arr b) ∧ (plE w ≠ 0 → arr.n = 0)
def BS (w : api_Works) (st : Option (Nat × Int)) (nl : Bool) (arr : Arr Int) (en : Int) : Prop := match st with
  | none => nl = true
  | some (b, e) => nl = false ∧ DG w arr b ∧ en = e
theorem copy_f (c0 : Nat → Nat → SV) (a : Arr Int) : (lst intC (0 + a.n) (catC 0 c0 (Cod.cell intC a.f))).n = a.n ∧ ∀ i, (lst intC (0 + a.n) (catC 0 c0 (Cod.cell intC a.f))).f i = a.f i := by
  refine ⟨by show 0 + a.n = a.n; omega, fun i => ?_⟩
  have h : Nat.blt i 0 = false := by cases hb : Nat.blt i 0; · rfl
                                     · rw [Nat.blt_eq] at hb; omega
  show intC.dec (fun j => bif Nat.blt i 0 then c0 i j else Cod.cell intC a.f (i - 0) j) = a.f i
  rw [h]; rfl
theorem DG.copy {w : api_Works} {a : Arr Int} {x : Nat} (h : DG w a x) (c0 : Nat → Nat → SV) : DG w (lst intC (0 + a.n) (catC 0 c0 (Cod.cell intC a.f))) x :=
  ⟨by rw [(copy_f c0 a).1]; exact h.1, fun i hi => by rw [(copy_f c0 a).2]; exact h.2 i hi⟩
theorem tdv (y U : Nat) : Int.tdiv (y : Int) (U : Int) = ((y / U : Nat) : Int) := by rw [Int.tdiv_eq_ediv_of_nonneg (by omega)]; rfl
theorem tmd (y U : Nat) : Int.tmod (y : Int) (U : Int) = ((y % U : Nat) : Int) := by rw [Int.tmod_eq_emod_of_nonneg (by omega)]; rfl
section
variable {w : api_Works} (v : VW w)
include v
theorem untilN : w.Until = (w.Until.toNat : Int) ∧ 1 ≤ w.Until.toNat ∧ w.Until.toNat ≤ 24 := by have := v.u; omega
theorem cnt_pos : 0 < cnt w := Nat.pow_pos (by have := untilN v; omega)
theorem okX_eq {p : Arr Int} {x : Nat} (h : DG w p x) : ((jdg w p).1 == 0) = okX w x := by rw [h.judge v]; rfl
theorem sl12 (N : Nat) (hN : 100 ≤ N) (k2 : Int → Bool → Arr Int → Option R) : ∀ (q x n : Nat) (nl : Bool) (best : Arr Int) (en : Int) (cur : Arr Int), x + q + 1 = cnt w → q < n → BS w (stP w x) nl best en → DG w cur x →
    ∃ nl' best' en', BS w (stP w (cnt w)) nl' best' en' ∧ shaft_Plan_l12 N n en w nl best false cur k2 = k2 en' nl' best' := by
  obtain ⟨hU, hU1, hU2⟩ := untilN v
  have hjn := v.j
  have step : ∀ (n x : Nat) (nl : Bool) (best : Arr Int) (en : Int) (cur : Arr Int), x < cnt w → BS w (stP w x) nl best en → DG w cur x →
      (x + 1 < cnt w → ∀ nl best en cur, BS w (stP w (x + 1)) nl best en → DG w cur (x + 1) → ∃ nl' best' en', BS w (stP w (cnt w)) nl' best' en' ∧ shaft_Plan_l12 N n en w nl best false cur k2 = k2 en' nl' best') →
      ∃ nl' best' en', BS w (stP w (cnt w)) nl' best' en' ∧ shaft_Plan_l12 N (n + 1) en w nl best false cur k2 = k2 en' nl' best' := by
    intro n x nl best en cur hx hbs hdg ih
    have tail : ∀ (en1 : Int) (nl1 : Bool) (best1 : Arr Int), BS w (stP w (x + 1)) nl1 best1 en1 → ∃ nl' best' en', BS w (stP w (cnt w)) nl' best' en' ∧
        shaft_Plan_l18 N N en1 (w64 (((Arr.n cur : Nat) : Int) - 1)) w nl1 best1 false cur (fun r895 r896 => bif decide (r895 < 0) then k2 en1 nl1 best1 else
          bif decide (0 ≤ r895) && decide (r895 < ((Arr.n r896 : Nat) : Int)) then bif decide (0 ≤ r895) && decide (r895 < ((Arr.n r896 : Nat) : Int)) then
            shaft_Plan_l12 N n en1 w nl1 best1 false (lst intC (Arr.n r896) (setCs (Int.toNat r895) 0 (Cod.cell intC (Arr.f r896)) [SV.int IntKind.i64 (w64 (Arr.f r896 (Int.toNat r895) + 1))])) k2 else Option.none else Option.none) = k2 en' nl' best' := by
      intro en1 nl1 best1 hb1
      rw [hdg.1, w64_eq (show -9223372036854775808 ≤ ((w.Jobs.n : Nat) : Int) - 1 by omega) (by omega)]
      rcases next_l18 (R := R) v hU N en1 nl1 best1 false (fun r895 r896 => bif decide (r895 < 0) then k2 en1 nl1 best1 else
          bif decide (0 ≤ r895) && decide (r895 < ((Arr.n r896 : Nat) : Int)) then bif decide (0 ≤ r895) && decide (r895 < ((Arr.n r896 : Nat) : Int)) then
            shaft_Plan_l12 N n en1 w nl1 best1 false (lst intC (Arr.n r896) (setCs (Int.toNat r895) 0 (Cod.cell intC (Arr.f r896)) [SV.int IntKind.i64 (w64 (Arr.f r896 (Int.toNat r895) + 1))])) k2 else Option.none else Option.none)
          (x := x) hx w.Jobs.n N x cur (Nat.le_refl _) (by omega) hdg.1 hx (by simp) hdg.2 (fun j h1 h2 => by omega) (fun j hj => by rw [if_pos hj]) with ⟨g1, cur', g2⟩ | ⟨g1, i, cur', g2, g3, g4, g5, g6⟩
      · have : x + 1 = cnt w := g1
        rw [this] at hb1
        exact ⟨nl1, best1, en1, hb1, Eq.trans g2 rfl⟩
      · have hdg' : DG w (lst intC (Arr.n cur') (setCs i 0 (Cod.cell intC (Arr.f cur')) [SV.int IntKind.i64 (Arr.f cur' i + 1)])) (x + 1) := ⟨g3, fun j hj => by rw [set_g]; exact g5 j hj⟩
        obtain ⟨nl', best', en', h1, h2⟩ := ih g1 nl1 best1 en1 _ hb1 hdg'
        refine ⟨nl', best', en', h1, Eq.trans g6 ?_⟩
        rw [decide_eq_false (show ¬ (i : Int) < 0 by omega), nat_nonneg, g3, ltT g2, Int.toNat_natCast, w64_eq (show -9223372036854775808 ≤ cur'.f i + 1 by omega) (by omega)]
        simp only [cond_false, Bool.and_self, cond_true]
        rw [g3] at h2
        exact h2
    unfold shaft_Plan_l12 shaft_Plan_b12
    rw [sends_eq v hdg.1 (hdg.b v) N (by omega), hdg.ends]
    have hstep : stP w (x + 1) = match stP w x with
      | none => bif okX w x then some (x, endX w x) else none
      | some (b, e) => bif decide (endX w x < e) && okX w x then some (x, endX w x) else some (b, e) := rfl
    obtain ⟨p', hp', hcl⟩ : ∃ p', DG w p' x ∧ ∀ k : Bool → Arr Int → Option R, slices_Clone___int_int_ N false cur k = k false p' := ⟨_, hdg.copy (litC [SV.int IntKind.i64 0] []), fun k => by
      rw [slices_Clone___int_int__def]
      unfold slices_Clone___int_int__m
      rw [room_of (show 0 + cur.n ≤ 1073741824 by rw [hdg.1]; omega)]
      simp only [cond_false, cond_true]
      cases (cur.n == 0) <;> rfl⟩
    cases hst : stP w x with
    | none =>
      rw [hst] at hbs hstep
      have hnl : nl = true := hbs
      subst hnl
      simp only [cond_true]
      rw [judge_eq v hdg.1 N hN, okX_eq v hdg]
      cases hok : okX w x with
      | true =>
        rw [hok] at hstep
        simp only [cond_true] at hstep ⊢
        rw [hcl]
        exact tail (endX w x) false p' (by rw [hstep]; exact ⟨rfl, hp', rfl⟩)
      | false =>
        rw [hok] at hstep
        simp only [cond_false] at hstep ⊢
        exact tail en true best (by rw [hstep]; rfl)
    | some be =>
      obtain ⟨b, e⟩ := be
      rw [hst] at hbs hstep
      obtain ⟨hnl, hb, he⟩ : nl = false ∧ DG w best b ∧ en = e := hbs
      subst hnl he
      simp only [cond_false]
      simp only at hstep
      by_cases hlt : endX w x < en
      · rw [decide_eq_true hlt] at hstep ⊢
        simp only [cond_true, Bool.true_and] at hstep ⊢
        rw [judge_eq v hdg.1 N hN, okX_eq v hdg]
        cases hok : okX w x with
        | true =>
          rw [hok] at hstep
          simp only [cond_true] at hstep ⊢
          rw [hcl]
          exact tail (endX w x) false p' (by rw [hstep]; exact ⟨rfl, hp', rfl⟩)
        | false =>
          rw [hok] at hstep
          simp only [cond_false] at hstep ⊢
          exact tail en false best (by rw [hstep]; exact ⟨rfl, hb, rfl⟩)
      · rw [decide_eq_false hlt] at hstep ⊢
        simp only [cond_false, Bool.false_and] at hstep ⊢
        exact tail en false best (by rw [hstep]; exact ⟨rfl, hb, rfl⟩)
  intro q
  induction q with
  | zero =>
    intro x n nl best en cur h1 h2 h3 h4
    obtain ⟨n, rfl⟩ : ∃ m, n = m + 1 := ⟨n - 1, by omega⟩
    exact step n x nl best en cur (by omega) h3 h4 (fun h => by omega)
  | succ q ih =>
    intro x n nl best en cur h1 h2 h3 h4
    obtain ⟨n, rfl⟩ : ∃ m, n = m + 1 := ⟨n - 1, by omega⟩
    exact step n x nl best en cur (by omega) h3 h4 (fun h nl best en cur h5 h6 => ih (x + 1) n nl best en cur (by omega) (by omega) h5 h6)
theorem rl16 (N : Nat) (en ct xx : Int) (nl : Bool) (best : Arr Int) (f0 : Bool) (k4 : Arr Int → Option R) : ∀ (k n y : Nat) (cur : Arr Int) (g : Nat → Int), k ≤ w.Jobs.n → k < n → cur.n = w.Jobs.n → y < 300000000 → (∀ j, k ≤ j → j < w.Jobs.n → cur.f j = g j) →
    ∃ cur', cur'.n = w.Jobs.n ∧ (∀ j, j < w.Jobs.n → cur'.f j = if j < k then ((digL w.Until.toNat k y j : Nat) : Int) else g j) ∧ newelref09_Plan_l16 N n en ct xx (y : Int) ((k : Int) - 1) w nl best f0 cur k4 = k4 cur' := by
  obtain ⟨hU, hU1, hU2⟩ := untilN v
  have hjn := v.j
  intro k
  induction k with
  | zero =>
    intro n y cur g h1 h2 h3 hy h4
    obtain ⟨n, rfl⟩ : ∃ m, n = m + 1 := ⟨n - 1, by omega⟩
    refine ⟨cur, h3, fun j hj => by rw [if_neg (by omega)]; exact h4 j (by omega) hj, ?_⟩
    unfold newelref09_Plan_l16 newelref09_Plan_b16
    rfl
  | succ k ih =>
    intro n y cur g h1 h2 h3 hy h4
    obtain ⟨n, rfl⟩ : ∃ m, n = m + 1 := ⟨n - 1, by omega⟩
    have e1 : ((k + 1 : Nat) : Int) - 1 = (k : Int) := by omega
    have hge : decide ((k : Int) ≥ 0) = true := decide_eq_true (by omega)
    have hz : (w.Until == (0 : Int)) = false := by rw [beq_eq_false_iff_ne]; omega
    have hdle : y / w.Until.toNat ≤ y := Nat.div_le_self _ _
    rw [e1]
    unfold newelref09_Plan_l16 newelref09_Plan_b16
    simp only [hge, hz, cond_true, cond_false, nat_nonneg, h3, ltT (show k < w.Jobs.n by omega), Int.toNat_natCast, Bool.and_self, w64_eq (show -9223372036854775808 ≤ (k : Int) - 1 by omega) (by omega)]
    have key : ∀ z : Nat, z ≤ y → w64 ((z : Nat) : Int) = (z : Int) := fun z hz => w64_eq (by omega) (by omega)
    rw [hU, tdv, tmd, key _ hdle]
    try rw [Int.toNat_natCast]
    obtain ⟨cur', g1, g2, g3⟩ := ih n (y / w.Until.toNat) (lst intC w.Jobs.n (setCs k 0 (Cod.cell intC cur.f) [SV.int IntKind.i64 ((y % w.Until.toNat : Nat) : Int)])) (fun j => if j = k then ((y % w.Until.toNat : Nat) : Int) else g j) (by omega) (by omega) rfl (by omega) (fun j hj1 hj2 => by
      rw [set_g]
      by_cases e : j = k
      · rw [if_pos e, if_pos e]
      · rw [if_neg e, if_neg e]; exact h4 j (by omega) hj2)
    refine ⟨cur', g1, fun j hj => ?_, g3⟩
    rw [g2 j hj]
    by_cases e : j < k
    · rw [if_pos e, if_pos (show j < k + 1 by omega), digL_low e]
    · rw [if_neg e]
      by_cases e2 : j = k
      · subst e2; rw [if_pos rfl, if_pos (show j < j + 1 by omega), digL_last]
      · rw [if_neg e2, if_neg (show ¬ j < k + 1 by omega)]
theorem rl12 (N : Nat) (hN : 100 ≤ N) (hM : cnt w ≤ 200000) (k2 : Int → Bool → Arr Int → Option R) : ∀ (q x n : Nat) (nl : Bool) (best : Arr Int) (en : Int) (cur : Arr Int), x + q = cnt w → q < n → BS w (stP w x) nl best en → cur.n = w.Jobs.n →
    ∃ nl' best' en', BS w (stP w (cnt w)) nl' best' en' ∧ newelref09_Plan_l12 N n en ((cnt w : Nat) : Int) (x : Int) w nl best false cur k2 = k2 en' nl' best' := by
  obtain ⟨hU, hU1, hU2⟩ := untilN v
  have hjn := v.j
  intro q
  induction q with
  | zero =>
    intro x n nl best en cur h1 h2 h3 h4
    obtain ⟨n, rfl⟩ : ∃ m, n = m + 1 := ⟨n - 1, by omega⟩
    have : x = cnt w := by omega
    subst this
    refine ⟨nl, best, en, h3, ?_⟩
    unfold newelref09_Plan_l12 newelref09_Plan_b12
    rw [ltF (Nat.le_refl _), cond_false]
  | succ q ih =>
    intro x n nl best en cur h1 h2 h3 h4
    obtain ⟨n, rfl⟩ : ∃ m, n = m + 1 := ⟨n - 1, by omega⟩
    have hstep : stP w (x + 1) = match stP w x with
      | none => bif okX w x then some (x, endX w x) else none
      | some (b, e) => bif decide (endX w x < e) && okX w x then some (x, endX w x) else some (b, e) := rfl
    unfold newelref09_Plan_l12 newelref09_Plan_b12
    rw [ltT (show x < cnt w by omega), cond_true, h4, w64_eq (show -9223372036854775808 ≤ ((w.Jobs.n : Nat) : Int) - 1 by omega) (by omega), w64_succ (show x < 1000000000000 by omega)]
    generalize hK : (fun r846 : Arr Int => (_ : Option R)) = K
    obtain ⟨cur', g1, g2, g3⟩ := rl16 (R := R) v N en ((cnt w : Nat) : Int) (x : Int) nl best false K w.Jobs.n N x cur (fun _ => 0) (Nat.le_refl _) (by omega) h4 (by omega) (fun j hj1 hj2 => by omega)
    rw [g3, ← hK]
    have hdg : DG w cur' x := ⟨g1, fun j hj => by rw [g2 j hj, if_pos hj]⟩
    try dsimp only
    have hen := fun k : Int → Option R => rends_eq v hdg.1 (hdg.b v) N (by omega) k
    rw [hdg.ends] at hen
    have hre := fun k : Int → Int → Option R => reason_eq v hdg.1 N hN k
    simp only [hen, hre, okX_eq v hdg, room_of (show 0 + cur'.n ≤ 1073741824 by rw [g1]; omega)]
    have hcp := hdg.copy (litC [SV.int IntKind.i64 0] [])
    have hb0 : (bif cur'.n == 0 then false else false) = false := by cases (cur'.n == 0) <;> rfl
    rw [hb0]
    cases hst : stP w x with
    | none =>
      rw [hst] at h3 hstep
      have hnl : nl = true := h3
      subst hnl
      simp only [Bool.not_true, cond_false, cond_true]
      cases hok : okX w x with
      | true =>
        rw [hok] at hstep
        simp only [cond_true] at hstep ⊢
        exact ih (x + 1) n false _ _ cur' (by omega) (by omega) (by rw [hstep]; exact ⟨rfl, hcp, rfl⟩) g1
      | false =>
        rw [hok] at hstep
        simp only [cond_false] at hstep ⊢
        exact ih (x + 1) n true best en cur' (by omega) (by omega) (by rw [hstep]; rfl) g1
    | some be =>
      obtain ⟨b, e⟩ := be
      rw [hst] at h3 hstep
      obtain ⟨hnl, hb, he⟩ : nl = false ∧ DG w best b ∧ en = e := h3
      subst hnl he
      simp only [Bool.not_false, cond_true]
      simp only at hstep
      by_cases hlt : endX w x < en
      · rw [decide_eq_true hlt] at hstep
        rw [decide_eq_false (show ¬ endX w x ≥ en by omega)]
        simp only [cond_true, cond_false, Bool.true_and] at hstep ⊢
        cases hok : okX w x with
        | true =>
          rw [hok] at hstep
          simp only [cond_true] at hstep ⊢
          exact ih (x + 1) n false _ _ cur' (by omega) (by omega) (by rw [hstep]; exact ⟨rfl, hcp, rfl⟩) g1
        | false =>
          rw [hok] at hstep
          simp only [cond_false] at hstep ⊢
          exact ih (x + 1) n false best en cur' (by omega) (by omega) (by rw [hstep]; exact ⟨rfl, hb, rfl⟩) g1
      · rw [decide_eq_false hlt] at hstep
        rw [decide_eq_true (show endX w x ≥ en by omega)]
        simp only [cond_true, Bool.false_and, cond_false] at hstep ⊢
        exact ih (x + 1) n false best en cur' (by omega) (by omega) (by rw [hstep]; exact ⟨rfl, hb, rfl⟩) g1
theorem pow_big {i : Nat} (hi : i ≤ w.Jobs.n) : w.Until.toNat ^ i ≤ cnt w ∧ w.Until.toNat ^ i ≤ 191102976 := by
  obtain ⟨hU, hU1, hU2⟩ := untilN v
  have hjn := v.j
  refine ⟨Nat.pow_le_pow_right hU1 hi, ?_⟩
  have h1 : w.Until.toNat ^ i ≤ 24 ^ i := Nat.pow_le_pow_left hU2 i
  have h2 : 24 ^ i ≤ 24 ^ 6 := Nat.pow_le_pow_right (by omega) (by omega)
  omega
theorem sl6 (N : Nat) (en : Int) (nl : Bool) (best : Arr Int) (k0 : Int → Option R) : ∀ (q i n : Nat), i + q = w.Jobs.n → q < n →
    shaft_Plan_l6 N n en ((w.Until.toNat ^ i : Nat) : Int) (w.Jobs.n : Int) (i : Int) w nl best k0 = k0 ((cnt w : Nat) : Int) := by
  obtain ⟨hU, hU1, hU2⟩ := untilN v
  have hjn := v.j
  intro q
  induction q with
  | zero =>
    intro i n h1 h2
    obtain ⟨n, rfl⟩ : ∃ m, n = m + 1 := ⟨n - 1, by omega⟩
    have : i = w.Jobs.n := by omega
    subst this
    unfold shaft_Plan_l6 shaft_Plan_b6
    rw [ltF (Nat.le_refl _), cond_false]; rfl
  | succ q ih =>
    intro i n h1 h2
    obtain ⟨n, rfl⟩ : ∃ m, n = m + 1 := ⟨n - 1, by omega⟩
    have hp := (pow_big v (show i + 1 ≤ w.Jobs.n by omega)).2
    have hm : ((w.Until.toNat ^ i : Nat) : Int) * w.Until = ((w.Until.toNat ^ (i + 1) : Nat) : Int) := by
      rw [Nat.pow_succ]; conv => lhs; rw [hU]
      push_cast; rfl
    unfold shaft_Plan_l6 shaft_Plan_b6
    rw [ltT (show i < w.Jobs.n by omega), cond_true, hm, w64_eq (by omega) (by omega), w64_succ (show i < 1000000000000 by omega)]
    exact ih (i + 1) n (by omega) (by omega)
theorem rl5 (N : Nat) (en : Int) (nl : Bool) (best : Arr Int) (kr : Int → Int → Bool → Arr Int → Option R) (k0 : Int → Option R) : ∀ (q i n : Nat), i + q = w.Jobs.n → q < n → w.Until.toNat ^ i ≤ 200000 →
    newelref09_Plan_l5 N n en ((w.Until.toNat ^ i : Nat) : Int) (i : Int) w nl best kr k0 = if cnt w > 200000 then kr 0 2 true (lst intC 0 (zeroC [SV.int IntKind.i64 0])) else k0 ((cnt w : Nat) : Int) := by
  obtain ⟨hU, hU1, hU2⟩ := untilN v
  have hjn := v.j
  intro q
  induction q with
  | zero =>
    intro i n h1 h2 h3
    obtain ⟨n, rfl⟩ : ∃ m, n = m + 1 := ⟨n - 1, by omega⟩
    have : i = w.Jobs.n := by omega
    subst this
    have h3' : cnt w ≤ 200000 := h3
    rw [if_neg (by omega)]
    unfold newelref09_Plan_l5 newelref09_Plan_b5
    rw [ltF (Nat.le_refl _), cond_false]; rfl
  | succ q ih =>
    intro i n h1 h2 h3
    obtain ⟨n, rfl⟩ : ∃ m, n = m + 1 := ⟨n - 1, by omega⟩
    have hp := pow_big v (show i + 1 ≤ w.Jobs.n by omega)
    have hm : ((w.Until.toNat ^ i : Nat) : Int) * w.Until = ((w.Until.toNat ^ (i + 1) : Nat) : Int) := by
      rw [Nat.pow_succ]; conv => lhs; rw [hU]
      push_cast; rfl
    unfold newelref09_Plan_l5 newelref09_Plan_b5
    rw [ltT (show i < w.Jobs.n by omega), cond_true, hm, w64_eq (by omega) (by omega), w64_succ (show i < 1000000000000 by omega)]
    by_cases c : w.Until.toNat ^ (i + 1) ≤ 200000
    · rw [decide_eq_false (by omega), cond_false]
      exact ih (i + 1) n (by omega) (by omega) c
    · rw [decide_eq_true (by omega), cond_true, if_pos (by omega)]
end
theorem fin_plan {w : api_Works} (v : VW w) (hc : ¬ cnt w > 200000) {nl : Bool} {best : Arr Int} {en : Int} (h : BS w (stP w (cnt w)) nl best en) (k : Int → Int → Bool → Arr Int → Option R) : ∃ nl' arr, PlanOk w arr ∧
    (bif nl then k 0 3 true (lst intC 0 (zeroC [SV.int IntKind.i64 0])) else k en 0 nl best) = k (plEnd w) (plE w) nl' arr := by
  cases hst : stP w (cnt w) with
  | none =>
    rw [hst] at h
    have hnl : nl = true := h
    subst hnl
    have he : plE w = 3 := by unfold plE; rw [if_neg (by simpa using v), if_neg hc, hst]
    refine ⟨true, lst intC 0 (zeroC [SV.int IntKind.i64 0]), ⟨fun g => by omega, fun _ => rfl⟩, ?_⟩
    rw [cond_true, plEnd, he, if_neg (by omega)]
  | some be =>
    obtain ⟨b, e⟩ := be
    rw [hst] at h
    obtain ⟨hnl, hb, hen⟩ : nl = false ∧ DG w best b ∧ en = e := h
    subst hnl hen
    have he : plE w = 0 := by unfold plE; rw [if_neg (by simpa using v), if_neg hc, hst]
    refine ⟨false, best, ⟨fun _ => ⟨b, en, hst, hb⟩, fun g => absurd he g⟩, ?_⟩
    rw [cond_false, plEnd, he, if_pos rfl, hst]
theorem DG.zero {w : api_Works} (c : Nat → Nat → SV) (hc : ∀ i, intC.dec (c i) = 0) : DG w (lst intC (Int.toNat ((w.Jobs.n : Nat) : Int)) c) 0 := by
  refine ⟨by show Int.toNat ((w.Jobs.n : Nat) : Int) = w.Jobs.n; omega, fun i hi => ?_⟩
  show intC.dec (c i) = _
  rw [hc]
  have : ∀ n, digL w.Until.toNat n 0 i = 0 := by
    intro n
    induction n with
    | zero => rfl
    | succ n ih => simp only [digL, Nat.zero_mod, Nat.zero_div, ih]; cases i == n <;> rfl
  rw [this]; rfl
theorem sPlan_eq {w : api_Works} (nf : NF w) (N : Nat) (hN : 200100 ≤ N) (k : Int → Int → Bool → Arr Int → Option R) : ∃ nl arr, PlanOk w arr ∧ shaft_Plan N w k = k (plEnd w) (plE w) nl arr := by
  rw [shaft_Plan_def]
  unfold shaft_Plan_m
  rw [sWorks_eq nf N (by omega)]
  by_cases v : VW w
  rotate_left
  · have he : plE w = 92 := by unfold plE; rw [if_pos v]
    refine ⟨true, lst intC 0 (zeroC [SV.int IntKind.i64 0]), ⟨fun g => by omega, fun _ => rfl⟩, ?_⟩
    rw [errW, if_neg v, plEnd, he, if_neg (by omega)]; rfl
  rw [errW, if_pos v]
  simp only [show ((0 : Int) != 0) = false from rfl, cond_false]
  have hjn := v.j
  have h6 := fun k0 => sl6 (R := R) v N 0 true (lst intC 0 (zeroC [SV.int IntKind.i64 0])) k0 w.Jobs.n 0 N (by omega) (by omega)
  rw [show ((0 : Nat) : Int) = 0 from rfl, Nat.pow_zero, show ((1 : Nat) : Int) = 1 from rfl] at h6
  rw [h6]
  by_cases hc : cnt w > 200000
  · have he : plE w = 2 := by unfold plE; rw [if_neg (by simpa using v), if_pos hc]
    refine ⟨true, lst intC 0 (zeroC [SV.int IntKind.i64 0]), ⟨fun g => by omega, fun _ => rfl⟩, ?_⟩
    rw [decide_eq_true (by omega), cond_true, plEnd, he, if_neg (by omega)]
  rw [decide_eq_false (by omega), cond_false, decide_eq_true (Int.le_refl _), decide_eq_true (show ((w.Jobs.n : Nat) : Int) ≤ 1073741824 by omega)]
  simp only [Bool.and_self, cond_true]
  have hcp := cnt_pos v
  obtain ⟨nl', best', en', h1, h2⟩ := sl12 (R := R) v N (by omega) (fun r909 r910 r911 => bif r910 then k 0 3 true (lst intC 0 (zeroC [SV.int IntKind.i64 0])) else k r909 0 r910 r911) (cnt w - 1) 0 N true (lst intC 0 (zeroC [SV.int IntKind.i64 0])) 0
    (lst intC (Int.toNat ((w.Jobs.n : Nat) : Int)) (zeroC [SV.int IntKind.i64 0])) (by omega) (by omega) rfl (DG.zero _ (fun i => rfl))
  obtain ⟨nl2, arr, g1, g2⟩ := fin_plan v hc h1 k
  exact ⟨nl2, arr, g1, Eq.trans h2 g2⟩
theorem rPlan_eq {w : api_Works} (nf : NF w) (N : Nat) (hN : 200100 ≤ N) (k : Int → Int → Bool → Arr Int → Option R) : ∃ nl arr, PlanOk w arr ∧ newelref09_Plan N w k = k (plEnd w) (plE w) nl arr := by
  rw [newelref09_Plan_def]
  unfold newelref09_Plan_m
  rw [rWorks_eq nf N (by omega)]
  by_cases v : VW w
  rotate_left
  · have he : plE w = 92 := by unfold plE; rw [if_pos v]
    refine ⟨true, lst intC 0 (zeroC [SV.int IntKind.i64 0]), ⟨fun g => by omega, fun _ => rfl⟩, ?_⟩
    rw [errW, if_neg v, plEnd, he, if_neg (by omega)]; rfl
  rw [errW, if_pos v]
  simp only [show ((0 : Int) != 0) = false from rfl, cond_false]
  have hjn := v.j
  have h5 := fun kr k0 => rl5 (R := R) v N 0 true (lst intC 0 (zeroC [SV.int IntKind.i64 0])) kr k0 w.Jobs.n 0 N (by omega) (by omega) (by rw [Nat.pow_zero]; omega)
  rw [show ((0 : Nat) : Int) = 0 from rfl, Nat.pow_zero, show ((1 : Nat) : Int) = 1 from rfl] at h5
  rw [h5]
  by_cases hc : cnt w > 200000
  · have he : plE w = 2 := by unfold plE; rw [if_neg (by simpa using v), if_pos hc]
    refine ⟨true, lst intC 0 (zeroC [SV.int IntKind.i64 0]), ⟨fun g => by omega, fun _ => rfl⟩, ?_⟩
    rw [if_pos hc, plEnd, he, if_neg (by omega)]
  rw [if_neg hc, decide_eq_true (Int.le_refl _), decide_eq_true (show ((w.Jobs.n : Nat) : Int) ≤ 1073741824 by omega)]
  simp only [Bool.and_self, cond_true]
  obtain ⟨nl', best', en', h1, h2⟩ := rl12 (R := R) v N (by omega) (by omega) (fun r854 r855 r856 => bif r855 then k 0 3 true (lst intC 0 (zeroC [SV.int IntKind.i64 0])) else k r854 0 r855 r856) (cnt w) 0 N true (lst intC 0 (zeroC [SV.int IntKind.i64 0])) 0
    (lst intC (Int.toNat ((w.Jobs.n : Nat) : Int)) (zeroC [SV.int IntKind.i64 0])) (by omega) (by omega) rfl (by show Int.toNat ((w.Jobs.n : Nat) : Int) = w.Jobs.n; omega)
  obtain ⟨nl2, arr, g1, g2⟩ := fin_plan v hc h1 k
  exact ⟨nl2, arr, g1, Eq.trans h2 g2⟩
theorem PlanOk.same {w : api_Works} {x y : Arr Int} (h : PlanOk w x) (k : PlanOk w y) : x.n = y.n ∧ ∀ j, j < x.n → x.f j = y.f j := by
  by_cases c : plE w = 0
  · obtain ⟨b, e, h1, h2⟩ := h.1 c
    obtain ⟨b', e', k1, k2⟩ := k.1 c
    rw [h1] at k1
    injection k1 with k1
    injection k1 with k1 k3
    subst k1
    exact ⟨by rw [h2.1, k2.1], fun j hj => by rw [h2.1] at hj; rw [h2.2 j hj, k2.2 j hj]⟩
  · have h1 := h.2 c
    have h2 := k.2 c
    exact ⟨by omega, fun j hj => by omega⟩
end
end Go.Proofs.YtckkodiefpdmhaaDoor
set_option linter.unusedVariables false
set_option linter.unusedSimpArgs false
set_option linter.unusedSectionVars false
set_option maxHeartbeats 0
set_option maxRecDepth 100000
namespace Go.Proofs.YtckkodiefpdmhaaDoor
open Go.Sx
section
def walls0 : Arr Arr3_int := lst Arr3_intC 2 (litC [SV.int IntKind.i64 0, SV.int IntKind.i64 0, SV.int IntKind.i64 0] [[SV.int IntKind.i64 1, SV.int IntKind.i64 0, SV.int IntKind.i64 2], [SV.int IntKind.i64 2, SV.int IntKind.i64 0, SV.int IntKind.i64 2]])
def s0 : api_Shaft := ⟨⟨3, 1, 5⟩, walls0⟩
def e0 : Arr3_int := ⟨2, 1, 1⟩
def jobs0 : Arr api_Job := lst api_JobC 4 (litC [SV.int IntKind.i64 0, SV.int IntKind.i64 0, SV.sl SK.nil (CK.cons (CK.int IntKind.i64) CK.nil) 1 0 (zeroC [SV.int IntKind.i64 0])] [[SV.int IntKind.i64 0, SV.int IntKind.i64 2, SV.sl SK.nil (CK.cons (CK.int IntKind.i64) CK.nil) 1 0 (zeroC [SV.int IntKind.i64 0])], [SV.int IntKind.i64 1, SV.int IntKind.i64 1, SV.sl SK.nil (CK.cons (CK.int IntKind.i64) CK.nil) 1 0 (zeroC [SV.int IntKind.i64 0])], [SV.int IntKind.i64 0, SV.int IntKind.i64 1, SV.sl SK.any (CK.cons (CK.int IntKind.i64) CK.nil) 1 1 (litC [SV.int IntKind.i64 0] [[SV.int IntKind.i64 1]])], [SV.int IntKind.i64 2, SV.int IntKind.i64 3, SV.sl SK.nil (CK.cons (CK.int IntKind.i64) CK.nil) 1 0 (zeroC [SV.int IntKind.i64 0])]])
def never0 : Arr Int := lst intC 1 (litC [SV.int IntKind.i64 0] [[SV.int IntKind.i64 3]])
def w0_ : api_Works := ⟨3, jobs0, never0, 2, 6⟩
def roomB (s : api_Shaft) (p z : Arr3_int) : Bool := (decide (0 ≤ p.a0) && decide (p.a0 + z.a0 ≤ s.Size.a0)) && ((decide (0 ≤ p.a1) && decide (p.a1 + z.a1 ≤ s.Size.a1)) && (decide (0 ≤ p.a2) && decide (p.a2 + z.a2 ≤ s.Size.a2)))
def inBB (p z w : Arr3_int) : Bool := (decide (p.a0 ≤ w.a0) && decide (w.a0 < p.a0 + z.a0)) && ((decide (p.a1 ≤ w.a1) && decide (w.a1 < p.a1 + z.a1)) && (decide (p.a2 ≤ w.a2) && decide (w.a2 < p.a2 + z.a2)))
def freeB (p z : Arr3_int) : Bool := roomB s0 p z && (!(inBB p z ⟨1, 0, 2⟩) && !(inBB p z ⟨2, 0, 2⟩))
theorem freeB_iff {p z : Arr3_int} : freeP s0 p z ↔ freeB p z = true := by
  have hw : (∀ i, i < s0.Walls.n → ¬ inB p z (s0.Walls.f i)) ↔ (¬ inB p z ⟨1, 0, 2⟩ ∧ ¬ inB p z ⟨2, 0, 2⟩) := by
    constructor
    · intro h; exact ⟨h 0 (by decide), h 1 (by decide)⟩
    · rintro ⟨h1, h2⟩ i hi
      have : i < 2 := hi
      rcases (by omega : i = 0 ∨ i = 1) with rfl | rfl
      · exact h1
      · exact h2
  have r1 : room3 s0 p z ↔ roomB s0 p z = true := by simp only [roomB, room3, Bool.and_eq_true, decide_eq_true_eq]
  have r2 : ∀ w, inB p z w ↔ inBB p z w = true := fun w => by simp only [inBB, inB, Bool.and_eq_true, decide_eq_true_eq]
  unfold freeP
  rw [hw, r1, r2, r2]
  simp [freeB]
def fitsB (p : api_Pose) : Bool := (decide (0 ≤ p.Turn) && decide (p.Turn ≤ 5)) && freeB p.At (along e0 p.Turn)
def mvB (p : api_Pose) (m : Int) : Bool := bif decide (m < 6) then fitsB (mvPose p m) else freeB p.At (max3 (along e0 p.Turn) (along e0 (swapT p.Turn m)))
theorem fitsB_iff {p : api_Pose} : fitsP s0 e0 p ↔ fitsB p = true := by
  unfold fitsP fitsB T6
  rw [freeB_iff, Bool.and_eq_true, Bool.and_eq_true, decide_eq_true_eq, decide_eq_true_eq]
theorem mvB_iff {p : api_Pose} {m : Int} : mvOk s0 e0 p m ↔ mvB p m = true := by
  unfold mvOk mvB
  by_cases h : m < 6
  · rw [if_pos h, decide_eq_true h, cond_true, fitsB_iff]
  · rw [if_neg h, decide_eq_false h, cond_false, freeB_iff]
def tab0 : List Nat := [5, 6, 99, 0, 1, 6, 7, 99, 1, 2, 99, 99, 99, 99, 99, 6, 7, 99, 1, 2, 7, 8, 99, 2, 3, 99, 99, 99, 99, 99, 99, 99, 99, 99, 99, 99, 99, 99, 99, 99, 99, 99, 99, 99, 99, 5, 4, 3, 2, 99, 6, 99, 99, 3, 99, 7, 99, 99, 4, 99, 99, 99, 99, 99, 99, 99, 99, 99, 99, 99, 99, 99, 99, 99, 99, 4, 3, 2, 1, 99, 5, 99, 99, 2, 99, 6, 99, 99, 3, 99]
def hh (p : api_Pose) : Nat := tab0.getD (p.Turn * 15 + p.At.a0 * 5 + p.At.a2).toNat 99
theorem tab_ok : ∀ t, t < 6 → ∀ x, x < 3 → ∀ z, z < 5 → ∀ m, m < 9 → (!(fitsB ⟨⟨(x : Nat), 0, (z : Nat)⟩, (t : Nat)⟩) || (!(mvB ⟨⟨(x : Nat), 0, (z : Nat)⟩, (t : Nat)⟩ (m : Nat)) || decide (hh ⟨⟨(x : Nat), 0, (z : Nat)⟩, (t : Nat)⟩ ≤ hh (mvPose ⟨⟨(x : Nat), 0, (z : Nat)⟩, (t : Nat)⟩ (m : Nat)) + 1))) = true := by decide +kernel
def firstB (p : api_Pose) (m r : Nat) : Bool := (List.range m).all fun m' => !(mvB p (m' : Nat)) || decide (r ≤ hh (mvPose p (m' : Nat)))
theorem first_ok : (firstB ⟨⟨0, 0, 0⟩, 0⟩ 7 5 && (firstB ⟨⟨0, 0, 0⟩, 5⟩ 4 4 && (firstB ⟨⟨0, 0, 1⟩, 5⟩ 4 3 && (firstB ⟨⟨0, 0, 2⟩, 5⟩ 4 2 && firstB ⟨⟨0, 0, 3⟩, 5⟩ 7 1)))) = true := by decide +kernel
theorem path_ok : (mvB ⟨⟨0, 0, 0⟩, 0⟩ 7 && (mvB ⟨⟨0, 0, 0⟩, 5⟩ 4 && (mvB ⟨⟨0, 0, 1⟩, 5⟩ 4 && (mvB ⟨⟨0, 0, 2⟩, 5⟩ 4 && mvB ⟨⟨0, 0, 3⟩, 5⟩ 7)))) = true := by decide +kernel
theorem fit_ab : (fitsB ⟨⟨0, 0, 0⟩, 0⟩ && fitsB ⟨⟨0, 0, 3⟩, 0⟩) = true := by decide +kernel
theorem plan0 : stP w0_ 1296 = some (90, 4) := by kernel_rfl
theorem vs0 : VS s0 := by
  refine ⟨⟨⟨by decide, by decide⟩, ⟨by decide, by decide⟩, ⟨by decide, by decide⟩⟩, by decide, fun i hi => ?_⟩
  have : i < 2 := hi
  rcases (by omega : i = 0 ∨ i = 1) with rfl | rfl
  · exact ⟨⟨by decide, by decide⟩, ⟨by decide, by decide⟩, ⟨by decide, by decide⟩⟩
  · exact ⟨⟨by decide, by decide⟩, ⟨by decide, by decide⟩, ⟨by decide, by decide⟩⟩
theorem e30 : E3 e0 := ⟨⟨by decide, by decide⟩, ⟨by decide, by decide⟩, ⟨by decide, by decide⟩⟩
theorem vw0 : VW w0_ := by
  refine ⟨⟨by decide, by decide⟩, ⟨by decide, by decide⟩, by decide, ⟨by decide, by decide⟩, ⟨by decide, by decide⟩, fun i hi => ?_, fun i hi => ?_⟩
  · have : i < 4 := hi
    rcases (by omega : i = 0 ∨ i = 1 ∨ i = 2 ∨ i = 3) with rfl | rfl | rfl | rfl
    · exact ⟨⟨by decide, by decide⟩, ⟨by decide, by decide⟩, fun k hk => by have : k < 0 := hk; omega⟩
    · exact ⟨⟨by decide, by decide⟩, ⟨by decide, by decide⟩, fun k hk => by have : k < 0 := hk; omega⟩
    · refine ⟨⟨by decide, by decide⟩, ⟨by decide, by decide⟩, fun k hk => ?_⟩
      have hk' : k < 1 := hk
      have : k = 0 := by omega
      subst this
      exact ⟨by decide, by decide⟩
    · exact ⟨⟨by decide, by decide⟩, ⟨by decide, by decide⟩, fun k hk => by have : k < 0 := hk; omega⟩
  · have : i < 1 := hi
    have : i = 0 := by omega
    subst this
    exact ⟨by decide, by decide⟩
end
open Classical
noncomputable section
variable {R : Type}
theorem hh_lip {p : api_Pose} (hp : fitsP s0 e0 p) {m : Nat} {q : api_Pose} (h : stepV s0 e0 p m = some q) : hh p ≤ hh q + 1 := by
  obtain ⟨h1, h2, rfl⟩ := stepV_some h
  have ht : T6 p.Turn := hp.1
  have hr := hp.2.1
  have hz := along_E3 e30 ht
  obtain ⟨⟨a, _⟩, ⟨b, _⟩, ⟨c, _⟩⟩ := hz
  unfold room3 at hr
  have e1 : s0.Size.a0 = 3 := rfl
  have e2 : s0.Size.a1 = 1 := rfl
  have e3 : s0.Size.a2 = 5 := rfl
  rw [e1, e2, e3] at hr
  unfold T6 at ht
  have hpe : p = ⟨⟨(p.At.a0.toNat : Int), 0, (p.At.a2.toNat : Int)⟩, (p.Turn.toNat : Int)⟩ := by
    rw [eqP4]; exact ⟨by show p.At.a0 = ((p.At.a0.toNat : Nat) : Int); omega, by show p.At.a1 = 0; omega, by show p.At.a2 = ((p.At.a2.toNat : Nat) : Int); omega, by show p.Turn = ((p.Turn.toNat : Nat) : Int); omega⟩
  have := tab_ok p.Turn.toNat (by omega) p.At.a0.toNat (by omega) p.At.a2.toNat (by omega) m h1
  rw [← hpe, fitsB_iff.1 hp, mvB_iff.1 h2] at this
  simpa using this
def a0_ : api_Pose := ⟨⟨0, 0, 0⟩, 0⟩
def b0_ : api_Pose := ⟨⟨0, 0, 3⟩, 0⟩
theorem hh_way {n : Nat} : ∀ {p : api_Pose}, fitsP s0 e0 p → Br.Way (stepV s0 e0) p b0_ n → hh p ≤ n := by
  induction n with
  | zero => intro p hp w; have := w.nil; subst this; decide
  | succ n ih =>
    intro p hp w
    obtain ⟨m, q, h1, h2⟩ := w.uncons
    have := ih (step_back p m q hp h1).1 h2
    have := hh_lip hp h1
    omega
theorem gr_step {p q : api_Pose} {m r : Nat} {ms : List Nat} (hm : m < 9) (hp : fitsP s0 e0 p) (hq : mvPose p (m : Int) = q) (hv : mvB p (m : Int) = true) (hl : ms.length = r) (hh1 : hh p = r + 1) (hf : firstB p m (r + 1) = true)
    (hg : Br.Gr (stepV s0 e0) b0_ q ms) : Br.Gr (stepV s0 e0) b0_ p (m :: ms) := by
  refine ⟨⟨q, by rw [← hq]; exact stepV_of hm (mvB_iff.2 hv), hg⟩, fun m' hm' w hw g => ?_, fun n hn g => ?_⟩
  · rw [hl] at g
    have h1 := hh_way (step_back p m' w hp hw).1 g
    obtain ⟨k1, k2, rfl⟩ := stepV_some hw
    have := List.all_eq_true.1 hf m' (List.mem_range.2 hm')
    rw [mvB_iff.1 k2] at this
    simp at this
    omega
  · have := hh_way hp g
    omega
theorem gr0 : Br.Gr (stepV s0 e0) b0_ a0_ [7, 4, 4, 4, 7] ∧ fitsP s0 e0 a0_ ∧ fitsP s0 e0 b0_ := by
  have hp := path_ok
  have hf := first_ok
  have hab := fit_ab
  simp only [Bool.and_eq_true] at hp hf hab
  obtain ⟨p1, p2, p3, p4, p5⟩ := hp
  obtain ⟨f1, f2, f3, f4, f5⟩ := hf
  have v1 : fitsP s0 e0 ⟨⟨0, 0, 0⟩, 0⟩ := fitsB_iff.2 hab.1
  have v2 : fitsP s0 e0 ⟨⟨0, 0, 0⟩, 5⟩ := mv_fits v1 (m := 7) ⟨by omega, by omega⟩ (mvB_iff.2 p1)
  have v3 : fitsP s0 e0 ⟨⟨0, 0, 1⟩, 5⟩ := mv_fits v2 (m := 4) ⟨by omega, by omega⟩ (mvB_iff.2 p2)
  have v4 : fitsP s0 e0 ⟨⟨0, 0, 2⟩, 5⟩ := mv_fits v3 (m := 4) ⟨by omega, by omega⟩ (mvB_iff.2 p3)
  have v5 : fitsP s0 e0 ⟨⟨0, 0, 3⟩, 5⟩ := mv_fits v4 (m := 4) ⟨by omega, by omega⟩ (mvB_iff.2 p4)
  refine ⟨?_, v1, fitsB_iff.2 hab.2⟩
  refine gr_step (q := ⟨⟨0, 0, 0⟩, 5⟩) (by omega) v1 rfl p1 (r := 4) rfl (by decide) f1 ?_
  refine gr_step (q := ⟨⟨0, 0, 1⟩, 5⟩) (by omega) v2 rfl p2 (r := 3) rfl (by decide) f2 ?_
  refine gr_step (q := ⟨⟨0, 0, 2⟩, 5⟩) (by omega) v3 rfl p3 (r := 2) rfl (by decide) f3 ?_
  refine gr_step (q := ⟨⟨0, 0, 3⟩, 5⟩) (by omega) v4 rfl p4 (r := 1) rfl (by decide) f4 ?_
  refine gr_step (q := ⟨⟨0, 0, 3⟩, 0⟩) (by omega) v5 rfl p5 (r := 0) rfl (by decide) f5 ?_
  rfl
theorem same_l4 (N : Nat) (a b : Arr Int) (h1 : a.n = b.n) (h2 : ∀ j, j < a.n → a.f j = b.f j) (hb : a.n < 1000000) (kr : Bool → Option R) (k0 : Unit → Option R) : ∀ (q i n : Nat), i + q = a.n → q < n → True → newellaw09_sameInts_l4 N n a b (i : Int) kr k0 = k0 () := by
  intro q
  induction q with
  | zero =>
    intro i n h3 h4 _
    obtain ⟨n, rfl⟩ : ∃ m, n = m + 1 := ⟨n - 1, by omega⟩
    unfold newellaw09_sameInts_l4 newellaw09_sameInts_b4
    rw [ltF (show a.n ≤ i by omega), cond_false]
  | succ q ih =>
    intro i n h3 h4 h5
    obtain ⟨n, rfl⟩ : ∃ m, n = m + 1 := ⟨n - 1, by omega⟩
    unfold newellaw09_sameInts_l4 newellaw09_sameInts_b4
    simp only [ltT (show i < a.n by omega), ltT (show i < b.n by omega), nat_nonneg, Bool.and_self, cond_true, Int.toNat_natCast, w64_succ (show i < 1000000000000 by omega)]
    rw [h2 i (by omega), show (b.f i != b.f i) = false by simp, cond_false]
    exact ih (i + 1) n (by omega) (by omega) h5
theorem same_eq (N : Nat) {a b : Arr Int} (h1 : a.n = b.n) (h2 : ∀ j, j < a.n → a.f j = b.f j) (hb : a.n < 1000000) (hN : a.n < N) (k : Bool → Option R) : newellaw09_sameInts N a b k = k true := by
  rw [newellaw09_sameInts_def]
  unfold newellaw09_sameInts_m
  rw [h1, show (((b.n : Nat) : Int) != ((b.n : Nat) : Int)) = false by simp, cond_false]
  exact same_l4 N a b h1 h2 hb (fun r => k r) (fun _ => k true) a.n 0 N (by omega) hN trivial
theorem works_eq (N : Nat) (hN : 200100 ≤ N) (k : Bool → Option R) : newellaw09_works N k = k true := by
  rw [newellaw09_works_def]
  unfold newellaw09_works_m
  rw [newellaw09_Example_def]
  unfold newellaw09_Example_m
  obtain ⟨g1, g2, g3⟩ := gr0
  have hcE : carE s0 e0 a0_ b0_ = 0 := by rw [carE_of vs0 e30 g2 g3, if_pos ⟨_, g1.Way⟩]
  have hpc : cnt w0_ = 1296 := rfl
  have hst : stP w0_ (cnt w0_) = some (90, 4) := by rw [hpc]; exact plan0
  have hpE : plE w0_ = 0 := by unfold plE; rw [if_neg (by simpa using vw0), if_neg (by rw [hpc]; omega), hst]
  have hpD : plEnd w0_ = 4 := by unfold plEnd; rw [if_pos hpE, hst]
  have nf0 : NF w0_ := ⟨by decide, by decide, fun i hi => by
    have : i < 4 := hi
    rcases (by omega : i = 0 ∨ i = 1 ∨ i = 2 ∨ i = 3) with rfl | rfl | rfl | rfl <;> decide⟩
  obtain ⟨nl, arr, h1, h2⟩ := shCarryF (R := R) s0 e0 a0_ b0_ N (by omega) (fun r924 r925 r926 => shaft_Plan N w0_ (fun r927 r928 r929 r930 => bif r924 == 0 then bif r928 == 0 then newellaw09_sameInts N r926 (lst intC 5 (litC [SV.int IntKind.i64 0] [[SV.int IntKind.i64 7], [SV.int IntKind.i64 4], [SV.int IntKind.i64 4], [SV.int IntKind.i64 4], [SV.int IntKind.i64 7]])) (fun r931 =>
    bif r931 then newellaw09_sameInts N r930 (lst intC 4 (litC [SV.int IntKind.i64 0] [[SV.int IntKind.i64 0], [SV.int IntKind.i64 2], [SV.int IntKind.i64 3], [SV.int IntKind.i64 0]])) (fun r932 => bif r932 then k (r927 == 4) else k false) else k false) else k false else k false))
  refine Eq.trans h2 ?_
  obtain ⟨nl2, arr2, h3, h4⟩ := sPlan_eq (R := R) nf0 N hN (fun r927 r928 r929 r930 => bif carE s0 e0 a0_ b0_ == 0 then bif r928 == 0 then newellaw09_sameInts N arr (lst intC 5 (litC [SV.int IntKind.i64 0] [[SV.int IntKind.i64 7], [SV.int IntKind.i64 4], [SV.int IntKind.i64 4], [SV.int IntKind.i64 4], [SV.int IntKind.i64 7]])) (fun r931 =>
    bif r931 then newellaw09_sameInts N r930 (lst intC 4 (litC [SV.int IntKind.i64 0] [[SV.int IntKind.i64 0], [SV.int IntKind.i64 2], [SV.int IntKind.i64 3], [SV.int IntKind.i64 0]])) (fun r932 => bif r932 then k (r927 == 4) else k false) else k false) else k false else k false)
  refine Eq.trans h4 ?_
  rw [hcE, hpE, hpD]
  simp only [show ((0 : Int) == 0) = true from rfl, cond_true]
  obtain ⟨ms, m1, _, m2⟩ := h1.1 hcE
  have := m1.unique g1
  subst this
  have hn : arr.n = 5 := m2.1
  rw [same_eq N (a := arr) (by rw [hn]; rfl) (fun j hj => by
    rw [hn] at hj
    rw [m2.2 j hj]
    rcases (by omega : j = 0 ∨ j = 1 ∨ j = 2 ∨ j = 3 ∨ j = 4) with rfl | rfl | rfl | rfl | rfl <;> rfl) (by omega) (by omega), cond_true]
  obtain ⟨b, e, k1, k2⟩ := h3.1 hpE
  rw [hst] at k1
  injection k1 with k1
  injection k1 with k1 k3
  subst k1
  have hn2 : arr2.n = 4 := k2.1
  rw [same_eq N (a := arr2) (by rw [hn2]; rfl) (fun j hj => by
    rw [hn2] at hj
    rw [k2.2 j hj]
    rcases (by omega : j = 0 ∨ j = 1 ∨ j = 2 ∨ j = 3) with rfl | rfl | rfl | rfl <;> rfl) (by omega) (by omega), cond_true]
  rfl
end
end Go.Proofs.YtckkodiefpdmhaaDoor
set_option linter.unusedVariables false
set_option linter.unusedSimpArgs false
set_option linter.unusedSectionVars false
set_option maxHeartbeats 0
set_option maxRecDepth 100000
namespace Go.Proofs.YtckkodiefpdmhaaDoor
open Go.Sx
open Classical
noncomputable section
variable {R : Type}
theorem viaPlan {w : api_Works} (nf : NF w) {N : Nat} (hN : 200100 ≤ N) {K : Int → Int → Bool → Arr Int → Option R} {T : Option R} (h : ∀ nl arr, PlanOk w arr → K (plEnd w) (plE w) nl arr = T) : shaft_Plan N w K = T := by
  obtain ⟨nl, arr, h1, h2⟩ := sPlan_eq nf N hN K
  rw [h2]; exact h nl arr h1
theorem viaRefPlan {w : api_Works} (nf : NF w) {N : Nat} (hN : 200100 ≤ N) {K : Int → Int → Bool → Arr Int → Option R} {T : Option R} (h : ∀ nl arr, PlanOk w arr → K (plEnd w) (plE w) nl arr = T) : newelref09_Plan N w K = T := by
  obtain ⟨nl, arr, h1, h2⟩ := rPlan_eq nf N hN K
  rw [h2]; exact h nl arr h1
theorem k3 {k : Int} (h0 : ¬ k < 0) (h2 : ¬ k > 2) : k = 0 ∨ k = 1 ∨ k = 2 := by omega
section
variable {s : api_Shaft} (v : VS s) {e : Arr3_int} (he : E3 e) {a b : api_Pose} {k : Int} (hk : k = 0 ∨ k = 1 ∨ k = 2)
include v he hk
end
end
end Go.Proofs.YtckkodiefpdmhaaDoor
