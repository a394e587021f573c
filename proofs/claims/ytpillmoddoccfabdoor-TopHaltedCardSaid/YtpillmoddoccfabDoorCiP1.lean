import Derived.Test.YtpillmoddoccfabDoorH3
import Derived.Test.YtpillmoddoccfabDoorSxMath
set_option linter.unusedVariables false
set_option linter.unusedSimpArgs false
set_option maxHeartbeats 0
set_option maxRecDepth 100000
namespace Go.Proofs.YtpillmoddoccfabDoor
namespace Ci
open Go.Sx
section
variable {R : Type}
theorem ltF {a b : Nat} (h : b ≤ a) : decide ((a : Int) < (b : Int)) = false := by simp; omega
theorem ltT {a b : Nat} (h : a < b) : decide ((a : Int) < (b : Int)) = true := by simp; omega
theorem natF (a : Nat) : decide ((a : Int) < 0) = false := by simp
theorem rIn_eq (N : Nat) (n lo hi : Int) (k : Bool → Option R) : r3_within N n lo hi k = k (decide (lo ≤ n ∧ n ≤ hi)) := by
  rw [r3_within_def]
  unfold r3_within_m
  by_cases h : n ≥ lo
  · have : lo ≤ n := h
    simp only [h, decide_true, cond_true, this, true_and]
  · have : ¬ (lo ≤ n ∧ n ≤ hi) := fun g => h g.1
    rw [decide_eq_false this]
    simp only [h, decide_false, cond_false]
theorem shl_eq {f : Nat} (h : f < 60) : w64 ((1 : Int) * (2 : Int) ^ min (Int.toNat (f : Int)) (IntKind.bits IntKind.i64)) = ((2 ^ f : Nat) : Int) := by
  have h1 : (2 : Nat) ^ f ≤ 2 ^ 60 := Nat.pow_le_pow_right (by omega) (by omega)
  have h2 : min (Int.toNat (f : Int)) (IntKind.bits IntKind.i64) = f := by show min f 64 = f; omega
  rw [h2, Int.one_mul, show ((2 : Int) ^ f) = ((2 ^ f : Nat) : Int) by push_cast; rfl]
  generalize (2 : Nat) ^ f = x at h1 ⊢
  exact w64_eq (by omega) (by omega)
theorem pow_le {f g : Nat} (h : f ≤ g) : 2 ^ f ≤ 2 ^ g := Nat.pow_le_pow_right (by omega) h
theorem setI_f {a : Arr Int} {m : Nat} {v : Int} (j : Nat) : (lst intC a.n (setCs m 0 (Cod.cell intC a.f) [SV.int IntKind.i64 v])).f j = if j = m then v else a.f j := by
  by_cases e : j = m
  · subst e
    rw [if_pos rfl]
    simp [lst, setCs, setC, intC, toI]
  · have e0 : (j == m) = false := by simpa using e
    rw [if_neg e]
    show intC.dec (fun k => setC m 0 (Cod.cell intC a.f) (SV.int IntKind.i64 v) j k) = a.f j
    simp only [setC, e0, Bool.false_and, cond_false]
    rfl
def stepU (u : Nat → Int) (o : Nat) : Nat → Int := fun j => if j = o then w64 (u j + 1) else u j
def foldO (o : Arr Int) (u : Nat → Int) : Nat → Nat → Int
  | 0 => u
  | k + 1 => stepU (foldO o u k) (o.f k).toNat
def wOf (c : api_Circuit) (i : Nat) : Arr Int := (c.Wires.f i).Of
def usedS (c : api_Circuit) : Nat → Nat → Int
  | 0 => fun _ => 0
  | i + 1 => if (c.Wires.f i).Kind = 1 then usedS c i else foldO (wOf c i) (usedS c i) (wOf c i).n
def prevO (o : Arr Int) (i : Nat) : Nat → Int
  | 0 => i
  | k + 1 => o.f k
def ofP (c : api_Circuit) (i k : Nat) : Prop := prevO (wOf c i) i k + 1 ≤ (wOf c i).f k ∧ (wOf c i).f k ≤ (c.Wires.n : Int) - 1
inductive wireP (c : api_Circuit) (i : Nat) : Prop where
  | one (h : (c.Wires.f i).Kind = 1) (hn : (wOf c i).n = 1) (ho : 0 ≤ (wOf c i).f 0 ∧ (wOf c i).f 0 ≤ (c.Switches.n : Int) - 1)
  | many (h : (c.Wires.f i).Kind = 2 ∨ (c.Wires.f i).Kind = 3) (hn : 1 ≤ (wOf c i).n ∧ (wOf c i).n ≤ 8) (ho : ∀ k, k < (wOf c i).n → ofP c i k)
structure VCi (c : api_Circuit) : Prop where
  h : 1 ≤ c.Hazards ∧ c.Hazards ≤ 8
  s : 1 ≤ c.Switches.n ∧ c.Switches.n ≤ 12
  w : 1 ≤ c.Wires.n ∧ c.Wires.n ≤ 24
  sw : ∀ i, i < c.Switches.n → 0 ≤ c.Switches.f i ∧ c.Switches.f i ≤ ((2 ^ c.Hazards.toNat : Nat) : Int) - 1
  k : ∀ i, i < c.Wires.n → wireP c i
  u : ∀ i, 1 ≤ i → i < c.Wires.n → usedS c c.Wires.n i = 1
theorem of_gt {c : api_Circuit} {i : Nat} : ∀ k, (∀ m, m ≤ k → ofP c i m) → (i : Int) + 1 ≤ (wOf c i).f k := by
  intro k
  induction k with
  | zero => intro h; exact (h 0 (Nat.le_refl _)).1
  | succ k ih =>
    intro h
    have h1 := ih (fun m hm => h m (by omega))
    have h2 : (wOf c i).f k + 1 ≤ _ := (h (k + 1) (Nat.le_refl _)).1
    omega
theorem hz_nat {c : api_Circuit} (h : 1 ≤ c.Hazards ∧ c.Hazards ≤ 8) : c.Hazards = ((c.Hazards.toNat : Nat) : Int) ∧ c.Hazards.toNat ≤ 8 := by omega
theorem hz_pow {c : api_Circuit} (h : 1 ≤ c.Hazards ∧ c.Hazards ≤ 8) : decide (IntKind.wrap IntKind.u64 c.Hazards < 0) = false ∧ w64 (w64 ((1 : Int) * (2 : Int) ^ min (Int.toNat (IntKind.wrap IntKind.u64 c.Hazards)) (IntKind.bits IntKind.i64)) - (1 : Int)) = ((2 ^ c.Hazards.toNat : Nat) : Int) - 1 := by
  obtain ⟨h1, h2⟩ := hz_nat h
  have h3 := pow_le h2
  have e : IntKind.wrap IntKind.u64 c.Hazards = ((c.Hazards.toNat : Nat) : Int) := by
    conv => lhs; rw [h1]
    exact u64_nat (by omega)
  rw [e]
  refine ⟨natF _, ?_⟩
  rw [shl_eq (by omega)]
  generalize 2 ^ c.Hazards.toNat = x at h3
  exact w64_eq (by omega) (by omega)
theorem rc_l4 (N : Nat) {c : api_Circuit} (hh : 1 ≤ c.Hazards ∧ c.Hazards ≤ 8) (hs : c.Switches.n ≤ 12) (kr : Int → Option R) (k0 : Unit → Option R) : ∀ (q i n : Nat), i + q = c.Switches.n → q < n → (∀ j, j < i → 0 ≤ c.Switches.f j ∧ c.Switches.f j ≤ ((2 ^ c.Hazards.toNat : Nat) : Int) - 1) →
    (r3_Check_l4 N n (i : Int) c kr k0 = kr 30) ∨ ((∀ j, j < c.Switches.n → 0 ≤ c.Switches.f j ∧ c.Switches.f j ≤ ((2 ^ c.Hazards.toNat : Nat) : Int) - 1) ∧ r3_Check_l4 N n (i : Int) c kr k0 = k0 ()) := by
  obtain ⟨e1, e2⟩ := hz_pow hh
  intro q
  induction q with
  | zero =>
    intro i n h1 h2 h3
    obtain ⟨n, rfl⟩ : ∃ m, n = m + 1 := ⟨n - 1, by omega⟩
    refine .inr ⟨fun j hj => h3 j (by omega), ?_⟩
    unfold r3_Check_l4 r3_Check_b4
    simp only [ltF (show c.Switches.n ≤ i by omega), cond_false]
  | succ q ih =>
    intro i n h1 h2 h3
    obtain ⟨n, rfl⟩ : ∃ m, n = m + 1 := ⟨n - 1, by omega⟩
    unfold r3_Check_l4 r3_Check_b4
    simp only [ltT (show i < c.Switches.n by omega), nat_nonneg, Bool.and_self, cond_true, Int.toNat_natCast (n := i), rIn_eq, w64_succ (show i < 1000000000000 by omega), e1, e2, cond_false]
    by_cases c1 : 0 ≤ c.Switches.f i ∧ c.Switches.f i ≤ ((2 ^ c.Hazards.toNat : Nat) : Int) - 1
    rotate_left
    · left; simp only [c1, decide_false, Bool.not_false, cond_true]
    simp only [c1, and_self, decide_true, Bool.not_true, cond_false]
    exact ih (i + 1) n (by omega) (by omega) (fun j hj => by
      by_cases e : j = i
      · subst e; exact c1
      · exact h3 j (by omega))
def CA (c : api_Circuit) (a : Arr Int) (u : Nat → Int) : Prop := a.n = c.Wires.n ∧ ∀ j, j < c.Wires.n → a.f j = u j
theorem CA.step {c : api_Circuit} {a : Arr Int} {u : Nat → Int} (h : CA c a u) {o : Int} (ho : 0 ≤ o ∧ o ≤ (c.Wires.n : Int) - 1) :
    CA c (lst intC a.n (setCs o.toNat 0 (Cod.cell intC a.f) [SV.int IntKind.i64 (w64 (a.f o.toNat + 1))])) (stepU u o.toNat) := by
  refine ⟨h.1, fun j hj => ?_⟩
  rw [setI_f]
  unfold stepU
  by_cases e : j = o.toNat
  · rw [if_pos e, if_pos e, ← e, h.2 j hj]
  · rw [if_neg e, if_neg e, h.2 j hj]
theorem rc_l24 (N : Nat) {c : api_Circuit} (hw : c.Wires.n ≤ 24) (i : Nat) (hi : i < c.Wires.n) (b : Bool) (hn8 : (wOf c i).n ≤ 8) (kr : Int → Option R) (k5 : Arr Int → Option R) (u : Nat → Int) : ∀ (q k n : Nat) (a : Arr Int), k + q = (wOf c i).n → q < n → CA c a (foldO (wOf c i) u k) → (∀ m, m < k → ofP c i m) →
    (r3_Check_l24 N n (i : Int) (prevO (wOf c i) i k) (k : Int) c b a (c.Wires.f i) kr k5 = kr 30) ∨ ((∀ m, m < (wOf c i).n → ofP c i m) ∧ ∃ a', CA c a' (foldO (wOf c i) u (wOf c i).n) ∧ r3_Check_l24 N n (i : Int) (prevO (wOf c i) i k) (k : Int) c b a (c.Wires.f i) kr k5 = k5 a') := by
  intro q
  induction q with
  | zero =>
    intro k n a h1 h2 h3 h4
    obtain ⟨n, rfl⟩ : ∃ m, n = m + 1 := ⟨n - 1, by omega⟩
    obtain rfl : k = (wOf c i).n := by omega
    refine .inr ⟨h4, a, h3, ?_⟩
    unfold r3_Check_l24 r3_Check_b24
    simp only [show (c.Wires.f i).Of = wOf c i from rfl, ltF (Nat.le_refl (wOf c i).n), cond_false]
  | succ q ih =>
    intro k n a h1 h2 h3 h4
    obtain ⟨n, rfl⟩ : ∃ m, n = m + 1 := ⟨n - 1, by omega⟩
    unfold r3_Check_l24 r3_Check_b24
    have hp : 0 ≤ prevO (wOf c i) i k ∧ prevO (wOf c i) i k ≤ 1000 + i := by
      cases k with
      | zero => exact ⟨by show (0 : Int) ≤ (i : Int); omega, by show (i : Int) ≤ _; omega⟩
      | succ k =>
        have := of_gt k (fun m hm => h4 m (by omega))
        have := (h4 k (by omega)).2
        exact ⟨by show (0 : Int) ≤ (wOf c i).f k; omega, by show (wOf c i).f k ≤ _; omega⟩
    have e1 : w64 (prevO (wOf c i) i k + 1) = prevO (wOf c i) i k + 1 := w64_eq (by omega) (by omega)
    have e2 : w64 ((c.Wires.n : Int) - 1) = (c.Wires.n : Int) - 1 := w64_eq (by omega) (by omega)
    simp only [show (c.Wires.f i).Of = wOf c i from rfl, ltT (show k < (wOf c i).n by omega), nat_nonneg, Bool.and_self, cond_true, Int.toNat_natCast (n := k), rIn_eq, w64_succ (show k < 1000000000000 by omega), e1, e2]
    by_cases c1 : prevO (wOf c i) i k + 1 ≤ (wOf c i).f k ∧ (wOf c i).f k ≤ (c.Wires.n : Int) - 1
    rotate_left
    · left; simp only [c1, decide_false, Bool.not_false, cond_true]
    have e3 : (decide ((0 : Int) ≤ (wOf c i).f k) && decide ((wOf c i).f k < (a.n : Int))) = true := by rw [h3.1]; simp; omega
    simp only [c1, and_self, decide_true, Bool.not_true, cond_false, e3, cond_true]
    exact ih (k + 1) n _ (by omega) (by omega) (h3.step ⟨by omega, c1.2⟩) (fun m hm => by
      by_cases e : m = k
      · subst e; exact c1
      · exact h4 m (by omega))
theorem rc_l10 (N : Nat) (hN : 100 ≤ N) {c : api_Circuit} (hw : c.Wires.n ≤ 24) (hs : c.Switches.n ≤ 12) (b : Bool) (kr : Int → Option R) (k2 : Arr Int → Option R) : ∀ (q i n : Nat) (a : Arr Int), i + q = c.Wires.n → q < n → CA c a (usedS c i) → (∀ m, m < i → wireP c m) →
    (r3_Check_l10 N n (i : Int) c b a kr k2 = kr 30) ∨ ((∀ m, m < c.Wires.n → wireP c m) ∧ ∃ a', CA c a' (usedS c c.Wires.n) ∧ r3_Check_l10 N n (i : Int) c b a kr k2 = k2 a') := by
  intro q
  induction q with
  | zero =>
    intro i n a h1 h2 h3 h4
    obtain ⟨n, rfl⟩ : ∃ m, n = m + 1 := ⟨n - 1, by omega⟩
    obtain rfl : i = c.Wires.n := by omega
    refine .inr ⟨h4, a, h3, ?_⟩
    unfold r3_Check_l10 r3_Check_b10
    simp only [ltF (Nat.le_refl c.Wires.n), cond_false]
  | succ q ih =>
    intro i n a h1 h2 h3 h4
    obtain ⟨n, rfl⟩ : ∃ m, n = m + 1 := ⟨n - 1, by omega⟩
    have hi : i < c.Wires.n := by omega
    have go : ∀ a', wireP c i → CA c a' (usedS c (i + 1)) → _ := fun a' hp ha => ih (i + 1) n a' (by omega) (by omega) ha (fun m hm => by
      by_cases e : m = i
      · subst e; exact hp
      · exact h4 m (by omega))
    unfold r3_Check_l10 r3_Check_b10
    have es : w64 ((c.Switches.n : Int) - 1) = (c.Switches.n : Int) - 1 := w64_eq (by omega) (by omega)
    simp only [ltT hi, nat_nonneg, Bool.and_self, cond_true, Int.toNat_natCast (n := i), rIn_eq, w64_succ (show i < 1000000000000 by omega), es, show (c.Wires.f i).Of = wOf c i from rfl]
    by_cases c1 : (c.Wires.f i).Kind = 1
    · have d1 : ((c.Wires.f i).Kind == 1) = true := by simpa using c1
      simp only [d1, cond_true]
      by_cases c2 : (wOf c i).n = 1
      rotate_left
      · have d2 : (((wOf c i).n : Int) != 1) = true := by simp; omega
        left; simp only [d2, cond_true]
      have d2 : (((wOf c i).n : Int) != 1) = false := by simp; omega
      have d3 : decide ((0 : Int) < ((wOf c i).n : Int)) = true := by simp; omega
      simp only [d2, d3, cond_true, cond_false]
      by_cases c3 : 0 ≤ (wOf c i).f (Int.toNat 0) ∧ (wOf c i).f (Int.toNat 0) ≤ (c.Switches.n : Int) - 1
      rotate_left
      · left; simp only [c3, decide_false, Bool.not_false, cond_true]
      simp only [c3, and_self, decide_true, Bool.not_true, cond_false]
      exact go a (.one c1 c2 c3) (by show CA c a (if (c.Wires.f i).Kind = 1 then _ else _); rw [if_pos c1]; exact h3)
    have d1 : ((c.Wires.f i).Kind == 1) = false := by simpa using c1
    simp only [d1, cond_false]
    have hu : usedS c (i + 1) = foldO (wOf c i) (usedS c i) (wOf c i).n := by show (if (c.Wires.f i).Kind = 1 then _ else _) = _; rw [if_neg c1]
    -- the lists of the two other kinds
    have many : (c.Wires.f i).Kind = 2 ∨ (c.Wires.f i).Kind = 3 → ∀ X : Option R, X = (bif !decide (1 ≤ ((wOf c i).n : Int) ∧ ((wOf c i).n : Int) ≤ 8) then kr 30 else
        r3_Check_l24 N N (i : Int) (i : Int) 0 c b a (c.Wires.f i) (fun r69 => kr r69) (fun r70 => r3_Check_l10 N n ((i + 1 : Nat) : Int) c b r70 kr k2)) →
        (X = kr 30) ∨ ((∀ m, m < c.Wires.n → wireP c m) ∧ ∃ a', CA c a' (usedS c c.Wires.n) ∧ X = k2 a') := by
      intro hk X hX
      by_cases c2 : 1 ≤ ((wOf c i).n : Int) ∧ ((wOf c i).n : Int) ≤ 8
      rotate_left
      · left; rw [hX]; simp only [c2, decide_false, Bool.not_false, cond_true]
      simp only [c2, and_self, decide_true, Bool.not_true, cond_false] at hX
      rcases rc_l24 N hw i hi b (by omega) (fun r69 => kr r69) (fun r70 => r3_Check_l10 N n ((i + 1 : Nat) : Int) c b r70 kr k2) (usedS c i) (wOf c i).n 0 N a (by omega) (by omega) h3 (fun m hm => by omega) with h | ⟨h5, a', h6, h7⟩
      · exact .inl (hX.trans h)
      · rcases go a' (.many hk (by omega) h5) (by rw [hu]; exact h6) with h | ⟨h8, a2, h9, h10⟩
        · exact .inl ((hX.trans h7).trans h)
        · exact .inr ⟨h8, a2, h9, (hX.trans h7).trans h10⟩
    by_cases c2 : (c.Wires.f i).Kind = 2
    · have d2 : ((c.Wires.f i).Kind == 2) = true := by simpa using c2
      simp only [d2, cond_true]
      exact many (.inl c2) _ rfl
    have d2 : ((c.Wires.f i).Kind == 2) = false := by simpa using c2
    simp only [d2, cond_false]
    by_cases c3 : (c.Wires.f i).Kind = 3
    · have d3 : ((c.Wires.f i).Kind == 3) = true := by simpa using c3
      simp only [d3, cond_true]
      exact many (.inr c3) _ rfl
    · have d3 : ((c.Wires.f i).Kind == 3) = false := by simpa using c3
      left; simp only [d3, cond_false]
theorem rc_l31 (N : Nat) {a : Arr Int} (ha : a.n ≤ 24) (b : Bool) (kr : Int → Option R) (k7 : Unit → Option R) : ∀ (q i n : Nat), i + q = a.n → q < n → (∀ j, 1 ≤ j → j < i → a.f j = 1) →
    (r3_Check_l31 N n (i : Int) b a kr k7 = kr 30) ∨ ((∀ j, 1 ≤ j → j < a.n → a.f j = 1) ∧ r3_Check_l31 N n (i : Int) b a kr k7 = k7 ()) := by
  intro q
  induction q with
  | zero =>
    intro i n h1 h2 h3
    obtain ⟨n, rfl⟩ : ∃ m, n = m + 1 := ⟨n - 1, by omega⟩
    refine .inr ⟨fun j h hj => h3 j h (by omega), ?_⟩
    unfold r3_Check_l31 r3_Check_b31
    simp only [ltF (show a.n ≤ i by omega), cond_false]
  | succ q ih =>
    intro i n h1 h2 h3
    obtain ⟨n, rfl⟩ : ∃ m, n = m + 1 := ⟨n - 1, by omega⟩
    unfold r3_Check_l31 r3_Check_b31
    simp only [ltT (show i < a.n by omega), nat_nonneg, Bool.and_self, cond_true, Int.toNat_natCast, w64_succ (show i < 1000000000000 by omega)]
    by_cases c1 : a.f i = 1
    · have d1 : (a.f i != 1) = false := by simpa using c1
      simp only [d1, cond_false]
      exact ih (i + 1) n (by omega) (by omega) (fun j h hj => by
        by_cases e : j = i
        · subst e; exact c1
        · exact h3 j h (by omega))
    · have d1 : (a.f i != 1) = true := by simpa using c1
      left; simp only [d1, cond_true]
theorem CA.zero {c : api_Circuit} : CA c (lst intC (Int.toNat (↑(Arr.n (api_Circuit.Wires c)) : Int)) (zeroC [SV.int IntKind.i64 (0 : Int)])) (usedS c 0) := ⟨Int.toNat_natCast _, fun j hj => rfl⟩
theorem refCi {N : Nat} (hN : 100 ≤ N) (c : api_Circuit) (k : Int → Option R) : (∃ v : Int, v ≠ 0 ∧ r3_Check N c k = k v) ∨ (VCi c ∧ r3_Check N c k = k 0) := by
  rw [r3_Check_def]
  unfold r3_Check_m
  simp only [rIn_eq]
  by_cases c1 : 1 ≤ c.Hazards ∧ c.Hazards ≤ 8
  rotate_left
  · exact .inl ⟨30, by decide, by simp only [c1, decide_false, Bool.not_false, cond_true]⟩
  by_cases c2 : 1 ≤ (c.Switches.n : Int) ∧ (c.Switches.n : Int) ≤ 12
  rotate_left
  · exact .inl ⟨30, by decide, by simp only [c1, c2, and_self, decide_true, decide_false, Bool.not_true, Bool.not_false, cond_true, cond_false]⟩
  by_cases c3 : 1 ≤ (c.Wires.n : Int) ∧ (c.Wires.n : Int) ≤ 24
  rotate_left
  · exact .inl ⟨30, by decide, by simp only [c1, c2, c3, and_self, decide_true, decide_false, Bool.not_true, Bool.not_false, cond_true, cond_false]⟩
  have e1 : (decide ((c.Wires.n : Int) ≤ (c.Wires.n : Int)) && decide ((c.Wires.n : Int) ≤ 1073741824)) = true := by simp; omega
  simp only [c1, c2, c3, and_self, decide_true, Bool.not_true, cond_false, e1, cond_true]
  have hw : c.Wires.n ≤ 24 := by omega
  rcases rc_l4 N c1 (by omega) (fun r54 => k r54) (fun _ => r3_Check_l10 N N (0 : Int) c false (lst intC (Int.toNat (↑(Arr.n (api_Circuit.Wires c)) : Int)) (zeroC [SV.int IntKind.i64 (0 : Int)])) (fun r74 => k r74) (fun r75 => r3_Check_l31 N N (1 : Int) false r75 (fun r79 => k r79) (fun _ => k 0))) c.Switches.n 0 N (by omega) (by omega) (fun j hj => by omega) with h | ⟨h1, h2⟩
  · exact .inl ⟨30, by decide, h⟩
  rcases rc_l10 N hN hw (by omega) false (fun r74 => k r74) (fun r75 => r3_Check_l31 N N (1 : Int) false r75 (fun r79 => k r79) (fun _ => k 0)) c.Wires.n 0 N _ (by omega) (by omega) CA.zero (fun j hj => by omega) with h | ⟨h3, a', h4, h5⟩
  · exact .inl ⟨30, by decide, h2.trans h⟩
  have hn := h4.1
  rcases rc_l31 N (show a'.n ≤ 24 by omega) false (fun r79 => k r79) (fun _ => k 0) (a'.n - 1) 1 N (by omega) (by omega) (fun j h hj => by omega) with h | ⟨h6, h7⟩
  · exact .inl ⟨30, by decide, (h2.trans h5).trans h⟩
  · exact .inr ⟨⟨c1, by omega, by omega, h1, h3, fun i hi1 hi2 => by rw [← h4.2 i hi2]; exact h6 i hi1 (by omega)⟩, (h2.trans h5).trans h7⟩
end
end Ci
end Go.Proofs.YtpillmoddoccfabDoor
