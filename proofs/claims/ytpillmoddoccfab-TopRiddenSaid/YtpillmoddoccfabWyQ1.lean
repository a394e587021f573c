/-
  Several texts in one.
-/
import Derived.Test.YtpillmoddoccfabLiQ2
import Derived.Test.YtpillmoddoccfabSxMath
set_option linter.unusedVariables false
set_option linter.unusedSimpArgs false
set_option linter.unusedSectionVars false
set_option maxHeartbeats 0
set_option maxRecDepth 100000
namespace Go.Proofs.Ytpillmoddoccfab
namespace Wy
open Go.Sx
open Classical
noncomputable section
def sm (f : Nat → Int) : Nat → Int
  | 0 => 0
  | n + 1 => sm f n + f n
def ud (d : Nat → Int) (u : Nat) (x : Int) : Nat → Int := fun j => if j = u then x else d j
theorem ud_at (d : Nat → Int) (u : Nat) (x : Int) : ud d u x u = x := by simp [ud]
theorem ud_ne {d : Nat → Int} {u j : Nat} {x : Int} (h : j ≠ u) : ud d u x j = d j := by simp [ud, h]
theorem sm_congr {f g : Nat → Int} : ∀ {n : Nat}, (∀ j, j < n → f j = g j) → sm f n = sm g n := by
  intro n
  induction n with
  | zero => intro _; rfl
  | succ n ih => intro h; simp only [sm]; rw [ih (fun j hj => h j (by omega)), h n (by omega)]
theorem sm_ud {f g : Nat → Int} {u : Nat} : ∀ {n : Nat}, u < n → (∀ j, j ≠ u → g j = f j) → sm g n = sm f n - f u + g u := by
  intro n
  induction n with
  | zero => intro h; omega
  | succ n ih =>
    intro h hg
    simp only [sm]
    by_cases e : u = n
    · subst e
      rw [sm_congr (f := g) (g := f) (n := u) (fun j hj => hg j (by omega))]; omega
    · rw [ih (by omega) hg, hg n (by omega)]; omega
theorem sm_le {f : Nat → Int} {b : Int} : ∀ {n : Nat}, (∀ j, j < n → f j ≤ b) → sm f n ≤ n * b := by
  intro n
  induction n with
  | zero => intro _; simp [sm]
  | succ n ih =>
    intro h
    have := ih fun j hj => h j (by omega)
    have := h n (by omega)
    have : ((n + 1 : Nat) : Int) * b = n * b + b := by rw [Int.natCast_add, Int.add_mul]; simp
    simp only [sm]; omega
theorem sm_ge {f : Nat → Int} : ∀ {n : Nat}, (∀ j, j < n → 0 ≤ f j) → 0 ≤ sm f n := by
  intro n
  induction n with
  | zero => intro _; simp [sm]
  | succ n ih => intro h; have := ih fun j hj => h j (by omega); have := h n (by omega); simp only [sm]; omega
structure Mp where
  P : Nat
  n : Nat
  o : Nat → Nat → Int
  T : Nat → Int
structure Mp.Ok (m : Mp) : Prop where
  p : m.P ≤ 10
  o : ∀ i u, i < m.n → u < m.P → m.o i u < m.P ∧ m.o i u ≠ (u : Int)
  t : ∀ i, i < m.n → 1 ≤ m.T i ∧ m.T i ≤ 20
def can (m : Mp) (d : Nat → Int) (u i : Nat) : Prop := 0 ≤ m.o i u ∧ 0 ≤ d (m.o i u).toNat ∧ (d u < 0 ∨ d (m.o i u).toNat + m.T i < d u)
def one (m : Mp) (u i : Nat) (s : Bool × (Nat → Int)) : Bool × (Nat → Int) := if can m s.2 u i then (true, ud s.2 u (s.2 (m.o i u).toNat + m.T i)) else s
def row (m : Mp) (u : Nat) : Nat → Nat → Bool × (Nat → Int) → Bool × (Nat → Int)
  | 0, _, s => s
  | r + 1, i, s => row m u r (i + 1) (one m u i s)
def rnd (m : Mp) : Nat → Nat → Bool × (Nat → Int) → Bool × (Nat → Int)
  | 0, _, s => s
  | r + 1, u, s => rnd m r (u + 1) (row m u m.n 0 s)
def cnt (m : Mp) (d : Nat → Int) : Int := sm (fun u => if d u < 0 then 0 else 1) m.P
def pot (m : Mp) (d : Nat → Int) : Int := sm (fun u => if d u < 0 then 1000 else d u) m.P
structure Inv (m : Mp) (to : Nat) (d : Nat → Int) : Prop where
  z : d to = 0
  b : ∀ u, u < m.P → d u ≤ 20 * (cnt m d - 1)
  w : ∀ u, u < m.P → 0 ≤ d u → u = to ∨ ∃ i, i < m.n ∧ 0 ≤ m.o i u ∧ 0 ≤ d (m.o i u).toNat ∧ d (m.o i u).toNat + m.T i ≤ d u
  neg : ∀ u, u < m.P → -1 ≤ d u
variable {m : Mp} (h : m.Ok) {to : Nat} (ht : to < m.P)
include h ht
theorem cnt_le (d : Nat → Int) : cnt m d ≤ m.P := by
  have := sm_le (f := fun u => if d u < 0 then 0 else 1) (b := 1) (n := m.P) (fun j hj => by show (if d j < 0 then (0 : Int) else 1) ≤ 1; split <;> omega)
  unfold cnt; omega
theorem Inv.b200 {d : Nat → Int} (hd : Inv m to d) {u : Nat} (hu : u < m.P) : d u ≤ 180 := by
  have := hd.b u hu
  have := cnt_le h ht d
  have := h.p
  omega
theorem pot_ge {d : Nat → Int} : 0 ≤ pot m d := sm_ge fun j hj => by show 0 ≤ (if d j < 0 then (1000 : Int) else d j); split <;> omega
theorem pot_le {d : Nat → Int} (hd : Inv m to d) : pot m d ≤ 10000 := by
  have := sm_le (f := fun u => if d u < 0 then 1000 else d u) (b := 1000) (n := m.P) (fun j hj => by
    show (if d j < 0 then (1000 : Int) else d j) ≤ 1000
    have := hd.b200 h ht hj
    split <;> omega)
  have := h.p
  unfold pot; omega
theorem Inv.less {d : Nat → Int} (hd : Inv m to d) {u i : Nat} (hu : u < m.P) (hi : i < m.n) (hc : can m d u i) :
    Inv m to (ud d u (d (m.o i u).toNat + m.T i)) ∧ pot m (ud d u (d (m.o i u).toNat + m.T i)) < pot m d := by
  obtain ⟨c1, c2, c3⟩ := hc
  obtain ⟨o1, o2⟩ := h.o i u hi hu
  obtain ⟨t1, t2⟩ := h.t i hi
  have hv : (m.o i u).toNat < m.P := by omega
  have hvu : (m.o i u).toNat ≠ u := by omega
  have hto : u ≠ to := by
    intro e
    subst e
    have := hd.z
    omega
  have hbv := hd.b _ hv
  generalize hx : d (m.o i u).toNat + m.T i = x at *
  have hx0 : 1 ≤ x := by omega
  have hcnt : cnt m (ud d u x) = cnt m d + (if d u < 0 then 1 else 0) := by
    unfold cnt
    rw [sm_ud (f := fun j => if d j < 0 then 0 else 1) (g := fun j => if ud d u x j < 0 then 0 else 1) hu (fun j hj => by simp only [ud_ne hj])]
    simp only [ud_at]
    rw [if_neg (show ¬ x < 0 by omega)]
    by_cases e : d u < 0
    · rw [if_pos e, if_pos e]; omega
    · rw [if_neg e, if_neg e]; omega
  have hpot : pot m (ud d u x) = pot m d - (if d u < 0 then 1000 else d u) + x := by
    unfold pot
    rw [sm_ud (f := fun j => if d j < 0 then 1000 else d j) (g := fun j => if ud d u x j < 0 then 1000 else ud d u x j) hu (fun j hj => by simp only [ud_ne hj])]
    simp only [ud_at]
    rw [if_neg (show ¬ x < 0 by omega)]
  have hb200 := hd.b200 h ht hv
  refine ⟨⟨by rw [ud_ne (Ne.symm hto)]; exact hd.z, fun j hj => ?_, fun j hj hj0 => ?_, fun j hj => ?_⟩, ?_⟩
  · by_cases e : j = u
    · subst e
      rw [ud_at, hcnt]
      have := hd.b j hj
      split <;> omega
    · rw [ud_ne e, hcnt]
      have := hd.b j hj
      split <;> omega
  · by_cases e : j = u
    · subst e
      exact .inr ⟨i, hi, c1, by rw [ud_ne hvu]; exact c2, by rw [ud_ne hvu, ud_at]; omega⟩
    · rw [ud_ne e] at hj0
      rcases hd.w j hj hj0 with hw | ⟨i', w1, w2, w3, w4⟩
      · exact .inl hw
      · refine .inr ⟨i', w1, w2, ?_, ?_⟩
        · by_cases e2 : (m.o i' j).toNat = u
          · rw [e2, ud_at]; omega
          · rw [ud_ne e2]; exact w3
        · rw [ud_ne e]
          by_cases e2 : (m.o i' j).toNat = u
          · rw [e2, ud_at]
            rw [e2] at w3 w4
            omega
          · rw [ud_ne e2]; exact w4
  · by_cases e : j = u
    · subst e; rw [ud_at]; omega
    · rw [ud_ne e]; exact hd.neg j hj
  · rw [hpot]
    split <;> omega
theorem one_inv {u i : Nat} (hu : u < m.P) (hi : i < m.n) {s : Bool × (Nat → Int)} (hs : Inv m to s.2) :
    Inv m to (one m u i s).2 ∧ pot m (one m u i s).2 ≤ pot m s.2 ∧ (s.1 = true → (one m u i s).1 = true) ∧ ((one m u i s).1 = true → s.1 = true ∨ pot m (one m u i s).2 < pot m s.2) ∧
    ((one m u i s).1 = false → (one m u i s) = s ∧ ¬ can m s.2 u i) := by
  unfold one
  by_cases hc : can m s.2 u i
  · rw [if_pos hc]
    obtain ⟨a, b⟩ := hs.less h ht hu hi hc
    exact ⟨a, Int.le_of_lt b, fun _ => rfl, fun _ => .inr b, fun e => by cases e⟩
  · rw [if_neg hc]
    exact ⟨hs, Int.le_refl _, fun e => e, fun e => .inl e, fun _ => ⟨rfl, hc⟩⟩
theorem row_inv {u : Nat} (hu : u < m.P) : ∀ (r i : Nat) (s : Bool × (Nat → Int)), i + r = m.n → Inv m to s.2 →
    Inv m to (row m u r i s).2 ∧ pot m (row m u r i s).2 ≤ pot m s.2 ∧ (s.1 = true → (row m u r i s).1 = true) ∧ ((row m u r i s).1 = true → s.1 = true ∨ pot m (row m u r i s).2 < pot m s.2) ∧
    ((row m u r i s).1 = false → (row m u r i s) = s ∧ ∀ j, i ≤ j → j < m.n → ¬ can m s.2 u j) := by
  intro r
  induction r with
  | zero => intro i s h1 h2; exact ⟨h2, Int.le_refl _, fun e => e, fun e => .inl e, fun _ => ⟨rfl, fun j h3 h4 => by omega⟩⟩
  | succ r ih =>
    intro i s h1 h2
    obtain ⟨a1, a2, a3, a4, a5⟩ := one_inv h ht hu (i := i) (by omega) h2
    obtain ⟨b1, b2, b3, b4, b5⟩ := ih (i + 1) (one m u i s) (by omega) a1
    simp only [row]
    refine ⟨b1, Int.le_trans b2 a2, fun e => b3 (a3 e), fun e => ?_, fun e => ?_⟩
    · rcases b4 e with e1 | e1
      · rcases a4 e1 with e2 | e2
        · exact .inl e2
        · exact .inr (by omega)
      · exact .inr (by omega)
    · obtain ⟨c1, c2⟩ := b5 e
      have hf : (one m u i s).1 = false := by rw [← c1]; exact e
      obtain ⟨d1, d2⟩ := a5 hf
      refine ⟨by rw [c1, d1], fun j h3 h4 => ?_⟩
      by_cases ej : j = i
      · subst ej; exact d2
      · have := c2 j (by omega) h4
        rw [d1] at this
        exact this
theorem rnd_inv : ∀ (r u : Nat) (s : Bool × (Nat → Int)), u + r = m.P → Inv m to s.2 →
    Inv m to (rnd m r u s).2 ∧ pot m (rnd m r u s).2 ≤ pot m s.2 ∧ (s.1 = true → (rnd m r u s).1 = true) ∧ ((rnd m r u s).1 = true → s.1 = true ∨ pot m (rnd m r u s).2 < pot m s.2) ∧
    ((rnd m r u s).1 = false → (rnd m r u s) = s ∧ ∀ v, u ≤ v → v < m.P → ∀ j, j < m.n → ¬ can m s.2 v j) := by
  intro r
  induction r with
  | zero => intro u s h1 h2; exact ⟨h2, Int.le_refl _, fun e => e, fun e => .inl e, fun _ => ⟨rfl, fun j h3 h4 => by omega⟩⟩
  | succ r ih =>
    intro u s h1 h2
    obtain ⟨a1, a2, a3, a4, a5⟩ := row_inv h ht (u := u) (by omega) m.n 0 s (by omega) h2
    obtain ⟨b1, b2, b3, b4, b5⟩ := ih (u + 1) (row m u m.n 0 s) (by omega) a1
    simp only [rnd]
    refine ⟨b1, Int.le_trans b2 a2, fun e => b3 (a3 e), fun e => ?_, fun e => ?_⟩
    · rcases b4 e with e1 | e1
      · rcases a4 e1 with e2 | e2
        · exact .inl e2
        · exact .inr (by omega)
      · exact .inr (by omega)
    · obtain ⟨c1, c2⟩ := b5 e
      have hf : (row m u m.n 0 s).1 = false := by rw [← c1]; exact e
      obtain ⟨d1, d2⟩ := a5 hf
      refine ⟨by rw [c1, d1], fun v h3 h4 j hj => ?_⟩
      by_cases ej : v = u
      · subst ej; exact d2 j (Nat.zero_le _) hj
      · have := c2 v (by omega) h4 j hj
        rw [d1] at this
        exact this
omit h ht
structure Fin (m : Mp) (to : Nat) (d : Nat → Int) : Prop where
  inv : Inv m to d
  no : ∀ v, v < m.P → ∀ j, j < m.n → ¬ can m d v j
def start (to : Nat) : Nat → Int := ud (fun _ => -1) to 0
theorem start_inv {m : Mp} {to : Nat} (ht : to < m.P) : Inv m to (start to) := by
  have hc : cnt m (start to) = 1 := by
    unfold cnt start
    rw [sm_ud (f := fun _ => 0) (g := fun j => if ud (fun _ => -1) to 0 j < 0 then 0 else 1) ht (fun j hj => by simp only [ud_ne hj]; rfl)]
    have : sm (fun _ => (0 : Int)) m.P = 0 := by
      generalize m.P = n
      induction n with
      | zero => rfl
      | succ n ih => simp only [sm, ih]; rfl
    rw [this, ud_at]; rfl
  refine ⟨ud_at _ _ _, fun u hu => ?_, fun u hu h0 => ?_, fun u hu => ?_⟩
  · rw [hc]
    by_cases e : u = to
    · subst e; unfold start; rw [ud_at]; omega
    · unfold start; rw [ud_ne e]; omega
  · by_cases e : u = to
    · exact .inl e
    · unfold start at h0; rw [ud_ne e] at h0; omega
  · by_cases e : u = to
    · subst e; unfold start; rw [ud_at]; omega
    · unfold start; rw [ud_ne e]; omega
theorem Fin.le {m : Mp} {to : Nat} {d : Nat → Int} (f : Fin m to d) {v j : Nat} (hv : v < m.P) (hj : j < m.n) (h0 : 0 ≤ m.o j v) (h1 : 0 ≤ d (m.o j v).toNat) : 0 ≤ d v ∧ d v ≤ d (m.o j v).toNat + m.T j := by
  have := f.no v hv j hj
  unfold can at this
  constructor
  · rcases Int.lt_or_le (d v) 0 with e | e
    · exact absurd ⟨h0, h1, .inl e⟩ this
    · exact e
  · rcases Int.lt_or_le (d (m.o j v).toNat + m.T j) (d v) with e | e
    · exact absurd ⟨h0, h1, .inr e⟩ this
    · exact e
end
end Wy
end Go.Proofs.Ytpillmoddoccfab
set_option linter.unusedVariables false
set_option linter.unusedSimpArgs false
set_option linter.unusedSectionVars false
set_option maxHeartbeats 0
set_option maxRecDepth 100000
namespace Go.Proofs.Ytpillmoddoccfab
namespace Wy
open Go.Sx
open Classical
noncomputable section
variable {R : Type}
theorem ltF {a b : Nat} (h : b ≤ a) : decide ((a : Int) < (b : Int)) = false := by simp; omega
theorem ltT {a b : Nat} (h : a < b) : decide ((a : Int) < (b : Int)) = true := by simp; omega
theorem sIn_eq (N : Nat) (n lo hi : Int) (k : Bool → Option R) : ways_within N n lo hi k = k (decide (lo ≤ n ∧ n ≤ hi)) := by
  rw [ways_within_def]
  unfold ways_within_m
  by_cases h : n ≥ lo
  · have : lo ≤ n := h
    simp only [h, decide_true, cond_true, this, true_and]
  · have : ¬ (lo ≤ n ∧ n ≤ hi) := fun g => h g.1
    rw [decide_eq_false this]
    simp only [h, decide_false, cond_false]
def kindP (p : api_Passage) : Prop := ((p.Kind = 1 ∨ p.Kind = 2 ∨ p.Kind = 5) ∧ p.Machine = -1 ∧ p.Still = 0) ∨ (p.Kind = 3 ∧ (0 ≤ p.Machine ∧ p.Machine ≤ 11) ∧ (1 ≤ p.Still ∧ p.Still ≤ 20)) ∨ (p.Kind = 4 ∧ (0 ≤ p.Machine ∧ p.Machine ≤ 11) ∧ p.Still = 0)
structure passP (P : Int) (p : api_Passage) : Prop where
  a : 0 ≤ p.A ∧ p.A ≤ P - 1
  b : 0 ≤ p.B ∧ p.B ≤ P - 1
  ab : p.A ≠ p.B
  t : 1 ≤ p.Ticks ∧ p.Ticks ≤ 20
  w : 1 ≤ p.Wide ∧ p.Wide ≤ 50
  k : kindP p
structure VS (s : api_Station) : Prop where
  p : 1 ≤ s.Places ∧ s.Places ≤ 10
  n : s.Passages.n ≤ 24
  pass : ∀ i, i < s.Passages.n → passP s.Places (s.Passages.f i)
  m : ∀ i j, i < j → j < s.Passages.n → 0 ≤ (s.Passages.f j).Machine → (s.Passages.f i).Machine ≠ (s.Passages.f j).Machine
  e : ∀ i, i < s.Exits.n → (0 ≤ s.Exits.f i ∧ s.Exits.f i ≤ s.Places - 1) ∧ (0 < i → s.Exits.f (i - 1) < s.Exits.f i)
end
end Wy
end Go.Proofs.Ytpillmoddoccfab
set_option linter.unusedVariables false
set_option linter.unusedSimpArgs false
set_option linter.unusedSectionVars false
set_option maxHeartbeats 0
set_option maxRecDepth 100000
namespace Go.Proofs.Ytpillmoddoccfab
namespace Wy
open Go.Sx
open Classical
noncomputable section
variable {R : Type}
theorem keyEq_int (a b : Int) : keyEq [SV.int IntKind.i64 a] [SV.int IntKind.i64 b] = (a == b) := by simp [keyEq, eqCells]
theorem putG_int (a v b : Int) (g : List SV → Nat → SV) : toI (putG [SV.int IntKind.i64 a] [SV.int IntKind.i64 v] g [SV.int IntKind.i64 b] 0) = if b = a then v else toI (g [SV.int IntKind.i64 b] 0) := by
  unfold putG
  rw [keyEq_int]
  by_cases h : b = a
  · subst h; simp [lget, toI]
  · have : (b == a) = false := by simpa using h
    simp [this, h]
theorem get_put (m : Go.Sx.Mp Int Int) (a v b : Int) : Go.Sx.Mp.get (mpD intC intC (putH [SV.int IntKind.i64 a] (mpH intC m)) (putG [SV.int IntKind.i64 a] [SV.int IntKind.i64 v] (mpG intC intC m))) b = if b = a then v else Go.Sx.Mp.get m b := by
  show toI (putG [SV.int IntKind.i64 a] [SV.int IntKind.i64 v] (mpG intC intC m) [SV.int IntKind.i64 b] 0) = _
  rw [putG_int]
  rfl
theorem passage_ok {N : Nat} {P : Int} (hP : 1 ≤ P ∧ P ≤ 10) {p : api_Passage} (h : passP P p) (k : Bool → Option R) : ways_passage N p P k = k true := by
  rw [ways_passage_def]
  unfold ways_passage_m
  have hw : w64 (P - 1) = P - 1 := w64_eq (by omega) (by omega)
  have e3 : (p.A == p.B) = false := by simpa using h.ab
  simp only [sIn_eq, hw, h.a, h.b, h.t, h.w, and_self, decide_true, Bool.not_true, cond_false, e3]
  rcases h.k with ⟨h1 | h1 | h1, h2, h3⟩ | ⟨h1, h2, h3⟩ | ⟨h1, h2, h3⟩
  · simp [h1, h2, h3]
  · simp [h1, h2, h3]
  · simp [h1, h2, h3]
  · simp [h1, h2, h3]
  · simp [h1, h2, h3]
theorem wc_l5 (N : Nat) {s : api_Station} (v : VS s) (kr : Int → Option R) (k0 : Unit → Option R) : ∀ (q i n : Nat) (m : Go.Sx.Mp Int Int), i + q = s.Passages.n → q < n → (∀ x, 0 ≤ x → (∀ j, j < i → (s.Passages.f j).Machine ≠ x) → Go.Sx.Mp.get m x = 0) →
    ways_Check_l5 N n s.Passages (s.Passages.n : Int) (i : Int) s m kr k0 = k0 () := by
  intro q
  induction q with
  | zero =>
    intro i n m h1 h2 h3
    obtain ⟨n, rfl⟩ : ∃ m, n = m + 1 := ⟨n - 1, by omega⟩
    unfold ways_Check_l5 ways_Check_b5
    simp only [ltF (show s.Passages.n ≤ i by omega), cond_false]
  | succ q ih =>
    intro i n m h1 h2 h3
    have hn := v.n
    obtain ⟨n, rfl⟩ : ∃ m, n = m + 1 := ⟨n - 1, by omega⟩
    unfold ways_Check_l5 ways_Check_b5
    simp only [ltT (show i < s.Passages.n by omega), nat_nonneg, Bool.and_self, cond_true, Int.toNat_natCast, w64_succ (show i < 1000000000000 by omega), passage_ok v.p (v.pass i (by omega)), Bool.not_true, cond_false, putG_int, if_true]
    have next : ∀ x, 0 ≤ x → (∀ j, j < i + 1 → (s.Passages.f j).Machine ≠ x) → Go.Sx.Mp.get (mpD intC intC (putH [SV.int IntKind.i64 (s.Passages.f i).Machine] (mpH intC m)) (putG [SV.int IntKind.i64 (s.Passages.f i).Machine] [SV.int IntKind.i64 (w64 (Go.Sx.Mp.get m (s.Passages.f i).Machine + 1))] (mpG intC intC m))) x = 0 := by
      intro x h0 hx
      rw [get_put, if_neg (fun e => hx i (by omega) e.symm)]
      exact h3 x h0 fun j hj => hx j (by omega)
    by_cases c1 : (s.Passages.f i).Machine ≥ 0
    · have hg := h3 _ c1 fun j hj => v.m j i hj (by omega) c1
      have hw : w64 ((0 : Int) + 1) = 1 := by decide
      have c2 : ¬ ((1 : Int) > 1) := by omega
      simp only [c1, decide_true, cond_true, hg, hw, c2, decide_false, cond_false]
      rw [hg, hw] at next
      exact ih (i + 1) n _ (by omega) (by omega) next
    · simp only [c1, decide_false, cond_false]
      exact ih (i + 1) n _ (by omega) (by omega) next
theorem wc_l15 (N : Nat) {s : api_Station} (v : VS s) (kr : Int → Option R) (k2 : Unit → Option R) : ∀ (q i n : Nat) (last : Int), i + q = s.Exits.n → q < n → last = (if i = 0 then -1 else s.Exits.f (i - 1)) →
    ways_Check_l15 N n last s.Exits (s.Exits.n : Int) (i : Int) s kr k2 = k2 () := by
  intro q
  induction q with
  | zero =>
    intro i n last h1 h2 h3
    obtain ⟨n, rfl⟩ : ∃ m, n = m + 1 := ⟨n - 1, by omega⟩
    unfold ways_Check_l15 ways_Check_b15
    simp only [ltF (show s.Exits.n ≤ i by omega), cond_false]
  | succ q ih =>
    intro i n last h1 h2 h3
    obtain ⟨n, rfl⟩ : ∃ m, n = m + 1 := ⟨n - 1, by omega⟩
    have hp := v.p
    obtain ⟨e1, e2⟩ := v.e i (by omega)
    have hl : -1 ≤ last ∧ last + 1 ≤ s.Exits.f i ∧ last ≤ 10 := by
      rw [h3]
      by_cases i0 : i = 0
      · rw [if_pos i0]; omega
      · rw [if_neg i0]
        have := (v.e (i - 1) (by omega)).1
        have := e2 (by omega)
        omega
    have hi : i < 20 := by
      have key : ∀ j, j < s.Exits.n → (j : Int) ≤ s.Exits.f j := by
        intro j
        induction j with
        | zero => intro hj; have := (v.e 0 hj).1; omega
        | succ j ihj => intro hj; have := ihj (by omega); have := (v.e (j + 1) hj).2 (by omega); rw [Nat.add_sub_cancel] at this; omega
      have := key i (by omega)
      omega
    have hw : w64 (s.Places - 1) = s.Places - 1 := w64_eq (by omega) (by omega)
    have hw2 : w64 (last + 1) = last + 1 := w64_eq (by omega) (by omega)
    unfold ways_Check_l15 ways_Check_b15
    have c1 : last + 1 ≤ s.Exits.f i ∧ s.Exits.f i ≤ s.Places - 1 := by omega
    simp only [ltT (show i < s.Exits.n by omega), nat_nonneg, Bool.and_self, cond_true, Int.toNat_natCast, w64_succ (show i < 1000000000000 by omega), sIn_eq, hw, hw2, c1, and_self, decide_true, Bool.not_true, cond_false]
    exact ih (i + 1) n _ (by omega) (by omega) (by simp)
theorem exits_n {s : api_Station} (v : VS s) : s.Exits.n ≤ 10 := by
  have key : ∀ j, j < s.Exits.n → (j : Int) ≤ s.Exits.f j := by
    intro j
    induction j with
    | zero => intro hj; have := (v.e 0 hj).1; omega
    | succ j ihj => intro hj; have := ihj (by omega); have := (v.e (j + 1) hj).2 (by omega); rw [Nat.add_sub_cancel] at this; omega
  rcases Nat.lt_or_ge 10 s.Exits.n with h | h
  · have := key 10 h
    have := (v.e 10 h).1
    have := v.p
    omega
  · exact h
theorem wChk {N : Nat} (hN : 200 ≤ N) {s : api_Station} (v : VS s) (k : Int → Option R) : ways_Check N s k = k 0 := by
  rw [ways_Check_def]
  unfold ways_Check_m
  have hn := v.n
  have he := exits_n v
  have c2 : ¬ ((s.Passages.n : Int) > 24) := by omega
  simp only [sIn_eq, v.p, and_self, decide_true, Bool.not_true, cond_false, c2, decide_false]
  refine (wc_l5 N v (fun r => k r) _ s.Passages.n 0 N (mpD intC intC noH (noG (CK.cons (CK.int IntKind.i64) CK.nil))) (by omega) (by omega) (fun x _ _ => rfl)).trans ?_
  exact wc_l15 N v (fun r => k r) _ s.Exits.n 0 N (-1) (by omega) (by omega) rfl
theorem asked_ok {N : Nat} (hN : 200 ≤ N) {s : api_Station} (v : VS s) {o : Nat} (ho : o < 4096) {a b : Int} (ha : 0 ≤ a ∧ a < s.Places) (hb : 0 ≤ b ∧ b < s.Places) (k : Int → Option R) :
    ways_asked N s (o : Int) (lst intC (2 : Nat) (litC [SV.int IntKind.i64 (0 : Int)] [[SV.int IntKind.i64 a], [SV.int IntKind.i64 b]])) k = k 0 := by
  rw [ways_asked_def]
  unfold ways_asked_m
  have hp := v.p
  have hw : w64 (s.Places - 1) = s.Places - 1 := w64_eq (by omega) (by omega)
  have c1 : (0 : Int) ≤ (o : Int) ∧ (o : Int) ≤ 4095 := by omega
  simp only [wChk hN v, bne_self_eq_false, cond_false, sIn_eq, c1, and_self, decide_true, Bool.not_true]
  rw [ways_place_def]
  unfold ways_place_m
  obtain ⟨M, rfl⟩ : ∃ m, N = m + 3 := ⟨N - 3, by omega⟩
  have l0 : Arr.f (lst intC (2 : Nat) (litC [SV.int IntKind.i64 (0 : Int)] [[SV.int IntKind.i64 a], [SV.int IntKind.i64 b]])) 0 = a := rfl
  have l1 : Arr.f (lst intC (2 : Nat) (litC [SV.int IntKind.i64 (0 : Int)] [[SV.int IntKind.i64 a], [SV.int IntKind.i64 b]])) 1 = b := rfl
  have ln : Arr.n (lst intC (2 : Nat) (litC [SV.int IntKind.i64 (0 : Int)] [[SV.int IntKind.i64 a], [SV.int IntKind.i64 b]])) = 2 := rfl
  generalize (lst intC (2 : Nat) (litC [SV.int IntKind.i64 (0 : Int)] [[SV.int IntKind.i64 a], [SV.int IntKind.i64 b]])) = L at *
  have w1 : w64 ((0 : Int) + 1) = ((1 : Nat) : Int) := by decide
  have w2 : w64 (((1 : Nat) : Int) + 1) = ((2 : Nat) : Int) := by decide
  have c2 : (0 : Int) ≤ a ∧ a ≤ s.Places - 1 := by omega
  have c3 : (0 : Int) ≤ b ∧ b ≤ s.Places - 1 := by omega
  have t0 : decide ((0 : Int) < ((2 : Nat) : Int)) = true := by decide
  have t1 : decide (((1 : Nat) : Int) < ((2 : Nat) : Int)) = true := by decide
  have t2 : decide (((2 : Nat) : Int) < ((2 : Nat) : Int)) = false := by decide
  have t3 : decide ((0 : Int) ≤ 0) = true := by decide
  simp only [ln, ways_place_l2, ways_place_b2, t0, t1, t2, t3, nat_nonneg, Bool.and_self, cond_true, Int.toNat_zero, Int.toNat_natCast, sIn_eq, hw, l0, l1, c2, c3, and_self, decide_true, Bool.not_true, cond_false, w1, w2]
end
end Wy
end Go.Proofs.Ytpillmoddoccfab
set_option linter.unusedVariables false
set_option linter.unusedSimpArgs false
set_option linter.unusedSectionVars false
set_option maxHeartbeats 0
set_option maxRecDepth 100000
namespace Go.Proofs.Ytpillmoddoccfab
namespace Wy
open Go.Sx
open Classical
noncomputable section
variable {R : Type}
def openP (o : Nat) (help : Bool) (p : api_Passage) : Prop := p.Kind = 1 ∨ (p.Kind = 4 ∧ o.testBit p.Machine.toNat = false) ∨ (p.Kind = 5 ∧ help = true)
def oth (o : Nat) (help : Bool) (p : api_Passage) (u : Int) : Int := if openP o help p then (if p.A = u then p.B else if p.B = u then p.A else -1) else -1
def mpOf (s : api_Station) (o : Nat) (help : Bool) : Mp := ⟨s.Places.toNat, s.Passages.n, fun i u => oth o help (s.Passages.f i) (u : Int), fun i => (s.Passages.f i).Ticks⟩
theorem mpOk {s : api_Station} (v : VS s) (o : Nat) (help : Bool) : (mpOf s o help).Ok where
  p := by have := v.p; show s.Places.toNat ≤ 10; omega
  o := fun i u hi hu => by
    have h := v.pass i hi
    have hu' : (u : Int) < s.Places := by have : u < s.Places.toNat := hu; omega
    have hp := v.p
    have h1 := h.a
    have h2 := h.b
    have h3 := h.ab
    show oth o help (s.Passages.f i) (u : Int) < (s.Places.toNat : Int) ∧ oth o help (s.Passages.f i) (u : Int) ≠ (u : Int)
    unfold oth
    split
    · split
      · rename_i e; constructor <;> omega
      · split
        · rename_i e; constructor <;> omega
        · constructor <;> omega
    · constructor <;> omega
  t := fun i hi => (v.pass i hi).t
theorem other_eq (N : Nat) {s : api_Station} {P : Int} {o : Nat} (ho : o < 4096) (help : Bool) {p : api_Passage} (h : passP P p) (u : Int) (k : Int → Option R) :
    ways_level_other N ⟨s, (o : Int), help⟩ p u k = k (oth o help p u) := by
  rw [ways_level_other_def]
  unfold ways_level_other_m oth openP
  have hA : ∀ (x : Int), (p.A == x) = decide (p.A = x) := fun x => by by_cases e : p.A = x <;> simp [e]
  have hB : ∀ (x : Int), (p.B == x) = decide (p.B = x) := fun x => by by_cases e : p.B = x <;> simp [e]
  have two : ∀ (kk : Int → Option R), (bif p.A == u then kk p.B else bif p.B == u then kk p.A else kk (-1)) = kk (if p.A = u then p.B else if p.B = u then p.A else -1) := fun kk => by
    rw [hA, hB]
    by_cases e : p.A = u
    · simp [e]
    · by_cases e2 : p.B = u
      · simp [e, e2]
      · simp [e, e2]
  simp only [two]
  rcases h.k with ⟨h1 | h1 | h1, h2, h3⟩ | ⟨h1, h2, h3⟩ | ⟨h1, h2, h3⟩
  · simp [h1]
  · simp [h1]
  · cases help <;> simp [h1]
  · simp [h1]
  · have hb : (w64 (↑(BitVec.toNat (BitVec.ofInt (IntKind.bits IntKind.i64) (Int.fdiv (o : Int) ((2 : Int) ^ min (Int.toNat p.Machine) (IntKind.bits IntKind.i64))) &&& BitVec.ofInt (IntKind.bits IntKind.i64) (1 : Int))) : Int) == (0 : Int)) = !(o.testBit p.Machine.toNat) := by
      have := bit64_eq0 (a := (o : Int)) (by omega) (by omega) (i := p.Machine.toNat) (by omega)
      rw [Int.toNat_natCast] at this
      exact this
    have c1 : ¬ (p.Machine < 0) := by omega
    have k1 : (p.Kind == 1) = false := by rw [h1]; rfl
    have k4 : (p.Kind == 4) = true := by rw [h1]; rfl
    have k5 : (p.Kind == 5) = false := by rw [h1]; rfl
    simp only [k1, k4, k5, cond_true, cond_false, c1, decide_false, hb]
    cases o.testBit p.Machine.toNat <;> simp [h1]
theorem set_arr (c : Nat) (a : Nat → Int) (m : Nat) (x : Int) : lst intC c (setCs m 0 (Cod.cell intC a) [SV.int IntKind.i64 x]) = ⟨c, ud a m x⟩ := by
  show (⟨c, fun i => intC.dec (setCs m 0 (Cod.cell intC a) [SV.int IntKind.i64 x] i)⟩ : Arr Int) = ⟨c, ud a m x⟩
  congr 1
  funext j
  unfold ud
  by_cases e : j = m
  · subst e
    rw [if_pos rfl]
    simp [setCs, setC, intC, toI]
  · have e0 : (j == m) = false := by simpa using e
    rw [if_neg e]
    show intC.dec (fun k => setC m 0 (Cod.cell intC a) (SV.int IntKind.i64 x) j k) = a j
    simp only [setC, e0, Bool.false_and, cond_false]
    rfl
section
variable {s : api_Station} (v : VS s) {o : Nat} (ho : o < 4096) (help : Bool) {to : Nat} (ht : to < s.Places.toNat)
include v ho ht
theorem far_l15 (N : Nat) (x y : Int) (nl : Bool) {u : Nat} (hu : u < s.Places.toNat) (k6 : Bool → Arr Int → Option R) : ∀ (q i n : Nat) (st : Bool × (Nat → Int)), i + q = s.Passages.n → q < n → Inv (mpOf s o help) to st.2 →
    ways_level_far_l15 N n st.1 (u : Int) x y s.Passages (s.Passages.n : Int) (i : Int) ⟨s, (o : Int), help⟩ nl ⟨s.Places.toNat, st.2⟩ k6 = k6 (row (mpOf s o help) u q i st).1 ⟨s.Places.toNat, (row (mpOf s o help) u q i st).2⟩ := by
  intro q
  induction q with
  | zero =>
    intro i n st h1 h2 h3
    obtain ⟨n, rfl⟩ : ∃ m, n = m + 1 := ⟨n - 1, by omega⟩
    unfold ways_level_far_l15 ways_level_far_b15
    simp only [ltF (show s.Passages.n ≤ i by omega), cond_false]
    rfl
  | succ q ih =>
    intro i n st h1 h2 h3
    obtain ⟨n, rfl⟩ : ∃ m, n = m + 1 := ⟨n - 1, by omega⟩
    have hn := v.n
    have ok := mpOk v o help
    have hi : i < s.Passages.n := by omega
    have inv1 := one_inv ok ht (u := u) (i := i) hu hi h3
    have ih' := ih (i + 1) n (one (mpOf s o help) u i st) (by omega) (by omega) inv1.1
    have ho1 := ok.o i u hi hu
    have hT := ok.t i hi
    have hou : (mpOf s o help).o i u = oth o help (s.Passages.f i) (u : Int) := rfl
    have hTu : (mpOf s o help).T i = (s.Passages.f i).Ticks := rfl
    unfold ways_level_far_l15 ways_level_far_b15
    simp only [ltT hi, nat_nonneg, Bool.and_self, cond_true, Int.toNat_natCast, w64_succ (show i < 1000000000000 by omega), other_eq N ho help (v.pass i hi), ltT hu, row]
    rw [hou] at ho1
    rw [hTu] at hT
    generalize hw : oth o help (s.Passages.f i) (u : Int) = w at *
    have hone : one (mpOf s o help) u i st = if 0 ≤ w ∧ 0 ≤ st.2 w.toNat ∧ (st.2 u < 0 ∨ st.2 w.toNat + (s.Passages.f i).Ticks < st.2 u) then (true, ud st.2 u (st.2 w.toNat + (s.Passages.f i).Ticks)) else st := by
      unfold one can
      rw [hou, hTu]
      congr
    by_cases c1 : w < 0
    · simp only [c1, decide_true, cond_true]
      rw [hone, if_neg (by omega)] at ih' ⊢
      exact ih'
    have hwP : w.toNat < s.Places.toNat := by
      have : w < (s.Places.toNat : Int) := ho1.1
      omega
    have c2 : (decide (0 ≤ w) && decide (w < ((s.Places.toNat : Nat) : Int))) = true := by
      have : w < (s.Places.toNat : Int) := ho1.1
      simp; omega
    simp only [c1, decide_false, cond_false, c2, cond_true]
    by_cases c3 : st.2 w.toNat < 0
    · simp only [c3, decide_true, cond_true]
      rw [hone, if_neg (by omega)] at ih' ⊢
      exact ih'
    have hb := h3.b200 ok ht hwP
    have hs : w64 (st.2 w.toNat + (s.Passages.f i).Ticks) = st.2 w.toNat + (s.Passages.f i).Ticks := w64_eq (by omega) (by omega)
    simp only [c3, decide_false, cond_false, hs]
    by_cases c4 : st.2 u < 0
    · simp only [c4, decide_true, cond_true, set_arr]
      rw [hone, if_pos ⟨by omega, by omega, .inl c4⟩] at ih' ⊢
      exact ih'
    · simp only [c4, decide_false, cond_false]
      by_cases c5 : st.2 w.toNat + (s.Passages.f i).Ticks < st.2 u
      · simp only [c5, decide_true, cond_true, set_arr]
        rw [hone, if_pos ⟨by omega, by omega, .inr c5⟩] at ih' ⊢
        exact ih'
      · simp only [c5, decide_false, cond_false]
        rw [hone, if_neg (by rintro ⟨_, _, h | h⟩ <;> omega)] at ih' ⊢
        exact ih'
theorem far_l12 (N : Nat) (hN : 100 ≤ N) (nl : Bool) (k4 : Bool → Arr Int → Option R) : ∀ (q u n : Nat) (st : Bool × (Nat → Int)), u + q = s.Places.toNat → q < n → Inv (mpOf s o help) to st.2 →
    ways_level_far_l12 N n st.1 s.Places (u : Int) ⟨s, (o : Int), help⟩ nl ⟨s.Places.toNat, st.2⟩ k4 = k4 (rnd (mpOf s o help) q u st).1 ⟨s.Places.toNat, (rnd (mpOf s o help) q u st).2⟩ := by
  intro q
  induction q with
  | zero =>
    intro u n st h1 h2 h3
    obtain ⟨n, rfl⟩ : ∃ m, n = m + 1 := ⟨n - 1, by omega⟩
    unfold ways_level_far_l12 ways_level_far_b12
    have c : ¬ ((u : Int) < s.Places) := by omega
    simp only [c, decide_false, cond_false]
    rfl
  | succ q ih =>
    intro u n st h1 h2 h3
    obtain ⟨n, rfl⟩ : ∃ m, n = m + 1 := ⟨n - 1, by omega⟩
    have hn := v.n
    have hp := v.p
    have ok := mpOk v o help
    have hu : u < s.Places.toNat := by omega
    have inv1 := row_inv ok ht (u := u) hu s.Passages.n 0 st (by show 0 + s.Passages.n = s.Passages.n; omega) h3
    have ih' := ih (u + 1) n (row (mpOf s o help) u s.Passages.n 0 st) (by omega) (by omega) inv1.1
    have hmn : (mpOf s o help).n = s.Passages.n := rfl
    unfold ways_level_far_l12 ways_level_far_b12
    have c : (u : Int) < s.Places := by omega
    simp only [c, decide_true, cond_true, w64_succ (show u < 1000000000000 by omega), rnd, hmn]
    exact (far_l15 v ho help ht N _ _ nl hu _ s.Passages.n 0 N st (by omega) (by omega) h3).trans ih'
theorem far_l9 (N : Nat) (hN : 100 ≤ N) (nl : Bool) : ∀ (q n : Nat) (d : Nat → Int), pot (mpOf s o help) d ≤ q → q + 1 < n → Inv (mpOf s o help) to d →
    ∃ d', Fin (mpOf s o help) to d' ∧ ∀ (k2 : Arr Int → Option R), ways_level_far_l9 N n true ⟨s, (o : Int), help⟩ nl ⟨s.Places.toNat, d⟩ k2 = k2 ⟨s.Places.toNat, d'⟩ := by
  intro q
  induction q with
  | zero =>
    intro n d h1 h2 h3
    obtain ⟨n, rfl⟩ : ∃ m, n = m + 2 := ⟨n - 2, by omega⟩
    have ok := mpOk v o help
    obtain ⟨a1, a2, a3, a4, a5⟩ := rnd_inv ok ht s.Places.toNat 0 (false, d) (by show 0 + s.Places.toNat = s.Places.toNat; omega) h3
    have hl := fun (k4 : Bool → Arr Int → Option R) => far_l12 v ho help ht N hN nl k4 s.Places.toNat 0 N (false, d) (by omega) (by have := v.p; omega) h3
    cases hf : (rnd (mpOf s o help) s.Places.toNat 0 (false, d)).1
    · obtain ⟨b1, b2⟩ := a5 hf
      refine ⟨d, ⟨h3, fun x hx j hj => b2 x (Nat.zero_le _) hx j hj⟩, fun k2 => ?_⟩
      unfold ways_level_far_l9 ways_level_far_b9
      refine (hl _).trans ?_
      rw [b1]
      unfold ways_level_far_l9 ways_level_far_b9
      rfl
    · rcases a4 hf with e | e
      · cases e
      · have := pot_ge ok ht (d := (rnd (mpOf s o help) s.Places.toNat 0 (false, d)).2)
        have e : pot (mpOf s o help) (rnd (mpOf s o help) s.Places.toNat 0 (false, d)).2 < pot (mpOf s o help) d := e
        omega
  | succ q ih =>
    intro n d h1 h2 h3
    obtain ⟨n, rfl⟩ : ∃ m, n = m + 1 := ⟨n - 1, by omega⟩
    have ok := mpOk v o help
    obtain ⟨a1, a2, a3, a4, a5⟩ := rnd_inv ok ht s.Places.toNat 0 (false, d) (by show 0 + s.Places.toNat = s.Places.toNat; omega) h3
    have hl := fun (k4 : Bool → Arr Int → Option R) => far_l12 v ho help ht N hN nl k4 s.Places.toNat 0 N (false, d) (by omega) (by have := v.p; omega) h3
    cases hf : (rnd (mpOf s o help) s.Places.toNat 0 (false, d)).1
    · obtain ⟨b1, b2⟩ := a5 hf
      refine ⟨d, ⟨h3, fun x hx j hj => b2 x (Nat.zero_le _) hx j hj⟩, fun k2 => ?_⟩
      obtain ⟨n, rfl⟩ : ∃ m, n = m + 1 := ⟨n - 1, by omega⟩
      unfold ways_level_far_l9 ways_level_far_b9
      refine (hl _).trans ?_
      rw [b1]
      unfold ways_level_far_l9 ways_level_far_b9
      rfl
    · rcases a4 hf with e | e
      · cases e
      · have e : pot (mpOf s o help) (rnd (mpOf s o help) s.Places.toNat 0 (false, d)).2 < pot (mpOf s o help) d := e
        obtain ⟨d', f1, f2⟩ := ih n _ (by omega) (by omega) a1
        refine ⟨d', f1, fun k2 => ?_⟩
        unfold ways_level_far_l9 ways_level_far_b9
        refine (hl _).trans ?_
        rw [hf]
        exact f2 k2
omit ho ht in
theorem far_l3 (N : Nat) (tt : Int) (nl : Bool) : ∀ (q i n : Nat) (d : Nat → Int), i + q = s.Places.toNat → q < n → (∀ j, j < i → d j = -1) →
    ∃ d' : Nat → Int, (∀ j, j < s.Places.toNat → d' j = -1) ∧ ∀ k0 : Arr Int → Option R, ways_level_far_l3 N n tt ((s.Places.toNat : Nat) : Int) (i : Int) ⟨s, (o : Int), help⟩ nl ⟨s.Places.toNat, d⟩ k0 = k0 ⟨s.Places.toNat, d'⟩ := by
  intro q
  induction q with
  | zero =>
    intro i n d h1 h2 h3
    obtain ⟨n, rfl⟩ : ∃ m, n = m + 1 := ⟨n - 1, by omega⟩
    refine ⟨d, fun j hj => h3 j (by omega), fun k0 => ?_⟩
    unfold ways_level_far_l3 ways_level_far_b3
    simp only [ltF (show s.Places.toNat ≤ i by omega), cond_false]
  | succ q ih =>
    intro i n d h1 h2 h3
    obtain ⟨n, rfl⟩ : ∃ m, n = m + 1 := ⟨n - 1, by omega⟩
    have hp := v.p
    obtain ⟨d', f1, f2⟩ := ih (i + 1) n (ud d i (-1)) (by omega) (by omega) (fun j hj => by
      by_cases e : j = i
      · subst e; exact ud_at _ _ _
      · rw [ud_ne e]; exact h3 j (by omega))
    refine ⟨d', f1, fun k0 => ?_⟩
    unfold ways_level_far_l3 ways_level_far_b3
    simp only [ltT (show i < s.Places.toNat by omega), nat_nonneg, Bool.and_self, cond_true, Int.toNat_natCast, w64_succ (show i < 1000000000000 by omega), set_arr]
    exact f2 k0
end
theorem Inv.congr {m : Mp} {to : Nat} (ht : to < m.P) {d d' : Nat → Int} (ho : ∀ i u, i < m.n → u < m.P → m.o i u < m.P) (h : ∀ j, j < m.P → d j = d' j) (hi : Inv m to d) : Inv m to d' := by
  have hc : cnt m d' = cnt m d := sm_congr fun j hj => by rw [h j hj]
  refine ⟨by rw [← h to ht]; exact hi.z, fun u hu => by rw [← h u hu, hc]; exact hi.b u hu, fun u hu h0 => ?_, fun u hu => by rw [← h u hu]; exact hi.neg u hu⟩
  rw [← h u hu] at h0
  rcases hi.w u hu h0 with e | ⟨i, w1, w2, w3, w4⟩
  · exact .inl e
  · have := ho i u w1 hu
    exact .inr ⟨i, w1, w2, by rw [← h _ (by omega)]; exact w3, by rw [← h _ (by omega), ← h u hu]; exact w4⟩
theorem far_eq {N : Nat} (hN : 20000 ≤ N) {s : api_Station} (v : VS s) {o : Nat} (ho : o < 4096) (help : Bool) {to : Int} (ht : 0 ≤ to ∧ to < s.Places) :
    ∃ d, Fin (mpOf s o help) to.toNat d ∧ ∀ (k : Bool → Arr Int → Option R), ways_level_far N ⟨s, (o : Int), help⟩ to k = k false ⟨s.Places.toNat, d⟩ := by
  have hp := v.p
  have ok := mpOk v o help
  have htn : to.toNat < s.Places.toNat := by omega
  obtain ⟨d0, f1, f2⟩ := far_l3 (R := R) v (o := o) help N to false s.Places.toNat 0 N (fun _ => 0) (by omega) (by omega) (fun j hj => by omega)
  have hinv : Inv (mpOf s o help) to.toNat (ud d0 to.toNat 0) := by
    refine Inv.congr (m := mpOf s o help) htn (fun i u hi hu => (ok.o i u hi hu).1) (fun j hj => ?_) (start_inv (m := mpOf s o help) htn)
    have hj' : j < s.Places.toNat := hj
    by_cases e : j = to.toNat
    · subst e; unfold start; rw [ud_at, ud_at]
    · unfold start; rw [ud_ne e, ud_ne e, f1 j hj']
  have hpot := pot_le ok htn hinv
  obtain ⟨d, g1, g2⟩ := far_l9 (R := R) v ho help htn N (by omega) false 10000 N (ud d0 to.toNat 0) (by omega) (by omega) hinv
  refine ⟨d, g1, fun k => ?_⟩
  rw [ways_level_far_def]
  unfold ways_level_far_m
  have c1 : (decide ((0 : Int) ≤ s.Places) && decide (s.Places ≤ s.Places) && decide (s.Places ≤ (1073741824 : Int))) = true := by simp; omega
  have e0 : (lst intC (Int.toNat s.Places) (zeroC [SV.int IntKind.i64 (0 : Int)])) = ⟨s.Places.toNat, fun _ => 0⟩ := rfl
  simp only [c1, cond_true, e0]
  refine (f2 _).trans ?_
  have c2 : (decide ((0 : Int) ≤ to) && decide (to < ((s.Places.toNat : Nat) : Int))) = true := by simp; omega
  simp only [c2, cond_true, set_arr]
  exact g2 _
def good (s : api_Station) (o : Nat) (help : Bool) (d : Nat → Int) (u i : Nat) : Prop := 0 ≤ oth o help (s.Passages.f i) (u : Int) ∧ 0 ≤ d (oth o help (s.Passages.f i) (u : Int)).toNat ∧ d (oth o help (s.Passages.f i) (u : Int)).toNat + (s.Passages.f i).Ticks = d u
section
variable {s : api_Station} (v : VS s) {o : Nat} (ho : o < 4096) (help : Bool) {to : Nat} (ht : to < s.Places.toNat) {d : Nat → Int} (hd : Fin (mpOf s o help) to d)
include v ho ht hd
theorem way_l11 (N : Nat) (x y : Int) (b1 b2 : Bool) {u : Nat} (hu : u < s.Places.toNat) {w : Arr Int} (hw : w.n ≤ 1000) : ∀ (q i n : Nat), i + q = s.Passages.n → q < n → (∃ j, i ≤ j ∧ j < s.Passages.n ∧ good s o help d u j) →
    ∃ (x' : Nat) (w' : Arr Int), x' < s.Places.toNat ∧ 0 ≤ d x' ∧ d x' < d u ∧ w'.n = w.n + 1 ∧ ∀ (k2 : Int → Bool → Arr Int → Option R), ways_Way_l11 N n x y (u : Int) s.Passages (s.Passages.n : Int) (i : Int) s b1 w ⟨s, (o : Int), help⟩ b2 ⟨s.Places.toNat, d⟩ k2 = k2 (x' : Int) false w' := by
  intro q
  induction q with
  | zero => intro i n h1 h2 ⟨j, h3, h4, _⟩; omega
  | succ q ih =>
    intro i n h1 h2 h3
    obtain ⟨n, rfl⟩ : ∃ m, n = m + 1 := ⟨n - 1, by omega⟩
    have hn := v.n
    have ok := mpOk v o help
    have hi : i < s.Passages.n := by omega
    have ho1 : oth o help (s.Passages.f i) (u : Int) < (s.Places.toNat : Int) ∧ oth o help (s.Passages.f i) (u : Int) ≠ (u : Int) := ok.o i u hi hu
    have hT : 1 ≤ (s.Passages.f i).Ticks ∧ (s.Passages.f i).Ticks ≤ 20 := ok.t i hi
    by_cases hg : good s o help d u i
    · obtain ⟨g1, g2, g3⟩ := hg
      have hwP : (oth o help (s.Passages.f i) (u : Int)).toNat < s.Places.toNat := by omega
      have hb := hd.inv.b200 ok ht hwP
      have hr : room (w.n + 1) = true := room_of (by omega)
      refine ⟨(oth o help (s.Passages.f i) (u : Int)).toNat, lst intC (w.n + 1) (catC w.n (Cod.cell intC w.f) (litC [SV.int IntKind.i64 (0 : Int)] [[SV.int IntKind.i64 (i : Int)]])), hwP, g2, by omega, rfl, fun k2 => ?_⟩
      · unfold ways_Way_l11 ways_Way_b11
        have hs : w64 (d (oth o help (s.Passages.f i) (u : Int)).toNat + (s.Passages.f i).Ticks) = d u := by rw [← g3]; exact w64_eq (by omega) (by omega)
        have c1 : (oth o help (s.Passages.f i) (u : Int)) ≥ 0 := g1
        have hlt : decide (oth o help (s.Passages.f i) (u : Int) < ((s.Places.toNat : Nat) : Int)) = true := by simp; omega
        have c3 : d (oth o help (s.Passages.f i) (u : Int)).toNat ≥ 0 := g2
        have hcast : (((oth o help (s.Passages.f i) (u : Int)).toNat : Nat) : Int) = oth o help (s.Passages.f i) (u : Int) := by omega
        simp only [ltT hi, nat_nonneg, Bool.and_self, cond_true, Int.toNat_natCast, other_eq N ho help (v.pass i hi), c1, decide_true, hlt, c3, ltT hu, hs, BEq.rfl, hr, hcast]
    · have h3' : ∃ j, i + 1 ≤ j ∧ j < s.Passages.n ∧ good s o help d u j := by
        obtain ⟨j, a, b, c⟩ := h3
        refine ⟨j, ?_, b, c⟩
        rcases Nat.lt_or_ge i j with e | e
        · exact e
        · have : j = i := by omega
          subst this
          exact absurd c hg
      obtain ⟨x', w', a1, a2, a3, a4, a5⟩ := ih (i + 1) n (by omega) (by omega) h3'
      refine ⟨x', w', a1, a2, a3, a4, fun k2 => ?_⟩
      unfold ways_Way_l11 ways_Way_b11
      simp only [ltT hi, nat_nonneg, Bool.and_self, cond_true, Int.toNat_natCast, w64_succ (show i < 1000000000000 by omega), other_eq N ho help (v.pass i hi), ltT hu]
      by_cases c1 : oth o help (s.Passages.f i) (u : Int) ≥ 0
      case neg => simp only [c1, decide_false, cond_false]; exact a5 k2
      have hwP : (oth o help (s.Passages.f i) (u : Int)).toNat < s.Places.toNat := by omega
      have hlt : decide (oth o help (s.Passages.f i) (u : Int) < ((s.Places.toNat : Nat) : Int)) = true := by simp; omega
      simp only [c1, decide_true, cond_true, hlt, Bool.and_self]
      by_cases c3 : d (oth o help (s.Passages.f i) (u : Int)).toNat ≥ 0
      case neg => simp only [c3, decide_false, cond_false]; exact a5 k2
      have hb := hd.inv.b200 ok ht hwP
      have hs : w64 (d (oth o help (s.Passages.f i) (u : Int)).toNat + (s.Passages.f i).Ticks) = d (oth o help (s.Passages.f i) (u : Int)).toNat + (s.Passages.f i).Ticks := w64_eq (by omega) (by omega)
      have c4 : (d (oth o help (s.Passages.f i) (u : Int)).toNat + (s.Passages.f i).Ticks == d u) = false := by
        have : ¬ (d (oth o help (s.Passages.f i) (u : Int)).toNat + (s.Passages.f i).Ticks = d u) := fun e => hg ⟨c1, c3, e⟩
        simpa using this
      simp only [c3, decide_true, cond_true, hs, c4, cond_false]
      exact a5 k2
end
theorem joined_eq {N : Nat} (hN : 20000 ≤ N) {s : api_Station} (v : VS s) {o : Nat} (ho : o < 4096) (help : Bool) {a b : Int} (ha : 0 ≤ a ∧ a < s.Places) (hb : 0 ≤ b ∧ b < s.Places) :
    ∃ d, Fin (mpOf s o help) b.toNat d ∧ ∀ (k : Bool → Option R), ways_level_joined N ⟨s, (o : Int), help⟩ a b k = k (decide (d a.toNat ≥ 0)) := by
  obtain ⟨d, f1, f2⟩ := far_eq (R := R) hN v ho help hb
  have hp := v.p
  have c2 : (decide ((0 : Int) ≤ a) && decide (a < ((s.Places.toNat : Nat) : Int))) = true := by simp; omega
  refine ⟨d, f1, fun k => ?_⟩
  rw [ways_level_joined_def]
  unfold ways_level_joined_m
  simp only [f2, c2, cond_true]
end
end Wy
end Go.Proofs.Ytpillmoddoccfab
set_option linter.unusedVariables false
set_option linter.unusedSimpArgs false
set_option linter.unusedSectionVars false
set_option maxHeartbeats 0
set_option maxRecDepth 100000
namespace Go.Proofs.Ytpillmoddoccfab
namespace Wy
open Go.Sx
open Classical
noncomputable section
variable {R : Type}
structure One (s : api_Station) (a b T : Int) : Prop where
  v : VS s
  n : s.Passages.n = 1
  p : s.Passages.f 0 = ⟨a, b, 4, T, 1, 0, 0⟩
theorem One.ab {s : api_Station} {a b T : Int} (h : One s a b T) : (0 ≤ a ∧ a < s.Places) ∧ (0 ≤ b ∧ b < s.Places) ∧ a ≠ b ∧ (1 ≤ T ∧ T ≤ 20) := by
  have hp := h.v.pass 0 (by rw [h.n]; decide)
  rw [h.p] at hp
  obtain ⟨p1, p2, p3, p4, _, _⟩ := hp
  simp only at p1 p2 p3 p4
  omega
theorem One.oth {s : api_Station} {a b T : Int} (h : One s a b T) (o : Nat) : Wy.oth o false (s.Passages.f 0) ((a.toNat : Nat) : Int) = if o.testBit 0 = false then b else -1 := by
  have := h.ab
  rw [h.p]
  unfold Wy.oth openP
  have e : ((a.toNat : Nat) : Int) = a := by omega
  simp only [e]
  cases hb : o.testBit 0 <;> simp [hb]
theorem One.dist {s : api_Station} {a b T : Int} (h : One s a b T) {o : Nat} {d : Nat → Int} (f : Fin (mpOf s o false) b.toNat d) : (o.testBit 0 = false → d a.toNat = T) ∧ (o.testBit 0 = true → d a.toNat < 0) := by
  have hab := h.ab
  have hT : (mpOf s o false).T 0 = T := by show (s.Passages.f 0).Ticks = T; rw [h.p]
  have hn : (mpOf s o false).n = 1 := h.n
  have hP : a.toNat < (mpOf s o false).P := by show a.toNat < s.Places.toNat; omega
  have ho : (mpOf s o false).o 0 a.toNat = if o.testBit 0 = false then b else -1 := h.oth o
  have hz := f.inv.z
  have hne : a.toNat ≠ b.toNat := by omega
  constructor
  · intro hb
    rw [if_pos hb] at ho
    have h1 := f.no a.toNat hP 0 (by omega)
    have h2 : 0 ≤ d a.toNat ∧ d a.toNat ≤ T := by
      unfold can at h1
      rw [ho, hT, hz] at h1
      refine Classical.byContradiction fun hn => h1 ⟨by omega, by omega, by omega⟩
    rcases f.inv.w a.toNat hP h2.1 with e | ⟨i, w1, w2, w3, w4⟩
    · exact absurd e hne
    · have : i = 0 := by omega
      subst this
      rw [ho, hT, hz] at w4
      omega
  · intro hb
    rw [if_neg (by rw [hb]; decide)] at ho
    refine Classical.byContradiction fun hn => ?_
    rcases f.inv.w a.toNat hP (by omega) with e | ⟨i, w1, w2, w3, w4⟩
    · exact hne e
    · have : i = 0 := by omega
      subst this
      rw [ho] at w2
      omega
theorem One.way {N : Nat} (hN : 20000 ≤ N) {s : api_Station} {a b T : Int} (h : One s a b T) :
    ∃ (l : Bool) (w : Arr Int), w.n = 1 ∧ ∀ (k : Int → Int → Bool → Arr Int → Option R), ways_Way N s 0 false a b k = k T 0 l w := by
  obtain ⟨ha, hb, hne, hT⟩ := h.ab
  have v := h.v
  obtain ⟨d, f1, f2⟩ := far_eq (R := R) hN v (o := 0) (by omega) false hb
  have hd := (h.dist f1).1 (by decide)
  have hbn : b.toNat < s.Places.toNat := by have := v.p; omega
  have han : a.toNat < s.Places.toNat := by have := v.p; omega
  have hca : ((a.toNat : Nat) : Int) = a := by omega
  have hcb : ((b.toNat : Nat) : Int) = b := by omega
  have c2 : (decide ((0 : Int) ≤ a) && decide (a < ((s.Places.toNat : Nat) : Int))) = true := by have := v.p; simp; omega
  have hneN : a.toNat ≠ b.toNat := by omega
  have hho : (mpOf s 0 false).o 0 a.toNat = b := (h.oth 0).trans (if_pos (by decide))
  have hgood : good s 0 false d a.toNat 0 := by
    have e : Wy.oth 0 false (s.Passages.f 0) ((a.toNat : Nat) : Int) = b := (h.oth 0).trans (if_pos (by decide))
    unfold good
    rw [e, f1.inv.z, hd, h.p]
    simp only
    omega
  obtain ⟨x', w', a1, a2, a3, a4, a5⟩ := way_l11 (R := R) v (by omega) false hbn f1 N a b true false han (w := lst intC 0 (zeroC [SV.int IntKind.i64 0])) (by show 0 ≤ 1000; decide) 1 0 N (by rw [h.n]) (by omega) ⟨0, Nat.le_refl _, by rw [h.n]; decide, hgood⟩
  have hx : x' = b.toNat := by
    rcases f1.inv.w x' a1 a2 with e | ⟨i, w1, w2, w3, w4⟩
    · exact e
    · exfalso
      have : i = 0 := by have : i < s.Passages.n := w1; rw [h.n] at this; omega
      subst this
      have hT0 : (mpOf s 0 false).T 0 = T := by show (s.Passages.f 0).Ticks = T; rw [h.p]
      rw [hT0] at w4
      omega
  subst hx
  refine ⟨false, w', a4, fun k => ?_⟩
  rw [ways_Way_def]
  unfold ways_Way_m
  have h0 : ¬ d a.toNat < 0 := by omega
  have key : ∀ (k0 : Bool → Arr Int → Option R), ways_Way_l9 N N a b a s true (lst intC 0 (zeroC [SV.int IntKind.i64 0])) ⟨s, 0, false⟩ false ⟨s.Places.toNat, d⟩ k0 = k0 false w' := fun k0 => by
    obtain ⟨n, hn⟩ : ∃ m, N = m + 2 := ⟨N - 2, by omega⟩
    have e1 : (a != b) = true := by simpa using hne
    have e2 : (((b.toNat : Nat) : Int) != b) = false := by rw [hcb]; exact bne_self_eq_false b
    have s1 : ways_Way_l9 N (n + 2) a b a s true (lst intC 0 (zeroC [SV.int IntKind.i64 0])) ⟨s, 0, false⟩ false ⟨s.Places.toNat, d⟩ k0 = ways_Way_l11 N N a b a s.Passages (s.Passages.n : Int) 0 s true (lst intC 0 (zeroC [SV.int IntKind.i64 0])) ⟨s, 0, false⟩ false ⟨s.Places.toNat, d⟩ (fun x1 b1 w1 => ways_Way_l9 N (n + 1) a b x1 s b1 w1 ⟨s, 0, false⟩ false ⟨s.Places.toNat, d⟩ k0) := by
      conv => lhs; unfold ways_Way_l9 ways_Way_b9
      rw [e1, cond_true]
    have s2 := a5 (fun x1 b1 w1 => ways_Way_l9 N (n + 1) a b x1 s b1 w1 ⟨s, 0, false⟩ false ⟨s.Places.toNat, d⟩ k0)
    rw [hca] at s2
    have s3 : ways_Way_l9 N (n + 1) a b ((b.toNat : Nat) : Int) s false w' ⟨s, 0, false⟩ false ⟨s.Places.toNat, d⟩ k0 = k0 false w' := by
      conv => lhs; unfold ways_Way_l9 ways_Way_b9
      rw [e2, cond_false]
    have s4 : ways_Way_l9 N N a b a s true (lst intC 0 (zeroC [SV.int IntKind.i64 0])) ⟨s, 0, false⟩ false ⟨s.Places.toNat, d⟩ k0 = ways_Way_l9 N (n + 2) a b a s true (lst intC 0 (zeroC [SV.int IntKind.i64 0])) ⟨s, 0, false⟩ false ⟨s.Places.toNat, d⟩ k0 := congrArg (fun m => ways_Way_l9 N m a b a s true (lst intC 0 (zeroC [SV.int IntKind.i64 0])) ⟨s, 0, false⟩ false ⟨s.Places.toNat, d⟩ k0) hn
    exact s4.trans (s1.trans (s2.trans s3))
  have f2' : ∀ k, _ := f2
  have hask := asked_ok (R := R) (show 200 ≤ N by omega) v (o := 0) (by omega) ha hb
  simp only [Int.natCast_zero] at hask f2
  simp only [hask, bne_self_eq_false, cond_false, f2, c2, cond_true, h0, decide_false]
  refine (key _).trans ?_
  simp only [c2, cond_true, hd]
theorem One.need {N : Nat} (hN : 20000 ≤ N) {s : api_Station} {a b T : Int} (h : One s a b T) :
    ∃ (l : Bool) (w : Arr Int), w.n = 1 ∧ w.f 0 = 0 ∧ ∀ (k : Int → Bool → Arr Int → Option R), ways_Needed N s 0 false a b k = k 0 l w := by
  obtain ⟨ha, hb, hne, hT⟩ := h.ab
  have v := h.v
  have hbit : ∀ m, m < 12 → (w64 (↑(BitVec.toNat (BitVec.ofInt (IntKind.bits IntKind.i64) (Int.fdiv (0 : Int) ((2 : Int) ^ min m (IntKind.bits IntKind.i64))) &&& BitVec.ofInt (IntKind.bits IntKind.i64) (1 : Int))) : Int) == (0 : Int)) = true := by decide +kernel
  have hor : ∀ m, m < 12 → w64 (↑(BitVec.toNat (BitVec.ofInt (IntKind.bits IntKind.i64) (0 : Int) ||| BitVec.ofInt (IntKind.bits IntKind.i64) (w64 ((1 : Int) * (2 : Int) ^ min m (IntKind.bits IntKind.i64))))) : Int) = ((2 ^ m : Nat) : Int) := by decide +kernel
  have h4 : ∀ m, m < 12 → 2 ^ m < 4096 ∧ ((2 ^ m).testBit 0 = decide (m = 0)) := by decide +kernel
  have join : ∀ m, m < 12 → ∀ (k : Bool → Option R), ways_level_joined N ⟨s, ((2 ^ m : Nat) : Int), false⟩ a b k = k (decide (m ≠ 0)) := fun m hm k => by
    obtain ⟨d, f1, f2⟩ := joined_eq (R := R) hN v (o := 2 ^ m) (h4 m hm).1 false ha hb
    rw [f2]
    congr 1
    have hd := h.dist f1
    rw [(h4 m hm).2] at hd
    by_cases e : m = 0
    · have := hd.2 (by simp [e])
      simp [e] at this ⊢
      omega
    · have := hd.1 (by simp [e])
      have h1 : d a.toNat ≥ 0 := by omega
      simp [e, h1]
  have tail : ∀ (q m n : Nat) (l : Bool) (w : Arr Int), m + q = 12 → 1 ≤ m → q < n → ∀ (k0 : Bool → Arr Int → Option R), ways_Needed_l8 N n 0 false a b (m : Int) s l w k0 = k0 l w := by
    intro q
    induction q with
    | zero =>
      intro m n l w h1 h1' h2 k0
      obtain ⟨n, rfl⟩ : ∃ m, n = m + 1 := ⟨n - 1, by omega⟩
      have : m = 12 := by omega
      subst this
      unfold ways_Needed_l8 ways_Needed_b8
      have c : ¬ (((12 : Nat) : Int) < 12) := by omega
      simp only [c, decide_false, cond_false]
    | succ q ih =>
      intro m n l w h1 h1' h2 k0
      obtain ⟨n, rfl⟩ : ∃ m, n = m + 1 := ⟨n - 1, by omega⟩
      have c : ((m : Int) < 12) := by omega
      have c0 : ¬ ((m : Int) < 0) := by omega
      unfold ways_Needed_l8 ways_Needed_b8
      simp only [c, decide_true, cond_true, c0, decide_false, cond_false, Int.toNat_natCast, hbit m (by omega), hor m (by omega), join m (by omega), w64_succ (show m < 1000000000000 by omega)]
      have e : decide (m ≠ 0) = true := decide_eq_true (by omega)
      simp only [e, Bool.not_true, cond_false]
      exact ih (m + 1) n l w (by omega) (by omega) (by omega) k0
  have hpu := Arr.Is.push_int (a := lst intC 0 (zeroC [SV.int IntKind.i64 0])) (n := 0) (g := fun _ => 0) Arr.Is.zero (z := [SV.int IntKind.i64 (0 : Int)]) (v := 0) rfl
  obtain ⟨d, f1, f2⟩ := joined_eq (R := R) hN v (o := 0) (by omega) false ha hb
  have hd := (h.dist f1).1 (by decide)
  have h1 : d a.toNat ≥ 0 := by omega
  refine ⟨false, _, hpu.1, hpu.2 0 (by omega), fun k => ?_⟩
  rw [ways_Needed_def]
  unfold ways_Needed_m
  have hask := asked_ok (R := R) (show 200 ≤ N by omega) v (o := 0) (by omega) ha hb
  simp only [Int.natCast_zero] at hask f2
  simp only [hask, bne_self_eq_false, cond_false, f2, h1, decide_true, Bool.not_true]
  obtain ⟨n, hn⟩ : ∃ m, N = m + 1 := ⟨N - 1, by omega⟩
  have first : ∀ (k0 : Bool → Arr Int → Option R), ways_Needed_l8 N (n + 1) 0 false a b 0 s true (lst intC 0 (zeroC [SV.int IntKind.i64 0])) k0 = ways_Needed_l8 N n 0 false a b ((1 : Nat) : Int) s false (lst intC (0 + 1) (catC 0 (Cod.cell intC (lst intC 0 (zeroC [SV.int IntKind.i64 0])).f) (litC [SV.int IntKind.i64 (0 : Int)] [[SV.int IntKind.i64 0]]))) k0 := fun k0 => by
    conv => lhs; unfold ways_Needed_l8 ways_Needed_b8
    have b0 := hbit 0 (by omega)
    have o0 := hor 0 (by omega)
    have j0 := join 0 (by omega)
    have t0 : Int.toNat (0 : Int) = 0 := rfl
    have c : ((0 : Int) < 12) := by omega
    have c0 : ¬ ((0 : Int) < 0) := by omega
    have e : decide ((0 : Nat) ≠ 0) = false := rfl
    simp only [c, decide_true, cond_true, c0, decide_false, cond_false, t0, b0, o0, j0, e, Bool.not_false]
    rfl
  have s4 : ∀ (k0 : Bool → Arr Int → Option R), ways_Needed_l8 N N 0 false a b 0 s true (lst intC 0 (zeroC [SV.int IntKind.i64 0])) k0 = ways_Needed_l8 N (n + 1) 0 false a b 0 s true (lst intC 0 (zeroC [SV.int IntKind.i64 0])) k0 := fun k0 => congrArg (fun m => ways_Needed_l8 N m 0 false a b 0 s true (lst intC 0 (zeroC [SV.int IntKind.i64 0])) k0) hn
  exact (s4 _).trans ((first _).trans (tail 11 1 n _ _ (by omega) (by omega) (by omega) _))
end
end Wy
end Go.Proofs.Ytpillmoddoccfab
