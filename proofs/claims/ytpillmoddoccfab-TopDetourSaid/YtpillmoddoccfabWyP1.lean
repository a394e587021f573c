/-
  Ways without steps, in plain terms: what is made less as long as something is, ends, and how.
-/
import Derived.Test.YtpillmoddoccfabM2
import Derived.Test.YtpillmoddoccfabSxMath
set_option linter.unusedVariables false
set_option linter.unusedSimpArgs false
set_option linter.unusedSectionVars false
set_option maxHeartbeats 0
set_option maxRecDepth 100000
namespace Go.Proofs.Ytpillmoddoccfab
namespace Wy
open Go.Sx
open Classical
noncomputable section

/-- Sums over the first places. -/
def sm (f : Nat → Int) : Nat → Int
  | 0 => 0
  | n + 1 => sm f n + f n
def ud (d : Nat → Int) (u : Nat) (x : Int) : Nat → Int := fun j => if j = u then x else d j
theorem ud_at (d : Nat → Int) (u : Nat) (x : Int) : ud d u x u = x := by simp [ud]
theorem ud_ne {d : Nat → Int} {u j : Nat} {x : Int} (h : j ≠ u) : ud d u x j = d j := by simp [ud, h]
theorem sm_congr {f g : Nat → Int} : ∀ {n : Nat}, (∀ j, j < n → f j = g j) → sm f n = sm g n := by
  intro n
  induction n with
  | zero => intro _; rfl
  | succ n ih => intro h; simp only [sm]; rw [ih (fun j hj => h j (by omega)), h n (by omega)]
theorem sm_ud {f g : Nat → Int} {u : Nat} : ∀ {n : Nat}, u < n → (∀ j, j ≠ u → g j = f j) → sm g n = sm f n - f u + g u := by
  intro n
  induction n with
  | zero => intro h; omega
  | succ n ih =>
    intro h hg
    simp only [sm]
    by_cases e : u = n
    · subst e
      rw [sm_congr (f := g) (g := f) (n := u) (fun j hj => hg j (by omega))]; omega
    · rw [ih (by omega) hg, hg n (by omega)]; omega
theorem sm_le {f : Nat → Int} {b : Int} : ∀ {n : Nat}, (∀ j, j < n → f j ≤ b) → sm f n ≤ n * b := by
  intro n
  induction n with
  | zero => intro _; simp [sm]
  | succ n ih =>
    intro h
    have := ih fun j hj => h j (by omega)
    have := h n (by omega)
    have : ((n + 1 : Nat) : Int) * b = n * b + b := by rw [Int.natCast_add, Int.add_mul]; simp
    simp only [sm]; omega
theorem sm_ge {f : Nat → Int} : ∀ {n : Nat}, (∀ j, j < n → 0 ≤ f j) → 0 ≤ sm f n := by
  intro n
  induction n with
  | zero => intro _; simp [sm]
  | succ n ih => intro h; have := ih fun j hj => h j (by omega); have := h n (by omega); simp only [sm]; omega

/-- A map: so many places and passages; where a passage leads from a place (below 0: nowhere); how long it takes. -/
structure Mp where
  P : Nat
  n : Nat
  o : Nat → Nat → Int
  T : Nat → Int
structure Mp.Ok (m : Mp) : Prop where
  p : m.P ≤ 10
  o : ∀ i u, i < m.n → u < m.P → m.o i u < m.P ∧ m.o i u ≠ (u : Int)
  t : ∀ i, i < m.n → 1 ≤ m.T i ∧ m.T i ≤ 20

/-- May a place be made less by a passage? -/
def can (m : Mp) (d : Nat → Int) (u i : Nat) : Prop := 0 ≤ m.o i u ∧ 0 ≤ d (m.o i u).toNat ∧ (d u < 0 ∨ d (m.o i u).toNat + m.T i < d u)
def one (m : Mp) (u i : Nat) (s : Bool × (Nat → Int)) : Bool × (Nat → Int) := if can m s.2 u i then (true, ud s.2 u (s.2 (m.o i u).toNat + m.T i)) else s
/-- The passages from one on, for a place. -/
def row (m : Mp) (u : Nat) : Nat → Nat → Bool × (Nat → Int) → Bool × (Nat → Int)
  | 0, _, s => s
  | r + 1, i, s => row m u r (i + 1) (one m u i s)
/-- The places from one on. -/
def rnd (m : Mp) : Nat → Nat → Bool × (Nat → Int) → Bool × (Nat → Int)
  | 0, _, s => s
  | r + 1, u, s => rnd m r (u + 1) (row m u m.n 0 s)

def cnt (m : Mp) (d : Nat → Int) : Int := sm (fun u => if d u < 0 then 0 else 1) m.P
def pot (m : Mp) (d : Nat → Int) : Int := sm (fun u => if d u < 0 then 1000 else d u) m.P
structure Inv (m : Mp) (to : Nat) (d : Nat → Int) : Prop where
  z : d to = 0
  b : ∀ u, u < m.P → d u ≤ 20 * (cnt m d - 1)
  w : ∀ u, u < m.P → 0 ≤ d u → u = to ∨ ∃ i, i < m.n ∧ 0 ≤ m.o i u ∧ 0 ≤ d (m.o i u).toNat ∧ d (m.o i u).toNat + m.T i ≤ d u
  neg : ∀ u, u < m.P → -1 ≤ d u

variable {m : Mp} (h : m.Ok) {to : Nat} (ht : to < m.P)
include h ht

theorem cnt_le (d : Nat → Int) : cnt m d ≤ m.P := by
  have := sm_le (f := fun u => if d u < 0 then 0 else 1) (b := 1) (n := m.P) (fun j hj => by show (if d j < 0 then (0 : Int) else 1) ≤ 1; split <;> omega)
  unfold cnt; omega
theorem Inv.b200 {d : Nat → Int} (hd : Inv m to d) {u : Nat} (hu : u < m.P) : d u ≤ 180 := by
  have := hd.b u hu
  have := cnt_le h ht d
  have := h.p
  omega
theorem pot_ge {d : Nat → Int} : 0 ≤ pot m d := sm_ge fun j hj => by show 0 ≤ (if d j < 0 then (1000 : Int) else d j); split <;> omega
theorem pot_le {d : Nat → Int} (hd : Inv m to d) : pot m d ≤ 10000 := by
  have := sm_le (f := fun u => if d u < 0 then 1000 else d u) (b := 1000) (n := m.P) (fun j hj => by
    show (if d j < 0 then (1000 : Int) else d j) ≤ 1000
    have := hd.b200 h ht hj
    split <;> omega)
  have := h.p
  unfold pot; omega

/-- A place that is made less. -/
theorem Inv.less {d : Nat → Int} (hd : Inv m to d) {u i : Nat} (hu : u < m.P) (hi : i < m.n) (hc : can m d u i) :
    Inv m to (ud d u (d (m.o i u).toNat + m.T i)) ∧ pot m (ud d u (d (m.o i u).toNat + m.T i)) < pot m d := by
  obtain ⟨c1, c2, c3⟩ := hc
  obtain ⟨o1, o2⟩ := h.o i u hi hu
  obtain ⟨t1, t2⟩ := h.t i hi
  have hv : (m.o i u).toNat < m.P := by omega
  have hvu : (m.o i u).toNat ≠ u := by omega
  have hto : u ≠ to := by
    intro e
    subst e
    have := hd.z
    omega
  have hbv := hd.b _ hv
  generalize hx : d (m.o i u).toNat + m.T i = x at *
  have hx0 : 1 ≤ x := by omega
  have hcnt : cnt m (ud d u x) = cnt m d + (if d u < 0 then 1 else 0) := by
    unfold cnt
    rw [sm_ud (f := fun j => if d j < 0 then 0 else 1) (g := fun j => if ud d u x j < 0 then 0 else 1) hu (fun j hj => by simp only [ud_ne hj])]
    simp only [ud_at]
    rw [if_neg (show ¬ x < 0 by omega)]
    by_cases e : d u < 0
    · rw [if_pos e, if_pos e]; omega
    · rw [if_neg e, if_neg e]; omega
  have hpot : pot m (ud d u x) = pot m d - (if d u < 0 then 1000 else d u) + x := by
    unfold pot
    rw [sm_ud (f := fun j => if d j < 0 then 1000 else d j) (g := fun j => if ud d u x j < 0 then 1000 else ud d u x j) hu (fun j hj => by simp only [ud_ne hj])]
    simp only [ud_at]
    rw [if_neg (show ¬ x < 0 by omega)]
  have hb200 := hd.b200 h ht hv
  refine ⟨⟨by rw [ud_ne (Ne.symm hto)]; exact hd.z, fun j hj => ?_, fun j hj hj0 => ?_, fun j hj => ?_⟩, ?_⟩
  · by_cases e : j = u
    · subst e
      rw [ud_at, hcnt]
      have := hd.b j hj
      split <;> omega
    · rw [ud_ne e, hcnt]
      have := hd.b j hj
      split <;> omega
  · by_cases e : j = u
    · subst e
      exact .inr ⟨i, hi, c1, by rw [ud_ne hvu]; exact c2, by rw [ud_ne hvu, ud_at]; omega⟩
    · rw [ud_ne e] at hj0
      rcases hd.w j hj hj0 with hw | ⟨i', w1, w2, w3, w4⟩
      · exact .inl hw
      · refine .inr ⟨i', w1, w2, ?_, ?_⟩
        · by_cases e2 : (m.o i' j).toNat = u
          · rw [e2, ud_at]; omega
          · rw [ud_ne e2]; exact w3
        · rw [ud_ne e]
          by_cases e2 : (m.o i' j).toNat = u
          · rw [e2, ud_at]
            rw [e2] at w3 w4
            omega
          · rw [ud_ne e2]; exact w4
  · by_cases e : j = u
    · subst e; rw [ud_at]; omega
    · rw [ud_ne e]; exact hd.neg j hj
  · rw [hpot]
    split <;> omega

/-- What one passage does. -/
theorem one_inv {u i : Nat} (hu : u < m.P) (hi : i < m.n) {s : Bool × (Nat → Int)} (hs : Inv m to s.2) :
    Inv m to (one m u i s).2 ∧ pot m (one m u i s).2 ≤ pot m s.2 ∧ (s.1 = true → (one m u i s).1 = true) ∧ ((one m u i s).1 = true → s.1 = true ∨ pot m (one m u i s).2 < pot m s.2) ∧
    ((one m u i s).1 = false → (one m u i s) = s ∧ ¬ can m s.2 u i) := by
  unfold one
  by_cases hc : can m s.2 u i
  · rw [if_pos hc]
    obtain ⟨a, b⟩ := hs.less h ht hu hi hc
    exact ⟨a, Int.le_of_lt b, fun _ => rfl, fun _ => .inr b, fun e => by cases e⟩
  · rw [if_neg hc]
    exact ⟨hs, Int.le_refl _, fun e => e, fun e => .inl e, fun _ => ⟨rfl, hc⟩⟩
theorem row_inv {u : Nat} (hu : u < m.P) : ∀ (r i : Nat) (s : Bool × (Nat → Int)), i + r = m.n → Inv m to s.2 →
    Inv m to (row m u r i s).2 ∧ pot m (row m u r i s).2 ≤ pot m s.2 ∧ (s.1 = true → (row m u r i s).1 = true) ∧ ((row m u r i s).1 = true → s.1 = true ∨ pot m (row m u r i s).2 < pot m s.2) ∧
    ((row m u r i s).1 = false → (row m u r i s) = s ∧ ∀ j, i ≤ j → j < m.n → ¬ can m s.2 u j) := by
  intro r
  induction r with
  | zero => intro i s h1 h2; exact ⟨h2, Int.le_refl _, fun e => e, fun e => .inl e, fun _ => ⟨rfl, fun j h3 h4 => by omega⟩⟩
  | succ r ih =>
    intro i s h1 h2
    obtain ⟨a1, a2, a3, a4, a5⟩ := one_inv h ht hu (i := i) (by omega) h2
    obtain ⟨b1, b2, b3, b4, b5⟩ := ih (i + 1) (one m u i s) (by omega) a1
    simp only [row]
    refine ⟨b1, Int.le_trans b2 a2, fun e => b3 (a3 e), fun e => ?_, fun e => ?_⟩
    · rcases b4 e with e1 | e1
      · rcases a4 e1 with e2 | e2
        · exact .inl e2
        · exact .inr (by omega)
      · exact .inr (by omega)
    · obtain ⟨c1, c2⟩ := b5 e
      have hf : (one m u i s).1 = false := by rw [← c1]; exact e
      obtain ⟨d1, d2⟩ := a5 hf
      refine ⟨by rw [c1, d1], fun j h3 h4 => ?_⟩
      by_cases ej : j = i
      · subst ej; exact d2
      · have := c2 j (by omega) h4
        rw [d1] at this
        exact this
theorem rnd_inv : ∀ (r u : Nat) (s : Bool × (Nat → Int)), u + r = m.P → Inv m to s.2 →
    Inv m to (rnd m r u s).2 ∧ pot m (rnd m r u s).2 ≤ pot m s.2 ∧ (s.1 = true → (rnd m r u s).1 = true) ∧ ((rnd m r u s).1 = true → s.1 = true ∨ pot m (rnd m r u s).2 < pot m s.2) ∧
    ((rnd m r u s).1 = false → (rnd m r u s) = s ∧ ∀ v, u ≤ v → v < m.P → ∀ j, j < m.n → ¬ can m s.2 v j) := by
  intro r
  induction r with
  | zero => intro u s h1 h2; exact ⟨h2, Int.le_refl _, fun e => e, fun e => .inl e, fun _ => ⟨rfl, fun j h3 h4 => by omega⟩⟩
  | succ r ih =>
    intro u s h1 h2
    obtain ⟨a1, a2, a3, a4, a5⟩ := row_inv h ht (u := u) (by omega) m.n 0 s (by omega) h2
    obtain ⟨b1, b2, b3, b4, b5⟩ := ih (u + 1) (row m u m.n 0 s) (by omega) a1
    simp only [rnd]
    refine ⟨b1, Int.le_trans b2 a2, fun e => b3 (a3 e), fun e => ?_, fun e => ?_⟩
    · rcases b4 e with e1 | e1
      · rcases a4 e1 with e2 | e2
        · exact .inl e2
        · exact .inr (by omega)
      · exact .inr (by omega)
    · obtain ⟨c1, c2⟩ := b5 e
      have hf : (row m u m.n 0 s).1 = false := by rw [← c1]; exact e
      obtain ⟨d1, d2⟩ := a5 hf
      refine ⟨by rw [c1, d1], fun v h3 h4 j hj => ?_⟩
      by_cases ej : v = u
      · subst ej; exact d2 j (Nat.zero_le _) hj
      · have := c2 v (by omega) h4 j hj
        rw [d1] at this
        exact this
omit h ht

/-- Nothing can be made less. -/
structure Fin (m : Mp) (to : Nat) (d : Nat → Int) : Prop where
  inv : Inv m to d
  no : ∀ v, v < m.P → ∀ j, j < m.n → ¬ can m d v j

def start (to : Nat) : Nat → Int := ud (fun _ => -1) to 0
theorem start_inv {m : Mp} {to : Nat} (ht : to < m.P) : Inv m to (start to) := by
  have hc : cnt m (start to) = 1 := by
    unfold cnt start
    rw [sm_ud (f := fun _ => 0) (g := fun j => if ud (fun _ => -1) to 0 j < 0 then 0 else 1) ht (fun j hj => by simp only [ud_ne hj]; rfl)]
    have : sm (fun _ => (0 : Int)) m.P = 0 := by
      generalize m.P = n
      induction n with
      | zero => rfl
      | succ n ih => simp only [sm, ih]; rfl
    rw [this, ud_at]; rfl
  refine ⟨ud_at _ _ _, fun u hu => ?_, fun u hu h0 => ?_, fun u hu => ?_⟩
  · rw [hc]
    by_cases e : u = to
    · subst e; unfold start; rw [ud_at]; omega
    · unfold start; rw [ud_ne e]; omega
  · by_cases e : u = to
    · exact .inl e
    · unfold start at h0; rw [ud_ne e] at h0; omega
  · by_cases e : u = to
    · subst e; unfold start; rw [ud_at]; omega
    · unfold start; rw [ud_ne e]; omega

theorem Fin.le {m : Mp} {to : Nat} {d : Nat → Int} (f : Fin m to d) {v j : Nat} (hv : v < m.P) (hj : j < m.n) (h0 : 0 ≤ m.o j v) (h1 : 0 ≤ d (m.o j v).toNat) : 0 ≤ d v ∧ d v ≤ d (m.o j v).toNat + m.T j := by
  have := f.no v hv j hj
  unfold can at this
  constructor
  · rcases Int.lt_or_le (d v) 0 with e | e
    · exact absurd ⟨h0, h1, .inl e⟩ this
    · exact e
  · rcases Int.lt_or_le (d (m.o j v).toNat + m.T j) (d v) with e | e
    · exact absurd ⟨h0, h1, .inr e⟩ this
    · exact e

/-- With more passages no way is longer. -/
theorem Fin.more {m m' : Mp} (ok : m.Ok) {to : Nat} {d d' : Nat → Int} (f : Fin m to d) (f' : Fin m' to d') (hP : m'.P = m.P) (hn : m'.n = m.n) (hT : m'.T = m.T) (ho : ∀ i u, 0 ≤ m.o i u → m'.o i u = m.o i u) (hto : to < m.P) :
    ∀ (k : Nat) (u : Nat), u < m.P → 0 ≤ d u → d u ≤ k → 0 ≤ d' u ∧ d' u ≤ d u := by
  intro k
  induction k with
  | zero =>
    intro u hu h0 hk
    rcases f.inv.w u hu h0 with rfl | ⟨i, w1, w2, w3, w4⟩
    · rw [f.inv.z, f'.inv.z]; omega
    · have := ok.t i w1
      omega
  | succ k ih =>
    intro u hu h0 hk
    rcases f.inv.w u hu h0 with rfl | ⟨i, w1, w2, w3, w4⟩
    · rw [f.inv.z, f'.inv.z]; omega
    · have t1 := ok.t i w1
      have o1 := ok.o i u w1 hu
      obtain ⟨a, b⟩ := ih (m.o i u).toNat (by omega) w3 (by omega)
      have e := ho i u w2
      obtain ⟨c, e2⟩ := f'.le (v := u) (j := i) (by omega) (by omega) (by rw [e]; exact w2) (by rw [e]; exact a)
      rw [e, hT] at e2
      exact ⟨c, by omega⟩
end
end Wy
end Go.Proofs.Ytpillmoddoccfab
