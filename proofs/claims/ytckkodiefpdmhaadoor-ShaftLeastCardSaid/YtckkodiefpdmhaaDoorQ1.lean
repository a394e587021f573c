import Derived.Test.YtckkodiefpdmhaaDoorG3
import Derived.Test.YtckkodiefpdmhaaDoorSxMath
set_option linter.unusedSectionVars false
set_option linter.unusedVariables false
set_option linter.unusedSimpArgs false
set_option maxHeartbeats 0
set_option maxRecDepth 100000
namespace Go.Proofs.YtckkodiefpdmhaaDoor
open Go.Sx
open Classical
noncomputable section
variable {R : Type}
theorem ltF {a b : Nat} (h : b ≤ a) : decide ((a : Int) < (b : Int)) = false := by simp; omega
theorem ltT {a b : Nat} (h : a < b) : decide ((a : Int) < (b : Int)) = true := by simp; omega
theorem w0 : w64 (0 + 1) = 1 := by rw [w64_eq (by omega) (by omega)]; rfl
theorem w1 : w64 (1 + 1) = 2 := by rw [w64_eq (by omega) (by omega)]; rfl
theorem w2 : w64 (2 + 1) = 3 := by rw [w64_eq (by omega) (by omega)]; rfl
theorem c3 : ((3 : Nat) : Int) = 3 := rfl
theorem lt0 : decide ((0 : Int) < 3) = true := rfl
theorem lt1 : decide ((1 : Int) < 3) = true := rfl
theorem lt2 : decide ((2 : Int) < 3) = true := rfl
theorem lt3 : decide ((3 : Int) < 3) = false := rfl
theorem pk0 (a b c : Int) : pickI 0 0 [a, b, c] = a := rfl
theorem pk1 (a b c : Int) : pickI 1 0 [a, b, c] = b := rfl
theorem pk2 (a b c : Int) : pickI 2 0 [a, b, c] = c := rfl
theorem e00 : ((0 : Int) == ((0 : Nat) : Int)) = true := rfl
theorem e01 : ((0 : Int) == ((0 + 1 : Nat) : Int)) = false := rfl
theorem e02 : ((0 : Int) == ((0 + 1 + 1 : Nat) : Int)) = false := rfl
theorem e10 : ((1 : Int) == ((0 : Nat) : Int)) = false := rfl
theorem e11 : ((1 : Int) == ((0 + 1 : Nat) : Int)) = true := rfl
theorem e12 : ((1 : Int) == ((0 + 1 + 1 : Nat) : Int)) = false := rfl
theorem e20 : ((2 : Int) == ((0 : Nat) : Int)) = false := rfl
theorem e21 : ((2 : Int) == ((0 + 1 : Nat) : Int)) = false := rfl
theorem e22 : ((2 : Int) == ((0 + 1 + 1 : Nat) : Int)) = true := rfl
theorem eq3 {a b : Arr3_int} (h0 : a.a0 = b.a0) (h1 : a.a1 = b.a1) (h2 : a.a2 = b.a2) : a = b := by
  cases a; cases b; simp at h0 h1 h2; subst h0 h1 h2; rfl
theorem within_eq (N : Nat) (n lo hi : Int) (k : Bool → Option R) : newelref09_within N n lo hi k = k (decide (lo ≤ n ∧ n ≤ hi)) := by
  rw [newelref09_within_def]
  unfold newelref09_within_m
  by_cases h : n ≥ lo
  · have : lo ≤ n := h
    simp only [h, decide_true, cond_true, this, true_and]
  · have : ¬ (lo ≤ n ∧ n ≤ hi) := fun g => h g.1
    rw [decide_eq_false this]
    simp only [h, decide_false, cond_false]
def ins (s : api_Shaft) (c : Arr3_int) : Prop := (0 ≤ c.a0 ∧ c.a0 < s.Size.a0) ∧ (0 ≤ c.a1 ∧ c.a1 < s.Size.a1) ∧ (0 ≤ c.a2 ∧ c.a2 < s.Size.a2)
def e18 (n : Int) : Prop := 1 ≤ n ∧ n ≤ 8
def E3 (e : Arr3_int) : Prop := e18 e.a0 ∧ e18 e.a1 ∧ e18 e.a2
structure VS (s : api_Shaft) : Prop where
  size : E3 s.Size
  many : s.Walls.n ≤ 256
  walls : ∀ i, i < s.Walls.n → ins s (s.Walls.f i)
def errS (s : api_Shaft) : Int := if VS s then 0 else 90
def errC (s : api_Shaft) (e : Arr3_int) : Int := if VS s then (if E3 e then 0 else 91) else 90
theorem gt_big {n : Nat} : decide (((n : Nat) : Int) > (256 : Int)) = !decide (n ≤ 256) := by
  by_cases h : n ≤ 256
  · rw [decide_eq_true h, decide_eq_false (by omega)]; rfl
  · rw [decide_eq_false h, decide_eq_true (by omega)]; rfl
theorem shCheck_l13 {s : api_Shaft} {c : Arr3_int} (a : Arr Arr3_int) (m i : Int) (N n : Nat) (kr : Int → Option R) (k4 : Unit → Option R) : shaft_Check_l13 N (n + 4) a m i c 0 s kr k4 = if ins s c then k4 () else kr 90 := by
  simp only [shaft_Check_l13, shaft_Check_b13, ↓cond_if, ↓Bool.and_eq_true, ↓decide_eq_true_eq, pk0, pk1, pk2, w0, w1, w2, c3, Int.reduceLT, Int.reduceLE, Int.lt_irrefl, and_self, if_true, if_false]
  by_cases hc : ins s c
  · rw [if_pos hc]
    unfold ins at hc
    repeat' split
    all_goals first | rfl | (exfalso; omega)
  · rw [if_neg hc]
    unfold ins at hc
    repeat' split
    all_goals first | rfl | (exfalso; omega)
theorem shCheck_l10 {s : api_Shaft} (hw : s.Walls.n ≤ 256) (N : Nat) (hN : 4 ≤ N) (kr : Int → Option R) (k2 : Unit → Option R) : ∀ (q i n : Nat), i + q = s.Walls.n → q < n → (∀ j, j < i → ins s (s.Walls.f j)) →
    shaft_Check_l10 N n s.Walls (s.Walls.n : Int) (i : Int) s kr k2 = if (∀ j, j < s.Walls.n → ins s (s.Walls.f j)) then k2 () else kr 90 := by
  obtain ⟨N, rfl⟩ : ∃ m, N = m + 4 := ⟨N - 4, by omega⟩
  intro q
  induction q with
  | zero =>
    intro i n h1 h2 h3
    obtain ⟨n, rfl⟩ : ∃ m, n = m + 1 := ⟨n - 1, by omega⟩
    rw [if_pos (fun j hj => h3 j (by omega))]
    unfold shaft_Check_l10 shaft_Check_b10
    simp only [ltF (show s.Walls.n ≤ i by omega), cond_false]
  | succ q ih =>
    intro i n h1 h2 h3
    obtain ⟨n, rfl⟩ : ∃ m, n = m + 1 := ⟨n - 1, by omega⟩
    unfold shaft_Check_l10 shaft_Check_b10
    simp only [ltT (show i < s.Walls.n by omega), nat_nonneg, Bool.and_self, cond_true, Int.toNat_natCast (n := i), w64_succ (show i < 1000000000000 by omega), shCheck_l13]
    by_cases c : ins s (s.Walls.f i)
    · rw [if_pos c]
      exact ih (i + 1) n (by omega) (by omega) (fun j hj => by
        by_cases e : j = i
        · subst e; exact c
        · exact h3 j (by omega))
    · rw [if_neg c, if_neg (fun h => c (h i (by omega)))]
theorem shCheck_eq (s : api_Shaft) (N : Nat) (hN : 300 ≤ N) (k : Int → Option R) : shaft_Check N s k = k (errS s) := by
  rw [shaft_Check_def]
  unfold shaft_Check_m
  rw [gt_big]
  have first : ∀ (n : Nat) (kr : Int → Option R) (k0 : Unit → Option R), shaft_Check_l2 N (n + 4) s.Size 0 s kr k0 = if E3 s.Size then k0 () else kr 90 := by
    intro n kr k0
    simp only [shaft_Check_l2, shaft_Check_b2, ↓cond_if, ↓Bool.and_eq_true, ↓decide_eq_true_eq, pk0, pk1, pk2, w0, w1, w2, c3, Int.reduceLT, Int.reduceLE, Int.lt_irrefl, and_self, if_true, if_false]
    by_cases hc : E3 s.Size
    · rw [if_pos hc]
      unfold E3 e18 at hc
      repeat' split
      all_goals first | rfl | (exfalso; omega)
    · rw [if_neg hc]
      unfold E3 e18 at hc
      repeat' split
      all_goals first | rfl | (exfalso; omega)
  have hl := fun kr k0 => first (N - 4) kr k0
  rw [show N - 4 + 4 = N by omega] at hl
  rw [hl]
  by_cases hs : E3 s.Size
  rotate_left
  · have : ¬ VS s := fun v => hs v.size
    rw [if_neg hs, errS, if_neg this]
  rw [if_pos hs]
  by_cases h : s.Walls.n ≤ 256
  rotate_left
  · have : ¬ VS s := fun v => h v.many
    simp only [h, decide_false, Bool.not_false, cond_true, errS, if_neg this]
  simp only [h, decide_true, Bool.not_true, cond_false]
  have := shCheck_l10 (R := R) h N (by omega) (fun r => k r) (fun _ => k 0) s.Walls.n 0 N (by omega) (by omega) (fun j hj => by omega)
  rw [show ((0 : Nat) : Int) = 0 from rfl] at this
  rw [this]
  by_cases c : ∀ j, j < s.Walls.n → ins s (s.Walls.f j)
  · rw [if_pos c, errS, if_pos ⟨hs, h, c⟩]
  · rw [if_neg c, errS, if_neg (fun v => c v.walls)]
theorem shcheck_eq (s : api_Shaft) (e : Arr3_int) (N : Nat) (hN : 300 ≤ N) (k : Int → Option R) : shaft_check N s e k = k (errC s e) := by
  rw [shaft_check_def]
  unfold shaft_check_m
  rw [shCheck_eq s N hN]
  by_cases v : VS s
  rotate_left
  · simp only [errS, errC, if_neg v]; rfl
  simp only [errS, errC, if_pos v]
  obtain ⟨n, rfl⟩ : ∃ m, N = m + 4 := ⟨N - 4, by omega⟩
  simp only [show ((0 : Int) != 0) = false from rfl, cond_false, shaft_check_l5, shaft_check_b5, ↓cond_if, ↓Bool.and_eq_true, ↓decide_eq_true_eq, pk0, pk1, pk2, w0, w1, w2, c3, Int.reduceLT, Int.reduceLE, Int.lt_irrefl, and_self, if_true, if_false]
  by_cases hc : E3 e
  · rw [if_pos hc]
    unfold E3 e18 at hc
    repeat' split
    all_goals first | rfl | (exfalso; omega) | simp_all
  · rw [if_neg hc]
    unfold E3 e18 at hc
    repeat' split
    all_goals first | rfl | (exfalso; omega) | simp_all
end
end Go.Proofs.YtckkodiefpdmhaaDoor
set_option linter.unusedVariables false
set_option linter.unusedSimpArgs false
set_option maxHeartbeats 0
set_option maxRecDepth 100000
namespace Go.Proofs.YtckkodiefpdmhaaDoor
open Go.Sx
open Classical
noncomputable section
variable {R : Type}
def inB (p z w : Arr3_int) : Prop := (p.a0 ≤ w.a0 ∧ w.a0 < p.a0 + z.a0) ∧ (p.a1 ≤ w.a1 ∧ w.a1 < p.a1 + z.a1) ∧ (p.a2 ≤ w.a2 ∧ w.a2 < p.a2 + z.a2)
def room3 (s : api_Shaft) (p z : Arr3_int) : Prop := (0 ≤ p.a0 ∧ p.a0 + z.a0 ≤ s.Size.a0) ∧ (0 ≤ p.a1 ∧ p.a1 + z.a1 ≤ s.Size.a1) ∧ (0 ≤ p.a2 ∧ p.a2 + z.a2 ≤ s.Size.a2)
def freeP (s : api_Shaft) (p z : Arr3_int) : Prop := room3 s p z ∧ ∀ i, i < s.Walls.n → ¬ inB p z (s.Walls.f i)
def hasW (s : api_Shaft) (c : Arr3_int) : Prop := ∃ i, i < s.Walls.n ∧ s.Walls.f i = c
def WM (s : api_Shaft) (m : Mp Arr3_int Unit) : Prop := ∀ c, m.has c = true ↔ hasW s c
theorem put3 (m : Mp Arr3_int Unit) (c c' : Arr3_int) (G : List SV → Nat → SV) : (mpD Arr3_intC unitC (putH [SV.int IntKind.i64 c.a0, SV.int IntKind.i64 c.a1, SV.int IntKind.i64 c.a2] (mpH Arr3_intC m)) G).has c' = true ↔ (c' = c ∨ m.has c' = true) := by
  show (keyEq [SV.int IntKind.i64 c'.a0, SV.int IntKind.i64 c'.a1, SV.int IntKind.i64 c'.a2] [SV.int IntKind.i64 c.a0, SV.int IntKind.i64 c.a1, SV.int IntKind.i64 c.a2] || m.has c') = true ↔ _
  rw [Bool.or_eq_true]
  have : (c' = c) ↔ (c'.a0 = c.a0 ∧ c'.a1 = c.a1 ∧ c'.a2 = c.a2) := ⟨fun h => by rw [h]; exact ⟨rfl, rfl, rfl⟩, fun h => eq3 h.1 h.2.1 h.2.2⟩
  simp [keyEq, eqCells, this]
theorem begin_l3 {s : api_Shaft} (hw : s.Walls.n ≤ 256) (N : Nat) (a b c d e f : Int) (k : Mp Arr3_int Unit → Option R) : ∀ (q i n : Nat) (m : Mp Arr3_int Unit), i + q = s.Walls.n → q < n → (∀ w, m.has w = true ↔ ∃ j, j < i ∧ s.Walls.f j = w) →
    ∃ m', WM s m' ∧ shaft_begin_l3 N n s.Walls (s.Walls.n : Int) (i : Int) a b c d e f m k = k m' := by
  intro q
  induction q with
  | zero =>
    intro i n m h1 h2 h3
    obtain ⟨n, rfl⟩ : ∃ m, n = m + 1 := ⟨n - 1, by omega⟩
    have : i = s.Walls.n := by omega
    subst this
    refine ⟨m, h3, ?_⟩
    unfold shaft_begin_l3 shaft_begin_b3
    simp only [ltF (Nat.le_refl _), cond_false]
  | succ q ih =>
    intro i n m h1 h2 h3
    obtain ⟨n, rfl⟩ : ∃ m, n = m + 1 := ⟨n - 1, by omega⟩
    unfold shaft_begin_l3 shaft_begin_b3
    simp only [ltT (show i < s.Walls.n by omega), nat_nonneg, Bool.and_self, cond_true, Int.toNat_natCast (n := i), w64_succ (show i < 1000000000000 by omega)]
    refine ih (i + 1) n _ (by omega) (by omega) (fun w => ?_)
    rw [put3, h3]
    constructor
    · rintro (rfl | ⟨j, hj, hw⟩)
      · exact ⟨i, by omega, rfl⟩
      · exact ⟨j, by omega, hw⟩
    · rintro ⟨j, hj, hw⟩
      by_cases e : j = i
      · subst e; exact .inl hw.symm
      · exact .inr ⟨j, by omega, hw⟩
theorem begin_eq {s : api_Shaft} (hw : s.Walls.n ≤ 256) (e : Arr3_int) (N : Nat) (hN : 300 ≤ N) (k : Int → Int → Int → Int → Int → Int → Mp Arr3_int Unit → Option R) :
    ∃ m, WM s m ∧ shaft_begin N s e k = k s.Size.a0 s.Size.a1 s.Size.a2 e.a0 e.a1 e.a2 m := by
  rw [shaft_begin_def]
  unfold shaft_begin_m
  have := begin_l3 (R := R) hw N s.Size.a0 s.Size.a1 s.Size.a2 e.a0 e.a1 e.a2 (fun r => k s.Size.a0 s.Size.a1 s.Size.a2 e.a0 e.a1 e.a2 r) s.Walls.n 0 N (mpD Arr3_intC unitC noH (noG CK.nil)) (by omega) (by omega) (fun w => by
    constructor
    · intro h; exact absurd (show false = true from h) (by simp)
    · rintro ⟨j, hj, _⟩; omega)
  rw [show ((0 : Nat) : Int) = 0 from rfl] at this
  obtain ⟨m, h1, h2⟩ := this
  exact ⟨m, h1, h2⟩
section
variable (N : Nat) {s : api_Shaft} (hs : E3 s.Size) (e : Arr3_int) (m : Mp Arr3_int Unit) {p z : Arr3_int} (hz : E3 z)
include hs hz
theorem shFree_l2 (n : Nat) (kr : Bool → Option R) (k0 : Unit → Option R) : shaft_crate_free_l2 N (n + 4) 0 s.Size.a0 s.Size.a1 s.Size.a2 e.a0 e.a1 e.a2 m p z kr k0 = if room3 s p z then k0 () else kr false := by
  obtain ⟨⟨a0, b0⟩, ⟨a1, b1⟩, ⟨a2, b2⟩⟩ := hs
  obtain ⟨⟨z0, y0⟩, ⟨z1, y1⟩, ⟨z2, y2⟩⟩ := hz
  simp only [shaft_crate_free_l2, shaft_crate_free_b2, ↓cond_if, ↓Bool.and_eq_true, ↓decide_eq_true_eq, pk0, pk1, pk2, w0, w1, w2, c3, Int.reduceLT, Int.reduceLE, Int.lt_irrefl, and_self, if_true, if_false]
  rw [w64_eq (show -9223372036854775808 ≤ s.Size.a0 - z.a0 by omega) (by omega), w64_eq (show -9223372036854775808 ≤ s.Size.a1 - z.a1 by omega) (by omega), w64_eq (show -9223372036854775808 ≤ s.Size.a2 - z.a2 by omega) (by omega)]
  by_cases hc : room3 s p z
  · rw [if_pos hc]
    unfold room3 at hc
    repeat' split
    all_goals first | rfl | (exfalso; omega)
  · rw [if_neg hc]
    unfold room3 at hc
    repeat' split
    all_goals first | rfl | (exfalso; omega)
variable (hr : room3 s p z)
include hr
theorem wsum : w64 (p.a0 + z.a0) = p.a0 + z.a0 ∧ w64 (p.a1 + z.a1) = p.a1 + z.a1 ∧ w64 (p.a2 + z.a2) = p.a2 + z.a2 := by
  obtain ⟨⟨a0, b0⟩, ⟨a1, b1⟩, ⟨a2, b2⟩⟩ := hs
  obtain ⟨⟨z0, y0⟩, ⟨z1, y1⟩, ⟨z2, y2⟩⟩ := hz
  unfold room3 at hr
  exact ⟨w64_eq (by omega) (by omega), w64_eq (by omega) (by omega), w64_eq (by omega) (by omega)⟩
theorem shFree_l14 (a b c d e f : Int) (x y : Int) (kr : Bool → Option R) (k6 : Unit → Option R) : ∀ (q n : Nat) (t : Int), t + q = p.a2 + z.a2 → 0 ≤ t → q < n →
    shaft_crate_free_l14 N n x y t a b c d e f m p z kr k6 = if (∃ t', t ≤ t' ∧ t' < p.a2 + z.a2 ∧ m.has ⟨x, y, t'⟩ = true) then kr false else k6 () := by
  have hsum := (wsum hs hz hr).2.2
  have hb : p.a2 + z.a2 ≤ 8 := by unfold room3 at hr; have := hs.2.2.2; omega
  intro q
  induction q with
  | zero =>
    intro n t h1 h0 h2
    obtain ⟨n, rfl⟩ : ∃ m, n = m + 1 := ⟨n - 1, by omega⟩
    rw [if_neg (by rintro ⟨t', h3, h4, _⟩; omega)]
    unfold shaft_crate_free_l14 shaft_crate_free_b14
    rw [hsum, decide_eq_false (by omega), cond_false]
  | succ q ih =>
    intro n t h1 h0 h2
    obtain ⟨n, rfl⟩ : ∃ m, n = m + 1 := ⟨n - 1, by omega⟩
    unfold shaft_crate_free_l14 shaft_crate_free_b14
    rw [hsum, decide_eq_true (show t < p.a2 + z.a2 by omega), cond_true]
    by_cases c : m.has ⟨x, y, t⟩ = true
    · rw [if_pos ⟨t, Int.le_refl _, by omega, c⟩]
      rw [c]; rfl
    · rw [Bool.not_eq_true] at c
      rw [c, cond_false, w64_eq (show -9223372036854775808 ≤ t + 1 by omega) (by omega)]
      dsimp only
      rw [ih n (t + 1) (by omega) (by omega) (by omega)]
      have : (∃ t', t + 1 ≤ t' ∧ t' < p.a2 + z.a2 ∧ m.has ⟨x, y, t'⟩ = true) ↔ (∃ t', t ≤ t' ∧ t' < p.a2 + z.a2 ∧ m.has ⟨x, y, t'⟩ = true) := by
        constructor
        · rintro ⟨t', h3, h4, h5⟩; exact ⟨t', by omega, h4, h5⟩
        · rintro ⟨t', h3, h4, h5⟩
          by_cases e : t' = t
          · subst e; rw [c] at h5; cases h5
          · exact ⟨t', by omega, h4, h5⟩
      simp only [this]
theorem shFree_l11 (hN : 20 ≤ N) (a b c d e f : Int) (x : Int) (kr : Bool → Option R) (k4 : Unit → Option R) : ∀ (q n : Nat) (t : Int), t + q = p.a1 + z.a1 → 0 ≤ t → q < n →
    shaft_crate_free_l11 N n x t a b c d e f m p z kr k4 = if (∃ t', t ≤ t' ∧ t' < p.a1 + z.a1 ∧ ∃ u, p.a2 ≤ u ∧ u < p.a2 + z.a2 ∧ m.has ⟨x, t', u⟩ = true) then kr false else k4 () := by
  have hsum := (wsum hs hz hr).2.1
  have hb : p.a1 + z.a1 ≤ 8 := by unfold room3 at hr; have := hs.2.1.2; omega
  intro q
  induction q with
  | zero =>
    intro n t h1 h0 h2
    obtain ⟨n, rfl⟩ : ∃ m, n = m + 1 := ⟨n - 1, by omega⟩
    rw [if_neg (by rintro ⟨t', h3, h4, _⟩; omega)]
    unfold shaft_crate_free_l11 shaft_crate_free_b11
    rw [hsum, decide_eq_false (by omega), cond_false]
  | succ q ih =>
    intro n t h1 h0 h2
    obtain ⟨n, rfl⟩ : ∃ m, n = m + 1 := ⟨n - 1, by omega⟩
    have hz2 := hz.2.2
    have hr2 : 0 ≤ p.a2 := by unfold room3 at hr; omega
    unfold e18 at hz2
    unfold shaft_crate_free_l11 shaft_crate_free_b11
    rw [hsum, decide_eq_true (show t < p.a1 + z.a1 by omega), cond_true]
    rw [shFree_l14 N hs m hz hr a b c d e f x t _ _ z.a2.toNat N p.a2 (by omega) hr2 (by omega)]
    by_cases g : ∃ t', p.a2 ≤ t' ∧ t' < p.a2 + z.a2 ∧ m.has ⟨x, t, t'⟩ = true
    · rw [if_pos g, if_pos ⟨t, Int.le_refl _, by omega, g⟩]
    · rw [if_neg g, w64_eq (show -9223372036854775808 ≤ t + 1 by omega) (by omega)]
      dsimp only
      rw [ih n (t + 1) (by omega) (by omega) (by omega)]
      have : (∃ t', t + 1 ≤ t' ∧ t' < p.a1 + z.a1 ∧ ∃ u, p.a2 ≤ u ∧ u < p.a2 + z.a2 ∧ m.has ⟨x, t', u⟩ = true) ↔ (∃ t', t ≤ t' ∧ t' < p.a1 + z.a1 ∧ ∃ u, p.a2 ≤ u ∧ u < p.a2 + z.a2 ∧ m.has ⟨x, t', u⟩ = true) := by
        constructor
        · rintro ⟨t', h3, h4, h5⟩; exact ⟨t', by omega, h4, h5⟩
        · rintro ⟨t', h3, h4, h5⟩
          by_cases e : t' = t
          · subst e; exact absurd h5 g
          · exact ⟨t', by omega, h4, h5⟩
      simp only [this]
theorem shFree_l8 (hN : 20 ≤ N) (a b c d e f : Int) (kr : Bool → Option R) (k2 : Unit → Option R) : ∀ (q n : Nat) (t : Int), t + q = p.a0 + z.a0 → 0 ≤ t → q < n →
    shaft_crate_free_l8 N n t a b c d e f m p z kr k2 = if (∃ t', t ≤ t' ∧ t' < p.a0 + z.a0 ∧ ∃ v, p.a1 ≤ v ∧ v < p.a1 + z.a1 ∧ ∃ u, p.a2 ≤ u ∧ u < p.a2 + z.a2 ∧ m.has ⟨t', v, u⟩ = true) then kr false else k2 () := by
  have hsum := (wsum hs hz hr).1
  have hb : p.a0 + z.a0 ≤ 8 := by unfold room3 at hr; have := hs.1.2; omega
  intro q
  induction q with
  | zero =>
    intro n t h1 h0 h2
    obtain ⟨n, rfl⟩ : ∃ m, n = m + 1 := ⟨n - 1, by omega⟩
    rw [if_neg (by rintro ⟨t', h3, h4, _⟩; omega)]
    unfold shaft_crate_free_l8 shaft_crate_free_b8
    rw [hsum, decide_eq_false (by omega), cond_false]
  | succ q ih =>
    intro n t h1 h0 h2
    obtain ⟨n, rfl⟩ : ∃ m, n = m + 1 := ⟨n - 1, by omega⟩
    have hz2 := hz.2.1
    have hr2 : 0 ≤ p.a1 := by unfold room3 at hr; omega
    unfold e18 at hz2
    unfold shaft_crate_free_l8 shaft_crate_free_b8
    rw [hsum, decide_eq_true (show t < p.a0 + z.a0 by omega), cond_true]
    rw [shFree_l11 N hs m hz hr hN a b c d e f t _ _ z.a1.toNat N p.a1 (by omega) hr2 (by omega)]
    by_cases g : ∃ t', p.a1 ≤ t' ∧ t' < p.a1 + z.a1 ∧ ∃ u, p.a2 ≤ u ∧ u < p.a2 + z.a2 ∧ m.has ⟨t, t', u⟩ = true
    · rw [if_pos g, if_pos ⟨t, Int.le_refl _, by omega, g⟩]
    · rw [if_neg g, w64_eq (show -9223372036854775808 ≤ t + 1 by omega) (by omega)]
      dsimp only
      rw [ih n (t + 1) (by omega) (by omega) (by omega)]
      have : (∃ t', t + 1 ≤ t' ∧ t' < p.a0 + z.a0 ∧ ∃ v, p.a1 ≤ v ∧ v < p.a1 + z.a1 ∧ ∃ u, p.a2 ≤ u ∧ u < p.a2 + z.a2 ∧ m.has ⟨t', v, u⟩ = true) ↔ (∃ t', t ≤ t' ∧ t' < p.a0 + z.a0 ∧ ∃ v, p.a1 ≤ v ∧ v < p.a1 + z.a1 ∧ ∃ u, p.a2 ≤ u ∧ u < p.a2 + z.a2 ∧ m.has ⟨t', v, u⟩ = true) := by
        constructor
        · rintro ⟨t', h3, h4, h5⟩; exact ⟨t', by omega, h4, h5⟩
        · rintro ⟨t', h3, h4, h5⟩
          by_cases e : t' = t
          · subst e; exact absurd h5 g
          · exact ⟨t', by omega, h4, h5⟩
      simp only [this]
end
theorem shFree_eq {s : api_Shaft} (v : VS s) (e : Arr3_int) {m : Mp Arr3_int Unit} (hm : WM s m) {p z : Arr3_int} (hz : E3 z) (N : Nat) (hN : 300 ≤ N) (k : Bool → Option R) :
    shaft_crate_free N p z s.Size.a0 s.Size.a1 s.Size.a2 e.a0 e.a1 e.a2 m k = k (decide (freeP s p z)) := by
  rw [shaft_crate_free_def]
  unfold shaft_crate_free_m
  obtain ⟨n, rfl⟩ : ∃ m, N = m + 4 := ⟨N - 4, by omega⟩
  rw [shFree_l2 (n + 4) v.size e m hz]
  by_cases hr : room3 s p z
  rotate_left
  · rw [if_neg hr, decide_eq_false (fun h : freeP s p z => hr h.1)]
  rw [if_pos hr]
  have hr' := hr
  unfold room3 at hr'
  have hz' := hz.1
  unfold e18 at hz'
  rw [shFree_l8 (n + 4) v.size m hz hr (by omega) _ _ _ _ _ _ _ _ z.a0.toNat (n + 4) p.a0 (by omega) (by omega) (by omega)]
  have : (∃ t', p.a0 ≤ t' ∧ t' < p.a0 + z.a0 ∧ ∃ v, p.a1 ≤ v ∧ v < p.a1 + z.a1 ∧ ∃ u, p.a2 ≤ u ∧ u < p.a2 + z.a2 ∧ m.has ⟨t', v, u⟩ = true) ↔ ¬ (∀ i, i < s.Walls.n → ¬ inB p z (s.Walls.f i)) := by
    constructor
    · rintro ⟨x, h1, h2, y, h3, h4, u, h5, h6, h7⟩ h
      rw [hm] at h7
      obtain ⟨i, hi, he⟩ := h7
      refine h i hi ?_
      rw [he]
      exact ⟨⟨h1, h2⟩, ⟨h3, h4⟩, ⟨h5, h6⟩⟩
    · intro h
      obtain ⟨i, hi⟩ := Classical.not_forall.1 h
      obtain ⟨h1, h2⟩ := Classical.not_imp.1 hi
      have h2 := Classical.not_not.1 h2
      obtain ⟨⟨a, b⟩, ⟨c, d⟩, ⟨f, g⟩⟩ := h2
      exact ⟨_, a, b, _, c, d, _, f, g, by rw [hm]; exact ⟨i, h1, rfl⟩⟩
  by_cases c : ∀ i, i < s.Walls.n → ¬ inB p z (s.Walls.f i)
  · rw [if_neg (fun h => this.1 h c), decide_eq_true (show freeP s p z from ⟨hr, c⟩)]
  · rw [if_pos (this.2 c), decide_eq_false (fun h : freeP s p z => c h.2)]
end
end Go.Proofs.YtckkodiefpdmhaaDoor
set_option linter.unusedVariables false
set_option linter.unusedSimpArgs false
set_option maxHeartbeats 0
set_option maxRecDepth 100000
namespace Go.Proofs.YtckkodiefpdmhaaDoor
open Go.Sx
open Classical
noncomputable section
variable {R : Type}
def ord (t : Int) : Arr3_int := if t = 0 then ⟨0, 1, 2⟩ else if t = 1 then ⟨0, 2, 1⟩ else if t = 2 then ⟨1, 0, 2⟩ else if t = 3 then ⟨1, 2, 0⟩ else if t = 4 then ⟨2, 0, 1⟩ else ⟨2, 1, 0⟩
def pk (e : Arr3_int) (i : Int) : Int := if i = 0 then e.a0 else if i = 1 then e.a1 else e.a2
def along (e : Arr3_int) (t : Int) : Arr3_int := ⟨pk e (ord t).a0, pk e (ord t).a1, pk e (ord t).a2⟩
def T6 (t : Int) : Prop := 0 ≤ t ∧ t ≤ 5
theorem T6.cases {t : Int} (h : T6 t) : t = 0 ∨ t = 1 ∨ t = 2 ∨ t = 3 ∨ t = 4 ∨ t = 5 := by unfold T6 at h; omega
theorem along_E3 {e : Arr3_int} (he : E3 e) {t : Int} (ht : T6 t) : E3 (along e t) := by
  obtain ⟨h0, h1, h2⟩ := he
  rcases ht.cases with rfl | rfl | rfl | rfl | rfl | rfl
  · exact ⟨h0, h1, h2⟩
  · exact ⟨h0, h2, h1⟩
  · exact ⟨h1, h0, h2⟩
  · exact ⟨h1, h2, h0⟩
  · exact ⟨h2, h0, h1⟩
  · exact ⟨h2, h1, h0⟩
theorem shLong_eq (e : Arr3_int) (S : Arr3_int) (m : Mp Arr3_int Unit) {t : Int} (ht : T6 t) (N : Nat) (hN : 4 ≤ N) (k : Arr3_int → Option R) : shaft_crate_long N t S.a0 S.a1 S.a2 e.a0 e.a1 e.a2 m k = k (along e t) := by
  obtain ⟨n, rfl⟩ : ∃ m, N = m + 4 := ⟨N - 4, by omega⟩
  rw [shaft_crate_long_def]
  unfold shaft_crate_long_m
  have key : ∀ (o : Arr3_int), (0 ≤ o.a0 ∧ o.a0 < 3) → (0 ≤ o.a1 ∧ o.a1 < 3) → (0 ≤ o.a2 ∧ o.a2 < 3) → shaft_crate_long_l2 (n + 4) (n + 4) o 0 S.a0 S.a1 S.a2 e.a0 e.a1 e.a2 m ⟨0, 0, 0⟩ (fun r => k r) = k ⟨pickI o.a0 0 [e.a0, e.a1, e.a2], pickI o.a1 0 [e.a0, e.a1, e.a2], pickI o.a2 0 [e.a0, e.a1, e.a2]⟩ := by
    intro o h0 h1 h2
    simp only [shaft_crate_long_l2, shaft_crate_long_b2, ↓cond_if, ↓Bool.and_eq_true, ↓decide_eq_true_eq, pk0, pk1, pk2, w0, w1, w2, c3, Int.reduceLT, Int.reduceLE, Int.lt_irrefl, and_self, if_true, if_false, h0, h1, h2, e00, e01, e02, e10, e11, e12, e20, e21, e22, Bool.false_eq_true]
  rcases ht.cases with rfl | rfl | rfl | rfl | rfl | rfl
  · exact key ⟨0, 1, 2⟩ (by decide) (by decide) (by decide)
  · exact key ⟨0, 2, 1⟩ (by decide) (by decide) (by decide)
  · exact key ⟨1, 0, 2⟩ (by decide) (by decide) (by decide)
  · exact key ⟨1, 2, 0⟩ (by decide) (by decide) (by decide)
  · exact key ⟨2, 0, 1⟩ (by decide) (by decide) (by decide)
  · exact key ⟨2, 1, 0⟩ (by decide) (by decide) (by decide)
def fitsP (s : api_Shaft) (e : Arr3_int) (p : api_Pose) : Prop := T6 p.Turn ∧ freeP s p.At (along e p.Turn)
theorem shFits_eq {s : api_Shaft} (v : VS s) {e : Arr3_int} (he : E3 e) {m : Mp Arr3_int Unit} (hm : WM s m) (p : api_Pose) (N : Nat) (hN : 300 ≤ N) (k : Bool → Option R) :
    shaft_crate_fits N p s.Size.a0 s.Size.a1 s.Size.a2 e.a0 e.a1 e.a2 m k = k (decide (fitsP s e p)) := by
  rw [shaft_crate_fits_def]
  unfold shaft_crate_fits_m
  by_cases h : T6 p.Turn
  · have h' : 0 ≤ p.Turn ∧ p.Turn ≤ 5 := h
    rw [decide_eq_true (show p.Turn ≥ 0 from h'.1), decide_eq_true (show p.Turn < 6 by omega), cond_true, cond_true, shLong_eq e s.Size m h N (by omega), shFree_eq v e hm (along_E3 he h) N hN]
    congr 1
    by_cases g : freeP s p.At (along e p.Turn)
    · rw [decide_eq_true g, decide_eq_true (show fitsP s e p from ⟨h, g⟩)]
    · rw [decide_eq_false g, decide_eq_false (fun x : fitsP s e p => g x.2)]
  · rw [decide_eq_false (fun x : fitsP s e p => h x.1)]
    by_cases g : p.Turn ≥ 0
    · rw [decide_eq_true g, decide_eq_false (show ¬ p.Turn < 6 from fun x => h ⟨g, by omega⟩), cond_true, cond_false]
    · rw [decide_eq_false g, cond_false]
def M9 (m : Int) : Prop := 0 ≤ m ∧ m ≤ 8
def stepAt (c : Arr3_int) (m : Int) : Arr3_int :=
  if m = 0 then ⟨c.a0 + 1, c.a1, c.a2⟩ else if m = 1 then ⟨c.a0 - 1, c.a1, c.a2⟩ else if m = 2 then ⟨c.a0, c.a1 + 1, c.a2⟩ else if m = 3 then ⟨c.a0, c.a1 - 1, c.a2⟩ else if m = 4 then ⟨c.a0, c.a1, c.a2 + 1⟩ else ⟨c.a0, c.a1, c.a2 - 1⟩
def swapT (t m : Int) : Int :=
  if m = 6 then (if t = 0 then 2 else if t = 1 then 4 else if t = 2 then 0 else if t = 3 then 5 else if t = 4 then 1 else 3)
  else if m = 7 then (if t = 0 then 5 else if t = 1 then 3 else if t = 2 then 4 else if t = 3 then 1 else if t = 4 then 2 else 0)
  else (if t = 0 then 1 else if t = 1 then 0 else if t = 2 then 3 else if t = 3 then 2 else if t = 4 then 5 else 4)
def max3 (a b : Arr3_int) : Arr3_int := ⟨max a.a0 b.a0, max a.a1 b.a1, max a.a2 b.a2⟩
def mvPose (p : api_Pose) (m : Int) : api_Pose := if m < 6 then ⟨stepAt p.At m, p.Turn⟩ else ⟨p.At, swapT p.Turn m⟩
def mvOk (s : api_Shaft) (e : Arr3_int) (p : api_Pose) (m : Int) : Prop := if m < 6 then fitsP s e (mvPose p m) else freeP s p.At (max3 (along e p.Turn) (along e (swapT p.Turn m)))
theorem max3_E3 {a b : Arr3_int} (ha : E3 a) (hb : E3 b) : E3 (max3 a b) := by
  obtain ⟨⟨a0, b0⟩, ⟨a1, b1⟩, ⟨a2, b2⟩⟩ := ha
  obtain ⟨⟨c0, d0⟩, ⟨c1, d1⟩, ⟨c2, d2⟩⟩ := hb
  unfold max3 E3 e18
  simp only
  omega
theorem swapT_T6 {t m : Int} (ht : T6 t) (hm : M9 m) (h6 : ¬ m < 6) : T6 (swapT t m) := by
  have : m = 6 ∨ m = 7 ∨ m = 8 := by unfold M9 at hm; omega
  rcases this with rfl | rfl | rfl <;> rcases ht.cases with rfl | rfl | rfl | rfl | rfl | rfl <;> exact ⟨by decide, by decide⟩
theorem fits_bound {s : api_Shaft} (v : VS s) {e : Arr3_int} (he : E3 e) {p : api_Pose} (h : fitsP s e p) : (0 ≤ p.At.a0 ∧ p.At.a0 ≤ 7) ∧ (0 ≤ p.At.a1 ∧ p.At.a1 ≤ 7) ∧ (0 ≤ p.At.a2 ∧ p.At.a2 ≤ 7) := by
  obtain ⟨h1, h2, _⟩ := h
  obtain ⟨⟨a0, b0⟩, ⟨a1, b1⟩, ⟨a2, b2⟩⟩ := along_E3 he h1
  obtain ⟨⟨c0, d0⟩, ⟨c1, d1⟩, ⟨c2, d2⟩⟩ := v.size
  unfold room3 at h2
  omega
theorem max_l10 (a1 a2 a3 a4 a5 a6 : Int) (m : Mp Arr3_int Unit) (p z q : api_Pose) (a b : Arr3_int) (N n : Nat) (k : Arr3_int → Option R) : shaft_crate_move_l10 N (n + 4) 0 a1 a2 a3 a4 a5 a6 m p z q a b k = k (max3 a b) := by
  simp only [shaft_crate_move_l10, shaft_crate_move_b10, ↓cond_if, ↓Bool.and_eq_true, ↓decide_eq_true_eq, pk0, pk1, pk2, w0, w1, w2, c3, Int.reduceLT, Int.reduceLE, Int.lt_irrefl, and_self, if_true, if_false, e00, e01, e02, e10, e11, e12, e20, e21, e22, Bool.false_eq_true, mxI_eq, max3]
end
end Go.Proofs.YtckkodiefpdmhaaDoor
set_option linter.unusedVariables false
set_option linter.unusedSimpArgs false
set_option maxHeartbeats 0
set_option maxRecDepth 100000
namespace Go.Proofs.YtckkodiefpdmhaaDoor
open Go.Sx
open Classical
noncomputable section
variable {R : Type}
theorem max3_comm (a b : Arr3_int) : max3 a b = max3 b a := by
  unfold max3
  rw [Int.max_comm a.a0, Int.max_comm a.a1, Int.max_comm a.a2]
theorem M9.cases {m : Int} (h : M9 m) : m = 0 ∨ m = 1 ∨ m = 2 ∨ m = 3 ∨ m = 4 ∨ m = 5 ∨ m = 6 ∨ m = 7 ∨ m = 8 := by unfold M9 at h; omega
def turnsA : Arr Arr3_int := lst Arr3_intC 6 (litC [] [[SV.int IntKind.i64 0, SV.int IntKind.i64 1, SV.int IntKind.i64 2], [SV.int IntKind.i64 0, SV.int IntKind.i64 2, SV.int IntKind.i64 1], [SV.int IntKind.i64 1, SV.int IntKind.i64 0, SV.int IntKind.i64 2], [SV.int IntKind.i64 1, SV.int IntKind.i64 2, SV.int IntKind.i64 0], [SV.int IntKind.i64 2, SV.int IntKind.i64 0, SV.int IntKind.i64 1], [SV.int IntKind.i64 2, SV.int IntKind.i64 1, SV.int IntKind.i64 0]])
theorem index_eq {t : Int} (ht : T6 t) (N : Nat) (hN : 7 ≤ N) (k : Int → Option R) : slices_Index____3_int__3_int_ N turnsA (ord t) k = k t := by
  obtain ⟨n, rfl⟩ : ∃ m, N = m + 7 := ⟨N - 7, by omega⟩
  rw [slices_Index____3_int__3_int__def]
  rcases ht.cases with rfl | rfl | rfl | rfl | rfl | rfl <;> kernel_rfl
theorem shMove_eq {s : api_Shaft} (v : VS s) {e : Arr3_int} (he : E3 e) {w : Mp Arr3_int Unit} (hw : WM s w) {p : api_Pose} (hp : fitsP s e p) {m : Int} (hm : M9 m) (N : Nat) (hN : 300 ≤ N) (k : api_Pose → Bool → Option R) :
    shaft_crate_move N p m s.Size.a0 s.Size.a1 s.Size.a2 e.a0 e.a1 e.a2 w k = k (mvPose p m) (decide (mvOk s e p m)) := by
  obtain ⟨⟨a0, b0⟩, ⟨a1, b1⟩, ⟨a2, b2⟩⟩ := fits_bound v he hp
  rw [shaft_crate_move_def]
  have ht : T6 p.Turn := hp.1
  have rot : ∀ (A : Arr3_int) (t m : Int), T6 t → T6 (swapT t m) → ¬ m < 6 →
      shaft_crate_move_m N ⟨A, t⟩ m s.Size.a0 s.Size.a1 s.Size.a2 e.a0 e.a1 e.a2 w k = slices_Index____3_int__3_int_ N turnsA (ord (swapT t m)) (fun r1 => shaft_crate_long N r1 s.Size.a0 s.Size.a1 s.Size.a2 e.a0 e.a1 e.a2 w (fun r2 => shaft_crate_long N t s.Size.a0 s.Size.a1 s.Size.a2 e.a0 e.a1 e.a2 w (fun r3 =>
        shaft_crate_move_l10 N N 0 s.Size.a0 s.Size.a1 s.Size.a2 e.a0 e.a1 e.a2 w ⟨A, t⟩ ⟨⟨0, 0, 0⟩, 0⟩ ⟨A, r1⟩ r2 r3 (fun r4 => shaft_crate_free N A r4 s.Size.a0 s.Size.a1 s.Size.a2 e.a0 e.a1 e.a2 w (fun r5 => k ⟨A, r1⟩ r5))))) →
      shaft_crate_move_m N ⟨A, t⟩ m s.Size.a0 s.Size.a1 s.Size.a2 e.a0 e.a1 e.a2 w k = k (mvPose ⟨A, t⟩ m) (decide (mvOk s e ⟨A, t⟩ m)) := by
    intro A t m h1 h2 h3 h5
    rw [h5, index_eq h2 N (by omega)]
    rw [shLong_eq e s.Size w h2 N (by omega), shLong_eq e s.Size w h1 N (by omega)]
    obtain ⟨n, rfl⟩ : ∃ m, N = m + 4 := ⟨N - 4, by omega⟩
    rw [max_l10, max3_comm, shFree_eq v e hw (max3_E3 (along_E3 he h1) (along_E3 he h2)) (n + 4) hN]
    simp only [mvPose, mvOk, if_neg h3]
  rcases hm.cases with rfl | rfl | rfl | rfl | rfl | rfl | h678
  · have h : shaft_crate_move_m N p 0 s.Size.a0 s.Size.a1 s.Size.a2 e.a0 e.a1 e.a2 w k = shaft_crate_fits N ⟨⟨w64 (p.At.a0 + 1), p.At.a1, p.At.a2⟩, p.Turn⟩ s.Size.a0 s.Size.a1 s.Size.a2 e.a0 e.a1 e.a2 w (fun r => k ⟨⟨w64 (p.At.a0 + 1), p.At.a1, p.At.a2⟩, p.Turn⟩ r) := by kernel_rfl
    rw [h, w64_eq (show -9223372036854775808 ≤ p.At.a0 + 1 by omega) (by omega), shFits_eq v he hw _ N hN]
    rfl
  · have h : shaft_crate_move_m N p 1 s.Size.a0 s.Size.a1 s.Size.a2 e.a0 e.a1 e.a2 w k = shaft_crate_fits N ⟨⟨w64 (p.At.a0 + -1), p.At.a1, p.At.a2⟩, p.Turn⟩ s.Size.a0 s.Size.a1 s.Size.a2 e.a0 e.a1 e.a2 w (fun r => k ⟨⟨w64 (p.At.a0 + -1), p.At.a1, p.At.a2⟩, p.Turn⟩ r) := by kernel_rfl
    rw [h, w64_eq (show -9223372036854775808 ≤ p.At.a0 + -1 by omega) (by omega), shFits_eq v he hw _ N hN]
    rfl
  · have h : shaft_crate_move_m N p 2 s.Size.a0 s.Size.a1 s.Size.a2 e.a0 e.a1 e.a2 w k = shaft_crate_fits N ⟨⟨p.At.a0, w64 (p.At.a1 + 1), p.At.a2⟩, p.Turn⟩ s.Size.a0 s.Size.a1 s.Size.a2 e.a0 e.a1 e.a2 w (fun r => k ⟨⟨p.At.a0, w64 (p.At.a1 + 1), p.At.a2⟩, p.Turn⟩ r) := by kernel_rfl
    rw [h, w64_eq (show -9223372036854775808 ≤ p.At.a1 + 1 by omega) (by omega), shFits_eq v he hw _ N hN]
    rfl
  · have h : shaft_crate_move_m N p 3 s.Size.a0 s.Size.a1 s.Size.a2 e.a0 e.a1 e.a2 w k = shaft_crate_fits N ⟨⟨p.At.a0, w64 (p.At.a1 + -1), p.At.a2⟩, p.Turn⟩ s.Size.a0 s.Size.a1 s.Size.a2 e.a0 e.a1 e.a2 w (fun r => k ⟨⟨p.At.a0, w64 (p.At.a1 + -1), p.At.a2⟩, p.Turn⟩ r) := by kernel_rfl
    rw [h, w64_eq (show -9223372036854775808 ≤ p.At.a1 + -1 by omega) (by omega), shFits_eq v he hw _ N hN]
    rfl
  · have h : shaft_crate_move_m N p 4 s.Size.a0 s.Size.a1 s.Size.a2 e.a0 e.a1 e.a2 w k = shaft_crate_fits N ⟨⟨p.At.a0, p.At.a1, w64 (p.At.a2 + 1)⟩, p.Turn⟩ s.Size.a0 s.Size.a1 s.Size.a2 e.a0 e.a1 e.a2 w (fun r => k ⟨⟨p.At.a0, p.At.a1, w64 (p.At.a2 + 1)⟩, p.Turn⟩ r) := by kernel_rfl
    rw [h, w64_eq (show -9223372036854775808 ≤ p.At.a2 + 1 by omega) (by omega), shFits_eq v he hw _ N hN]
    rfl
  · have h : shaft_crate_move_m N p 5 s.Size.a0 s.Size.a1 s.Size.a2 e.a0 e.a1 e.a2 w k = shaft_crate_fits N ⟨⟨p.At.a0, p.At.a1, w64 (p.At.a2 + -1)⟩, p.Turn⟩ s.Size.a0 s.Size.a1 s.Size.a2 e.a0 e.a1 e.a2 w (fun r => k ⟨⟨p.At.a0, p.At.a1, w64 (p.At.a2 + -1)⟩, p.Turn⟩ r) := by kernel_rfl
    rw [h, w64_eq (show -9223372036854775808 ≤ p.At.a2 + -1 by omega) (by omega), shFits_eq v he hw _ N hN]
    rfl
  · have h6 : ¬ m < 6 := by omega
    have h2 := swapT_T6 ht hm h6
    obtain ⟨A, t⟩ := p
    simp only at ht h2
    rcases h678 with rfl | rfl | rfl <;> rcases ht.cases with rfl | rfl | rfl | rfl | rfl | rfl <;> exact rot A _ _ ht h2 h6 (by kernel_rfl)
theorem errC_zero {s : api_Shaft} {e : Arr3_int} (h : errC s e = 0) : VS s ∧ E3 e := by
  unfold errC at h
  by_cases v : VS s
  · rw [if_pos v] at h
    by_cases g : E3 e
    · exact ⟨v, g⟩
    · rw [if_neg g] at h; omega
  · rw [if_neg v] at h; omega
theorem errC_ok {s : api_Shaft} {e : Arr3_int} (v : VS s) (g : E3 e) : errC s e = 0 := by unfold errC; rw [if_pos v, if_pos g]
theorem bne0 {n : Int} (h : n ≠ 0) : (n != (0 : Int)) = true := by simpa using h
end
end Go.Proofs.YtckkodiefpdmhaaDoor
set_option linter.unusedVariables false
set_option maxHeartbeats 0
namespace Go.Sx.Br
variable {V : Type}
def walk (step : V → Nat → Option V) : V → List Nat → Option V
  | v, [] => some v
  | v, m :: ms => match step v m with
    | some w => walk step w ms
    | none => none
def Way (step : V → Nat → Option V) (a b : V) (n : Nat) : Prop := ∃ ms : List Nat, ms.length = n ∧ walk step a ms = some b
theorem walk_cons {step : V → Nat → Option V} {v w : V} {m : Nat} {ms : List Nat} (h : step v m = some w) : walk step v (m :: ms) = walk step w ms := by simp [walk, h]
theorem walk_snoc {step : V → Nat → Option V} {v w x : V} {m : Nat} {ms : List Nat} (h : walk step v ms = some w) (h2 : step w m = some x) : walk step v (ms ++ [m]) = some x := by
  induction ms generalizing v with
  | nil => simp [walk] at h; subst h; simp [walk, h2]
  | cons m' ms ih =>
    simp only [walk] at h
    cases hs : step v m' with
    | none => rw [hs] at h; cases h
    | some y => rw [hs] at h; rw [List.cons_append, walk_cons hs]; exact ih h
theorem Way.zero {step : V → Nat → Option V} (a : V) : Way step a a 0 := ⟨[], rfl, rfl⟩
theorem Way.cons {step : V → Nat → Option V} {a b c : V} {m n : Nat} (h : step a m = some b) (w : Way step b c n) : Way step a c (n + 1) := by
  obtain ⟨ms, h1, h2⟩ := w
  exact ⟨m :: ms, by simp [h1], by rw [walk_cons h]; exact h2⟩
theorem Way.snoc {step : V → Nat → Option V} {a b c : V} {m n : Nat} (w : Way step a b n) (h : step b m = some c) : Way step a c (n + 1) := by
  obtain ⟨ms, h1, h2⟩ := w
  exact ⟨ms ++ [m], by simp [h1], walk_snoc h2 h⟩
theorem Way.uncons {step : V → Nat → Option V} {a c : V} {n : Nat} (w : Way step a c (n + 1)) : ∃ m b, step a m = some b ∧ Way step b c n := by
  obtain ⟨ms, h1, h2⟩ := w
  cases ms with
  | nil => simp at h1
  | cons m ms =>
    simp only [walk] at h2
    cases hs : step a m with
    | none => rw [hs] at h2; cases h2
    | some b => rw [hs] at h2; exact ⟨m, b, hs, ms, by simpa using h1, h2⟩
theorem Way.nil {step : V → Nat → Option V} {a b : V} (w : Way step a b 0) : a = b := by
  obtain ⟨ms, h1, h2⟩ := w
  cases ms with
  | nil => simpa [walk] using h2
  | cons m ms => simp at h1
theorem Way.append {step : V → Nat → Option V} {a b c : V} {n m : Nat} (h : Way step a b n) (k : Way step b c m) : Way step a c (n + m) := by
  induction n generalizing a with
  | zero => have := h.nil; subst this; rw [Nat.zero_add]; exact k
  | succ n ih =>
    obtain ⟨x, y, h1, h2⟩ := h.uncons
    rw [show n + 1 + m = n + m + 1 by omega]
    exact (ih h2).cons h1
theorem Way.symm {step : V → Nat → Option V} (P : V → Prop) (hP : ∀ v m w, P v → step v m = some w → P w ∧ ∃ m', step w m' = some v) {a b : V} {n : Nat} (ha : P a) (h : Way step a b n) : P b ∧ Way step b a n := by
  induction n generalizing a with
  | zero => have := h.nil; subst this; exact ⟨ha, .zero _⟩
  | succ n ih =>
    obtain ⟨m, y, h1, h2⟩ := h.uncons
    obtain ⟨hy, m', h3⟩ := hP a m y ha h1
    obtain ⟨hb, h4⟩ := ih hy h2
    exact ⟨hb, h4.snoc h3⟩
def Gr (step : V → Nat → Option V) (to : V) : V → List Nat → Prop
  | v, [] => v = to
  | v, m :: ms => (∃ w, step v m = some w ∧ Gr step to w ms) ∧ (∀ m', m' < m → ∀ w, step v m' = some w → ¬ Way step w to ms.length) ∧ (∀ n, n < ms.length + 1 → ¬ Way step v to n)
theorem Gr.way {step : V → Nat → Option V} {to : V} : ∀ {v : V} {ms : List Nat}, Gr step to v ms → walk step v ms = some to ∧ ∀ n, n < ms.length → ¬ Way step v to n := by
  intro v ms
  induction ms generalizing v with
  | nil => intro h; exact ⟨by simpa [walk, Gr] using h, fun n hn => by simp at hn⟩
  | cons m ms ih =>
    rintro ⟨⟨w, h1, h2⟩, _, h3⟩
    exact ⟨by rw [walk_cons h1]; exact (ih h2).1, fun n hn => h3 n (by simpa using hn)⟩
theorem Gr.Way {step : V → Nat → Option V} {to v : V} {ms : List Nat} (h : Gr step to v ms) : Way step v to ms.length := ⟨ms, rfl, h.way.1⟩
theorem Gr.unique {step : V → Nat → Option V} {to : V} : ∀ {v : V} {ms ms' : List Nat}, Gr step to v ms → Gr step to v ms' → ms = ms' := by
  intro v ms
  induction ms generalizing v with
  | nil =>
    intro ms' h h'
    cases ms' with
    | nil => rfl
    | cons m' ms' =>
      have hv : v = to := h
      exact absurd (hv ▸ Br.Way.zero v) (h'.2.2 0 (by omega))
  | cons m ms ih =>
    intro ms' h h'
    have hlen : ms'.length = ms.length + 1 := by
      have l1 := h.way.2 ms'.length
      have l2 := h'.way.2 (m :: ms).length
      simp only [List.length_cons] at l1 l2
      rcases Nat.lt_trichotomy ms'.length (ms.length + 1) with hl | hl | hl
      · exact absurd h'.Way (l1 hl)
      · exact hl
      · exact absurd h.Way (l2 hl)
    cases ms' with
    | nil => simp at hlen
    | cons m' ms' =>
      simp only [List.length_cons] at hlen
      obtain ⟨⟨w, h1, h2⟩, h3, _⟩ := h
      obtain ⟨⟨w', k1, k2⟩, k3, _⟩ := h'
      have hmm : m = m' := by
        rcases Nat.lt_trichotomy m m' with hl | hl | hl
        · have := k3 m hl w h1
          rw [show ms'.length = ms.length by omega] at this
          exact absurd h2.Way this
        · exact hl
        · have := h3 m' hl w' k1
          rw [show ms.length = ms'.length by omega] at this
          exact absurd k2.Way this
      subst hmm
      rw [h1] at k1
      injection k1 with k1
      subst k1
      rw [ih h2 k2]
structure Bfs (step : V → Nat → Option V) (q : Nat → V) (pc lv : Nat → Nat) (len T : Nat) : Prop where
  pos : 0 < len
  lv0 : lv 0 = 0
  inj : ∀ i j, i < len → j < len → q i = q j → i = j
  edge : ∀ i, 0 < i → i < len → pc i < T ∧ pc i / 9 < i ∧ step (q (pc i / 9)) (pc i % 9) = some (q i) ∧ lv i = lv (pc i / 9) + 1
  seen : ∀ c, c < T → c / 9 < len → ∀ v, step (q (c / 9)) (c % 9) = some v → ∃ i, i < len ∧ q i = v ∧ (i = 0 ∨ pc i ≤ c)
  ord : ∀ i j, 0 < i → i < j → j < len → pc i < pc j
theorem Bfs.begin {step : V → Nat → Option V} {q : Nat → V} (pc : Nat → Nat) : Bfs step q pc (fun _ => 0) 1 0 :=
  ⟨by omega, rfl, fun i j hi hj _ => by omega, fun i h1 h2 => by omega, fun c h => by omega, fun i j h1 h2 h3 => by omega⟩
theorem Bfs.skip {step : V → Nat → Option V} {q : Nat → V} {pc lv : Nat → Nat} {len T : Nat} (h : Bfs step q pc lv len T) (hs : ∀ v, step (q (T / 9)) (T % 9) = some v → ∃ i, i < len ∧ q i = v) : Bfs step q pc lv len (T + 1) where
  pos := h.pos
  lv0 := h.lv0
  inj := h.inj
  edge := fun i h1 h2 => by obtain ⟨a, b⟩ := h.edge i h1 h2; exact ⟨by omega, b⟩
  seen := fun c hc hl v hv => by
    by_cases e : c = T
    · subst e
      obtain ⟨i, hi, hq⟩ := hs v hv
      refine ⟨i, hi, hq, ?_⟩
      by_cases e0 : i = 0
      · exact .inl e0
      · exact .inr (by have := (h.edge i (by omega) hi).1; omega)
    · exact h.seen c (by omega) hl v hv
  ord := h.ord
theorem Bfs.push {step : V → Nat → Option V} {q : Nat → V} {pc lv : Nat → Nat} {len T : Nat} (h : Bfs step q pc lv len T) (hT : T / 9 < len) {v : V} (hs : step (q (T / 9)) (T % 9) = some v) (hn : ∀ i, i < len → q i ≠ v) :
    Bfs step (fun j => if j = len then v else q j) (fun j => if j = len then T else pc j) (fun j => if j = len then lv (T / 9) + 1 else lv j) (len + 1) (T + 1) where
  pos := by omega
  lv0 := by have := h.pos; (try dsimp only); rw [if_neg (by omega)]; exact h.lv0
  inj := fun i j hi hj he => by
    try dsimp only at he
    by_cases e1 : i = len <;> by_cases e2 : j = len
    · omega
    · rw [if_pos e1, if_neg e2] at he; exact absurd he.symm (hn j (by omega))
    · rw [if_neg e1, if_pos e2] at he; exact absurd he (hn i (by omega))
    · rw [if_neg e1, if_neg e2] at he; exact h.inj i j (by omega) (by omega) he
  edge := fun i h1 h2 => by
    try dsimp only
    by_cases e : i = len
    · subst e
      rw [if_pos rfl, if_pos rfl, if_neg (by omega), if_pos rfl, if_neg (by omega)]
      exact ⟨by omega, hT, hs, rfl⟩
    · obtain ⟨a, b, c, d⟩ := h.edge i h1 (by omega)
      rw [if_neg e, if_neg e, if_neg (by omega), if_neg e, if_neg (by omega)]
      exact ⟨by omega, b, c, d⟩
  seen := fun c hc hl w hw => by
    try dsimp only at hw
    by_cases e : c = T
    · subst e
      rw [if_neg (by omega), hs] at hw
      injection hw with hw
      exact ⟨len, by omega, by simp [hw], .inr (by simp)⟩
    · have hcl : c / 9 < len := by have : c < T := by omega
                                   omega
      rw [if_neg (by omega)] at hw
      obtain ⟨i, hi, hq, ho⟩ := h.seen c (by omega) hcl w hw
      refine ⟨i, by omega, by (try dsimp only); rw [if_neg (by omega)]; exact hq, ?_⟩
      try dsimp only
      rw [if_neg (by omega)]
      exact ho
  ord := fun i j h1 h2 h3 => by
    try dsimp only
    by_cases e : j = len
    · rw [if_neg (by omega), if_pos e]; exact (h.edge i h1 (by omega)).1
    · rw [if_neg (by omega), if_neg e]; exact h.ord i j h1 h2 (by omega)
section
variable {step : V → Nat → Option V} {q : Nat → V} {pc lv : Nat → Nat} {len T : Nat} (h : Bfs step q pc lv len T)
include h
theorem Bfs.mono : ∀ j, j < len → ∀ i, i ≤ j → lv i ≤ lv j := by
  intro j
  induction j using Nat.strongRecOn with
  | _ j ih =>
    intro hj i hi
    by_cases e0 : i = 0
    · subst e0; rw [h.lv0]; omega
    by_cases e : i = j
    · subst e; omega
    obtain ⟨_, a1, _, a2⟩ := h.edge i (by omega) (by omega)
    obtain ⟨_, b1, _, b2⟩ := h.edge j (by omega) hj
    have := h.ord i j (by omega) (by omega) hj
    have hd : pc i / 9 ≤ pc j / 9 := by omega
    have := ih (pc j / 9) b1 (by omega) (pc i / 9) hd
    omega
theorem Bfs.next {i m : Nat} (hi : i < len) (hm : m < 9) (hT : 9 * i + m < T) {v : V} (hs : step (q i) m = some v) : ∃ j, j < len ∧ q j = v ∧ lv j ≤ lv i + 1 := by
  have e1 : (9 * i + m) / 9 = i := by omega
  have e2 : (9 * i + m) % 9 = m := by omega
  obtain ⟨j, hj, hq, ho⟩ := h.seen (9 * i + m) hT (by omega) v (by rw [e1, e2]; exact hs)
  refine ⟨j, hj, hq, ?_⟩
  by_cases e0 : j = 0
  · subst e0; rw [h.lv0]; omega
  · rcases ho with ho | ho
    · exact absurd ho e0
    · obtain ⟨_, b1, _, b2⟩ := h.edge j (by omega) hj
      have := h.mono i hi (pc j / 9) (by omega)
      omega
theorem Bfs.way : ∀ i, i < len → Way step (q 0) (q i) (lv i) := by
  intro i
  induction i using Nat.strongRecOn with
  | _ i ih =>
    intro hi
    by_cases e0 : i = 0
    · subst e0; rw [h.lv0]; exact .zero _
    · obtain ⟨_, b1, b3, b2⟩ := h.edge i (by omega) hi
      rw [b2]
      exact (ih _ b1 (by omega)).snoc b3
theorem Bfs.all (hm9 : ∀ v m w, step v m = some w → m < 9) (hT : 9 * len ≤ T) : ∀ (n : Nat) (v : V), Way step (q 0) v n → ∃ i, i < len ∧ q i = v ∧ lv i ≤ n := by
  have key : ∀ (n : Nat) (i : Nat) (v : V), i < len → Way step (q i) v n → ∃ j, j < len ∧ q j = v ∧ lv j ≤ lv i + n := by
    intro n
    induction n with
    | zero => intro i v hi w; exact ⟨i, hi, w.nil, by omega⟩
    | succ n ih =>
      intro i v hi w
      obtain ⟨m, b, h1, h2⟩ := w.uncons
      have hm := hm9 _ _ _ h1
      obtain ⟨j, hj, hq, hl⟩ := h.next hi hm (by omega) h1
      obtain ⟨k, hk, hq2, hl2⟩ := ih j v hj (hq ▸ h2)
      exact ⟨k, hk, hq2, by omega⟩
  intro n v w
  obtain ⟨j, hj, hq, hl⟩ := key n 0 v h.pos w
  exact ⟨j, hj, hq, by rw [h.lv0] at hl; omega⟩
theorem Bfs.short (hm9 : ∀ v m w, step v m = some w → m < 9) {d : Nat} (hd : d < len) (hT : 9 * d ≤ T) {n : Nat} (w : Way step (q 0) (q d) n) : lv d ≤ n := by
  have key : ∀ (n : Nat) (i t : Nat), i < len → lv i ≤ t → Way step (q i) (q d) n → lv d ≤ t + n := by
    intro n
    induction n with
    | zero => intro i t hi ht w; have := h.inj i d hi hd w.nil; subst this; omega
    | succ n ih =>
      intro i t hi ht w
      by_cases e : d ≤ i
      · have := h.mono i hi d e; omega
      · obtain ⟨m, b, h1, h2⟩ := w.uncons
        have hm := hm9 _ _ _ h1
        obtain ⟨j, hj, hq, hl⟩ := h.next hi hm (by omega) h1
        have := ih j (t + 1) hj (by omega) (hq ▸ h2)
        omega
  have := key n 0 0 h.pos (by rw [h.lv0]; omega) w
  omega
def up (pc : Nat → Nat) : Nat → Nat → List Nat
  | 0, _ => []
  | n + 1, i => (pc i % 9) :: up pc n (pc i / 9)
omit h in
theorem up_len : ∀ (n i : Nat), (up pc n i).length = n := by
  intro n
  induction n with
  | zero => intro i; rfl
  | succ n ih => intro i; simp [up, ih]
def anc (pc : Nat → Nat) (d : Nat) : Nat → Nat
  | 0 => d
  | r + 1 => pc (anc pc d r) / 9
omit h in
theorem anc_shift (d : Nat) : ∀ r, anc pc (pc d / 9) r = anc pc d (r + 1) := by
  intro r
  induction r with
  | zero => rfl
  | succ r ih => show pc (anc pc (pc d / 9) r) / 9 = _; rw [ih]; rfl
omit h in
theorem up_snoc : ∀ (r d : Nat), up pc (r + 1) d = up pc r d ++ [pc (anc pc d r) % 9] := by
  intro r
  induction r with
  | zero => intro d; rfl
  | succ r ih =>
    intro d
    show (pc d % 9) :: up pc (r + 1) (pc d / 9) = (pc d % 9) :: (up pc r (pc d / 9) ++ _)
    rw [ih, anc_shift]
theorem Bfs.anc_lv {d : Nat} (hd : d < len) : ∀ r, r ≤ lv d → anc pc d r < len ∧ lv (anc pc d r) + r = lv d := by
  intro r
  induction r with
  | zero => intro _; exact ⟨hd, rfl⟩
  | succ r ih =>
    intro hr
    obtain ⟨h1, h2⟩ := ih (by omega)
    have h0 : 0 < anc pc d r := by
      rcases Nat.eq_zero_or_pos (anc pc d r) with e | e
      · rw [e, h.lv0] at h2; omega
      · exact e
    obtain ⟨_, a1, _, a2⟩ := h.edge _ h0 h1
    show pc (anc pc d r) / 9 < len ∧ lv (pc (anc pc d r) / 9) + (r + 1) = lv d
    exact ⟨by omega, by omega⟩
theorem Bfs.anc_pos {d r : Nat} (hd : d < len) (hr : r < lv d) : 0 < anc pc d r := by
  obtain ⟨h1, h2⟩ := h.anc_lv hd r (by omega)
  rcases Nat.eq_zero_or_pos (anc pc d r) with e | e
  · rw [e, h.lv0] at h2; omega
  · exact e
theorem Bfs.ahead (hm9 : ∀ v m w, step v m = some w → m < 9) {d : Nat} (hd : d < len) : ∀ r, r ≤ lv d → ∀ x, x < anc pc d r → ¬ Way step (q x) (q d) r := by
  intro r
  induction r with
  | zero =>
    intro _ x hx w
    have hx' : x < d := hx
    have := h.inj x d (by omega) hd w.nil
    omega
  | succ r ih =>
    intro hr x hx w
    obtain ⟨h1, _⟩ := h.anc_lv hd r (by omega)
    have h0 := h.anc_pos hd (show r < lv d by omega)
    obtain ⟨a0, a1, _, _⟩ := h.edge _ h0 h1
    have hx' : x < pc (anc pc d r) / 9 := hx
    obtain ⟨m, b, k1, k2⟩ := w.uncons
    have hm := hm9 _ _ _ k1
    have e1 : (9 * x + m) / 9 = x := by omega
    have e2 : (9 * x + m) % 9 = m := by omega
    obtain ⟨y, hy, hq, ho⟩ := h.seen (9 * x + m) (by omega) (by omega) b (by rw [e1, e2]; exact k1)
    refine ih (by omega) y ?_ (hq ▸ k2)
    rcases ho with ho | ho
    · omega
    · rcases Nat.lt_or_ge y (anc pc d r) with hlt | hge
      · exact hlt
      · exfalso
        rcases Nat.eq_or_lt_of_le hge with e | e
        · rw [← e] at ho; omega
        · have := h.ord _ _ h0 e hy; omega
theorem Bfs.gr (hm9 : ∀ v m w, step v m = some w → m < 9) {d : Nat} (hd : d < len) (hT : 9 * d ≤ T) : ∀ r, r ≤ lv d → Gr step (q d) (q (anc pc d r)) (up pc r d).reverse := by
  intro r
  induction r with
  | zero => intro _; rfl
  | succ r ih =>
    intro hr
    obtain ⟨h1, _⟩ := h.anc_lv hd r (by omega)
    have h0 := h.anc_pos hd (show r < lv d by omega)
    obtain ⟨a0, a1, a2, _⟩ := h.edge _ h0 h1
    rw [up_snoc, List.reverse_append]
    show Gr step (q d) (q (pc (anc pc d r) / 9)) ((pc (anc pc d r) % 9) :: (up pc r d).reverse)
    refine ⟨⟨_, a2, ih (by omega)⟩, fun m' hm' w hw => ?_, fun n hn w => ?_⟩
    · rw [List.length_reverse, up_len]
      have hm := hm9 _ _ _ hw
      have e1 : (9 * (pc (anc pc d r) / 9) + m') / 9 = pc (anc pc d r) / 9 := by omega
      have e2 : (9 * (pc (anc pc d r) / 9) + m') % 9 = m' := by omega
      obtain ⟨y, hy, hq, ho⟩ := h.seen (9 * (pc (anc pc d r) / 9) + m') (by omega) (by omega) w (by rw [e1, e2]; exact hw)
      rw [← hq]
      refine h.ahead hm9 hd r (by omega) y ?_
      rcases ho with ho | ho
      · omega
      · rcases Nat.lt_or_ge y (anc pc d r) with hlt | hge
        · exact hlt
        · exfalso
          rcases Nat.eq_or_lt_of_le hge with e | e
          · rw [← e] at ho; omega
          · have := h.ord _ _ h0 e hy; omega
    · rw [List.length_reverse, up_len] at hn
      obtain ⟨b1, b2⟩ := h.anc_lv hd (r + 1) hr
      have := h.short hm9 hd hT ((h.way _ b1).append w)
      omega
theorem Bfs.root {d : Nat} (hd : d < len) : anc pc d (lv d) = 0 := by
  obtain ⟨h1, h2⟩ := h.anc_lv hd (lv d) (Nat.le_refl _)
  rcases Nat.eq_zero_or_pos (anc pc d (lv d)) with e | e
  · exact e
  · have := (h.edge _ e h1).2.2.2; omega
theorem Bfs.gr0 (hm9 : ∀ v m w, step v m = some w → m < 9) {d : Nat} (hd : d < len) (hT : 9 * d ≤ T) : Gr step (q d) (q 0) (up pc (lv d) d).reverse := by
  have := h.gr hm9 hd hT (lv d) (Nat.le_refl _)
  rwa [h.root hd] at this
end
end Go.Sx.Br
set_option linter.unusedVariables false
set_option linter.unusedSimpArgs false
set_option maxHeartbeats 0
set_option maxRecDepth 100000
namespace Go.Proofs.YtckkodiefpdmhaaDoor
open Go.Sx
open Classical
noncomputable section
variable {R : Type}
theorem pigeon : ∀ (k n : Nat) (f : Nat → Nat), (∀ i, i < n → f i < k) → (∀ i j, i < n → j < n → f i = f j → i = j) → n ≤ k := by
  intro k
  induction k with
  | zero =>
    intro n f h1 _
    rcases Nat.eq_zero_or_pos n with e | e
    · omega
    · have := h1 0 e; omega
  | succ k ih =>
    intro n f h1 h2
    cases n with
    | zero => omega
    | succ n =>
      have : n ≤ k := by
        by_cases e : f n = k
        · refine ih n f (fun i hi => ?_) (fun i j hi hj => h2 i j (by omega) (by omega))
          have := h1 i (by omega)
          have : f i ≠ k := fun g => by have := h2 i n (by omega) (by omega) (by rw [g, e]); omega
          omega
        · have hn := h1 n (by omega)
          refine ih n (fun i => if f i = k then f n else f i) (fun i hi => ?_) (fun i j hi hj hg => ?_)
          · have := h1 i (by omega)
            try dsimp only
            split <;> omega
          · try dsimp only at hg
            split at hg <;> split at hg
            · exact h2 i j (by omega) (by omega) (by omega)
            · have := h2 n j (by omega) (by omega) hg; omega
            · have := h2 i n (by omega) (by omega) hg; omega
            · exact h2 i j (by omega) (by omega) hg
      omega
theorem eqP {p q : api_Pose} (h : p.At = q.At) (h2 : p.Turn = q.Turn) : p = q := by cases p; cases q; simp at h h2; subst h h2; rfl
theorem eqP4 {p q : api_Pose} : p = q ↔ (p.At.a0 = q.At.a0 ∧ p.At.a1 = q.At.a1 ∧ p.At.a2 = q.At.a2 ∧ p.Turn = q.Turn) :=
  ⟨fun h => by rw [h]; exact ⟨rfl, rfl, rfl, rfl⟩, fun h => eqP (eq3 h.1 h.2.1 h.2.2.1) h.2.2.2⟩
def num (p : api_Pose) : Int := ((p.Turn * 8 + p.At.a0) * 8 + p.At.a1) * 8 + p.At.a2
section
variable {s : api_Shaft} (v : VS s) {e : Arr3_int} (he : E3 e)
include v he
theorem num_bound {p : api_Pose} (hp : fitsP s e p) : 0 ≤ num p ∧ num p < 3072 := by
  have := fits_bound v he hp
  have ht : T6 p.Turn := hp.1
  unfold T6 at ht
  unfold num
  omega
theorem num_inj {p q : api_Pose} (hp : fitsP s e p) (hq : fitsP s e q) (h : num p = num q) : p = q := by
  have h1 := fits_bound v he hp
  have h2 := fits_bound v he hq
  have t1 : T6 p.Turn := hp.1
  have t2 : T6 q.Turn := hq.1
  unfold T6 at t1 t2
  unfold num at h
  rw [eqP4]
  omega
omit v he in
theorem free_mono {p z z' : Arr3_int} (h : freeP s p z) (h0 : z'.a0 ≤ z.a0) (h1 : z'.a1 ≤ z.a1) (h2 : z'.a2 ≤ z.a2) : freeP s p z' := by
  obtain ⟨⟨⟨a, b⟩, ⟨c, d⟩, ⟨f, g⟩⟩, k⟩ := h
  refine ⟨⟨⟨a, by omega⟩, ⟨c, by omega⟩, ⟨f, by omega⟩⟩, fun i hi hb => k i hi ?_⟩
  obtain ⟨⟨x0, y0⟩, ⟨x1, y1⟩, ⟨x2, y2⟩⟩ := hb
  exact ⟨⟨x0, by omega⟩, ⟨x1, by omega⟩, ⟨x2, by omega⟩⟩
omit v he in
theorem swap_swap {t m : Int} (ht : T6 t) (hm : m = 6 ∨ m = 7 ∨ m = 8) : swapT (swapT t m) m = t := by
  rcases hm with rfl | rfl | rfl <;> rcases ht.cases with rfl | rfl | rfl | rfl | rfl | rfl <;> rfl
omit v he in
theorem mv_fits {p : api_Pose} (hp : fitsP s e p) {m : Int} (hm : M9 m) (ho : mvOk s e p m) : fitsP s e (mvPose p m) := by
  by_cases h6 : m < 6
  · simp only [mvOk, if_pos h6] at ho; exact ho
  · simp only [mvOk, if_neg h6] at ho
    simp only [mvPose, if_neg h6]
    exact ⟨swapT_T6 hp.1 hm h6, free_mono ho (by simp only [max3]; omega) (by simp only [max3]; omega) (by simp only [max3]; omega)⟩
def back (m : Int) : Int := if m = 0 then 1 else if m = 1 then 0 else if m = 2 then 3 else if m = 3 then 2 else if m = 4 then 5 else if m = 5 then 4 else m
omit v he in
theorem mv_back {p : api_Pose} (hp : fitsP s e p) {m : Int} (hm : M9 m) (ho : mvOk s e p m) : M9 (back m) ∧ mvOk s e (mvPose p m) (back m) ∧ mvPose (mvPose p m) (back m) = p := by
  rcases hm.cases with rfl | rfl | rfl | rfl | rfl | rfl | h
  · have : mvPose (mvPose p 0) (back 0) = p := by rw [eqP4]; simp [mvPose, back, stepAt]; try omega
    exact ⟨⟨by decide, by decide⟩, by show fitsP s e (mvPose (mvPose p 0) (back 0)); rw [this]; exact hp, this⟩
  · have : mvPose (mvPose p 1) (back 1) = p := by rw [eqP4]; simp [mvPose, back, stepAt]; try omega
    exact ⟨⟨by decide, by decide⟩, by show fitsP s e (mvPose (mvPose p 1) (back 1)); rw [this]; exact hp, this⟩
  · have : mvPose (mvPose p 2) (back 2) = p := by rw [eqP4]; simp [mvPose, back, stepAt]; try omega
    exact ⟨⟨by decide, by decide⟩, by show fitsP s e (mvPose (mvPose p 2) (back 2)); rw [this]; exact hp, this⟩
  · have : mvPose (mvPose p 3) (back 3) = p := by rw [eqP4]; simp [mvPose, back, stepAt]; try omega
    exact ⟨⟨by decide, by decide⟩, by show fitsP s e (mvPose (mvPose p 3) (back 3)); rw [this]; exact hp, this⟩
  · have : mvPose (mvPose p 4) (back 4) = p := by rw [eqP4]; simp [mvPose, back, stepAt]; try omega
    exact ⟨⟨by decide, by decide⟩, by show fitsP s e (mvPose (mvPose p 4) (back 4)); rw [this]; exact hp, this⟩
  · have : mvPose (mvPose p 5) (back 5) = p := by rw [eqP4]; simp [mvPose, back, stepAt]; try omega
    exact ⟨⟨by decide, by decide⟩, by show fitsP s e (mvPose (mvPose p 5) (back 5)); rw [this]; exact hp, this⟩
  · have h6 : ¬ m < 6 := by omega
    have hb : back m = m := by unfold back; rw [if_neg (by omega), if_neg (by omega), if_neg (by omega), if_neg (by omega), if_neg (by omega), if_neg (by omega)]
    rw [hb]
    have hs : swapT (swapT p.Turn m) m = p.Turn := swap_swap hp.1 h
    have hq : mvPose p m = ⟨p.At, swapT p.Turn m⟩ := by simp only [mvPose, if_neg h6]
    refine ⟨hm, ?_, ?_⟩
    · rw [hq]
      simp only [mvOk, if_neg h6, hs]
      simp only [mvOk, if_neg h6] at ho
      rw [max3_comm]; exact ho
    · rw [hq]
      simp only [mvPose, if_neg h6, hs]
def stepV (s : api_Shaft) (e : Arr3_int) (p : api_Pose) (m : Nat) : Option api_Pose := if m < 9 ∧ mvOk s e p (m : Int) then some (mvPose p (m : Int)) else none
omit v he in
theorem m9 {m : Nat} (h : m < 9) : M9 (m : Int) := ⟨by omega, by omega⟩
omit v he in
theorem stepV_some {p q : api_Pose} {m : Nat} (h : stepV s e p m = some q) : m < 9 ∧ mvOk s e p (m : Int) ∧ q = mvPose p (m : Int) := by
  unfold stepV at h
  split at h
  · rename_i g; injection h with h; exact ⟨g.1, g.2, h.symm⟩
  · cases h
omit v he in
theorem stepV_of {p : api_Pose} {m : Nat} (h1 : m < 9) (h2 : mvOk s e p (m : Int)) : stepV s e p m = some (mvPose p (m : Int)) := by unfold stepV; rw [if_pos ⟨h1, h2⟩]
omit v he in
theorem stepV_none {p : api_Pose} {m : Nat} (h2 : ¬ mvOk s e p (m : Int)) : stepV s e p m = none := by unfold stepV; rw [if_neg (fun h => h2 h.2)]
omit v he in
theorem step_lt : ∀ (p : api_Pose) (m : Nat) (q : api_Pose), stepV s e p m = some q → m < 9 := fun p m q h => (stepV_some h).1
omit v he in
theorem step_back : ∀ (p : api_Pose) (m : Nat) (q : api_Pose), fitsP s e p → stepV s e p m = some q → fitsP s e q ∧ ∃ m', stepV s e q m' = some p := by
  intro p m q hp h
  obtain ⟨h1, h2, rfl⟩ := stepV_some h
  refine ⟨mv_fits hp (m9 h1) h2, (back (m : Int)).toNat, ?_⟩
  obtain ⟨b1, b2, b3⟩ := mv_back hp (m9 h1) h2
  have hc : (((back (m : Int)).toNat : Nat) : Int) = back (m : Int) := by unfold M9 at b1; omega
  have := stepV_of (s := s) (e := e) (p := mvPose p (m : Int)) (m := (back (m : Int)).toNat) (by unfold M9 at b1; omega) (by rw [hc]; exact b2)
  rw [this, hc, b3]
theorem bfs_len {q : Nat → api_Pose} {pc lv : Nat → Nat} {len T : Nat} (h : Br.Bfs (stepV s e) q pc lv len T) (hf : ∀ i, i < len → fitsP s e (q i)) : len ≤ 3072 := by
  refine pigeon 3072 len (fun i => (num (q i)).toNat) (fun i hi => ?_) (fun i j hi hj hn => ?_)
  · have := num_bound v he (hf i hi)
    omega
  · have h1 := num_bound v he (hf i hi)
    have h2 := num_bound v he (hf j hj)
    have hn' : (num (q i)).toNat = (num (q j)).toNat := hn
    exact h.inj i j hi hj (num_inj v he (hf i hi) (hf j hj) (by omega))
end
def LA (a : Arr Int) (ms : List Nat) : Prop := a.n = ms.length ∧ ∀ j, j < ms.length → a.f j = ((ms.getD j 0 : Nat) : Int)
theorem LA.nil {a : Arr Int} (h : a.n = 0) : LA a [] := ⟨h, fun j hj => by simp at hj⟩
theorem LA.push {a : Arr Int} {ms : List Nat} (h : LA a ms) (m : Nat) {z : List SV} : LA (lst intC (a.n + 1) (catC a.n (Cod.cell intC a.f) (litC z [[.int .i64 (m : Int)]]))) (ms ++ [m]) := by
  have h0 : a.Is ms.length (fun j => if j = ms.length then (m : Int) else ((ms.getD j 0 : Nat) : Int)) := by
    refine ⟨h.1, fun i hi => ?_⟩
    rw [if_neg (by omega)]
    exact h.2 i hi
  have := h0.push_int (z := z) (v := (m : Int)) (by simp)
  refine ⟨by rw [this.len]; simp, fun j hj => ?_⟩
  simp at hj
  rw [this.get j (by omega)]
  by_cases e : j = ms.length
  · subst e; simp
  · rw [if_neg e]
    simp only [List.getD_eq_getElem?_getD]
    rw [List.getElem?_append_left (by omega)]
theorem LA.same {a b : Arr Int} {ms : List Nat} (h : LA a ms) (k : LA b ms) : a.n = b.n ∧ ∀ j, j < a.n → a.f j = b.f j := ⟨by rw [h.1, k.1], fun j hj => by rw [h.1] at hj; rw [h.2 j hj, k.2 j hj]⟩
end
end Go.Proofs.YtckkodiefpdmhaaDoor
set_option linter.unusedVariables false
set_option linter.unusedSimpArgs false
set_option maxHeartbeats 0
set_option maxRecDepth 100000
namespace Go.Proofs.YtckkodiefpdmhaaDoor
open Go.Sx
open Classical
noncomputable section
variable {R : Type}
theorem eqB (p q : api_Pose) : (p.At.a0 == q.At.a0 && (p.At.a1 == q.At.a1 && (p.At.a2 == q.At.a2 && (p.Turn == q.Turn && true)))) = decide (p = q) := by
  by_cases h : p = q
  · rw [decide_eq_true h, h]; simp
  · rw [decide_eq_false h]
    rw [eqP4] at h
    rw [Bool.eq_false_iff]
    intro g
    simp at g
    exact h g
theorem put4_has (m : Mp api_Pose shaft_step) (v v' : api_Pose) (G : List SV → Nat → SV) : (mpD api_PoseC shaft_stepC (putH [SV.int IntKind.i64 v.At.a0, SV.int IntKind.i64 v.At.a1, SV.int IntKind.i64 v.At.a2, SV.int IntKind.i64 v.Turn] (mpH api_PoseC m)) G).has v' = true ↔ (v' = v ∨ m.has v' = true) := by
  show (keyEq [SV.int IntKind.i64 v'.At.a0, SV.int IntKind.i64 v'.At.a1, SV.int IntKind.i64 v'.At.a2, SV.int IntKind.i64 v'.Turn] [SV.int IntKind.i64 v.At.a0, SV.int IntKind.i64 v.At.a1, SV.int IntKind.i64 v.At.a2, SV.int IntKind.i64 v.Turn] || m.has v') = true ↔ _
  rw [Bool.or_eq_true]
  simp [keyEq, eqCells, eqP4]
theorem put4_get (m : Mp api_Pose shaft_step) (v v' u : api_Pose) (mv : Int) (H : List SV → Bool) : (mpD api_PoseC shaft_stepC H (putG [SV.int IntKind.i64 v.At.a0, SV.int IntKind.i64 v.At.a1, SV.int IntKind.i64 v.At.a2, SV.int IntKind.i64 v.Turn]
    [SV.int IntKind.i64 u.At.a0, SV.int IntKind.i64 u.At.a1, SV.int IntKind.i64 u.At.a2, SV.int IntKind.i64 u.Turn, SV.int IntKind.i64 mv] (mpG api_PoseC shaft_stepC m))).get v' = if v' = v then ⟨u, mv⟩ else m.get v' := by
  show shaft_stepC.dec (fun j => bif keyEq [SV.int IntKind.i64 v'.At.a0, SV.int IntKind.i64 v'.At.a1, SV.int IntKind.i64 v'.At.a2, SV.int IntKind.i64 v'.Turn] [SV.int IntKind.i64 v.At.a0, SV.int IntKind.i64 v.At.a1, SV.int IntKind.i64 v.At.a2, SV.int IntKind.i64 v.Turn] then
    lget [SV.int IntKind.i64 u.At.a0, SV.int IntKind.i64 u.At.a1, SV.int IntKind.i64 u.At.a2, SV.int IntKind.i64 u.Turn, SV.int IntKind.i64 mv] j else lget (shaft_stepC.enc (m.get v')) j) = _
  have hk : keyEq [SV.int IntKind.i64 v'.At.a0, SV.int IntKind.i64 v'.At.a1, SV.int IntKind.i64 v'.At.a2, SV.int IntKind.i64 v'.Turn] [SV.int IntKind.i64 v.At.a0, SV.int IntKind.i64 v.At.a1, SV.int IntKind.i64 v.At.a2, SV.int IntKind.i64 v.Turn] = decide (v' = v) := by
    rw [Bool.eq_iff_iff, decide_eq_true_eq]
    simp [keyEq, eqCells, eqP4]
  rw [hk]
  by_cases h : v' = v
  · rw [decide_eq_true h, if_pos h]; rfl
  · rw [decide_eq_false h, if_neg h]; rfl
structure CS (s : api_Shaft) (e : Arr3_int) (a : api_Pose) (came : Mp api_Pose shaft_step) (arr : Arr api_Pose) (q : Nat → api_Pose) (pc lv : Nat → Nat) (len T : Nat) : Prop where
  bfs : Br.Bfs (stepV s e) q pc lv len T
  root : q 0 = a
  fit : ∀ i, i < len → fitsP s e (q i)
  n : arr.n = len
  f : ∀ i, i < len → arr.f i = q i
  has : ∀ v, came.has v = true ↔ ∃ i, i < len ∧ q i = v
  get : ∀ i, 0 < i → i < len → came.get (q i) = ⟨q (pc i / 9), ((pc i % 9 : Nat) : Int)⟩
section
variable {s : api_Shaft} (v : VS s) {e : Arr3_int} (he : E3 e) {w : Mp Arr3_int Unit} (hw : WM s w) {a b : api_Pose}
include v he hw
theorem carry_l7 (N : Nat) (hN : 300 ≤ N) (k2 : Mp api_Pose shaft_step → Bool → Arr api_Pose → Option R) (at' : Nat) : ∀ (r m n : Nat) (came : Mp api_Pose shaft_step) (nl : Bool) (arr : Arr api_Pose) (q : Nat → api_Pose) (pc lv : Nat → Nat) (len : Nat),
    m + r = 9 → r < n → at' < len → CS s e a came arr q pc lv len (9 * at' + m) →
    ∃ came' nl' arr' q' pc' lv' len', CS s e a came' arr' q' pc' lv' len' (9 * at' + 9) ∧ len ≤ len' ∧ (∀ i, i < len → q' i = q i) ∧
      shaft_crate_carry_l7 N n (at' : Int) (m : Int) s.Size.a0 s.Size.a1 s.Size.a2 e.a0 e.a1 e.a2 w a b came nl arr k2 = k2 came' nl' arr' := by
  intro r
  induction r with
  | zero =>
    intro m n came nl arr q pc lv len h1 h2 h3 h4
    obtain ⟨n, rfl⟩ : ∃ m, n = m + 1 := ⟨n - 1, by omega⟩
    have : m = 9 := by omega
    subst this
    refine ⟨came, nl, arr, q, pc, lv, len, h4, Nat.le_refl _, fun _ _ => rfl, ?_⟩
    unfold shaft_crate_carry_l7 shaft_crate_carry_b7
    rfl
  | succ r ih =>
    intro m n came nl arr q pc lv len h1 h2 h3 h4
    obtain ⟨n, rfl⟩ : ∃ m, n = m + 1 := ⟨n - 1, by omega⟩
    have hm : m < 9 := by omega
    have hin : (decide ((0 : Int) ≤ (at' : Int)) && decide ((at' : Int) < ((Arr.n arr : Nat) : Int))) = true := by rw [nat_nonneg, h4.n, ltT h3]; rfl
    have ed : (9 * at' + m) / 9 = at' := by omega
    have em : (9 * at' + m) % 9 = m := by omega
    have hwm : w64 ((m : Int) + 1) = ((m + 1 : Nat) : Int) := w64_succ (by omega)
    have hfp := h4.fit at' h3
    unfold shaft_crate_carry_l7 shaft_crate_carry_b7
    rw [decide_eq_true (show (m : Int) < 9 by omega), hin, Int.toNat_natCast, h4.f at' h3]
    simp only [cond_true]
    rw [shMove_eq v he hw hfp (m9 hm) N hN, hwm]
    by_cases ho : mvOk s e (q at') (m : Int)
    rotate_left
    · rw [decide_eq_false ho, cond_false]
      exact ih (m + 1) n came nl arr q pc lv len (by omega) (by omega) h3
        { h4 with bfs := by have := h4.bfs.skip (fun v hv => by rw [ed, em, stepV_none ho] at hv; cases hv); exact this }
    rw [decide_eq_true ho, cond_true]
    have hstep : stepV s e (q ((9 * at' + m) / 9)) ((9 * at' + m) % 9) = some (mvPose (q at') (m : Int)) := by rw [ed, em]; exact stepV_of hm ho
    have hfit := mv_fits hfp (m9 hm) ho
    generalize mvPose (q at') (m : Int) = u at hstep hfit ⊢
    show ∃ came' nl' arr' q' pc' lv' len', _ ∧ _ ∧ _ ∧ (bif !came.has u then _ else _) = _
    by_cases hh : came.has u = true
    · rw [hh]
      simp only [Bool.not_true, cond_false]
      exact ih (m + 1) n came nl arr q pc lv len (by omega) (by omega) h3
        { h4 with bfs := by have := h4.bfs.skip (fun v hv => by rw [hstep] at hv; injection hv with hv; subst hv; exact (h4.has _).1 hh); exact this }
    · have hh' : came.has u = false := by simpa using hh
      rw [hh']
      simp only [Bool.not_false, cond_true]
      have hlen := bfs_len v he h4.bfs h4.fit
      rw [room_of (show Arr.n arr + 1 ≤ 1073741824 by rw [h4.n]; omega), cond_true]
      have hnot : ∀ i, i < len → q i ≠ u := fun i hi he => hh ((h4.has u).2 ⟨i, hi, he⟩)
      have hb := h4.bfs.push (by rw [ed]; exact h3) hstep hnot
      have hp : CS s e a (mpD api_PoseC shaft_stepC (putH [SV.int IntKind.i64 u.At.a0, SV.int IntKind.i64 u.At.a1, SV.int IntKind.i64 u.At.a2, SV.int IntKind.i64 u.Turn] (mpH api_PoseC came))
          (putG [SV.int IntKind.i64 u.At.a0, SV.int IntKind.i64 u.At.a1, SV.int IntKind.i64 u.At.a2, SV.int IntKind.i64 u.Turn] [SV.int IntKind.i64 (q at').At.a0, SV.int IntKind.i64 (q at').At.a1, SV.int IntKind.i64 (q at').At.a2, SV.int IntKind.i64 (q at').Turn, SV.int IntKind.i64 (m : Int)] (mpG api_PoseC shaft_stepC came)))
          (lst api_PoseC (Arr.n arr + 1) (catC (Arr.n arr) (Cod.cell api_PoseC (Arr.f arr)) (litC [SV.int IntKind.i64 0, SV.int IntKind.i64 0, SV.int IntKind.i64 0, SV.int IntKind.i64 0] [[SV.int IntKind.i64 u.At.a0, SV.int IntKind.i64 u.At.a1, SV.int IntKind.i64 u.At.a2, SV.int IntKind.i64 u.Turn]])))
          (fun j => if j = len then u else q j) (fun j => if j = len then 9 * at' + m else pc j) (fun j => if j = len then lv ((9 * at' + m) / 9) + 1 else lv j) (len + 1) (9 * at' + (m + 1)) := by
        have hA : arr.Is len (fun j => if j = len then u else q j) := ⟨h4.n, fun i hi => by
          try dsimp only
          rw [if_neg (by omega)]; exact h4.f i hi⟩
        have hA2 := hA.push (C := api_PoseC) (fun x => rfl) (z := [SV.int IntKind.i64 0, SV.int IntKind.i64 0, SV.int IntKind.i64 0, SV.int IntKind.i64 0]) (e := [SV.int IntKind.i64 u.At.a0, SV.int IntKind.i64 u.At.a1, SV.int IntKind.i64 u.At.a2, SV.int IntKind.i64 u.Turn]) (by rw [if_pos rfl]; rfl)
        refine ⟨hb, ?_, fun i hi => ?_, hA2.len, hA2.get, fun x => ?_, fun i h0 hi => ?_⟩
        · try dsimp only
          rw [if_neg (by omega)]; exact h4.root
        · try dsimp only
          split
          · exact hfit
          · exact h4.fit i (by omega)
        · rw [put4_has, h4.has]
          constructor
          · rintro (rfl | ⟨i, hi, hq⟩)
            · exact ⟨len, by omega, by simp⟩
            · exact ⟨i, by omega, by rw [if_neg (by omega)]; exact hq⟩
          · rintro ⟨i, hi, hq⟩
            try dsimp only at hq
            by_cases e1 : i = len
            · rw [if_pos e1] at hq; exact .inl hq.symm
            · rw [if_neg e1] at hq; exact .inr ⟨i, by omega, hq⟩
        · rw [put4_get]
          try dsimp only
          by_cases e1 : i = len
          · rw [if_pos e1, if_pos e1, if_pos rfl, ed, em, if_neg (by omega)]
          · obtain ⟨g1, g2, _⟩ := h4.bfs.edge i h0 (by omega)
            rw [if_neg e1, if_neg e1, if_neg (hnot i (by omega)), if_neg (by omega)]
            exact h4.get i h0 (by omega)
      obtain ⟨came', nl', arr', q', pc', lv', len', k1, k3, k4, k5⟩ := ih (m + 1) n _ false _ _ _ _ (len + 1) (by omega) (by omega) (by omega) hp
      refine ⟨came', nl', arr', q', pc', lv', len', k1, by omega, fun i hi => ?_, k5⟩
      rw [k4 i (by omega)]
      try dsimp only
      rw [if_neg (by omega)]
theorem carry_l4 (N : Nat) (hN : 300 ≤ N) (k0 : Mp api_Pose shaft_step → Option R) : ∀ (r at' n : Nat) (came : Mp api_Pose shaft_step) (nl : Bool) (arr : Arr api_Pose) (q : Nat → api_Pose) (pc lv : Nat → Nat) (len : Nat),
    at' + r = 3073 → r < n → at' ≤ len → (∀ i, i < at' → q i ≠ b) → CS s e a came arr q pc lv len (9 * at') →
    ∃ came' arr' q' pc' lv' len' T', CS s e a came' arr' q' pc' lv' len' T' ∧ ((∃ d, d < len' ∧ q' d = b ∧ 9 * d ≤ T') ∨ (9 * len' ≤ T' ∧ ∀ i, i < len' → q' i ≠ b)) ∧
      shaft_crate_carry_l4 N n (at' : Int) s.Size.a0 s.Size.a1 s.Size.a2 e.a0 e.a1 e.a2 w a b came nl arr k0 = k0 came' := by
  intro r
  induction r with
  | zero =>
    intro at' n came nl arr q pc lv len h1 h2 h3 h5 h4
    have := bfs_len v he h4.bfs h4.fit
    omega
  | succ r ih =>
    intro at' n came nl arr q pc lv len h1 h2 h3 h5 h4
    obtain ⟨n, rfl⟩ : ∃ m, n = m + 1 := ⟨n - 1, by omega⟩
    have hlen := bfs_len v he h4.bfs h4.fit
    unfold shaft_crate_carry_l4 shaft_crate_carry_b4
    rw [h4.n]
    by_cases hlt : at' < len
    rotate_left
    · rw [ltF (show len ≤ at' by omega), cond_false]
      have : at' = len := by omega
      subst this
      exact ⟨came, arr, q, pc, lv, at', 9 * at', h4, .inr ⟨Nat.le_refl _, h5⟩, rfl⟩
    rw [ltT hlt, nat_nonneg, Int.toNat_natCast, h4.f at' hlt, eqB]
    simp only [Bool.and_self, cond_true]
    by_cases hb : q at' = b
    · rw [decide_eq_true hb]
      exact ⟨came, arr, q, pc, lv, len, 9 * at', h4, .inl ⟨at', hlt, hb, Nat.le_refl _⟩, rfl⟩
    rw [decide_eq_false hb]
    simp only [Bool.not_false, cond_true]
    obtain ⟨came', nl', arr', q', pc', lv', len', k1, k3, k4, k5⟩ := carry_l7 (b := b) v he hw N hN (fun r421 r422 r423 => shaft_crate_carry_l4 N n (w64 ((at' : Int) + 1)) s.Size.a0 s.Size.a1 s.Size.a2 e.a0 e.a1 e.a2 w a b r421 r422 r423 k0) at' 9 0 N came nl arr q pc lv len (by omega) (by omega) hlt h4
    obtain ⟨came2, arr2, q2, pc2, lv2, len2, T2, j1, j2, j3⟩ := ih (at' + 1) n came' nl' arr' q' pc' lv' len' (by omega) (by omega) (by omega) (fun i hi => by
      rw [k4 i (by omega)]
      by_cases e1 : i = at'
      · subst e1; exact hb
      · exact h5 i (by omega)) (by rw [show 9 * (at' + 1) = 9 * at' + 9 by omega]; exact k1)
    refine ⟨came2, arr2, q2, pc2, lv2, len2, T2, j1, j2, ?_⟩
    refine Eq.trans k5 ?_
    rw [w64_succ (show at' < 1000000000000 by omega)]
    exact j3
omit v he hw in
theorem lv_le {q : Nat → api_Pose} {pc lv : Nat → Nat} {len T : Nat} (h : Br.Bfs (stepV s e) q pc lv len T) : ∀ i, i < len → lv i ≤ i := by
  intro i
  induction i using Nat.strongRecOn with
  | _ i ih =>
    intro hi
    by_cases e0 : i = 0
    · subst e0; rw [h.lv0]; omega
    · obtain ⟨_, a1, _, a2⟩ := h.edge i (by omega) hi
      have := ih _ a1 (by omega)
      omega
theorem carry_l20 (N : Nat) (k4 : Bool → Arr Int → Option R) {came : Mp api_Pose shaft_step} {arr : Arr api_Pose} {q : Nat → api_Pose} {pc lv : Nat → Nat} {len T : Nat} (h4 : CS s e a came arr q pc lv len T) {d : Nat} (hd : d < len) (x1 x2 x3 x4 x5 x6 : Int) : ∀ (r t n : Nat) (nl : Bool) (out : Arr Int),
    t + r = lv d → r < n → LA out (Br.up pc t d) →
    ∃ nl' out', LA out' (Br.up pc (lv d) d) ∧ shaft_crate_carry_l20 N n x1 x2 x3 x4 x5 x6 w a came nl out (q (Br.anc pc d t)) k4 = k4 nl' out' := by
  intro r
  induction r with
  | zero =>
    intro t n nl out h1 h2 h3
    obtain ⟨n, rfl⟩ : ∃ m, n = m + 1 := ⟨n - 1, by omega⟩
    have : t = lv d := by omega
    subst this
    refine ⟨nl, out, h3, ?_⟩
    unfold shaft_crate_carry_l20 shaft_crate_carry_b20
    rw [eqB, h4.bfs.root hd, h4.root, decide_eq_true rfl]
    rfl
  | succ r ih =>
    intro t n nl out h1 h2 h3
    obtain ⟨n, rfl⟩ : ∃ m, n = m + 1 := ⟨n - 1, by omega⟩
    obtain ⟨g1, g2⟩ := h4.bfs.anc_lv hd t (by omega)
    have g0 := h4.bfs.anc_pos hd (show t < lv d by omega)
    have hlen := bfs_len v he h4.bfs h4.fit
    have hld := lv_le h4.bfs d hd
    unfold shaft_crate_carry_l20 shaft_crate_carry_b20
    have hne : ¬ q (Br.anc pc d t) = a := fun h => by
      have := h4.bfs.inj _ 0 g1 (by omega) (by rw [h, h4.root])
      omega
    rw [eqB, decide_eq_false hne]
    simp only [Bool.not_false, cond_true]
    have hn : out.n = t := by rw [h3.1, Br.up_len]
    rw [room_of (show out.n + 1 ≤ 1073741824 by omega), cond_true]
    have hget := h4.get _ g0 g1
    show ∃ nl' out', _ ∧ shaft_crate_carry_l20 N n x1 x2 x3 x4 x5 x6 w a came false (lst intC (Arr.n out + 1) (catC (Arr.n out) (Cod.cell intC (Arr.f out)) (litC [SV.int IntKind.i64 0] [[SV.int IntKind.i64 (shaft_step.f_move (came.get (q (Br.anc pc d t))))]]))) (shaft_step.f_from (came.get (q (Br.anc pc d t)))) k4 = _
    rw [hget]
    have hp := h3.push (pc (Br.anc pc d t) % 9) (z := [SV.int IntKind.i64 0])
    rw [← Br.up_snoc] at hp
    exact ih (t + 1) n false _ (by omega) (by omega) hp
end
theorem setI_f {a : Arr Int} {m : Nat} {v : Int} (c : Nat → Nat → SV) (x : Nat) : (intC.dec (fun k => setCs m 0 c [SV.int IntKind.i64 v] x k)) = if x = m then v else intC.dec (fun k => c x k) := by
  by_cases e : x = m
  · subst e
    rw [if_pos rfl]
    simp [setCs, setC, intC, toI]
  · have e0 : (x == m) = false := by simpa using e
    rw [if_neg e]
    show intC.dec (fun k => setC m 0 c (SV.int IntKind.i64 v) x k) = _
    simp only [setC, e0, Bool.false_and, cond_false]
theorem reverse_l1 (N : Nat) (L : Nat) (hL : L < 100000) (g : Nat → Int) (k : Arr Int → Option R) : ∀ (r i n : Nat) (nl : Bool) (arr : Arr Int), L ≤ 2 * i + r → r < n → arr.n = L → i ≤ L → (∀ x, x < L → arr.f x = if x < i ∨ L ≤ x + i then g (L - 1 - x) else g x) →
    ∃ arr', (arr'.n = L ∧ ∀ x, x < L → arr'.f x = g (L - 1 - x)) ∧ slices_Reverse___int_int__l1 N n (i : Int) ((L : Int) - 1 - (i : Int)) nl arr k = k arr' := by
  intro r
  induction r with
  | zero =>
    intro i n nl arr h1 h2 h3 h5 h4
    obtain ⟨n, rfl⟩ : ∃ m, n = m + 1 := ⟨n - 1, by omega⟩
    refine ⟨arr, ⟨h3, fun x hx => by rw [h4 x hx, if_pos (by omega)]⟩, ?_⟩
    unfold slices_Reverse___int_int__l1 slices_Reverse___int_int__b1
    rw [decide_eq_false (by omega), cond_false]
  | succ r ih =>
    intro i n nl arr h1 h2 h3 h5 h4
    obtain ⟨n, rfl⟩ : ∃ m, n = m + 1 := ⟨n - 1, by omega⟩
    unfold slices_Reverse___int_int__l1 slices_Reverse___int_int__b1
    by_cases hlt : (i : Int) < (L : Int) - 1 - (i : Int)
    rotate_left
    · rw [decide_eq_false hlt, cond_false]
      refine ⟨arr, ⟨h3, fun x hx => ?_⟩, rfl⟩
      rw [h4 x hx]
      split
      · rfl
      · have : x = L - 1 - x := by omega
        rw [← this]
    obtain ⟨j, hj⟩ : ∃ j : Nat, (L : Int) - 1 - (i : Int) = (j : Int) := ⟨((L : Int) - 1 - (i : Int)).toNat, by omega⟩
    rw [hj] at hlt ⊢
    rw [decide_eq_true hlt, nat_nonneg, nat_nonneg, h3, ltT (show j < L by omega), ltT (show i < L by omega), Int.toNat_natCast, Int.toNat_natCast, w64_succ (show i < 1000000000000 by omega),
      w64_eq (show -9223372036854775808 ≤ (j : Int) - 1 by omega) (by omega)]
    simp only [Bool.and_self, cond_true]
    rw [show (j : Int) - 1 = (L : Int) - 1 - ((i + 1 : Nat) : Int) by omega]
    refine ih (i + 1) n nl _ (by omega) (by omega) rfl (by omega) (fun x hx => ?_)
    show intC.dec (fun m => setCs j 0 (setCs i 0 (Cod.cell intC arr.f) [SV.int IntKind.i64 (arr.f j)]) [SV.int IntKind.i64 (arr.f i)] x m) = _
    rw [setI_f (a := arr), setI_f (a := arr)]
    show (if x = j then arr.f i else if x = i then arr.f j else arr.f x) = _
    have hi := h4 i (by omega)
    rw [if_neg (by omega)] at hi
    have hj2 := h4 j (by omega)
    rw [if_neg (by omega)] at hj2
    rw [hi, hj2, h4 x hx]
    by_cases e1 : x = j
    · rw [if_pos e1, if_pos (by omega)]; congr 1; omega
    · rw [if_neg e1]
      by_cases e2 : x = i
      · rw [if_pos e2, if_pos (by omega)]; congr 1; omega
      · rw [if_neg e2]
        by_cases e3 : x < i ∨ L ≤ x + i
        · rw [if_pos e3, if_pos (by omega)]
        · rw [if_neg e3, if_neg (by omega)]
theorem reverse_eq (N : Nat) {ms : List Nat} {arr : Arr Int} (h : LA arr ms) (hN : ms.length < N) (hL : ms.length < 100000) (nl : Bool) (k : Arr Int → Option R) : ∃ arr', LA arr' ms.reverse ∧ slices_Reverse___int_int_ N nl arr k = k arr' := by
  rw [slices_Reverse___int_int__def]
  unfold slices_Reverse___int_int__m
  rw [h.1, w64_eq (show -9223372036854775808 ≤ (ms.length : Int) - 1 by omega) (by omega)]
  have := reverse_l1 (R := R) N ms.length hL (fun x => ((ms.getD x 0 : Nat) : Int)) (fun r => k r) ms.length 0 N nl arr (by omega) hN h.1 (by omega) (fun x hx => by
    try dsimp only
    rw [if_neg (by omega)]; exact h.2 x hx)
  rw [show ((0 : Nat) : Int) = 0 from rfl, Int.sub_zero] at this
  obtain ⟨arr', ⟨h1, h2⟩, h3⟩ := this
  refine ⟨arr', ⟨by rw [h1]; simp, fun j hj => ?_⟩, h3⟩
  simp at hj
  rw [h2 j hj]
  simp only [List.getD_eq_getElem?_getD]
  rw [List.getElem?_reverse hj]
theorem shCarry_eq {s : api_Shaft} (v : VS s) {e : Arr3_int} (he : E3 e) {w : Mp Arr3_int Unit} (hw : WM s w) {a b : api_Pose} (ha : fitsP s e a) (hb : fitsP s e b) (N : Nat) (hN : 4000 ≤ N) (k : Bool → Bool → Arr Int → Option R) :
    (∃ ms nl arr, Br.Gr (stepV s e) b a ms ∧ ms.length ≤ 3072 ∧ LA arr ms ∧ shaft_crate_carry N a b s.Size.a0 s.Size.a1 s.Size.a2 e.a0 e.a1 e.a2 w k = k true nl arr) ∨
    ((∀ n, ¬ Br.Way (stepV s e) a b n) ∧ shaft_crate_carry N a b s.Size.a0 s.Size.a1 s.Size.a2 e.a0 e.a1 e.a2 w k = k false true (lst intC 0 (zeroC [SV.int IntKind.i64 0]))) := by
  rw [shaft_crate_carry_def]
  unfold shaft_crate_carry_m
  generalize hc0 : mpD api_PoseC shaft_stepC (putH [SV.int IntKind.i64 a.At.a0, SV.int IntKind.i64 a.At.a1, SV.int IntKind.i64 a.At.a2, SV.int IntKind.i64 a.Turn] noH) _ = c0
  generalize ha0 : lst api_PoseC 1 _ = a0
  have h0 : CS s e a c0 a0 (fun _ => a) (fun _ => 0) (fun _ => 0) 1 0 := by
    refine ⟨Br.Bfs.begin _, rfl, fun i hi => ha, ?_, fun i hi => ?_, fun x => ?_, fun i h1 h2 => by omega⟩
    · rw [← ha0]; rfl
    · have : i = 0 := by omega
      subst this
      rw [← ha0]; rfl
    · rw [← hc0]
      show (keyEq [SV.int IntKind.i64 x.At.a0, SV.int IntKind.i64 x.At.a1, SV.int IntKind.i64 x.At.a2, SV.int IntKind.i64 x.Turn] [SV.int IntKind.i64 a.At.a0, SV.int IntKind.i64 a.At.a1, SV.int IntKind.i64 a.At.a2, SV.int IntKind.i64 a.Turn] || false) = true ↔ _
      rw [Bool.or_false]
      constructor
      · intro h
        refine ⟨0, by omega, ?_⟩
        simp [keyEq, eqCells] at h
        rw [eqP4]
        omega
      · rintro ⟨i, hi, rfl⟩
        simp [keyEq, eqCells]
  obtain ⟨came, arr, q, pc, lv, len, T, h4, hcase, hrun⟩ := carry_l4 (b := b) v he hw N (by omega) (fun r424 => bif !Mp.has r424 b then k false true (lst intC 0 (zeroC [SV.int IntKind.i64 0])) else
    shaft_crate_carry_l20 N N s.Size.a0 s.Size.a1 s.Size.a2 e.a0 e.a1 e.a2 w a r424 true (lst intC 0 (zeroC [SV.int IntKind.i64 0])) b (fun r437 r438 => slices_Reverse___int_int_ N r437 r438 (fun r446 => k true r437 r446)))
    3073 0 N c0 false a0 (fun _ => a) (fun _ => 0) (fun _ => 0) 1 (by omega) (by omega) (by omega) (fun i hi => by omega) h0
  rw [show ((0 : Nat) : Int) = 0 from rfl] at hrun
  have hlen := bfs_len v he h4.bfs h4.fit
  rcases hcase with ⟨d, hd, hq, hT⟩ | ⟨hT, hno⟩
  · left
    have hh : came.has b = true := (h4.has b).2 ⟨d, hd, hq⟩
    rw [hh] at hrun
    simp only [Bool.not_true, cond_false] at hrun
    have hld := lv_le h4.bfs d hd
    obtain ⟨nl, out, h5, h6⟩ := carry_l20 (R := R) v he hw N (fun r437 r438 => slices_Reverse___int_int_ N r437 r438 (fun r446 => k true r437 r446)) h4 hd s.Size.a0 s.Size.a1 s.Size.a2 e.a0 e.a1 e.a2 (lv d) 0 N true (lst intC 0 (zeroC [SV.int IntKind.i64 0])) (by omega) (by omega) (LA.nil rfl)
    obtain ⟨arr', h7, h8⟩ := reverse_eq (R := R) N h5 (by rw [Br.up_len]; omega) (by rw [Br.up_len]; omega) nl (fun r446 => k true nl r446)
    refine ⟨(Br.up pc (lv d) d).reverse, nl, arr', ?_, by rw [List.length_reverse, Br.up_len]; omega, h7, Eq.trans hrun ?_⟩
    · have := h4.bfs.gr0 step_lt hd hT
      rwa [hq, h4.root] at this
    · have h6' : shaft_crate_carry_l20 N N s.Size.a0 s.Size.a1 s.Size.a2 e.a0 e.a1 e.a2 w a came true (lst intC 0 (zeroC [SV.int IntKind.i64 0])) b (fun r437 r438 => slices_Reverse___int_int_ N r437 r438 (fun r446 => k true r437 r446)) = slices_Reverse___int_int_ N nl out (fun r446 => k true nl r446) := by
        rw [← hq]; exact h6
      exact Eq.trans h6' h8
  · right
    have hh : came.has b = false := by
      rw [Bool.eq_false_iff]
      intro h
      obtain ⟨i, hi, hq⟩ := (h4.has b).1 h
      exact hno i hi hq
    rw [hh] at hrun
    refine ⟨fun n w => ?_, Eq.trans hrun rfl⟩
    obtain ⟨i, hi, hq, _⟩ := h4.bfs.all step_lt hT n b (by rw [h4.root]; exact w)
    exact hno i hi hq
end
end Go.Proofs.YtckkodiefpdmhaaDoor
set_option linter.unusedVariables false
set_option linter.unusedSimpArgs false
set_option linter.unusedSectionVars false
set_option maxHeartbeats 0
set_option maxRecDepth 100000
namespace Go.Proofs.YtckkodiefpdmhaaDoor
open Go.Sx
open Classical
noncomputable section
variable {R : Type}
structure FS (s : api_Shaft) (e : Arr3_int) (a : api_Pose) (l : Arr Int) (arr : Arr api_Pose) (q : Nat → api_Pose) (pc lv : Nat → Nat) (len T : Nat) : Prop where
  bfs : Br.Bfs (stepV s e) q pc lv len T
  root : q 0 = a
  fit : ∀ i, i < len → fitsP s e (q i)
  n : arr.n = len
  f : ∀ i, i < len → arr.f i = q i
  ln : l.n = 3072
  at_ : ∀ i, i < len → l.f (num (q i)).toNat = ((lv i : Nat) : Int)
  no : ∀ p, fitsP s e p → (∀ i, i < len → q i ≠ p) → l.f (num p).toNat = -1
theorem set_f (a : Arr Int) (c m : Nat) (v : Int) (x : Nat) : (lst intC c (setCs m 0 (Cod.cell intC (Arr.f a)) [SV.int IntKind.i64 v])).f x = if x = m then v else a.f x := by
  show intC.dec (fun k => setCs m 0 (Cod.cell intC a.f) [SV.int IntKind.i64 v] x k) = _
  rw [setI_f (a := a)]
  rfl
section
variable {s : api_Shaft} (v : VS s) {e : Arr3_int} (he : E3 e) {a : api_Pose}
include v he
def Far (s : api_Shaft) (e : Arr3_int) (to : api_Pose) (l : Arr Int) : Prop := l.n = 3072 ∧ ∀ p, fitsP s e p →
  (∃ n : Nat, n ≤ 3072 ∧ l.f (num p).toNat = (n : Int) ∧ Br.Way (stepV s e) p to n ∧ ∀ n', n' < n → ¬ Br.Way (stepV s e) p to n') ∨ (l.f (num p).toNat = -1 ∧ ∀ n, ¬ Br.Way (stepV s e) p to n)
section
variable {b : api_Pose} {l : Arr Int} (hl : Far s e b l)
include hl
end
end
def carE (s : api_Shaft) (e : Arr3_int) (a b : api_Pose) : Int := if errC s e ≠ 0 then errC s e else if ¬ fitsP s e a then 1 else if ¬ fitsP s e b then 1 else if ∃ n, Br.Way (stepV s e) a b n then 0 else 3
def CarOk (s : api_Shaft) (e : Arr3_int) (a b : api_Pose) (arr : Arr Int) : Prop := (carE s e a b = 0 → ∃ ms, Br.Gr (stepV s e) b a ms ∧ ms.length ≤ 3072 ∧ LA arr ms) ∧ (carE s e a b ≠ 0 → arr.n = 0)
theorem carE_of {s : api_Shaft} {e : Arr3_int} {a b : api_Pose} (v : VS s) (g : E3 e) (ha : fitsP s e a) (hb : fitsP s e b) : carE s e a b = if ∃ n, Br.Way (stepV s e) a b n then 0 else 3 := by
  unfold carE
  rw [if_neg (by simpa using errC_ok v g), if_neg (by simpa using ha), if_neg (by simpa using hb)]
theorem CarOk.same {s : api_Shaft} {e : Arr3_int} {a b : api_Pose} {x y : Arr Int} (h : CarOk s e a b x) (k : CarOk s e a b y) : x.n = y.n ∧ ∀ j, j < x.n → x.f j = y.f j := by
  by_cases c : carE s e a b = 0
  · obtain ⟨ms, h1, _, h2⟩ := h.1 c
    obtain ⟨ms', k1, _, k2⟩ := k.1 c
    have := h1.unique k1
    subst this
    exact h2.same k2
  · have h1 := h.2 c
    have h2 := k.2 c
    exact ⟨by omega, fun j hj => by omega⟩
theorem shCarryF (s : api_Shaft) (e : Arr3_int) (a b : api_Pose) (N : Nat) (hN : 4000 ≤ N) (k : Int → Bool → Arr Int → Option R) : ∃ nl arr, CarOk s e a b arr ∧ shaft_Carry N s e a b k = k (carE s e a b) nl arr := by
  rw [shaft_Carry_def]
  unfold shaft_Carry_m
  rw [shcheck_eq s e N (by omega)]
  by_cases h0 : errC s e = 0
  rotate_left
  · have hc : carE s e a b = errC s e := by unfold carE; rw [if_pos h0]
    refine ⟨true, lst intC 0 (zeroC [SV.int IntKind.i64 0]), ⟨fun g => absurd (hc.symm.trans g) h0, fun _ => rfl⟩, ?_⟩
    rw [bne0 h0, cond_true, hc]
  obtain ⟨v, he⟩ := errC_zero h0
  rw [h0]
  simp only [show ((0 : Int) != 0) = false from rfl, cond_false]
  obtain ⟨w, hw, hb0⟩ := begin_eq (R := R) v.many e N (by omega) (fun r374 r375 r376 r377 r378 r379 r380 => shaft_crate_fits N a r374 r375 r376 r377 r378 r379 r380 (fun r381 => bif !r381 then k 1 true (lst intC 0 (zeroC [SV.int IntKind.i64 0])) else
    shaft_crate_fits N b r374 r375 r376 r377 r378 r379 r380 (fun r382 => bif !r382 then k 1 true (lst intC 0 (zeroC [SV.int IntKind.i64 0])) else
     shaft_crate_carry N a b r374 r375 r376 r377 r378 r379 r380 (fun r447 r448 r449 => bif !r447 then k 3 true (lst intC 0 (zeroC [SV.int IntKind.i64 0])) else k 0 r448 r449))))
  rw [shFits_eq v he hw a N (by omega)] at hb0
  by_cases ha : fitsP s e a
  rotate_left
  · have hc : carE s e a b = 1 := by unfold carE; rw [if_neg (by omega), if_pos ha]
    exact ⟨true, lst intC 0 (zeroC [SV.int IntKind.i64 0]), ⟨fun g => by omega, fun _ => rfl⟩, Eq.trans hb0 (by rw [decide_eq_false ha, hc]; rfl)⟩
  rw [decide_eq_true ha] at hb0
  simp only [Bool.not_true, cond_false] at hb0
  rw [shFits_eq v he hw b N (by omega)] at hb0
  by_cases hb : fitsP s e b
  rotate_left
  · have hc : carE s e a b = 1 := by unfold carE; rw [if_neg (by omega), if_neg (by simpa using ha), if_pos hb]
    exact ⟨true, lst intC 0 (zeroC [SV.int IntKind.i64 0]), ⟨fun g => by omega, fun _ => rfl⟩, Eq.trans hb0 (by rw [decide_eq_false hb, hc]; rfl)⟩
  rw [decide_eq_true hb] at hb0
  simp only [Bool.not_true, cond_false] at hb0
  rcases shCarry_eq (R := R) v he hw ha hb N hN (fun r447 r448 r449 => bif !r447 then k 3 true (lst intC 0 (zeroC [SV.int IntKind.i64 0])) else k 0 r448 r449) with ⟨ms, nl, arr, h1, hl, h2, h3⟩ | ⟨h1, h3⟩
  · have hc : carE s e a b = 0 := by rw [carE_of v he ha hb, if_pos ⟨_, h1.Way⟩]
    exact ⟨nl, arr, ⟨fun _ => ⟨ms, h1, hl, h2⟩, fun g => absurd hc g⟩, Eq.trans hb0 (by rw [h3, hc]; rfl)⟩
  · have hc : carE s e a b = 3 := by rw [carE_of v he ha hb, if_neg (fun ⟨n, w⟩ => h1 n w)]
    exact ⟨true, _, ⟨fun g => by omega, fun _ => rfl⟩, Eq.trans hb0 (by rw [h3, hc]; rfl)⟩
end
end Go.Proofs.YtckkodiefpdmhaaDoor
