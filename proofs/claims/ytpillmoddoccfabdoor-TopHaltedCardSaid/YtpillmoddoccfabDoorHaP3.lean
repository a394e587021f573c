import Derived.Test.YtpillmoddoccfabDoorHaP2
set_option linter.unusedVariables false
set_option linter.unusedSimpArgs false
set_option linter.unusedSectionVars false
set_option maxHeartbeats 0
set_option maxRecDepth 100000
namespace Go.Proofs.YtpillmoddoccfabDoor
namespace Ha
open Go.Sx Si
open Classical
noncomputable section
variable {R : Type}
theorem pigeon : ∀ (k n : Nat) (f : Nat → Nat), (∀ i, i < n → f i < k) → (∀ i j, i < n → j < n → f i = f j → i = j) → n ≤ k := by
  intro k
  induction k with
  | zero =>
    intro n f h1 _
    rcases Nat.eq_zero_or_pos n with e | e
    · omega
    · have := h1 0 e; omega
  | succ k ih =>
    intro n f h1 h2
    cases n with
    | zero => omega
    | succ n =>
      have : n ≤ k := by
        by_cases e : f n = k
        · refine ih n f (fun i hi => ?_) (fun i j hi hj => h2 i j (by omega) (by omega))
          have := h1 i (by omega)
          have : f i ≠ k := fun g => by have := h2 i n (by omega) (by omega) (by rw [g, e]); omega
          omega
        · have hn := h1 n (by omega)
          refine ih n (fun i => if f i = k then f n else f i) (fun i hi => ?_) (fun i j hi hj hg => ?_)
          · have := h1 i (by omega)
            try dsimp only
            split <;> omega
          · try dsimp only at hg
            split at hg <;> split at hg
            · exact h2 i j (by omega) (by omega) (by omega)
            · have := h2 n j (by omega) (by omega) hg; omega
            · have := h2 i n (by omega) (by omega) hg; omega
            · exact h2 i j (by omega) (by omega) hg
      omega
theorem eqPl {p q : api_Place} : p = q ↔ (p.State = q.State ∧ p.Values.a0 = q.Values.a0 ∧ p.Values.a1 = q.Values.a1) := by
  obtain ⟨s, a, b⟩ := p
  obtain ⟨s', a', b'⟩ := q
  constructor
  · intro h; rw [h]; exact ⟨rfl, rfl, rfl⟩
  · rintro ⟨h1, h2, h3⟩
    simp only at h1 h2 h3
    subst h1 h2 h3
    rfl
theorem key3 (a b c x y z : Int) : keyEq [SV.int IntKind.i64 a, SV.int IntKind.i64 b, SV.int IntKind.i64 c] [SV.int IntKind.i64 x, SV.int IntKind.i64 y, SV.int IntKind.i64 z] = decide (a = x ∧ b = y ∧ c = z) := by
  simp [keyEq, eqCells]
  by_cases h1 : a = x <;> by_cases h2 : b = y <;> by_cases h3 : c = z <;> simp [h1, h2, h3]
theorem has_put (mp : Mp api_Place Int) (s a b : Int) (g : List SV → Nat → SV) (p : api_Place) : Mp.has (mpD api_PlaceC intC (putH [SV.int IntKind.i64 s, SV.int IntKind.i64 a, SV.int IntKind.i64 b] (mpH api_PlaceC mp)) g) p = (decide (p = ⟨s, ⟨a, b⟩⟩) || Mp.has mp p) := by
  show (keyEq [SV.int IntKind.i64 p.State, SV.int IntKind.i64 p.Values.a0, SV.int IntKind.i64 p.Values.a1] [SV.int IntKind.i64 s, SV.int IntKind.i64 a, SV.int IntKind.i64 b] || Mp.has mp p) = _
  rw [key3]
  congr 1
  exact decide_eq_decide.2 (eqPl (p := p) (q := ⟨s, ⟨a, b⟩⟩)).symm
theorem has_one (s a b : Int) (g : List SV → Nat → SV) (p : api_Place) : Mp.has (mpD api_PlaceC intC (putH [SV.int IntKind.i64 s, SV.int IntKind.i64 a, SV.int IntKind.i64 b] noH) g) p = decide (p = ⟨s, ⟨a, b⟩⟩) := by
  show (keyEq [SV.int IntKind.i64 p.State, SV.int IntKind.i64 p.Values.a0, SV.int IntKind.i64 p.Values.a1] [SV.int IntKind.i64 s, SV.int IntKind.i64 a, SV.int IntKind.i64 b] || false) = _
  rw [key3, Bool.or_false]
  exact decide_eq_decide.2 (eqPl (p := p) (q := ⟨s, ⟨a, b⟩⟩)).symm
structure XI (m : api_Machine) (mp : Mp api_Place Int) (l : Arr api_Place) : Prop where
  pos : 1 ≤ l.n
  ok : ∀ i, i < l.n → PlP m (l.f i)
  inj : ∀ i j, i < l.n → j < l.n → l.f i = l.f j → i = j
  has : ∀ p, Mp.has mp p = true ↔ ∃ i, i < l.n ∧ l.f i = p
  one : l.f 0 = pl0
theorem pl_bound {m : api_Machine} (v : VM m) {p : api_Place} (h : PlP m p) : (0 ≤ p.State ∧ p.State < 12) ∧ (0 ≤ p.Values.a0 ∧ p.Values.a0 ≤ 7) ∧ (0 ≤ p.Values.a1 ∧ p.Values.a1 ≤ 7) := by
  have hs := v.s
  have h1 := h.s
  have h2 := h.a0
  have h3 := h.a1
  refine ⟨by omega, ?_, ?_⟩
  · by_cases e : 0 < m.Counters.n
    · rw [if_pos e] at h2
      have := (v.cm 0 e).2
      omega
    · rw [if_neg e] at h2; omega
  · by_cases e : 1 < m.Counters.n
    · rw [if_pos e] at h3
      have := (v.cm 1 e).2
      omega
    · rw [if_neg e] at h3; omega
theorem XI.le {m : api_Machine} (v : VM m) {mp : Mp api_Place Int} {l : Arr api_Place} (h : XI m mp l) : l.n ≤ 768 := by
  refine pigeon 768 l.n (fun i => (((l.f i).State * 8 + (l.f i).Values.a0) * 8 + (l.f i).Values.a1).toNat) (fun i hi => ?_) (fun i j hi hj hg => ?_)
  · have := pl_bound v (h.ok i hi)
    show (((l.f i).State * 8 + (l.f i).Values.a0) * 8 + (l.f i).Values.a1).toNat < 768
    omega
  · have h1 := pl_bound v (h.ok i hi)
    have h2 := pl_bound v (h.ok j hj)
    try dsimp only at hg
    refine h.inj i j hi hj (eqPl.2 ⟨?_, ?_, ?_⟩) <;> omega
theorem XI.push {m : api_Machine} {mp : Mp api_Place Int} {l : Arr api_Place} (h : XI m mp l) {q : api_Place} (hq : PlP m q) (hn : ¬ Mp.has mp q = true) {l' : Arr api_Place} (hl : l'.Is (l.n + 1) (fun i => if i < l.n then l.f i else q)) {mp' : Mp api_Place Int} (hm : ∀ p, Mp.has mp' p = (decide (p = q) || Mp.has mp p)) : XI m mp' l' where
  pos := by rw [hl.len]; omega
  ok := fun i hi => by
    rw [hl.len] at hi
    rw [hl.get i hi]
    by_cases c : i < l.n
    · rw [if_pos c]; exact h.ok i c
    · rw [if_neg c]; exact hq
  inj := fun i j hi hj he => by
    rw [hl.len] at hi hj
    rw [hl.get i hi, hl.get j hj] at he
    by_cases c : i < l.n <;> by_cases d : j < l.n
    · rw [if_pos c, if_pos d] at he; exact h.inj i j c d he
    · rw [if_pos c, if_neg d] at he; exact absurd ((h.has q).2 ⟨i, c, he⟩) hn
    · rw [if_neg c, if_pos d] at he; exact absurd ((h.has q).2 ⟨j, d, he.symm⟩) hn
    · omega
  has := fun p => by
    rw [hm, Bool.or_eq_true, decide_eq_true_eq, h.has]
    rw [hl.len]
    constructor
    · rintro (e | ⟨i, hi, e⟩)
      · exact ⟨l.n, by omega, by rw [hl.get l.n (by omega), if_neg (by omega), e]⟩
      · exact ⟨i, by omega, by rw [hl.get i (by omega), if_pos hi, e]⟩
    · rintro ⟨i, hi, e⟩
      rw [hl.get i hi] at e
      by_cases c : i < l.n
      · rw [if_pos c] at e; exact .inr ⟨i, c, e⟩
      · rw [if_neg c] at e; exact .inl e.symm
  one := by
    have := h.pos
    rw [hl.get 0 (by omega), if_pos (by omega)]; exact h.one
section
variable {m : api_Machine} (v : VM m)
include v
theorem allowed_eq (N : Nat) {asm : Arr (Arr api_Literal)} (ha : asm.n = 0) (p : api_Place) (i : Int) (k : Bool → Option R) : sP_Allowed N m.Inputs m.Outputs m.Counters m.States m.Rules asm p i k = k true := by
  rw [sP_Allowed_def]
  unfold sP_Allowed_m
  rw [ha]
  rfl
theorem ex_l9 (N : Nat) (hN : 2000 ≤ N) {asm : Arr (Arr api_Literal)} (has : asm.n = 0) {K : Nat} (hK : K ≤ 16) (at_ : Int) {p : api_Place} (hp : PlP m p) (b5 b7 : Bool) (nx : Arr (Arr Int)) : ∀ (q i n : Nat) (mp : Mp api_Place Int) (row : Arr Int) (bP : Bool) (l : Arr api_Place) (bx : Bool) (x : Arr Int) (by_ : Bool) (y : Arr Int), i + q = K → q < n → row.n = K → XI m mp l → x.n = l.n → y.n = l.n → (∀ j, j < i → ∃ t, t < l.n ∧ l.f t = stepE m p j) →
    ∃ (mp' : Mp api_Place Int) (row' : Arr Int) (bP' : Bool) (l' : Arr api_Place) (bx' : Bool) (x' : Arr Int) (by' : Bool) (y' : Arr Int), XI m mp' l' ∧ x'.n = l'.n ∧ y'.n = l'.n ∧ l.n ≤ l'.n ∧ (∀ t, t < l.n → l'.f t = l.f t) ∧ (∀ j, j < K → ∃ t, t < l'.n ∧ l'.f t = stepE m p j) ∧
      ∀ (k2 : Mp api_Place Int → Arr Int → Bool → Arr api_Place → Bool → Arr Int → Bool → Arr Int → Option R), cP_explore_l9 N n asm at_ (K : Int) (i : Int) m.Inputs m.Outputs m.Counters m.States m.Rules mp p b5 row bP l bx x by_ y b7 nx k2 = k2 mp' row' bP' l' bx' x' by' y' := by
  intro q
  induction q with
  | zero =>
    intro i n mp row bP l bx x by_ y h1 h2 h3 h4 h5 h6 h7
    obtain ⟨n, rfl⟩ : ∃ m, n = m + 1 := ⟨n - 1, by omega⟩
    refine ⟨mp, row, bP, l, bx, x, by_, y, h4, h5, h6, Nat.le_refl _, fun t _ => rfl, fun j hj => h7 j (by omega), fun k2 => ?_⟩
    unfold cP_explore_l9 cP_explore_b9
    simp only [ltF (show K ≤ i by omega), cond_false]
  | succ q ih =>
    intro i n mp row bP l bx x by_ y h1 h2 h3 h4 h5 h6 h7
    obtain ⟨n, rfl⟩ : ∃ m, n = m + 1 := ⟨n - 1, by omega⟩
    have hq : PlP m (stepE m p i) := step_pl v hp i
    have hle := h4.le v
    have eta : (⟨(stepE m p i).State, ⟨(stepE m p i).Values.a0, (stepE m p i).Values.a1⟩⟩ : api_Place) = stepE m p i := rfl
    by_cases hh : Mp.has mp (stepE m p i) = true
    · obtain ⟨t0, ht0, he0⟩ := (h4.has _).1 hh
      obtain ⟨mp', row', bP', l', bx', x', by', y', g1, g2, g3, g4, g5, g6, g7⟩ := ih (i + 1) n mp (lst intC (Arr.n row) (setCs (Int.toNat (i : Int)) (0 : Nat) (setCs (Int.toNat (i : Int)) (0 : Nat) (Cod.cell intC (Arr.f row)) [SV.int IntKind.i64 (-1 : Int)]) [SV.int IntKind.i64 (Mp.get mp (stepE m p i))])) bP l bx x by_ y (by omega) (by omega) h3 h4 h5 h6 (fun j hj => by
        by_cases e : j = i
        · subst e; exact ⟨t0, ht0, he0⟩
        · exact h7 j (by omega))
      refine ⟨mp', row', bP', l', bx', x', by', y', g1, g2, g3, g4, g5, g6, fun k2 => ?_⟩
      unfold cP_explore_l9 cP_explore_b9
      simp only [h3, ltT (show i < K by omega), nat_nonneg, Bool.and_self, cond_true, allowed_eq v N has, Bool.not_true, cond_false, control_same_def, control_same_m, step_eq v (show 200 ≤ N by omega) hp (show i < 16 by omega), eta, hh, w64_succ (show i < 1000000000000 by omega)]
      have := g7 k2
      rw [h3] at this
      exact this
    · have hb : Mp.has mp (stepE m p i) = false := by simpa using hh
      have hpush : Arr.Is (lst api_PlaceC (l.n + 1) (catC l.n (Cod.cell api_PlaceC l.f) (litC [SV.int IntKind.i64 (0 : Int), SV.int IntKind.i64 (0 : Int), SV.int IntKind.i64 (0 : Int)] [[SV.int IntKind.i64 (stepE m p i).State, SV.int IntKind.i64 (stepE m p i).Values.a0, SV.int IntKind.i64 (stepE m p i).Values.a1]]))) (l.n + 1) (fun t => if t < l.n then l.f t else stepE m p i) :=
        Arr.Is.push (fun _ => rfl) (n := l.n) (g := fun t => if t < l.n then l.f t else stepE m p i) ⟨rfl, fun t ht => by rw [if_pos ht]⟩ (by rw [if_neg (Nat.lt_irrefl _)]; rfl)
      have hX := h4.push hq hh hpush (fun p' => has_put mp (stepE m p i).State (stepE m p i).Values.a0 (stepE m p i).Values.a1 (putG [SV.int IntKind.i64 (stepE m p i).State, SV.int IntKind.i64 (stepE m p i).Values.a0, SV.int IntKind.i64 (stepE m p i).Values.a1] [SV.int IntKind.i64 (l.n : Int)] (mpG api_PlaceC intC mp)) p')
      obtain ⟨mp', row', bP', l', bx', x', by', y', g1, g2, g3, g4, g5, g6, g7⟩ := ih (i + 1) n _ (lst intC (Arr.n row) (setCs (Int.toNat (i : Int)) (0 : Nat) (setCs (Int.toNat (i : Int)) (0 : Nat) (Cod.cell intC (Arr.f row)) [SV.int IntKind.i64 (-1 : Int)]) [SV.int IntKind.i64 (l.n : Int)])) false _ false (lst intC (x.n + 1) (catC x.n (Cod.cell intC x.f) (litC [SV.int IntKind.i64 (0 : Int)] [[SV.int IntKind.i64 at_]]))) false (lst intC (y.n + 1) (catC y.n (Cod.cell intC y.f) (litC [SV.int IntKind.i64 (0 : Int)] [[SV.int IntKind.i64 (i : Int)]]))) (by omega) (by omega) h3 hX (by rw [hpush.len]; show x.n + 1 = _; omega) (by rw [hpush.len]; show y.n + 1 = _; omega) (fun j hj => by
        rw [hpush.len]
        by_cases e : j = i
        · subst e; exact ⟨l.n, by omega, by rw [hpush.get l.n (by omega), if_neg (Nat.lt_irrefl _)]⟩
        · obtain ⟨t, t1, t2⟩ := h7 j (by omega)
          exact ⟨t, by omega, by rw [hpush.get t (by omega), if_pos t1, t2]⟩)
      rw [hpush.len] at g4 g5
      refine ⟨mp', row', bP', l', bx', x', by', y', g1, g2, g3, by omega, fun t ht => by rw [g5 t (by omega), hpush.get t (by omega), if_pos ht], g6, fun k2 => ?_⟩
      have r1 : room (l.n + 1) = true := room_of (by omega)
      have r2 : room (x.n + 1) = true := room_of (by omega)
      have r3 : room (y.n + 1) = true := room_of (by omega)
      unfold cP_explore_l9 cP_explore_b9
      simp only [h3, ltT (show i < K by omega), nat_nonneg, Bool.and_self, cond_true, allowed_eq v N has, Bool.not_true, cond_false, control_same_def, control_same_m, step_eq v (show 200 ≤ N by omega) hp (show i < 16 by omega), eta, hb, Bool.not_false, r1, r2, r3, w64_succ (show i < 1000000000000 by omega)]
      have := g7 k2
      rw [h3] at this
      exact this
end
end
end Ha
end Go.Proofs.YtpillmoddoccfabDoor
