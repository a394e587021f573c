/-
  Stations: the program's check, and how far it is.
-/
import Derived.Test.YtpillmoddoccfabWyP2
set_option linter.unusedVariables false
set_option linter.unusedSimpArgs false
set_option linter.unusedSectionVars false
set_option maxHeartbeats 0
set_option maxRecDepth 100000
namespace Go.Proofs.Ytpillmoddoccfab
namespace Wy
open Go.Sx
open Classical
noncomputable section
variable {R : Type}

theorem keyEq_int (a b : Int) : keyEq [SV.int IntKind.i64 a] [SV.int IntKind.i64 b] = (a == b) := by simp [keyEq, eqCells]
theorem putG_int (a v b : Int) (g : List SV → Nat → SV) : toI (putG [SV.int IntKind.i64 a] [SV.int IntKind.i64 v] g [SV.int IntKind.i64 b] 0) = if b = a then v else toI (g [SV.int IntKind.i64 b] 0) := by
  unfold putG
  rw [keyEq_int]
  by_cases h : b = a
  · subst h; simp [lget, toI]
  · have : (b == a) = false := by simpa using h
    simp [this, h]
theorem get_put (m : Go.Sx.Mp Int Int) (a v b : Int) : Go.Sx.Mp.get (mpD intC intC (putH [SV.int IntKind.i64 a] (mpH intC m)) (putG [SV.int IntKind.i64 a] [SV.int IntKind.i64 v] (mpG intC intC m))) b = if b = a then v else Go.Sx.Mp.get m b := by
  show toI (putG [SV.int IntKind.i64 a] [SV.int IntKind.i64 v] (mpG intC intC m) [SV.int IntKind.i64 b] 0) = _
  rw [putG_int]
  rfl

theorem passage_ok {N : Nat} {P : Int} (hP : 1 ≤ P ∧ P ≤ 10) {p : api_Passage} (h : passP P p) (k : Bool → Option R) : ways_passage N p P k = k true := by
  rw [ways_passage_def]
  unfold ways_passage_m
  have hw : w64 (P - 1) = P - 1 := w64_eq (by omega) (by omega)
  have e3 : (p.A == p.B) = false := by simpa using h.ab
  simp only [sIn_eq, hw, h.a, h.b, h.t, h.w, and_self, decide_true, Bool.not_true, cond_false, e3]
  rcases h.k with ⟨h1 | h1 | h1, h2, h3⟩ | ⟨h1, h2, h3⟩ | ⟨h1, h2, h3⟩
  · simp [h1, h2, h3]
  · simp [h1, h2, h3]
  · simp [h1, h2, h3]
  · simp [h1, h2, h3]
  · simp [h1, h2, h3]

theorem wc_l5 (N : Nat) {s : api_Station} (v : VS s) (kr : Int → Option R) (k0 : Unit → Option R) : ∀ (q i n : Nat) (m : Go.Sx.Mp Int Int), i + q = s.Passages.n → q < n → (∀ x, 0 ≤ x → (∀ j, j < i → (s.Passages.f j).Machine ≠ x) → Go.Sx.Mp.get m x = 0) →
    ways_Check_l5 N n s.Passages (s.Passages.n : Int) (i : Int) s m kr k0 = k0 () := by
  intro q
  induction q with
  | zero =>
    intro i n m h1 h2 h3
    obtain ⟨n, rfl⟩ : ∃ m, n = m + 1 := ⟨n - 1, by omega⟩
    unfold ways_Check_l5 ways_Check_b5
    simp only [ltF (show s.Passages.n ≤ i by omega), cond_false]
  | succ q ih =>
    intro i n m h1 h2 h3
    have hn := v.n
    obtain ⟨n, rfl⟩ : ∃ m, n = m + 1 := ⟨n - 1, by omega⟩
    unfold ways_Check_l5 ways_Check_b5
    simp only [ltT (show i < s.Passages.n by omega), nat_nonneg, Bool.and_self, cond_true, Int.toNat_natCast, w64_succ (show i < 1000000000000 by omega), passage_ok v.p (v.pass i (by omega)), Bool.not_true, cond_false, putG_int, if_true]
    have next : ∀ x, 0 ≤ x → (∀ j, j < i + 1 → (s.Passages.f j).Machine ≠ x) → Go.Sx.Mp.get (mpD intC intC (putH [SV.int IntKind.i64 (s.Passages.f i).Machine] (mpH intC m)) (putG [SV.int IntKind.i64 (s.Passages.f i).Machine] [SV.int IntKind.i64 (w64 (Go.Sx.Mp.get m (s.Passages.f i).Machine + 1))] (mpG intC intC m))) x = 0 := by
      intro x h0 hx
      rw [get_put, if_neg (fun e => hx i (by omega) e.symm)]
      exact h3 x h0 fun j hj => hx j (by omega)
    by_cases c1 : (s.Passages.f i).Machine ≥ 0
    · have hg := h3 _ c1 fun j hj => v.m j i hj (by omega) c1
      have hw : w64 ((0 : Int) + 1) = 1 := by decide
      have c2 : ¬ ((1 : Int) > 1) := by omega
      simp only [c1, decide_true, cond_true, hg, hw, c2, decide_false, cond_false]
      rw [hg, hw] at next
      exact ih (i + 1) n _ (by omega) (by omega) next
    · simp only [c1, decide_false, cond_false]
      exact ih (i + 1) n _ (by omega) (by omega) next

theorem wc_l15 (N : Nat) {s : api_Station} (v : VS s) (kr : Int → Option R) (k2 : Unit → Option R) : ∀ (q i n : Nat) (last : Int), i + q = s.Exits.n → q < n → last = (if i = 0 then -1 else s.Exits.f (i - 1)) →
    ways_Check_l15 N n last s.Exits (s.Exits.n : Int) (i : Int) s kr k2 = k2 () := by
  intro q
  induction q with
  | zero =>
    intro i n last h1 h2 h3
    obtain ⟨n, rfl⟩ : ∃ m, n = m + 1 := ⟨n - 1, by omega⟩
    unfold ways_Check_l15 ways_Check_b15
    simp only [ltF (show s.Exits.n ≤ i by omega), cond_false]
  | succ q ih =>
    intro i n last h1 h2 h3
    obtain ⟨n, rfl⟩ : ∃ m, n = m + 1 := ⟨n - 1, by omega⟩
    have hp := v.p
    obtain ⟨e1, e2⟩ := v.e i (by omega)
    have hl : -1 ≤ last ∧ last + 1 ≤ s.Exits.f i ∧ last ≤ 10 := by
      rw [h3]
      by_cases i0 : i = 0
      · rw [if_pos i0]; omega
      · rw [if_neg i0]
        have := (v.e (i - 1) (by omega)).1
        have := e2 (by omega)
        omega
    have hi : i < 20 := by
      have key : ∀ j, j < s.Exits.n → (j : Int) ≤ s.Exits.f j := by
        intro j
        induction j with
        | zero => intro hj; have := (v.e 0 hj).1; omega
        | succ j ihj => intro hj; have := ihj (by omega); have := (v.e (j + 1) hj).2 (by omega); rw [Nat.add_sub_cancel] at this; omega
      have := key i (by omega)
      omega
    have hw : w64 (s.Places - 1) = s.Places - 1 := w64_eq (by omega) (by omega)
    have hw2 : w64 (last + 1) = last + 1 := w64_eq (by omega) (by omega)
    unfold ways_Check_l15 ways_Check_b15
    have c1 : last + 1 ≤ s.Exits.f i ∧ s.Exits.f i ≤ s.Places - 1 := by omega
    simp only [ltT (show i < s.Exits.n by omega), nat_nonneg, Bool.and_self, cond_true, Int.toNat_natCast, w64_succ (show i < 1000000000000 by omega), sIn_eq, hw, hw2, c1, and_self, decide_true, Bool.not_true, cond_false]
    exact ih (i + 1) n _ (by omega) (by omega) (by simp)

theorem exits_n {s : api_Station} (v : VS s) : s.Exits.n ≤ 10 := by
  have key : ∀ j, j < s.Exits.n → (j : Int) ≤ s.Exits.f j := by
    intro j
    induction j with
    | zero => intro hj; have := (v.e 0 hj).1; omega
    | succ j ihj => intro hj; have := ihj (by omega); have := (v.e (j + 1) hj).2 (by omega); rw [Nat.add_sub_cancel] at this; omega
  rcases Nat.lt_or_ge 10 s.Exits.n with h | h
  · have := key 10 h
    have := (v.e 10 h).1
    have := v.p
    omega
  · exact h

theorem wChk {N : Nat} (hN : 200 ≤ N) {s : api_Station} (v : VS s) (k : Int → Option R) : ways_Check N s k = k 0 := by
  rw [ways_Check_def]
  unfold ways_Check_m
  have hn := v.n
  have he := exits_n v
  have c2 : ¬ ((s.Passages.n : Int) > 24) := by omega
  simp only [sIn_eq, v.p, and_self, decide_true, Bool.not_true, cond_false, c2, decide_false]
  refine (wc_l5 N v (fun r => k r) _ s.Passages.n 0 N (mpD intC intC noH (noG (CK.cons (CK.int IntKind.i64) CK.nil))) (by omega) (by omega) (fun x _ _ => rfl)).trans ?_
  exact wc_l15 N v (fun r => k r) _ s.Exits.n 0 N (-1) (by omega) (by omega) rfl

theorem asked_ok {N : Nat} (hN : 200 ≤ N) {s : api_Station} (v : VS s) {o : Nat} (ho : o < 4096) {a b : Int} (ha : 0 ≤ a ∧ a < s.Places) (hb : 0 ≤ b ∧ b < s.Places) (k : Int → Option R) :
    ways_asked N s (o : Int) (lst intC (2 : Nat) (litC [SV.int IntKind.i64 (0 : Int)] [[SV.int IntKind.i64 a], [SV.int IntKind.i64 b]])) k = k 0 := by
  rw [ways_asked_def]
  unfold ways_asked_m
  have hp := v.p
  have hw : w64 (s.Places - 1) = s.Places - 1 := w64_eq (by omega) (by omega)
  have c1 : (0 : Int) ≤ (o : Int) ∧ (o : Int) ≤ 4095 := by omega
  simp only [wChk hN v, bne_self_eq_false, cond_false, sIn_eq, c1, and_self, decide_true, Bool.not_true]
  rw [ways_place_def]
  unfold ways_place_m
  obtain ⟨M, rfl⟩ : ∃ m, N = m + 3 := ⟨N - 3, by omega⟩
  have l0 : Arr.f (lst intC (2 : Nat) (litC [SV.int IntKind.i64 (0 : Int)] [[SV.int IntKind.i64 a], [SV.int IntKind.i64 b]])) 0 = a := rfl
  have l1 : Arr.f (lst intC (2 : Nat) (litC [SV.int IntKind.i64 (0 : Int)] [[SV.int IntKind.i64 a], [SV.int IntKind.i64 b]])) 1 = b := rfl
  have ln : Arr.n (lst intC (2 : Nat) (litC [SV.int IntKind.i64 (0 : Int)] [[SV.int IntKind.i64 a], [SV.int IntKind.i64 b]])) = 2 := rfl
  generalize (lst intC (2 : Nat) (litC [SV.int IntKind.i64 (0 : Int)] [[SV.int IntKind.i64 a], [SV.int IntKind.i64 b]])) = L at *
  have w1 : w64 ((0 : Int) + 1) = ((1 : Nat) : Int) := by decide
  have w2 : w64 (((1 : Nat) : Int) + 1) = ((2 : Nat) : Int) := by decide
  have c2 : (0 : Int) ≤ a ∧ a ≤ s.Places - 1 := by omega
  have c3 : (0 : Int) ≤ b ∧ b ≤ s.Places - 1 := by omega
  have t0 : decide ((0 : Int) < ((2 : Nat) : Int)) = true := by decide
  have t1 : decide (((1 : Nat) : Int) < ((2 : Nat) : Int)) = true := by decide
  have t2 : decide (((2 : Nat) : Int) < ((2 : Nat) : Int)) = false := by decide
  have t3 : decide ((0 : Int) ≤ 0) = true := by decide
  simp only [ln, ways_place_l2, ways_place_b2, t0, t1, t2, t3, nat_nonneg, Bool.and_self, cond_true, Int.toNat_zero, Int.toNat_natCast, sIn_eq, hw, l0, l1, c2, c3, and_self, decide_true, Bool.not_true, cond_false, w1, w2]
end
end Wy
end Go.Proofs.Ytpillmoddoccfab
