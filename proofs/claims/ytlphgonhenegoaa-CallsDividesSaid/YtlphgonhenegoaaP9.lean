import Derived.Test.YtlphgonhenegoaaP8
set_option linter.unusedVariables false
set_option linter.unusedSimpArgs false
set_option maxHeartbeats 0
set_option maxRecDepth 100000
namespace Go.Proofs.Ytlphgonhenegoaa
open Go.Sx
section
theorem set_f (a : Arr Int) (c m : Nat) (v : Int) (x : Nat) : (lst intC c (setCs m 0 (Cod.cell intC (Arr.f a)) [SV.int IntKind.i64 v])).f x = if x = m then v else a.f x := by
  show toI (setCs m 0 (Cod.cell intC a.f) [SV.int IntKind.i64 v] x 0) = _
  by_cases h : x = m
  · subst h
    simp [setCs, setC, toI]
  · have e0 : (x == m) = false := by simpa using h
    show toI (setC m 0 (Cod.cell intC a.f) (SV.int IntKind.i64 v) x 0) = _
    simp only [setC, e0, Bool.false_and, cond_false]
    rw [if_neg h]
    rfl
def cntB (b : Nat → Bool) : Nat → Nat
  | 0 => 0
  | n + 1 => cntB b n + (bif b n then 1 else 0)
theorem cntB_n (b : Nat → Bool) (n : Nat) : cntB b n ≤ n := by
  induction n with
  | zero => exact Nat.le_refl _
  | succ n ih =>
    show cntB b n + _ ≤ _
    cases b n <;> simp <;> omega
theorem cntB_zero {b : Nat → Bool} {n : Nat} : cntB b n = 0 ↔ ∀ i, i < n → b i = false := by
  induction n with
  | zero => exact ⟨fun _ i hi => by omega, fun _ => rfl⟩
  | succ n ih =>
    show cntB b n + _ = 0 ↔ _
    constructor
    · intro h
      have h1 := ih.1 (by omega)
      intro i hi
      by_cases e : i = n
      · subst e
        cases hb : b i with
        | false => rfl
        | true => rw [hb] at h; simp at h
      · exact h1 i (by omega)
    · intro h
      rw [ih.2 fun i hi => h i (by omega), h n (by omega)]
      rfl
def op (c : Cn) (l : Arr api_Press) (t j : Nat) : Bool := decide (t ≤ pA l j + wt c l allP j)
theorem waits_eq {N : Nat} (hN : 2000 < N) {c : Cn} (hc : c.Ok) {l : Arr api_Press} (hl : VL c l) : ∃ w' : Arr Int, WE c l allP w' ∧ ∀ {R : Type} (k : Int → Bool → Arr Int → Option R), calls_Waits N c.car l k = k 0 false w' := by
  have hln := hl.n
  obtain ⟨w, g1, g2⟩ := W.eq hN hc hl
  refine ⟨w, g1, fun {R} k => ?_⟩
  rw [calls_Waits_def]
  unfold calls_Waits_m
  rw [check_eq (by omega) _ (by omega), err_ok hc hl]
  exact g2 _
theorem same_l4 (N : Nat) {a b : Arr Int} (hn : a.n = b.n) (h : a.n ≤ 100000) (hf : ∀ i, i < a.n → a.f i = b.f i) {R : Type} (kr : Bool → Option R) (k0 : Unit → Option R) : ∀ (q i n : Nat), i + q = a.n → q < n → w7sameInts_l4 N n a b (i : Int) kr k0 = k0 () := by
  intro q
  induction q with
  | zero =>
    intro i n h1 h2
    obtain ⟨n, rfl⟩ : ∃ m, n = m + 1 := ⟨n - 1, by omega⟩
    unfold w7sameInts_l4 w7sameInts_b4
    rw [ltF (show a.n ≤ i by omega), cond_false]
  | succ q ih =>
    intro i n h1 h2
    obtain ⟨n, rfl⟩ : ∃ m, n = m + 1 := ⟨n - 1, by omega⟩
    unfold w7sameInts_l4 w7sameInts_b4
    have e0 : decide ((i : Int) < (a.n : Int)) = true := ltT (by omega)
    have e1 : decide ((i : Int) < (b.n : Int)) = true := ltT (by omega)
    rw [e0, cond_true, nat_nonneg, Bool.and_self, cond_true, e1, Bool.and_self, cond_true]
    simp only [Int.toNat_natCast]
    rw [hf i (by omega), bne_self_eq_false, cond_false, w64_succ (show i < 1000000000000 by omega)]
    exact ih (i + 1) n (by omega) (by omega)
theorem same_eq {N : Nat} {a b : Arr Int} (hN : a.n < N) (hn : a.n = b.n) (h : a.n ≤ 100000) (hf : ∀ i, i < a.n → a.f i = b.f i) {R : Type} (k : Bool → Option R) : w7sameInts N a b k = k true := by
  rw [w7sameInts_def]
  unfold w7sameInts_m
  rw [hn, bne_self_eq_false, cond_false]
  exact same_l4 N hn h hf _ _ a.n 0 N (by omega) (by omega)
def farN (c : Cn) (f : Nat) : Nat := max (c.H - f) (f - c.L)
def worstN (c : Cn) (f : Nat) : Nat := if farN c f = 0 then 0 else 2 * farN c f * c.M + (2 * farN c f - 1) * c.S
set_option synthInstance.maxHeartbeats 0 in
set_option synthInstance.maxSize 1000 in
theorem worstP_eq (N : Nat) {c : Cn} (hc : c.Ok) {f : Nat} (hf : c.L ≤ f ∧ f ≤ c.H) {R : Type} (k : Int → Int → Option R) : calls_Worst N c.car (f : Int) k = k (worstN c f : Int) 0 := by
  have hk : ∀ f : Nat, f < 6 → ∀ L : Nat, L < 6 → ∀ H : Nat, H < 6 → (L ≤ f ∧ f ≤ H) → ∀ M : Nat, M < 4 → ∀ S : Nat, S < 5 →
      (bif mxI (w64 ((H : Int) - (f : Int))) (w64 ((f : Int) - (L : Int))) == (0 : Int) then (0 : Int) else w64 (w64 (w64 ((2 : Int) * mxI (w64 ((H : Int) - (f : Int))) (w64 ((f : Int) - (L : Int)))) * (M : Int)) + w64 (w64 (w64 ((2 : Int) * mxI (w64 ((H : Int) - (f : Int))) (w64 ((f : Int) - (L : Int)))) - (1 : Int)) * (S : Int)))) = (worstN ⟨L, H, 0, M, S⟩ f : Int) := by decide +kernel
  have h5 := hc.h5
  have hm := hc.m3
  have hs := hc.s4
  have hh := hk f (by omega) c.L (by omega) c.H (by omega) hf c.M (by omega) c.S (by omega)
  rw [calls_Worst_def]
  unfold calls_Worst_m
  rw [calls_serves_def]
  unfold calls_serves_m
  rw [valid_eq, decide_eq_true hc.vc, Bool.not_true, cond_false, in_eq, decide_eq_true (show (c.car.Low ≤ (f : Int) ∧ (f : Int) ≤ c.car.High) by show ((c.L : Nat) : Int) ≤ _ ∧ _ ≤ ((c.H : Nat) : Int); omega), Bool.not_true, cond_false]
  show calls_worst N c.car (f : Int) _ = _
  rw [calls_worst_def]
  unfold calls_worst_m
  rw [calls_far_def]
  unfold calls_far_m
  rw [show worstN c f = worstN ⟨c.L, c.H, 0, c.M, c.S⟩ f from rfl, ← hh]
  show (bif mxI (w64 ((c.H : Int) - (f : Int))) (w64 ((f : Int) - (c.L : Int))) == (0 : Int) then _ else _) = _
  cases (mxI (w64 ((c.H : Int) - (f : Int))) (w64 ((f : Int) - (c.L : Int))) == (0 : Int)) <;> rfl
def wC : Cn := ⟨0, 2, 0, 1, 1⟩
def wL : Arr api_Press := lst api_PressC (3 : Nat) (litC [SV.int IntKind.i64 (0 : Int), SV.int IntKind.i64 (0 : Int)] [[SV.int IntKind.i64 (0 : Int), SV.int IntKind.i64 (2 : Int)], [SV.int IntKind.i64 (0 : Int), SV.int IntKind.i64 (1 : Int)], [SV.int IntKind.i64 (1 : Int), SV.int IntKind.i64 (0 : Int)]])
theorem wC_ok : wC.Ok := ⟨by decide, by decide, by decide, by decide, by decide, by decide, by decide⟩
theorem lt3 {P : Nat → Prop} (h0 : P 0) (h1 : P 1) (h2 : P 2) : ∀ i, i < 3 → P i
  | 0, _ => h0
  | 1, _ => h1
  | 2, _ => h2
  | n + 3, h => by omega
theorem wL_ok : VL wC wL := by
  refine ⟨by decide, lt3 (by decide) (by decide) (by decide), fun i j hij hj => ?_, lt3 (by decide) (by decide) (by decide)⟩
  have hj' : j < 3 := hj
  rcases (show j = 0 ∨ j = 1 ∨ j = 2 by omega) with rfl | rfl | rfl
  · have : i = 0 := by omega
    subst this; decide
  · rcases (show i = 0 ∨ i = 1 by omega) with rfl | rfl <;> decide
  · rcases (show i = 0 ∨ i = 1 ∨ i = 2 by omega) with rfl | rfl | rfl <;> decide
theorem w_wt : wt wC wL allP 0 = 3 ∧ wt wC wL allP 1 = 1 ∧ wt wC wL allP 2 = 5 := by decide +kernel
theorem works_eq {N : Nat} (hN : 2000 < N) {R : Type} (k : Bool → Option R) : w7works N k = k true := by
  obtain ⟨w, h1, h2⟩ := waits_eq hN wC_ok wL_ok
  rw [w7works_def]
  unfold w7works_m
  refine (h2 _).trans ?_
  have h3 := worstP_eq N wC_ok (f := 0) ⟨by decide, by decide⟩ (fun (r283 r284 : Int) => (bif (0 : Int) == 0 then bif r284 == (0 : Int) then w7sameInts N w (lst intC (3 : Nat) (litC [SV.int IntKind.i64 (0 : Int)] [[SV.int IntKind.i64 (3 : Int)], [SV.int IntKind.i64 (1 : Int)], [SV.int IntKind.i64 (5 : Int)]])) (fun r285 => bif r285 then k (r283 == (7 : Int)) else k false) else k false else k false))
  refine h3.trans ?_
  show w7sameInts N w _ _ = _
  have hw : ∀ i, i < 3 → w.f i = (lst intC (3 : Nat) (litC [SV.int IntKind.i64 (0 : Int)] [[SV.int IntKind.i64 (3 : Int)], [SV.int IntKind.i64 (1 : Int)], [SV.int IntKind.i64 (5 : Int)]])).f i := by
    obtain ⟨a0, a1, a2⟩ := w_wt
    refine lt3 ?_ ?_ ?_
    · rw [h1.f 0 (by decide), a0]; rfl
    · rw [h1.f 1 (by decide), a1]; rfl
    · rw [h1.f 2 (by decide), a2]; rfl
  have hn : w.n = 3 := h1.n
  rw [same_eq (by omega) (hn.trans rfl) (by omega) (fun i hi => hw i (by omega)), cond_true]
  rfl
end
end Go.Proofs.Ytlphgonhenegoaa
