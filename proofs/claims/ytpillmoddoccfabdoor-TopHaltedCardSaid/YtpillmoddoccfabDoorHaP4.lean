import Derived.Test.YtpillmoddoccfabDoorHaP3
set_option linter.unusedVariables false
set_option linter.unusedSimpArgs false
set_option linter.unusedSectionVars false
set_option maxHeartbeats 0
set_option maxRecDepth 100000
namespace Go.Proofs.YtpillmoddoccfabDoor
namespace Ha
open Go.Sx Si
open Classical
noncomputable section
variable {R : Type}
section
variable {m : api_Machine} (v : VM m)
include v
theorem all_eq (N : Nat) (k : Int → Option R) : sP_All N m.Inputs m.Outputs m.Counters m.States m.Rules k = k ((2 ^ m.Inputs.n : Nat) : Int) := by
  rw [sP_All_def]
  unfold sP_All_m
  rw [pow4 v.i]
theorem ex_l4 (N : Nat) (hN : 2000 ≤ N) {asm : Arr (Arr api_Literal)} (has : asm.n = 0) : ∀ (q t n : Nat) (mp : Mp api_Place Int) (bP : Bool) (l : Arr api_Place) (bx : Bool) (x : Arr Int) (by_ : Bool) (y : Arr Int) (bn : Bool) (nx : Arr (Arr Int)), t + q = 769 → q < n → XI m mp l → x.n = l.n → y.n = l.n → nx.n = t → t ≤ l.n →
    (∀ i, i < t → ∀ j, j < 2 ^ m.Inputs.n → ∃ s, s < l.n ∧ l.f s = stepE m (l.f i) j) →
    ∃ (mp' : Mp api_Place Int) (bP' : Bool) (l' : Arr api_Place) (bx' : Bool) (x' : Arr Int) (by' : Bool) (y' : Arr Int) (bn' : Bool) (nx' : Arr (Arr Int)), XI m mp' l' ∧ (∀ i, i < l'.n → ∀ j, j < 2 ^ m.Inputs.n → ∃ s, s < l'.n ∧ l'.f s = stepE m (l'.f i) j) ∧
      ∀ (k0 : Bool → Arr api_Place → Bool → Arr Int → Bool → Arr Int → Bool → Arr (Arr Int) → Option R), cP_explore_l4 N n asm (t : Int) m.Inputs m.Outputs m.Counters m.States m.Rules mp bP l bx x by_ y bn nx k0 = k0 bP' l' bx' x' by' y' bn' nx' := by
  have hp16 : 2 ^ m.Inputs.n ≤ 16 := Nat.pow_le_pow_right (show 0 < 2 by omega) v.i
  intro q
  induction q with
  | zero =>
    intro t n mp bP l bx x by_ y bn nx h1 h2 h3 h4 h5 h6 h7 h8
    have := h3.le v
    omega
  | succ q ih =>
    intro t n mp bP l bx x by_ y bn nx h1 h2 h3 h4 h5 h6 h7 h8
    obtain ⟨n, rfl⟩ : ∃ m, n = m + 1 := ⟨n - 1, by omega⟩
    have hle := h3.le v
    by_cases c : t = l.n
    · subst c
      refine ⟨mp, bP, l, bx, x, by_, y, bn, nx, h3, h8, fun k0 => ?_⟩
      unfold cP_explore_l4 cP_explore_b4
      simp only [ltF (Nat.le_refl l.n), cond_false]
    · have hlt : t < l.n := by omega
      obtain ⟨mp1, row1, bP1, l1, bx1, x1, by1, y1, g1, g2, g3, g4, g5, g6, g7⟩ := ex_l9 (R := R) v N hN has (K := 2 ^ m.Inputs.n) hp16 (t : Int) (h3.ok t hlt) false bn nx (2 ^ m.Inputs.n) 0 N mp (lst intC (2 ^ m.Inputs.n) (zeroC [SV.int IntKind.i64 (0 : Int)])) bP l bx x by_ y (by omega) (by omega) rfl h3 h4 h5 (fun j hj => by omega)
      obtain ⟨mp', bP', l', bx', x', by', y', bn', nx', k1, k2, k3⟩ := ih (t + 1) n mp1 bP1 l1 bx1 x1 by1 y1 false (lst (lsC intC) (Arr.n nx + (1 : Nat)) (catC (Arr.n nx) (Cod.cell (lsC intC) (Arr.f nx)) (litC [SV.sl SK.nil (CK.cons (CK.int IntKind.i64) CK.nil) (1 : Nat) (0 : Nat) (zeroC [SV.int IntKind.i64 (0 : Int)])] [[slC intC row1]]))) (by omega) (by omega) g1 g2 g3 (by show nx.n + 1 = _; omega) (by omega) (fun i hi j hj => by
        by_cases e : i = t
        · subst e
          obtain ⟨s, s1, s2⟩ := g6 j hj
          exact ⟨s, s1, by rw [s2, g5 i hlt]⟩
        · obtain ⟨s, s1, s2⟩ := h8 i (by omega) j hj
          exact ⟨s, by omega, by rw [g5 s s1, g5 i (by omega), s2]⟩)
      refine ⟨mp', bP', l', bx', x', by', y', bn', nx', k1, k2, fun k0 => ?_⟩
      have r1 : room (nx.n + 1) = true := room_of (by omega)
      have c1 : decide (((2 ^ m.Inputs.n : Nat) : Int) ≤ ((2 ^ m.Inputs.n : Nat) : Int)) = true := by simp
      have c2 : decide (((2 ^ m.Inputs.n : Nat) : Int) ≤ 1073741824) = true := by simp only [decide_eq_true_eq]; omega
      unfold cP_explore_l4 cP_explore_b4
      simp only [ltT hlt, nat_nonneg, Bool.and_self, cond_true, all_eq v, c1, c2, Int.toNat_natCast, w64_succ (show t < 1000000000000 by omega)]
      refine (g7 _).trans ?_
      simp only [r1, cond_true]
      exact k3 k0
theorem reach_eq {N : Nat} (hN : 2000 ≤ N) {asm : Arr (Arr api_Literal)} (has : asm.n = 0) :
    ∃ (b : Bool) (l : Arr api_Place), (1 ≤ l.n ∧ l.n ≤ 768 ∧ l.f 0 = pl0 ∧ (∀ i, i < l.n → PlP m (l.f i)) ∧ (∀ i, i < l.n → ∀ j, j < 2 ^ m.Inputs.n → ∃ s, s < l.n ∧ l.f s = stepE m (l.f i) j)) ∧
      ∀ (k : Int → Bool → Arr api_Place → Option R), control_Reach N m asm k = k 0 b l := by
  have h0 : ∀ (l : Arr api_Place) (mp : Mp api_Place Int), l.n = 1 → l.f 0 = pl0 → (∀ p, Mp.has mp p = decide (p = pl0)) → XI m mp l := fun l mp hl hf hm => by
    refine ⟨by omega, fun i hi => ?_, fun i j hi hj _ => by omega, fun p => ?_, hf⟩
    · have : i = 0 := by omega
      subst this
      rw [hf]; exact pl0_ok v
    · rw [hm, decide_eq_true_eq]
      constructor
      · intro e; exact ⟨0, by omega, by rw [hf, e]⟩
      · rintro ⟨i, hi, e⟩
        have : i = 0 := by omega
        subst this
        rw [← e, hf]
  have hck : ∀ (c : Arr (Arr (Arr api_Literal))) (hc : c.n = 1) (hc0 : (c.f 0).n = 0) (k : Int → Option R), control_check N m c k = k 0 := fun c hc hc0 k => by
    rw [control_check_def]
    unfold control_check_m
    rw [control_Check_def]
    unfold control_Check_m
    rw [check_ok hN v]
    simp only [bne_self_eq_false, cond_false, hc]
    obtain ⟨n, hn⟩ : ∃ n, N = n + 2 := ⟨N - 2, by omega⟩
    have hu : ∀ kr k0, control_check_l5 N (n + 2) c ((1 : Nat) : Int) 0 m kr k0 = (k0 () : Option R) := fun kr k0 => by
      unfold control_check_l5 control_check_b5
      have e1 : decide ((0 : Int) < ((1 : Nat) : Int)) = true := rfl
      have e2 : w64 ((0 : Int) + 1) = 1 := by decide
      have e3 : Int.toNat (0 : Int) = 0 := rfl
      rw [hc]
      simp only [e1, show decide ((0 : Int) ≤ 0) = true from rfl, Bool.and_self, cond_true, e3]
      rw [asked_ok (show 100 ≤ N by omega) v ⟨by omega, fun i hi => by omega⟩]
      simp only [Bool.not_true, cond_false, e2]
      unfold control_check_l5 control_check_b5
      rfl
    conv => lhs; arg 2; rw [hn]
    exact hu _ _
  obtain ⟨mp', bP', l', bx', x', by', y', bn', nx', k1, k2, k3⟩ := ex_l4 (R := R) v N hN has 769 0 N (mpD api_PlaceC intC (putH [SV.int IntKind.i64 (0 : Int), SV.int IntKind.i64 (0 : Int), SV.int IntKind.i64 (0 : Int)] noH) (putG [SV.int IntKind.i64 (0 : Int), SV.int IntKind.i64 (0 : Int), SV.int IntKind.i64 (0 : Int)] [SV.int IntKind.i64 (0 : Int)] (noG (CK.cons (CK.int IntKind.i64) CK.nil)))) false (lst api_PlaceC (1 : Nat) (litC [SV.int IntKind.i64 (0 : Int), SV.int IntKind.i64 (0 : Int), SV.int IntKind.i64 (0 : Int)] [[SV.int IntKind.i64 (0 : Int), SV.int IntKind.i64 (0 : Int), SV.int IntKind.i64 (0 : Int)]])) false (lst intC (1 : Nat) (litC [SV.int IntKind.i64 (0 : Int)] [[SV.int IntKind.i64 (-1 : Int)]])) false (lst intC (1 : Nat) (litC [SV.int IntKind.i64 (0 : Int)] [[SV.int IntKind.i64 (0 : Int)]])) true (lst (lsC intC) (0 : Nat) (zeroC [SV.sl SK.nil (CK.cons (CK.int IntKind.i64) CK.nil) (1 : Nat) (0 : Nat) (zeroC [SV.int IntKind.i64 (0 : Int)])])) (by omega) (by omega) (h0 _ _ rfl rfl (fun p => has_one 0 0 0 _ p)) rfl rfl rfl (by omega) (fun i hi => by omega)
  refine ⟨bP', l', ⟨k1.pos, k1.le v, k1.one, k1.ok, k2⟩, fun k => ?_⟩
  rw [control_Reach_def]
  unfold control_Reach_m
  rw [hck _ rfl (by exact has)]
  simp only [bne_self_eq_false, cond_false]
  rw [control_of_def]
  unfold control_of_m
  show (cP_explore N m.Inputs m.Outputs m.Counters m.States m.Rules asm _ : Option R) = _
  rw [cP_explore_def]
  unfold cP_explore_m
  exact k3 _
theorem place_ok (N : Nat) (hN : 10 ≤ N) {p : api_Place} (hp : PlP m p) (k : Bool → Option R) : sP_Place N m.Inputs m.Outputs m.Counters m.States m.Rules p k = k true := by
  have hs := v.s
  have hc := v.c
  have h0 := hp.a0
  have h1 := hp.a1
  rw [sP_Place_def]
  unfold sP_Place_m
  obtain ⟨n, hn⟩ : ∃ n, N = n + 3 := ⟨N - 3, by omega⟩
  have t0 : Int.toNat (0 : Int) = 0 := rfl
  have t1 : Int.toNat (1 : Int) = 1 := rfl
  have w0 : w64 ((0 : Int) + 1) = 1 := by decide
  have w1 : w64 ((1 : Int) + 1) = 2 := by decide
  have p0 : pickI 0 0 [p.Values.a0, p.Values.a1] = p.Values.a0 := rfl
  have p1 : pickI 1 0 [p.Values.a0, p.Values.a1] = p.Values.a1 := rfl
  have f2 : ∀ kr k0 n, sP_Place_l2 N (n + 1) p.Values 2 m.Inputs m.Outputs m.Counters m.States m.Rules p kr k0 = (k0 () : Option R) := fun kr k0 n => by
    unfold sP_Place_l2 sP_Place_b2
    rfl
  have f1 : ∀ kr k0 n, sP_Place_l2 N (n + 2) p.Values 1 m.Inputs m.Outputs m.Counters m.States m.Rules p kr k0 = (k0 () : Option R) := fun kr k0 n => by
    unfold sP_Place_l2 sP_Place_b2
    have e1 : decide ((1 : Int) < 2) = true := rfl
    have e2 : decide ((0 : Int) ≤ 1) = true := rfl
    have e3 : decide ((1 : Int) < ((2 : Nat) : Int)) = true := rfl
    simp only [e1, e2, e3, Bool.and_self, cond_true, p1, t1, w1, in_eq]
    by_cases c : 1 < m.Counters.n
    · rw [if_pos c] at h1
      have e4 : decide ((1 : Int) < (m.Counters.n : Int)) = true := by simp; omega
      simp only [e4, cond_true, h1, and_self, decide_true, Bool.not_true, cond_false]
      exact f2 _ _ n
    · rw [if_neg c] at h1
      have e4 : decide ((1 : Int) < (m.Counters.n : Int)) = false := by simp; omega
      simp only [e4, cond_false, h1, and_self, decide_true, Bool.not_true]
      exact f2 _ _ n
  have f0 : ∀ kr k0 n, sP_Place_l2 N (n + 3) p.Values 0 m.Inputs m.Outputs m.Counters m.States m.Rules p kr k0 = (k0 () : Option R) := fun kr k0 n => by
    unfold sP_Place_l2 sP_Place_b2
    have e1 : decide ((0 : Int) < 2) = true := rfl
    have e2 : decide ((0 : Int) ≤ 0) = true := rfl
    have e3 : decide ((0 : Int) < ((2 : Nat) : Int)) = true := rfl
    simp only [e1, e2, e3, Bool.and_self, cond_true, p0, t0, w0, in_eq]
    by_cases c : 0 < m.Counters.n
    · rw [if_pos c] at h0
      have e4 : decide ((0 : Int) < (m.Counters.n : Int)) = true := by simp; omega
      simp only [e4, cond_true, h0, and_self, decide_true, Bool.not_true, cond_false]
      exact f1 _ _ n
    · rw [if_neg c] at h0
      have e4 : decide ((0 : Int) < (m.Counters.n : Int)) = false := by simp; omega
      simp only [e4, cond_false, h0, and_self, decide_true, Bool.not_true]
      exact f1 _ _ n
  have := f0 (fun r => k r) (fun _ => sT_within N p.State (0 : Int) (w64 ((m.States.n : Int) - (1 : Int))) (fun r765 => k r765)) n
  rw [← hn] at this
  refine this.trans ?_
  rw [in_eq, w_pred (show m.States.n ≤ 1000 by omega)]
  have := hp.s
  rw [decide_eq_true (show 0 ≤ p.State ∧ p.State ≤ (m.States.n : Int) - 1 by omega)]
theorem isplace_ok (N : Nat) (hN : 10 ≤ N) {p : api_Place} (hp : PlP m p) (k : Bool → Option R) : r4_IsPlace N m p k = k true := by
  have hs := v.s
  have hc := v.c
  have h0 := hp.a0
  have h1 := hp.a1
  rw [r4_IsPlace_def]
  unfold r4_IsPlace_m
  rw [from_eq, w_pred (show m.States.n ≤ 1000 by omega)]
  have := hp.s
  rw [decide_eq_true (show 0 ≤ p.State ∧ p.State ≤ (m.States.n : Int) - 1 by omega)]
  simp only [Bool.not_true, cond_false]
  obtain ⟨n, hn⟩ : ∃ n, N = n + 3 := ⟨N - 3, by omega⟩
  have t0 : Int.toNat (0 : Int) = 0 := rfl
  have t1 : Int.toNat (1 : Int) = 1 := rfl
  have w0 : w64 ((0 : Int) + 1) = 1 := by decide
  have w1 : w64 ((1 : Int) + 1) = 2 := by decide
  have p0 : pickI 0 0 [p.Values.a0, p.Values.a1] = p.Values.a0 := rfl
  have p1 : pickI 1 0 [p.Values.a0, p.Values.a1] = p.Values.a1 := rfl
  have f2 : ∀ kr k0 n, r4_IsPlace_l4 N (n + 1) 2 m p kr k0 = (k0 () : Option R) := fun kr k0 n => by
    unfold r4_IsPlace_l4 r4_IsPlace_b4
    rfl
  have f1 : ∀ kr k0 n, r4_IsPlace_l4 N (n + 2) 1 m p kr k0 = (k0 () : Option R) := fun kr k0 n => by
    unfold r4_IsPlace_l4 r4_IsPlace_b4
    have e1 : decide ((1 : Int) < 2) = true := rfl
    have e2 : decide ((0 : Int) ≤ 1) = true := rfl
    have e3 : decide ((1 : Int) < ((2 : Nat) : Int)) = true := rfl
    simp only [e1, e2, e3, Bool.and_self, cond_true, p1, t1, w1, from_eq]
    by_cases c : 1 < m.Counters.n
    · rw [if_pos c] at h1
      have e4 : decide ((1 : Int) < (m.Counters.n : Int)) = true := by simp; omega
      simp only [e4, cond_true, h1, and_self, decide_true, Bool.not_true, cond_false]
      exact f2 _ _ n
    · rw [if_neg c] at h1
      have e4 : decide ((1 : Int) < (m.Counters.n : Int)) = false := by simp; omega
      simp only [e4, cond_false, h1, and_self, decide_true, Bool.not_true]
      exact f2 _ _ n
  have f0 : ∀ kr k0 n, r4_IsPlace_l4 N (n + 3) 0 m p kr k0 = (k0 () : Option R) := fun kr k0 n => by
    unfold r4_IsPlace_l4 r4_IsPlace_b4
    have e1 : decide ((0 : Int) < 2) = true := rfl
    have e2 : decide ((0 : Int) ≤ 0) = true := rfl
    have e3 : decide ((0 : Int) < ((2 : Nat) : Int)) = true := rfl
    simp only [e1, e2, e3, Bool.and_self, cond_true, p0, t0, w0, from_eq]
    by_cases c : 0 < m.Counters.n
    · rw [if_pos c] at h0
      have e4 : decide ((0 : Int) < (m.Counters.n : Int)) = true := by simp; omega
      simp only [e4, cond_true, h0, and_self, decide_true, Bool.not_true, cond_false]
      exact f1 _ _ n
    · rw [if_neg c] at h0
      have e4 : decide ((0 : Int) < (m.Counters.n : Int)) = false := by simp; omega
      simp only [e4, cond_false, h0, and_self, decide_true, Bool.not_true]
      exact f1 _ _ n
  have := f0 (fun r => k r) (fun _ => k true) n
  rw [← hn] at this
  exact this
theorem cstep_eq {N : Nat} (hN : 2000 ≤ N) {p : api_Place} (hp : PlP m p) {x : Nat} (hx : x < 2 ^ m.Inputs.n) (k : api_Place → Int → Option R) : control_Step N m p (x : Int) k = k (stepE m p x) 0 := by
  have hp16 : 2 ^ m.Inputs.n ≤ 16 := Nat.pow_le_pow_right (show 0 < 2 by omega) v.i
  rw [control_Step_def]
  unfold control_Step_m
  rw [control_Check_def]
  unfold control_Check_m
  rw [check_ok hN v]
  simp only [bne_self_eq_false, cond_false]
  rw [control_of_def]
  unfold control_of_m
  show (sP_Place N m.Inputs m.Outputs m.Counters m.States m.Rules p _ : Option R) = _
  rw [place_ok v N (by omega) hp]
  simp only [Bool.not_true, cond_false]
  rw [input_eq N v, decide_eq_true (show (0 : Int) ≤ (x : Int) ∧ (x : Int) ≤ ((2 ^ m.Inputs.n : Nat) : Int) - 1 by omega)]
  simp only [Bool.not_true, cond_false]
  rw [step_eq v (by omega) hp (by omega)]
end
end
end Ha
end Go.Proofs.YtpillmoddoccfabDoor
