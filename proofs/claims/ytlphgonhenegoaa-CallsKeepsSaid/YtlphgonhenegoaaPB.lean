import Derived.Test.YtlphgonhenegoaaPA
set_option linter.unusedVariables false
set_option linter.unusedSimpArgs false
set_option maxHeartbeats 0
set_option maxRecDepth 100000
namespace Go.Proofs.Ytlphgonhenegoaa
open Go.Sx
section
set_option synthInstance.maxHeartbeats 0 in
set_option synthInstance.maxSize 1000 in
theorem mv_far : ∀ L : Nat, L < 6 → ∀ H : Nat, H < 6 → ∀ F : Nat, F < 6 → ∀ f : Nat, f < 6 → (L ≤ F ∧ F ≤ H ∧ L ≤ f ∧ f ≤ H) → 
    ((F < H → mv ⟨L, H, 0, 1, 1⟩ true F f + 1 ≤ 2 * farN ⟨L, H, 0, 1, 1⟩ f) ∧ (L < F → mv ⟨L, H, 0, 1, 1⟩ false F f + 1 ≤ 2 * farN ⟨L, H, 0, 1, 1⟩ f) ∧ (f ≠ F → ∀ u : Bool, mv ⟨L, H, 0, 1, 1⟩ (dir ⟨L, H, 0, 1, 1⟩ u F) F f + 2 ≤ 2 * farN ⟨L, H, 0, 1, 1⟩ f)) := by decide +kernel
theorem pot_worst {c : Cn} (hc : c.Ok) {r : Rd} (h : Ok c r) {f : Nat} (hw : r.W.testBit f = true) : pot c r f ≤ worstN c f := by
  have h5 := hc.h5
  have hF := h.f
  have hf := h.w f hw
  obtain ⟨m1, m2, m3⟩ := mv_far c.L (by have := hc.ls; have := hc.sh; omega) c.H (by omega) r.F (by omega) f (by omega) ⟨hF.1, hF.2, hf.1, hf.2⟩
  have hmv : ∀ u, mv ⟨c.L, c.H, 0, 1, 1⟩ u r.F f = mv c u r.F f := fun u => rfl
  have hdir : ∀ u, dir ⟨c.L, c.H, 0, 1, 1⟩ u r.F = dir c u r.F := fun u => rfl
  have hfar : farN ⟨c.L, c.H, 0, 1, 1⟩ f = farN c f := rfl
  rw [hmv, hfar] at m1 m2
  have hd := h.d
  have fin : ∀ k x : Nat, k + 1 ≤ 2 * farN c f → x ≤ c.M → x + k * (c.S + c.M) ≤ worstN c f := fun k x h1 h2 => by
    unfold worstN
    rw [if_neg (by omega)]
    have := Nat.mul_le_mul_right (c.S + c.M) (show k ≤ 2 * farN c f - 1 by omega)
    have e : (2 * farN c f - 1) * (c.S + c.M) = (2 * farN c f - 1) * c.S + (2 * farN c f - 1) * c.M := Nat.mul_add _ _ _
    have e2 : 2 * farN c f * c.M = (2 * farN c f - 1) * c.M + c.M := by
      have := Nat.succ_mul (2 * farN c f - 1) c.M
      rwa [show (2 * farN c f - 1).succ = 2 * farN c f by omega] at this
    omega
  rcases (show r.doing = 0 ∨ r.doing = 1 ∨ r.doing = 2 by omega) with e | e | e
  · rw [(h.d0 e).2] at hw
    simp at hw
  · obtain ⟨g1, g2⟩ := h.d1 e
    obtain ⟨s1, s2⟩ := side_lt hc h.w g2
    unfold pot
    rw [if_neg (by omega)]
    cases hu : r.up with
    | true => exact fin _ _ (m1 (by have := s1 hu; omega)) g1.2
    | false => exact fin _ _ (m2 (by have := s2 hu; omega)) g1.2
  · obtain ⟨g1, g2, g3⟩ := h.d2 e
    have hne : f ≠ r.F := fun e => by rw [← e, hw] at g3; cases g3
    have m := m3 hne r.up
    rw [hdir, hmv, hfar] at m
    unfold pot
    rw [if_pos e]
    have := fin (mv c (dir c r.up r.F) r.F f + 1) c.M (by omega) (Nat.le_refl _)
    rw [Nat.succ_mul] at this
    omega
theorem wt_worst {c : Cn} (hc : c.Ok) {l : Arr api_Press} (hl : VL c l) {p : Nat → Bool} {i : Nat} (hi : i < l.n) (hp : p i = true) : wt c l p i ≤ worstN c (pG l i) := by
  have w := wt_ok hc hl hi hp
  by_cases h : 0 < wt c l p i
  · exact Nat.le_trans (w.pot h).1 (pot_worst hc (st_ok hc hl p _) (w.pot h).2)
  · omega
def stepZ (c : Cn) (f : Nat) : Int := if f - c.L ≤ c.H - f then 1 else -1
def leavesN (c : Cn) (f : Nat) : Nat := max (f - c.s) (c.s - f) * c.M + c.S
def endsN (c : Cn) (f : Nat) : Nat := leavesN c f + farN c f * c.M + (farN c f - 1) * c.S
def witL (c : Cn) (f : Nat) : Nat := if farN c f = 0 then 1 else 2 * farN c f + 1
def wit (c : Cn) (f i : Nat) : api_Press := if i = 0 then ⟨0, f⟩ else if i ≤ farN c f + 1 then ⟨leavesN c f, (f : Int) + ((i - 1 : Nat) : Int) * stepZ c f⟩ else ⟨endsN c f, (f : Int) + ((i - farN c f - 1 : Nat) : Int) * stepZ c f⟩
def witA (c : Cn) (f : Nat) : Arr api_Press := ⟨witL c f, wit c f⟩
def witI (c : Cn) (f : Nat) : Nat := if farN c f = 0 then 0 else 1
def ksim (c : Cn) (l : Arr api_Press) (f : Nat) : Nat → Nat → Rd → Nat
  | 0, _, _ => 0
  | n + 1, t, r => bif (servR r (pP l allP t)).testBit f then 0 else ksim c l f n (t + 1) (tickR c.M c.S r (pP l allP t)) + 1
theorem ksim_eq (c : Cn) (l : Arr api_Press) (f T : Nat) : ∀ n k, fw (fun d => (sv c l allP (T + d)).testBit f) n k = k + ksim c l f n (T + k) (st c l allP (T + k)) := by
  intro n
  induction n with
  | zero => intro k; rfl
  | succ n ih =>
    intro k
    unfold fw ksim
    show (bif (servR (st c l allP (T + k)) (pP l allP (T + k))).testBit f then k else _) = _
    cases (servR (st c l allP (T + k)) (pP l allP (T + k))).testBit f
    · simp only [cond_false]
      rw [ih]
      exact (Nat.add_assoc k 1 _).trans (congrArg (k + ·) (Nat.add_comm 1 _))
    · rfl
def simW (c : Cn) (l : Arr api_Press) (i : Nat) : Nat := ksim c l (pG l i) 100 (pA l i) (st c l allP (pA l i))
theorem wt_sim (c : Cn) (l : Arr api_Press) (i : Nat) : wt c l allP i = simW c l i := by
  have := ksim_eq c l (pG l i) (pA l i) 100 0
  rw [Nat.zero_add] at this
  exact this
def okP (c : Cn) (l : Arr api_Press) (i : Nat) : Bool := decide (0 ≤ (l.f i).At ∧ (l.f i).At ≤ 500) && (decide (i + 1 = l.n) || decide ((l.f i).At ≤ (l.f (i + 1)).At)) && decide ((c.L : Int) ≤ (l.f i).Floor ∧ (l.f i).Floor ≤ (c.H : Int))
def okW (c : Cn) (f : Nat) : Bool := ((List.range (witL c f)).all fun i => okP c (witA c f) i) && decide ((wit c f (witI c f)).Floor = (f : Int)) && decide (simW c (witA c f) (witI c f) = worstN c f)
def cG (L H s M S f : Nat) : Bool := decide ((L ≤ s ∧ s ≤ H) ∧ (1 ≤ M ∧ 1 ≤ S ∧ M + S ≤ 4) ∧ (L ≤ f ∧ f ≤ H))
theorem wit_all0 : ((List.range 4).all fun L => (List.range 4).all fun H => (List.range 4).all fun s => (List.range 4).all fun M => (List.range 4).all fun S => (List.range 4).all fun f => !cG L H s M S f || okW ⟨L, H, s, M, S⟩ f) = true := by decide +kernel
theorem wit_all (L : Nat) (hL : L < 4) (H : Nat) (hH : H < 4) (s : Nat) (hs : s < 4) (M : Nat) (hM : M < 4) (S : Nat) (hS : S < 4) (f : Nat) (hf : f < 4) (h : (L ≤ s ∧ s ≤ H) ∧ (1 ≤ M ∧ 1 ≤ S ∧ M + S ≤ 4) ∧ (L ≤ f ∧ f ≤ H)) : okW ⟨L, H, s, M, S⟩ f = true := by
  have h0 := wit_all0
  simp only [List.all_eq_true, List.mem_range] at h0
  have := h0 L hL H hH s hs M hM S hS f hf
  have hg : cG L H s M S f = true := decide_eq_true h
  rw [hg] at this
  exact this
theorem st_congr {c : Cn} {l l' : Arr api_Press} (hn : l'.n = l.n) (hf : ∀ i, i < l.n → l'.f i = l.f i) (p : Nat → Bool) (t : Nat) : pP l' p t = pP l p t ∧ st c l' p t = st c l p t := by
  have hp : ∀ t, pP l' p t = pP l p t := fun t => by unfold pP; rw [hn]; exact pset_congr hf
  refine ⟨hp t, ?_⟩
  induction t with
  | zero => rfl
  | succ t ih => unfold st; rw [ih, hp]
theorem wt_congr {c : Cn} {l l' : Arr api_Press} (hn : l'.n = l.n) (hf : ∀ i, i < l.n → l'.f i = l.f i) {p : Nat → Bool} {i : Nat} (hi : i < l.n) : wt c l' p i = wt c l p i := by
  unfold wt
  have h1 : pA l' i = pA l i := by unfold pA; rw [hf i hi]
  have h2 : pG l' i = pG l i := by unfold pG; rw [hf i hi]
  rw [h1, h2]
  congr 1
  funext d
  unfold sv
  rw [(st_congr (c := c) hn hf p _).1, (st_congr hn hf p _).2]
structure Sm (c : Cn) : Prop where
  h : c.H ≤ 3
  q : c.M + c.S ≤ 4
theorem mono_adj {g : Nat → Int} {n : Nat} (h : ∀ i, i + 1 < n → g i ≤ g (i + 1)) : ∀ i j, i ≤ j → j < n → g i ≤ g j := by
  intro i j
  induction j with
  | zero => intro h1 h2; have : i = 0 := by omega
            subst this; exact Int.le_refl _
  | succ j ih =>
    intro h1 h2
    by_cases e : i = j + 1
    · subst e; exact Int.le_refl _
    · exact Int.le_trans (ih (by omega) (by omega)) (h j h2)
theorem wit_ok {c : Cn} (hc : c.Ok) (hs : Sm c) {f : Nat} (hf : c.L ≤ f ∧ f ≤ c.H) {l : Arr api_Press} (hl : l.Is (witL c f) (wit c f)) :
    VL c l ∧ witI c f < l.n ∧ (l.f (witI c f)).Floor = (f : Int) ∧ wt c l allP (witI c f) = worstN c f := by
  have g1 := hs.h
  have g2 := hs.q
  have := hc.ls
  have := hc.sh
  have := hc.m1
  have := hc.s1
  have h := wit_all c.L (by omega) c.H (by omega) c.s (by omega) c.M (by omega) c.S (by omega) f (by omega) (by omega)
  change okW c f = true at h
  unfold okW at h
  simp only [Bool.and_eq_true, List.all_eq_true, List.mem_range, decide_eq_true_eq] at h
  obtain ⟨⟨h1, h2⟩, h3⟩ := h
  have far3 : farN c f ≤ 3 := by unfold farN; omega
  have hn : l.n ≤ 200 := by rw [hl.1]; unfold witL; split <;> omega
  have hi : witI c f < witL c f := by
    unfold witI witL
    split <;> omega
  have ok : ∀ i, i < l.n → (0 ≤ (l.f i).At ∧ (l.f i).At ≤ 500) ∧ (i + 1 < l.n → (l.f i).At ≤ (l.f (i + 1)).At) ∧ (c.L : Int) ≤ (l.f i).Floor ∧ (l.f i).Floor ≤ (c.H : Int) := fun i hi => by
    rw [hl.1] at hi
    have := h1 i hi
    unfold okP at this
    simp only [Bool.and_eq_true, Bool.or_eq_true, decide_eq_true_eq] at this
    obtain ⟨⟨k1, k2⟩, k3⟩ := this
    rw [hl.2 i hi]
    refine ⟨k1, fun hh => ?_, k3⟩
    rw [hl.1] at hh
    rw [hl.2 _ hh]
    rcases k2 with k2 | k2
    · have : i + 1 = witL c f := k2
      omega
    · exact k2
  refine ⟨⟨hn, fun i hi => (ok i hi).1, fun i j hij hj => mono_adj (g := fun i => (l.f i).At) (n := l.n) (fun i hi => (ok i (by omega)).2.1 hi) i j hij hj, fun i hi => (ok i hi).2.2⟩, by rw [hl.1]; exact hi, by rw [hl.2 _ hi]; exact h2, ?_⟩
  rw [wt_congr (l := witA c f) (l' := l) hl.1 (fun i hi => hl.2 i hi) hi, wt_sim]
  exact h3
end
end Go.Proofs.Ytlphgonhenegoaa
