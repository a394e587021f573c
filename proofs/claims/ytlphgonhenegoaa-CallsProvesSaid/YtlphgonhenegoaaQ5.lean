/-
  Several texts in one.
-/
import Derived.Test.YtlphgonhenegoaaQ4
set_option linter.unusedVariables false
set_option linter.unusedSimpArgs false
set_option maxHeartbeats 0
set_option maxRecDepth 100000
namespace Go.Proofs.Ytlphgonhenegoaa
open Go.Sx
section
theorem or_pow : ∀ f : Nat, f < 6 → ∀ W : Nat, W < 64 → W.testBit f = true → W ||| 2 ^ f = W := by decide +kernel
theorem again {c : Cn} {r : Rd} (hc : c.Ok) (h : Ok c r) {P f : Nat} (hP : P < 64) (hf : f < 6) (hw : r.W.testBit f = true) : tickR c.M c.S r (P ||| 2 ^ f) = tickR c.M c.S r P ∧ servR r (P ||| 2 ^ f) = servR r P := by
  have h5 := hc.h5
  have e1 : (endR r).W = r.W := by unfold endR; split; rfl; split; rfl; split <;> rfl
  have e2 : (endR r).doing = 2 → f ≠ (endR r).F ∧ (endR r).F < 6 := by
    intro hd
    have : r.doing = 2 ∧ (endR r).F = r.F := by
      unfold endR at hd ⊢
      by_cases g0 : r.doing = 0
      · rw [if_pos g0] at hd; omega
      rw [if_neg g0] at hd ⊢
      by_cases g1 : 1 < r.left
      · rw [if_pos g1] at hd ⊢; exact ⟨hd, rfl⟩
      rw [if_neg g1] at hd ⊢
      by_cases g2 : r.doing = 1
      · rw [if_pos g2] at hd; cases hd
      · rw [if_neg g2] at hd; cases hd
    have g := (h.d2 this.1).2.2
    rw [this.2]
    refine ⟨fun e => ?_, by have := h.f; omega⟩
    rw [← e, hw] at g
    cases g
  have e3 : pressR (endR r) (P ||| 2 ^ f) = pressR (endR r) P := by
    unfold pressR
    congr 1
    rw [e1]
    by_cases hd : (endR r).doing = 2
    · obtain ⟨g1, g2⟩ := e2 hd
      rw [if_pos hd, if_pos hd]
      have := off_or _ g2 P hP f hf
      have hb : (f == (endR r).F) = false := by simpa using g1
      rw [hb, cond_false] at this
      rw [← this, Nat.or_comm (off P _), ← Nat.or_assoc, or_pow f hf _ h.w6 hw]
    · rw [if_neg hd, if_neg hd, Nat.or_comm P, ← Nat.or_assoc, or_pow f hf _ h.w6 hw]
  have e4 : servP (endR r) (P ||| 2 ^ f) = servP (endR r) P := by
    unfold servP
    by_cases hd : (endR r).doing = 2
    · obtain ⟨g1, g2⟩ := e2 hd
      rw [if_pos hd, if_pos hd]
      have := serv_or _ g2 P hP f hf
      have hb : (f == (endR r).F) = false := by simpa using g1
      rw [hb, cond_false] at this
      exact this.symm
    · rw [if_neg hd, if_neg hd]
  unfold tickR servR
  rw [e3, e4]
  exact ⟨rfl, rfl⟩
theorem pset_congr {l l' : Arr api_Press} {p : Nat → Bool} {t n : Nat} (h : ∀ i, i < n → l'.f i = l.f i) : pset l' p t n = pset l p t n := by
  induction n with
  | zero => rfl
  | succ n ih =>
    unfold pset pA pG
    rw [ih fun i hi => h i (by omega), h n (by omega)]
structure More (c : Cn) (l l' : Arr api_Press) : Prop where
  ok : c.Ok
  v : VL c l'
  n : l'.n = l.n + 1
  f : ∀ i, i < l.n → l'.f i = l.f i
variable {c : Cn} {l l' : Arr api_Press}
theorem More.vl (h : More c l l') : VL c l := by
  have hn := h.n
  obtain ⟨v1, v2, v3, v4⟩ := h.v
  refine ⟨by omega, fun i hi => ?_, fun i j hij hj => ?_, fun i hi => ?_⟩
  · rw [← h.f i hi]; exact v2 i (by omega)
  · rw [← h.f i (by omega), ← h.f j hj]; exact v3 i j hij (by omega)
  · rw [← h.f i hi]; exact v4 i (by omega)
theorem More.pA (h : More c l l') {i : Nat} (hi : i < l.n) : pA l' i = pA l i := by unfold _root_.Go.Proofs.Ytlphgonhenegoaa.pA; rw [h.f i hi]
theorem More.pG (h : More c l l') {i : Nat} (hi : i < l.n) : pG l' i = pG l i := by unfold _root_.Go.Proofs.Ytlphgonhenegoaa.pG; rw [h.f i hi]
theorem More.le (h : More c l l') {i : Nat} (hi : i < l.n) : _root_.Go.Proofs.Ytlphgonhenegoaa.pA l i ≤ _root_.Go.Proofs.Ytlphgonhenegoaa.pA l' l.n := by
  rw [← h.pA hi]
  exact h.v.pm (by omega) (by rw [h.n]; omega)
theorem More.pP (h : More c l l') (t : Nat) : pP l' allP t = bif _root_.Go.Proofs.Ytlphgonhenegoaa.pA l' l.n == t then pP l allP t ||| 2 ^ _root_.Go.Proofs.Ytlphgonhenegoaa.pG l' l.n else pP l allP t := by
  unfold _root_.Go.Proofs.Ytlphgonhenegoaa.pP
  rw [h.n]
  show (bif _root_.Go.Proofs.Ytlphgonhenegoaa.pA l' l.n == t && true then pset l' allP t l.n ||| _ else pset l' allP t l.n) = _
  rw [pset_congr h.f, Bool.and_true]
theorem More.before (h : More c l l') : ∀ t, t ≤ _root_.Go.Proofs.Ytlphgonhenegoaa.pA l' l.n → st c l' allP t = st c l allP t := by
  intro t
  induction t with
  | zero => intro _; rfl
  | succ t ih =>
    intro ht
    unfold st
    have : (_root_.Go.Proofs.Ytlphgonhenegoaa.pA l' l.n == t) = false := by simp; omega
    rw [ih (by omega), h.pP, this, cond_false]
theorem More.same (h : More c l l') {i : Nat} (hi : i < l.n) (hg : _root_.Go.Proofs.Ytlphgonhenegoaa.pG l i = _root_.Go.Proofs.Ytlphgonhenegoaa.pG l' l.n) (hw : _root_.Go.Proofs.Ytlphgonhenegoaa.pA l' l.n < _root_.Go.Proofs.Ytlphgonhenegoaa.pA l i + wt c l allP i) (t : Nat) : st c l' allP t = st c l allP t ∧ sv c l' allP t = sv c l allP t := by
  have hl := h.vl
  have h5 := h.ok.h5
  have hf := (hl.pg hi).2
  have key : ∀ t, tickR c.M c.S (st c l allP t) (_root_.Go.Proofs.Ytlphgonhenegoaa.pP l' allP t) = tickR c.M c.S (st c l allP t) (_root_.Go.Proofs.Ytlphgonhenegoaa.pP l allP t) ∧ servR (st c l allP t) (_root_.Go.Proofs.Ytlphgonhenegoaa.pP l' allP t) = servR (st c l allP t) (_root_.Go.Proofs.Ytlphgonhenegoaa.pP l allP t) := by
    intro t
    rw [h.pP]
    cases hT : (_root_.Go.Proofs.Ytlphgonhenegoaa.pA l' l.n == t) with
    | false => exact ⟨rfl, rfl⟩
    | true =>
      rw [cond_true]
      have hT : _root_.Go.Proofs.Ytlphgonhenegoaa.pA l' l.n = t := by simpa using hT
      have hPf := pP_fl h.ok hl allP t
      by_cases he : _root_.Go.Proofs.Ytlphgonhenegoaa.pA l i = t
      · rw [or_pow _ (by omega) _ hPf.lt (pset_bit.2 ⟨i, hi, he, rfl, hg⟩)]
        exact ⟨rfl, rfl⟩
      · have hle := h.le hi
        exact again h.ok (st_ok h.ok hl allP t) hPf.lt (by omega) ((wants_iff h.ok hl allP t (by omega)).2 ⟨i, hi, rfl, hg, by omega, by omega⟩)
  have hs : st c l' allP t = st c l allP t := by
    induction t with
    | zero => rfl
    | succ t ih =>
      unfold st
      rw [ih]
      exact (key t).1
  refine ⟨hs, ?_⟩
  unfold sv
  rw [hs]
  exact (key t).2
theorem More.wt (h : More c l l') {i : Nat} (hi : i < l.n) (hg : _root_.Go.Proofs.Ytlphgonhenegoaa.pG l i = _root_.Go.Proofs.Ytlphgonhenegoaa.pG l' l.n) (hw : _root_.Go.Proofs.Ytlphgonhenegoaa.pA l' l.n < _root_.Go.Proofs.Ytlphgonhenegoaa.pA l i + wt c l allP i) {j : Nat} (hj : j < l.n) : _root_.Go.Proofs.Ytlphgonhenegoaa.wt c l' allP j = _root_.Go.Proofs.Ytlphgonhenegoaa.wt c l allP j := by
  unfold _root_.Go.Proofs.Ytlphgonhenegoaa.wt
  rw [h.pA hj, h.pG hj]
  congr 1
  funext d
  rw [(h.same hi hg hw _).2]
theorem More.own (h : More c l l') {i : Nat} (hi : i < l.n) (hg : _root_.Go.Proofs.Ytlphgonhenegoaa.pG l i = _root_.Go.Proofs.Ytlphgonhenegoaa.pG l' l.n) (hw : _root_.Go.Proofs.Ytlphgonhenegoaa.pA l' l.n < _root_.Go.Proofs.Ytlphgonhenegoaa.pA l i + _root_.Go.Proofs.Ytlphgonhenegoaa.wt c l allP i) : _root_.Go.Proofs.Ytlphgonhenegoaa.pA l' l.n + _root_.Go.Proofs.Ytlphgonhenegoaa.wt c l' allP l.n = _root_.Go.Proofs.Ytlphgonhenegoaa.pA l i + _root_.Go.Proofs.Ytlphgonhenegoaa.wt c l allP i := by
  have w := wt_ok h.ok h.vl (p := allP) hi rfl
  have hle := h.le hi
  have hlt := w.le
  have : _root_.Go.Proofs.Ytlphgonhenegoaa.wt c l' allP l.n = _root_.Go.Proofs.Ytlphgonhenegoaa.pA l i + _root_.Go.Proofs.Ytlphgonhenegoaa.wt c l allP i - _root_.Go.Proofs.Ytlphgonhenegoaa.pA l' l.n := by
    unfold _root_.Go.Proofs.Ytlphgonhenegoaa.wt
    refine fw_eq (d := _root_.Go.Proofs.Ytlphgonhenegoaa.pA l i + _root_.Go.Proofs.Ytlphgonhenegoaa.wt c l allP i - _root_.Go.Proofs.Ytlphgonhenegoaa.pA l' l.n) ?_ (fun e he => ?_) 100 0 (by omega) (by omega)
    · show (sv c l' allP (_ + _)).testBit _ = true
      rw [(h.same hi hg hw _).2, ← hg, show _root_.Go.Proofs.Ytlphgonhenegoaa.pA l' l.n + (_root_.Go.Proofs.Ytlphgonhenegoaa.pA l i + _root_.Go.Proofs.Ytlphgonhenegoaa.wt c l allP i - _root_.Go.Proofs.Ytlphgonhenegoaa.pA l' l.n) = _root_.Go.Proofs.Ytlphgonhenegoaa.pA l i + _root_.Go.Proofs.Ytlphgonhenegoaa.wt c l allP i by omega]
      exact w.hit
    · show (sv c l' allP (_ + _)).testBit _ = false
      rw [(h.same hi hg hw _).2, ← hg, show _root_.Go.Proofs.Ytlphgonhenegoaa.pA l' l.n + e = _root_.Go.Proofs.Ytlphgonhenegoaa.pA l i + (_root_.Go.Proofs.Ytlphgonhenegoaa.pA l' l.n - _root_.Go.Proofs.Ytlphgonhenegoaa.pA l i + e) by omega]
      exact w.no _ (by omega)
  omega
end
end Go.Proofs.Ytlphgonhenegoaa
set_option linter.unusedVariables false
set_option linter.unusedSimpArgs false
set_option maxHeartbeats 0
set_option maxRecDepth 100000
namespace Go.Proofs.Ytlphgonhenegoaa
open Go.Sx
section
set_option synthInstance.maxHeartbeats 0 in
set_option synthInstance.maxSize 1000 in
theorem mv_far : ∀ L : Nat, L < 6 → ∀ H : Nat, H < 6 → ∀ F : Nat, F < 6 → ∀ f : Nat, f < 6 → (L ≤ F ∧ F ≤ H ∧ L ≤ f ∧ f ≤ H) → 
    ((F < H → mv ⟨L, H, 0, 1, 1⟩ true F f + 1 ≤ 2 * farN ⟨L, H, 0, 1, 1⟩ f) ∧ (L < F → mv ⟨L, H, 0, 1, 1⟩ false F f + 1 ≤ 2 * farN ⟨L, H, 0, 1, 1⟩ f) ∧ (f ≠ F → ∀ u : Bool, mv ⟨L, H, 0, 1, 1⟩ (dir ⟨L, H, 0, 1, 1⟩ u F) F f + 2 ≤ 2 * farN ⟨L, H, 0, 1, 1⟩ f)) := by decide +kernel
theorem pot_worst {c : Cn} (hc : c.Ok) {r : Rd} (h : Ok c r) {f : Nat} (hw : r.W.testBit f = true) : pot c r f ≤ worstN c f := by
  have h5 := hc.h5
  have hF := h.f
  have hf := h.w f hw
  obtain ⟨m1, m2, m3⟩ := mv_far c.L (by have := hc.ls; have := hc.sh; omega) c.H (by omega) r.F (by omega) f (by omega) ⟨hF.1, hF.2, hf.1, hf.2⟩
  have hmv : ∀ u, mv ⟨c.L, c.H, 0, 1, 1⟩ u r.F f = mv c u r.F f := fun u => rfl
  have hdir : ∀ u, dir ⟨c.L, c.H, 0, 1, 1⟩ u r.F = dir c u r.F := fun u => rfl
  have hfar : farN ⟨c.L, c.H, 0, 1, 1⟩ f = farN c f := rfl
  rw [hmv, hfar] at m1 m2
  have hd := h.d
  have fin : ∀ k x : Nat, k + 1 ≤ 2 * farN c f → x ≤ c.M → x + k * (c.S + c.M) ≤ worstN c f := fun k x h1 h2 => by
    unfold worstN
    rw [if_neg (by omega)]
    have := Nat.mul_le_mul_right (c.S + c.M) (show k ≤ 2 * farN c f - 1 by omega)
    have e : (2 * farN c f - 1) * (c.S + c.M) = (2 * farN c f - 1) * c.S + (2 * farN c f - 1) * c.M := Nat.mul_add _ _ _
    have e2 : 2 * farN c f * c.M = (2 * farN c f - 1) * c.M + c.M := by
      have := Nat.succ_mul (2 * farN c f - 1) c.M
      rwa [show (2 * farN c f - 1).succ = 2 * farN c f by omega] at this
    omega
  rcases (show r.doing = 0 ∨ r.doing = 1 ∨ r.doing = 2 by omega) with e | e | e
  · rw [(h.d0 e).2] at hw
    simp at hw
  · obtain ⟨g1, g2⟩ := h.d1 e
    obtain ⟨s1, s2⟩ := side_lt hc h.w g2
    unfold pot
    rw [if_neg (by omega)]
    cases hu : r.up with
    | true => exact fin _ _ (m1 (by have := s1 hu; omega)) g1.2
    | false => exact fin _ _ (m2 (by have := s2 hu; omega)) g1.2
  · obtain ⟨g1, g2, g3⟩ := h.d2 e
    have hne : f ≠ r.F := fun e => by rw [← e, hw] at g3; cases g3
    have m := m3 hne r.up
    rw [hdir, hmv, hfar] at m
    unfold pot
    rw [if_pos e]
    have := fin (mv c (dir c r.up r.F) r.F f + 1) c.M (by omega) (Nat.le_refl _)
    rw [Nat.succ_mul] at this
    omega
def stepZ (c : Cn) (f : Nat) : Int := if f - c.L ≤ c.H - f then 1 else -1
def leavesN (c : Cn) (f : Nat) : Nat := max (f - c.s) (c.s - f) * c.M + c.S
def endsN (c : Cn) (f : Nat) : Nat := leavesN c f + farN c f * c.M + (farN c f - 1) * c.S
def witL (c : Cn) (f : Nat) : Nat := if farN c f = 0 then 1 else 2 * farN c f + 1
def wit (c : Cn) (f i : Nat) : api_Press := if i = 0 then ⟨0, f⟩ else if i ≤ farN c f + 1 then ⟨leavesN c f, (f : Int) + ((i - 1 : Nat) : Int) * stepZ c f⟩ else ⟨endsN c f, (f : Int) + ((i - farN c f - 1 : Nat) : Int) * stepZ c f⟩
def witA (c : Cn) (f : Nat) : Arr api_Press := ⟨witL c f, wit c f⟩
def witI (c : Cn) (f : Nat) : Nat := if farN c f = 0 then 0 else 1
def ksim (c : Cn) (l : Arr api_Press) (f : Nat) : Nat → Nat → Rd → Nat
  | 0, _, _ => 0
  | n + 1, t, r => bif (servR r (pP l allP t)).testBit f then 0 else ksim c l f n (t + 1) (tickR c.M c.S r (pP l allP t)) + 1
theorem ksim_eq (c : Cn) (l : Arr api_Press) (f T : Nat) : ∀ n k, fw (fun d => (sv c l allP (T + d)).testBit f) n k = k + ksim c l f n (T + k) (st c l allP (T + k)) := by
  intro n
  induction n with
  | zero => intro k; rfl
  | succ n ih =>
    intro k
    unfold fw ksim
    show (bif (servR (st c l allP (T + k)) (pP l allP (T + k))).testBit f then k else _) = _
    cases (servR (st c l allP (T + k)) (pP l allP (T + k))).testBit f
    · simp only [cond_false]
      rw [ih]
      exact (Nat.add_assoc k 1 _).trans (congrArg (k + ·) (Nat.add_comm 1 _))
    · rfl
def simW (c : Cn) (l : Arr api_Press) (i : Nat) : Nat := ksim c l (pG l i) 100 (pA l i) (st c l allP (pA l i))
theorem wt_sim (c : Cn) (l : Arr api_Press) (i : Nat) : wt c l allP i = simW c l i := by
  have := ksim_eq c l (pG l i) (pA l i) 100 0
  rw [Nat.zero_add] at this
  exact this
def okP (c : Cn) (l : Arr api_Press) (i : Nat) : Bool := decide (0 ≤ (l.f i).At ∧ (l.f i).At ≤ 500) && (decide (i + 1 = l.n) || decide ((l.f i).At ≤ (l.f (i + 1)).At)) && decide ((c.L : Int) ≤ (l.f i).Floor ∧ (l.f i).Floor ≤ (c.H : Int))
def okW (c : Cn) (f : Nat) : Bool := ((List.range (witL c f)).all fun i => okP c (witA c f) i) && decide ((wit c f (witI c f)).Floor = (f : Int)) && decide (simW c (witA c f) (witI c f) = worstN c f)
def cG (L H s M S f : Nat) : Bool := decide ((L ≤ s ∧ s ≤ H) ∧ (1 ≤ M ∧ 1 ≤ S ∧ M + S ≤ 4) ∧ (L ≤ f ∧ f ≤ H))
theorem wit_all0 : ((List.range 4).all fun L => (List.range 4).all fun H => (List.range 4).all fun s => (List.range 4).all fun M => (List.range 4).all fun S => (List.range 4).all fun f => !cG L H s M S f || okW ⟨L, H, s, M, S⟩ f) = true := by decide +kernel
theorem wit_all (L : Nat) (hL : L < 4) (H : Nat) (hH : H < 4) (s : Nat) (hs : s < 4) (M : Nat) (hM : M < 4) (S : Nat) (hS : S < 4) (f : Nat) (hf : f < 4) (h : (L ≤ s ∧ s ≤ H) ∧ (1 ≤ M ∧ 1 ≤ S ∧ M + S ≤ 4) ∧ (L ≤ f ∧ f ≤ H)) : okW ⟨L, H, s, M, S⟩ f = true := by
  have h0 := wit_all0
  simp only [List.all_eq_true, List.mem_range] at h0
  have := h0 L hL H hH s hs M hM S hS f hf
  have hg : cG L H s M S f = true := decide_eq_true h
  rw [hg] at this
  exact this
theorem st_congr {c : Cn} {l l' : Arr api_Press} (hn : l'.n = l.n) (hf : ∀ i, i < l.n → l'.f i = l.f i) (p : Nat → Bool) (t : Nat) : pP l' p t = pP l p t ∧ st c l' p t = st c l p t := by
  have hp : ∀ t, pP l' p t = pP l p t := fun t => by unfold pP; rw [hn]; exact pset_congr hf
  refine ⟨hp t, ?_⟩
  induction t with
  | zero => rfl
  | succ t ih => unfold st; rw [ih, hp]
theorem wt_congr {c : Cn} {l l' : Arr api_Press} (hn : l'.n = l.n) (hf : ∀ i, i < l.n → l'.f i = l.f i) {p : Nat → Bool} {i : Nat} (hi : i < l.n) : wt c l' p i = wt c l p i := by
  unfold wt
  have h1 : pA l' i = pA l i := by unfold pA; rw [hf i hi]
  have h2 : pG l' i = pG l i := by unfold pG; rw [hf i hi]
  rw [h1, h2]
  congr 1
  funext d
  unfold sv
  rw [(st_congr (c := c) hn hf p _).1, (st_congr hn hf p _).2]
structure Sm (c : Cn) : Prop where
  h : c.H ≤ 3
  q : c.M + c.S ≤ 4
theorem mono_adj {g : Nat → Int} {n : Nat} (h : ∀ i, i + 1 < n → g i ≤ g (i + 1)) : ∀ i j, i ≤ j → j < n → g i ≤ g j := by
  intro i j
  induction j with
  | zero => intro h1 h2; have : i = 0 := by omega
            subst this; exact Int.le_refl _
  | succ j ih =>
    intro h1 h2
    by_cases e : i = j + 1
    · subst e; exact Int.le_refl _
    · exact Int.le_trans (ih (by omega) (by omega)) (h j h2)
theorem wit_ok {c : Cn} (hc : c.Ok) (hs : Sm c) {f : Nat} (hf : c.L ≤ f ∧ f ≤ c.H) {l : Arr api_Press} (hl : l.Is (witL c f) (wit c f)) :
    VL c l ∧ witI c f < l.n ∧ (l.f (witI c f)).Floor = (f : Int) ∧ wt c l allP (witI c f) = worstN c f := by
  have g1 := hs.h
  have g2 := hs.q
  have := hc.ls
  have := hc.sh
  have := hc.m1
  have := hc.s1
  have h := wit_all c.L (by omega) c.H (by omega) c.s (by omega) c.M (by omega) c.S (by omega) f (by omega) (by omega)
  change okW c f = true at h
  unfold okW at h
  simp only [Bool.and_eq_true, List.all_eq_true, List.mem_range, decide_eq_true_eq] at h
  obtain ⟨⟨h1, h2⟩, h3⟩ := h
  have far3 : farN c f ≤ 3 := by unfold farN; omega
  have hn : l.n ≤ 200 := by rw [hl.1]; unfold witL; split <;> omega
  have hi : witI c f < witL c f := by
    unfold witI witL
    split <;> omega
  have ok : ∀ i, i < l.n → (0 ≤ (l.f i).At ∧ (l.f i).At ≤ 500) ∧ (i + 1 < l.n → (l.f i).At ≤ (l.f (i + 1)).At) ∧ (c.L : Int) ≤ (l.f i).Floor ∧ (l.f i).Floor ≤ (c.H : Int) := fun i hi => by
    rw [hl.1] at hi
    have := h1 i hi
    unfold okP at this
    simp only [Bool.and_eq_true, Bool.or_eq_true, decide_eq_true_eq] at this
    obtain ⟨⟨k1, k2⟩, k3⟩ := this
    rw [hl.2 i hi]
    refine ⟨k1, fun hh => ?_, k3⟩
    rw [hl.1] at hh
    rw [hl.2 _ hh]
    rcases k2 with k2 | k2
    · have : i + 1 = witL c f := k2
      omega
    · exact k2
  refine ⟨⟨hn, fun i hi => (ok i hi).1, fun i j hij hj => mono_adj (g := fun i => (l.f i).At) (n := l.n) (fun i hi => (ok i (by omega)).2.1 hi) i j hij hj, fun i hi => (ok i hi).2.2⟩, by rw [hl.1]; exact hi, by rw [hl.2 _ hi]; exact h2, ?_⟩
  rw [wt_congr (l := witA c f) (l' := l) hl.1 (fun i hi => hl.2 i hi) hi, wt_sim]
  exact h3
end
end Go.Proofs.Ytlphgonhenegoaa
set_option linter.unusedVariables false
set_option linter.unusedSimpArgs false
set_option maxHeartbeats 0
set_option maxRecDepth 100000
namespace Go.Proofs.Ytlphgonhenegoaa
open Go.Sx
section
theorem press_dec (x : api_Press) : api_PressC.dec (lget (api_PressC.enc x)) = x := rfl
theorem tall_no (N : Nat) {c : api_Car} (h : ¬ VC c) {R : Type} (k : Bool → Option R) : newellaw07_Tall N c k = k false := by
  rw [newellaw07_Tall_def]
  unfold newellaw07_Tall_m
  rw [refCar, if_neg h]
  rfl
instance (c : Cn) : Decidable (Sm c) := if h : c.H ≤ 3 ∧ c.M + c.S ≤ 4 then isTrue ⟨h.1, h.2⟩ else isFalse fun g => h ⟨g.h, g.q⟩
theorem tall_eq (N : Nat) {c : Cn} (hc : c.Ok) {R : Type} (k : Bool → Option R) : newellaw07_Tall N c.car k = k (!decide (Sm c)) := by
  rw [newellaw07_Tall_def]
  unfold newellaw07_Tall_m
  rw [refCar, if_pos hc.vc]
  have hm := hc.m3
  have hs := hc.s4
  show (bif decide ((c.H : Int) > 3) then k true else k (decide (w64 ((c.M : Int) + (c.S : Int)) > (4 : Int)))) = _
  by_cases h1 : c.H ≤ 3
  · rw [decide_eq_false (show ¬ (c.H : Int) > 3 by omega), cond_false, w64_eq (by omega) (by omega)]
    by_cases h2 : c.M + c.S ≤ 4
    · rw [decide_eq_false (show ¬ (c.M : Int) + (c.S : Int) > 4 by omega), decide_eq_true (show Sm c from ⟨h1, h2⟩)]; rfl
    · rw [decide_eq_true (show (c.M : Int) + (c.S : Int) > 4 by omega), decide_eq_false (show ¬ Sm c from fun g => h2 g.q)]; rfl
  · rw [decide_eq_true (show (c.H : Int) > 3 by omega), cond_true, decide_eq_false (show ¬ Sm c from fun g => h1 g.h)]; rfl
def servesE (c : api_Car) (f : Int) : Int := if VC c then (if c.Low ≤ f ∧ f ≤ c.High then 0 else 1) else 70
theorem serves_eq (N : Nat) (c : api_Car) (f : Int) {R : Type} (k : Int → Option R) : calls_serves N c f k = k (servesE c f) := by
  rw [calls_serves_def]
  unfold calls_serves_m servesE
  rw [valid_eq, in_eq]
  by_cases h : VC c
  · rw [decide_eq_true h, if_pos h]
    by_cases h2 : c.Low ≤ f ∧ f ≤ c.High
    · rw [decide_eq_true h2, if_pos h2]; rfl
    · rw [decide_eq_false h2, if_neg h2]; rfl
  · rw [decide_eq_false h, if_neg h]; rfl
theorem servesE_ok {c : Cn} (hc : c.Ok) {f : Nat} (hf : c.L ≤ f ∧ f ≤ c.H) : servesE c.car (f : Int) = 0 := by
  unfold servesE
  rw [if_pos hc.vc, if_pos (by show ((c.L : Nat) : Int) ≤ _ ∧ _ ≤ ((c.H : Nat) : Int); omega)]
theorem servesE_zero {c : api_Car} {f : Int} (h : servesE c f = 0) : ∃ (n : Cn) (m : Nat), n.Ok ∧ c = n.car ∧ f = (m : Int) ∧ n.L ≤ m ∧ m ≤ n.H := by
  unfold servesE at h
  split at h
  · next hv =>
    split at h
    · next hf =>
      obtain ⟨n, hn, rfl⟩ := hv.cn
      have h1 : ((n.L : Nat) : Int) ≤ f := hf.1
      have h2 : f ≤ ((n.H : Nat) : Int) := hf.2
      exact ⟨n, f.toNat, hn, rfl, by omega, by omega, by omega⟩
    · cases h
  · cases h
theorem worst_err (N : Nat) {c : api_Car} {f : Int} (h : servesE c f ≠ 0) {R : Type} (k : Int → Int → Option R) : calls_Worst N c f k = k 0 (servesE c f) := by
  rw [calls_Worst_def]
  unfold calls_Worst_m
  rw [serves_eq]
  have e0 : (servesE c f != 0) = true := by simpa using h
  rw [e0, cond_true]
theorem witness_err (N : Nat) {c : api_Car} {f : Int} (h : servesE c f ≠ 0) : ∃ l : Arr api_Press, l.n = 0 ∧ ∀ {R : Type} (k : Int → Bool → Arr api_Press → Option R), calls_Witness N c f k = k (servesE c f) true l := by
  refine ⟨lst api_PressC (0 : Nat) (zeroC [SV.int IntKind.i64 (0 : Int), SV.int IntKind.i64 (0 : Int)]), rfl, fun {R} k => ?_⟩
  rw [calls_Witness_def]
  unfold calls_Witness_m
  rw [serves_eq]
  have e0 : (servesE c f != 0) = true := by simpa using h
  rw [e0, cond_true]
theorem far_w : ∀ f : Nat, f < 6 → ∀ L : Nat, L < 6 → ∀ H : Nat, H < 6 → (L ≤ f ∧ f ≤ H) → mxI (w64 ((H : Int) - (f : Int))) (w64 ((f : Int) - (L : Int))) = ((max (H - f) (f - L) : Nat) : Int) ∧ decide (w64 ((H : Int) - (f : Int)) ≥ w64 ((f : Int) - (L : Int))) = decide (f - L ≤ H - f) := by decide +kernel
theorem leaves_w : ∀ f : Nat, f < 6 → ∀ s : Nat, s < 6 → ∀ M : Nat, M < 4 → ∀ S : Nat, S < 5 → w64 (w64 (mxI (w64 ((f : Int) - (s : Int))) (w64 ((s : Int) - (f : Int))) * (M : Int)) + (S : Int)) = ((max (f - s) (s - f) * M + S : Nat) : Int) := by decide +kernel
theorem ends_w : ∀ x : Nat, x < 25 → ∀ n : Nat, n < 6 → ∀ M : Nat, M < 4 → ∀ S : Nat, S < 5 → n = 0 ∨ w64 (w64 ((x : Int) + w64 ((n : Int) * (M : Int))) + w64 (w64 ((n : Int) - (1 : Int)) * (S : Int))) = ((x + n * M + (n - 1) * S : Nat) : Int) := by decide +kernel
theorem flo_w {f i : Nat} {s : Int} (hf : f < 6) (hi : i < 100) (hs : s = 1 ∨ s = -1) : w64 ((f : Int) + w64 ((i : Int) * s)) = (f : Int) + (i : Int) * s := by
  rcases hs with rfl | rfl
  · rw [Int.mul_one, w64_eq (n := (i : Int)) (by omega) (by omega), w64_eq (by omega) (by omega)]
  · rw [w64_eq (n := (i : Int) * -1) (by omega) (by omega), w64_eq (by omega) (by omega)]
theorem wit_l14 (N : Nat) {c : Cn} {f : Nat} (hf : f < 6) (hfar : farN c f < 6) (h0 : farN c f ≠ 0) (en : Int) : ∀ (q i n : Nat) (b : Bool) (a : Arr api_Press), i + q = farN c f + 1 → q < n → a.Is (i + 1) (wit c f) →
    ∃ (b' : Bool) (a' : Arr api_Press), a'.Is (farN c f + 2) (wit c f) ∧ ∀ {R : Type} (k : Bool → Arr api_Press → Option R), calls_Witness_l14 N n (f : Int) ((farN c f : Nat) : Int) (stepZ c f) ((leavesN c f : Nat) : Int) en ((farN c f + 1 : Nat) : Int) (i : Int) b a k = k b' a' := by
  have hst : stepZ c f = 1 ∨ stepZ c f = -1 := by unfold stepZ; split; exact .inl rfl; exact .inr rfl
  intro q
  induction q with
  | zero =>
    intro i n b a h1 h2 h3
    obtain ⟨n, rfl⟩ : ∃ m, n = m + 1 := ⟨n - 1, by omega⟩
    have : i = farN c f + 1 := by omega
    subst this
    refine ⟨b, a, h3, fun {R} k => ?_⟩
    unfold calls_Witness_l14 calls_Witness_b14
    rw [ltF (Nat.le_refl _), cond_false]
  | succ q ih =>
    intro i n b a h1 h2 h3
    obtain ⟨n, rfl⟩ : ∃ m, n = m + 1 := ⟨n - 1, by omega⟩
    have hpush := Arr.Is.push (C := api_PressC) press_dec h3 (z := [SV.int IntKind.i64 (0 : Int), SV.int IntKind.i64 (0 : Int)]) (e := [SV.int IntKind.i64 ((leavesN c f : Nat) : Int), SV.int IntKind.i64 (w64 ((f : Int) + w64 ((i : Int) * stepZ c f)))]) (by
      rw [flo_w hf (by omega) hst]
      unfold wit
      rw [if_neg (by omega), if_pos (by omega)]
      rfl)
    obtain ⟨b', a', g1, g2⟩ := ih (i + 1) n false _ (by omega) (by omega) hpush
    refine ⟨b', a', g1, fun {R} k => ?_⟩
    unfold calls_Witness_l14 calls_Witness_b14
    rw [ltT (show i < farN c f + 1 by omega), cond_true, room_of (by rw [h3.1]; omega), cond_true, w64_succ (show i < 1000000000000 by omega)]
    exact g2 k
theorem wit_l19 (N : Nat) {c : Cn} {f : Nat} (hf : f < 6) (hfar : farN c f < 6) (h0 : farN c f ≠ 0) : ∀ (q i n : Nat) (b : Bool) (a : Arr api_Press), i + q = farN c f → 1 ≤ i → q < n → a.Is (farN c f + 1 + i) (wit c f) →
    ∃ (b' : Bool) (a' : Arr api_Press), a'.Is (farN c f + 1 + farN c f) (wit c f) ∧ ∀ {R : Type} (k : Bool → Arr api_Press → Option R), calls_Witness_l19 N n (f : Int) ((farN c f : Nat) : Int) (stepZ c f) ((endsN c f : Nat) : Int) (i : Int) b a k = k b' a' := by
  have hst : stepZ c f = 1 ∨ stepZ c f = -1 := by unfold stepZ; split; exact .inl rfl; exact .inr rfl
  intro q
  induction q with
  | zero =>
    intro i n b a h1 h1' h2 h3
    obtain ⟨n, rfl⟩ : ∃ m, n = m + 1 := ⟨n - 1, by omega⟩
    have : i = farN c f := by omega
    subst this
    refine ⟨b, a, h3, fun {R} k => ?_⟩
    unfold calls_Witness_l19 calls_Witness_b19
    rw [ltF (Nat.le_refl _), cond_false]
  | succ q ih =>
    intro i n b a h1 h1' h2 h3
    obtain ⟨n, rfl⟩ : ∃ m, n = m + 1 := ⟨n - 1, by omega⟩
    have hpush := Arr.Is.push (C := api_PressC) press_dec h3 (z := [SV.int IntKind.i64 (0 : Int), SV.int IntKind.i64 (0 : Int)]) (e := [SV.int IntKind.i64 ((endsN c f : Nat) : Int), SV.int IntKind.i64 (w64 ((f : Int) + w64 ((i : Int) * stepZ c f)))]) (by
      rw [flo_w hf (by omega) hst]
      unfold wit
      rw [if_neg (by omega), if_neg (by omega), show farN c f + 1 + i - farN c f - 1 = i by omega]
      rfl)
    obtain ⟨b', a', g1, g2⟩ := ih (i + 1) n false _ (by omega) (by omega) (by omega) hpush
    refine ⟨b', a', g1, fun {R} k => ?_⟩
    unfold calls_Witness_l19 calls_Witness_b19
    rw [ltT (show i < farN c f by omega), cond_true, room_of (by rw [h3.1]; omega), cond_true, w64_succ (show i < 1000000000000 by omega)]
    exact g2 k
theorem witness_eq {N : Nat} (hN : 2000 < N) {c : Cn} (hc : c.Ok) {f : Nat} (hf : c.L ≤ f ∧ f ≤ c.H) : ∃ (b : Bool) (l : Arr api_Press), l.Is (witL c f) (wit c f) ∧ ∀ {R : Type} (k : Int → Bool → Arr api_Press → Option R), calls_Witness N c.car (f : Int) k = k 0 b l := by
  have h5 := hc.h5
  have hm := hc.m3
  have hs := hc.s4
  have hls := hc.ls
  have hsh := hc.sh
  have hfar : farN c f < 6 := by unfold farN; omega
  obtain ⟨w1, w2⟩ := far_w f (by omega) c.L (by omega) c.H (by omega) hf
  have hlv := leaves_w f (by omega) c.s (by omega) c.M (by omega) c.S (by omega)
  have hlt : leavesN c f < 25 := by
    unfold leavesN
    have := Nat.mul_le_mul (show max (f - c.s) (c.s - f) ≤ 5 by omega) hm
    omega
  have hen := ends_w (leavesN c f) hlt (farN c f) hfar c.M (by omega) c.S (by omega)
  have a0 : (lst api_PressC (1 : Nat) (litC [SV.int IntKind.i64 (0 : Int), SV.int IntKind.i64 (0 : Int)] [[SV.int IntKind.i64 (0 : Int), SV.int IntKind.i64 (f : Int)]])).Is 1 (wit c f) := ⟨rfl, fun i hi => by
    have : i = 0 := by omega
    subst this
    rfl⟩
  have key : ∃ (b : Bool) (l : Arr api_Press), l.Is (witL c f) (wit c f) ∧ ∀ {R : Type} (k : Int → Bool → Arr api_Press → Option R), calls_Witness_j0 N (f : Int) ((farN c f : Nat) : Int) (stepZ c f) c.car k = k 0 b l := by
    by_cases h0 : farN c f = 0
    · refine ⟨false, (lst api_PressC (1 : Nat) (litC [SV.int IntKind.i64 (0 : Int), SV.int IntKind.i64 (0 : Int)] [[SV.int IntKind.i64 (0 : Int), SV.int IntKind.i64 (f : Int)]])), ?_, fun {R} k => ?_⟩
      · unfold witL
        rw [if_pos h0]
        exact a0
      · rw [calls_Witness_j0_def]
        unfold calls_Witness_j0_m
        rw [h0]
        rfl
    · obtain ⟨b1, a1, g1, g2⟩ := wit_l14 N (show f < 6 by omega) hfar h0 ((endsN c f : Nat) : Int) (farN c f + 1) 0 N false _ (by omega) (by omega) a0
      obtain ⟨b2, a2, g3, g4⟩ := wit_l19 N (show f < 6 by omega) hfar h0 (farN c f - 1) 1 N b1 a1 (by omega) (by omega) (by omega) g1
      refine ⟨b2, a2, ?_, fun {R} k => ?_⟩
      · unfold witL
        rw [if_neg h0, show 2 * farN c f + 1 = farN c f + 1 + farN c f by omega]
        exact g3
      · rw [calls_Witness_j0_def]
        unfold calls_Witness_j0_m
        have e1 : (((farN c f : Nat) : Int) == 0) = false := by rw [eqz]; simpa using h0
        rw [e1, cond_false]
        show calls_Witness_l14 N N (f : Int) ((farN c f : Nat) : Int) (stepZ c f) (w64 (w64 (mxI (w64 ((f : Int) - (c.s : Int))) (w64 ((c.s : Int) - (f : Int))) * (c.M : Int)) + (c.S : Int))) (w64 (w64 (w64 (w64 (mxI (w64 ((f : Int) - (c.s : Int))) (w64 ((c.s : Int) - (f : Int))) * (c.M : Int)) + (c.S : Int)) + w64 (((farN c f : Nat) : Int) * (c.M : Int))) + w64 (w64 (((farN c f : Nat) : Int) - (1 : Int)) * (c.S : Int)))) (w64 (((farN c f : Nat) : Int) + (1 : Int))) (0 : Int) false _ (fun r304 r305 => calls_Witness_l19 N N (f : Int) ((farN c f : Nat) : Int) (stepZ c f) (w64 (w64 (w64 (w64 (mxI (w64 ((f : Int) - (c.s : Int))) (w64 ((c.s : Int) - (f : Int))) * (c.M : Int)) + (c.S : Int)) + w64 (((farN c f : Nat) : Int) * (c.M : Int))) + w64 (w64 (((farN c f : Nat) : Int) - (1 : Int)) * (c.S : Int)))) (1 : Int) r304 r305 (fun r313 r314 => k (0 : Int) r313 r314)) = _
        rw [hlv]
        have hen' : w64 (w64 (((max (f - c.s) (c.s - f) * c.M + c.S : Nat) : Int) + w64 (((farN c f : Nat) : Int) * (c.M : Int))) + w64 (w64 (((farN c f : Nat) : Int) - (1 : Int)) * (c.S : Int))) = ((endsN c f : Nat) : Int) := hen.resolve_left h0
        rw [hen', w64_succ (show farN c f < 1000000000000 by omega)]
        exact (g2 _).trans (g4 _)
  obtain ⟨b, l, g1, g2⟩ := key
  refine ⟨b, l, g1, fun {R} k => ?_⟩
  rw [calls_Witness_def]
  unfold calls_Witness_m
  rw [serves_eq, servesE_ok hc hf]
  show calls_far N c.car (f : Int) _ = _
  rw [calls_far_def]
  unfold calls_far_m
  show (bif !(decide (w64 ((c.H : Int) - (f : Int)) ≥ w64 ((f : Int) - (c.L : Int)))) then calls_Witness_j0 N (f : Int) (mxI (w64 ((c.H : Int) - (f : Int))) (w64 ((f : Int) - (c.L : Int)))) (-1 : Int) c.car _ else calls_Witness_j0 N (f : Int) (mxI (w64 ((c.H : Int) - (f : Int))) (w64 ((f : Int) - (c.L : Int)))) (1 : Int) c.car _) = _
  rw [w1, w2]
  have hst : stepZ c f = if f - c.L ≤ c.H - f then 1 else -1 := rfl
  by_cases hd : f - c.L ≤ c.H - f
  · rw [if_pos hd] at hst
    rw [decide_eq_true hd, Bool.not_true, cond_false, ← hst]
    exact g2 _
  · rw [if_neg hd] at hst
    rw [decide_eq_false hd, Bool.not_false, cond_true, ← hst]
    exact g2 _
end
end Go.Proofs.Ytlphgonhenegoaa
