import Derived.Test.YtlphgonhenegoaaP9
set_option linter.unusedVariables false
set_option linter.unusedSimpArgs false
set_option maxHeartbeats 0
set_option maxRecDepth 100000
namespace Go.Proofs.Ytlphgonhenegoaa
open Go.Sx
section
theorem or_pow : ∀ f : Nat, f < 6 → ∀ W : Nat, W < 64 → W.testBit f = true → W ||| 2 ^ f = W := by decide +kernel
theorem again {c : Cn} {r : Rd} (hc : c.Ok) (h : Ok c r) {P f : Nat} (hP : P < 64) (hf : f < 6) (hw : r.W.testBit f = true) : tickR c.M c.S r (P ||| 2 ^ f) = tickR c.M c.S r P ∧ servR r (P ||| 2 ^ f) = servR r P := by
  have h5 := hc.h5
  have e1 : (endR r).W = r.W := by unfold endR; split; rfl; split; rfl; split <;> rfl
  have e2 : (endR r).doing = 2 → f ≠ (endR r).F ∧ (endR r).F < 6 := by
    intro hd
    have : r.doing = 2 ∧ (endR r).F = r.F := by
      unfold endR at hd ⊢
      by_cases g0 : r.doing = 0
      · rw [if_pos g0] at hd; omega
      rw [if_neg g0] at hd ⊢
      by_cases g1 : 1 < r.left
      · rw [if_pos g1] at hd ⊢; exact ⟨hd, rfl⟩
      rw [if_neg g1] at hd ⊢
      by_cases g2 : r.doing = 1
      · rw [if_pos g2] at hd; cases hd
      · rw [if_neg g2] at hd; cases hd
    have g := (h.d2 this.1).2.2
    rw [this.2]
    refine ⟨fun e => ?_, by have := h.f; omega⟩
    rw [← e, hw] at g
    cases g
  have e3 : pressR (endR r) (P ||| 2 ^ f) = pressR (endR r) P := by
    unfold pressR
    congr 1
    rw [e1]
    by_cases hd : (endR r).doing = 2
    · obtain ⟨g1, g2⟩ := e2 hd
      rw [if_pos hd, if_pos hd]
      have := off_or _ g2 P hP f hf
      have hb : (f == (endR r).F) = false := by simpa using g1
      rw [hb, cond_false] at this
      rw [← this, Nat.or_comm (off P _), ← Nat.or_assoc, or_pow f hf _ h.w6 hw]
    · rw [if_neg hd, if_neg hd, Nat.or_comm P, ← Nat.or_assoc, or_pow f hf _ h.w6 hw]
  have e4 : servP (endR r) (P ||| 2 ^ f) = servP (endR r) P := by
    unfold servP
    by_cases hd : (endR r).doing = 2
    · obtain ⟨g1, g2⟩ := e2 hd
      rw [if_pos hd, if_pos hd]
      have := serv_or _ g2 P hP f hf
      have hb : (f == (endR r).F) = false := by simpa using g1
      rw [hb, cond_false] at this
      exact this.symm
    · rw [if_neg hd, if_neg hd]
  unfold tickR servR
  rw [e3, e4]
  exact ⟨rfl, rfl⟩
theorem pset_congr {l l' : Arr api_Press} {p : Nat → Bool} {t n : Nat} (h : ∀ i, i < n → l'.f i = l.f i) : pset l' p t n = pset l p t n := by
  induction n with
  | zero => rfl
  | succ n ih =>
    unfold pset pA pG
    rw [ih fun i hi => h i (by omega), h n (by omega)]
structure More (c : Cn) (l l' : Arr api_Press) : Prop where
  ok : c.Ok
  v : VL c l'
  n : l'.n = l.n + 1
  f : ∀ i, i < l.n → l'.f i = l.f i
variable {c : Cn} {l l' : Arr api_Press}
theorem More.vl (h : More c l l') : VL c l := by
  have hn := h.n
  obtain ⟨v1, v2, v3, v4⟩ := h.v
  refine ⟨by omega, fun i hi => ?_, fun i j hij hj => ?_, fun i hi => ?_⟩
  · rw [← h.f i hi]; exact v2 i (by omega)
  · rw [← h.f i (by omega), ← h.f j hj]; exact v3 i j hij (by omega)
  · rw [← h.f i hi]; exact v4 i (by omega)
theorem More.pA (h : More c l l') {i : Nat} (hi : i < l.n) : pA l' i = pA l i := by unfold _root_.Go.Proofs.Ytlphgonhenegoaa.pA; rw [h.f i hi]
theorem More.pG (h : More c l l') {i : Nat} (hi : i < l.n) : pG l' i = pG l i := by unfold _root_.Go.Proofs.Ytlphgonhenegoaa.pG; rw [h.f i hi]
theorem More.le (h : More c l l') {i : Nat} (hi : i < l.n) : _root_.Go.Proofs.Ytlphgonhenegoaa.pA l i ≤ _root_.Go.Proofs.Ytlphgonhenegoaa.pA l' l.n := by
  rw [← h.pA hi]
  exact h.v.pm (by omega) (by rw [h.n]; omega)
theorem More.pP (h : More c l l') (t : Nat) : pP l' allP t = bif _root_.Go.Proofs.Ytlphgonhenegoaa.pA l' l.n == t then pP l allP t ||| 2 ^ _root_.Go.Proofs.Ytlphgonhenegoaa.pG l' l.n else pP l allP t := by
  unfold _root_.Go.Proofs.Ytlphgonhenegoaa.pP
  rw [h.n]
  show (bif _root_.Go.Proofs.Ytlphgonhenegoaa.pA l' l.n == t && true then pset l' allP t l.n ||| _ else pset l' allP t l.n) = _
  rw [pset_congr h.f, Bool.and_true]
theorem More.before (h : More c l l') : ∀ t, t ≤ _root_.Go.Proofs.Ytlphgonhenegoaa.pA l' l.n → st c l' allP t = st c l allP t := by
  intro t
  induction t with
  | zero => intro _; rfl
  | succ t ih =>
    intro ht
    unfold st
    have : (_root_.Go.Proofs.Ytlphgonhenegoaa.pA l' l.n == t) = false := by simp; omega
    rw [ih (by omega), h.pP, this, cond_false]
theorem More.same (h : More c l l') {i : Nat} (hi : i < l.n) (hg : _root_.Go.Proofs.Ytlphgonhenegoaa.pG l i = _root_.Go.Proofs.Ytlphgonhenegoaa.pG l' l.n) (hw : _root_.Go.Proofs.Ytlphgonhenegoaa.pA l' l.n < _root_.Go.Proofs.Ytlphgonhenegoaa.pA l i + wt c l allP i) (t : Nat) : st c l' allP t = st c l allP t ∧ sv c l' allP t = sv c l allP t := by
  have hl := h.vl
  have h5 := h.ok.h5
  have hf := (hl.pg hi).2
  have key : ∀ t, tickR c.M c.S (st c l allP t) (_root_.Go.Proofs.Ytlphgonhenegoaa.pP l' allP t) = tickR c.M c.S (st c l allP t) (_root_.Go.Proofs.Ytlphgonhenegoaa.pP l allP t) ∧ servR (st c l allP t) (_root_.Go.Proofs.Ytlphgonhenegoaa.pP l' allP t) = servR (st c l allP t) (_root_.Go.Proofs.Ytlphgonhenegoaa.pP l allP t) := by
    intro t
    rw [h.pP]
    cases hT : (_root_.Go.Proofs.Ytlphgonhenegoaa.pA l' l.n == t) with
    | false => exact ⟨rfl, rfl⟩
    | true =>
      rw [cond_true]
      have hT : _root_.Go.Proofs.Ytlphgonhenegoaa.pA l' l.n = t := by simpa using hT
      have hPf := pP_fl h.ok hl allP t
      by_cases he : _root_.Go.Proofs.Ytlphgonhenegoaa.pA l i = t
      · rw [or_pow _ (by omega) _ hPf.lt (pset_bit.2 ⟨i, hi, he, rfl, hg⟩)]
        exact ⟨rfl, rfl⟩
      · have hle := h.le hi
        exact again h.ok (st_ok h.ok hl allP t) hPf.lt (by omega) ((wants_iff h.ok hl allP t (by omega)).2 ⟨i, hi, rfl, hg, by omega, by omega⟩)
  have hs : st c l' allP t = st c l allP t := by
    induction t with
    | zero => rfl
    | succ t ih =>
      unfold st
      rw [ih]
      exact (key t).1
  refine ⟨hs, ?_⟩
  unfold sv
  rw [hs]
  exact (key t).2
theorem More.wt (h : More c l l') {i : Nat} (hi : i < l.n) (hg : _root_.Go.Proofs.Ytlphgonhenegoaa.pG l i = _root_.Go.Proofs.Ytlphgonhenegoaa.pG l' l.n) (hw : _root_.Go.Proofs.Ytlphgonhenegoaa.pA l' l.n < _root_.Go.Proofs.Ytlphgonhenegoaa.pA l i + wt c l allP i) {j : Nat} (hj : j < l.n) : _root_.Go.Proofs.Ytlphgonhenegoaa.wt c l' allP j = _root_.Go.Proofs.Ytlphgonhenegoaa.wt c l allP j := by
  unfold _root_.Go.Proofs.Ytlphgonhenegoaa.wt
  rw [h.pA hj, h.pG hj]
  congr 1
  funext d
  rw [(h.same hi hg hw _).2]
theorem More.own (h : More c l l') {i : Nat} (hi : i < l.n) (hg : _root_.Go.Proofs.Ytlphgonhenegoaa.pG l i = _root_.Go.Proofs.Ytlphgonhenegoaa.pG l' l.n) (hw : _root_.Go.Proofs.Ytlphgonhenegoaa.pA l' l.n < _root_.Go.Proofs.Ytlphgonhenegoaa.pA l i + _root_.Go.Proofs.Ytlphgonhenegoaa.wt c l allP i) : _root_.Go.Proofs.Ytlphgonhenegoaa.pA l' l.n + _root_.Go.Proofs.Ytlphgonhenegoaa.wt c l' allP l.n = _root_.Go.Proofs.Ytlphgonhenegoaa.pA l i + _root_.Go.Proofs.Ytlphgonhenegoaa.wt c l allP i := by
  have w := wt_ok h.ok h.vl (p := allP) hi rfl
  have hle := h.le hi
  have hlt := w.le
  have : _root_.Go.Proofs.Ytlphgonhenegoaa.wt c l' allP l.n = _root_.Go.Proofs.Ytlphgonhenegoaa.pA l i + _root_.Go.Proofs.Ytlphgonhenegoaa.wt c l allP i - _root_.Go.Proofs.Ytlphgonhenegoaa.pA l' l.n := by
    unfold _root_.Go.Proofs.Ytlphgonhenegoaa.wt
    refine fw_eq (d := _root_.Go.Proofs.Ytlphgonhenegoaa.pA l i + _root_.Go.Proofs.Ytlphgonhenegoaa.wt c l allP i - _root_.Go.Proofs.Ytlphgonhenegoaa.pA l' l.n) ?_ (fun e he => ?_) 100 0 (by omega) (by omega)
    · show (sv c l' allP (_ + _)).testBit _ = true
      rw [(h.same hi hg hw _).2, ← hg, show _root_.Go.Proofs.Ytlphgonhenegoaa.pA l' l.n + (_root_.Go.Proofs.Ytlphgonhenegoaa.pA l i + _root_.Go.Proofs.Ytlphgonhenegoaa.wt c l allP i - _root_.Go.Proofs.Ytlphgonhenegoaa.pA l' l.n) = _root_.Go.Proofs.Ytlphgonhenegoaa.pA l i + _root_.Go.Proofs.Ytlphgonhenegoaa.wt c l allP i by omega]
      exact w.hit
    · show (sv c l' allP (_ + _)).testBit _ = false
      rw [(h.same hi hg hw _).2, ← hg, show _root_.Go.Proofs.Ytlphgonhenegoaa.pA l' l.n + e = _root_.Go.Proofs.Ytlphgonhenegoaa.pA l i + (_root_.Go.Proofs.Ytlphgonhenegoaa.pA l' l.n - _root_.Go.Proofs.Ytlphgonhenegoaa.pA l i + e) by omega]
      exact w.no _ (by omega)
  omega
end
end Go.Proofs.Ytlphgonhenegoaa
