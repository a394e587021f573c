/-
  Several texts in one.
-/
import Derived.Test.YtlphgonhenegoaaP9
set_option linter.unusedVariables false
set_option linter.unusedSimpArgs false
set_option maxHeartbeats 0
set_option maxRecDepth 100000
namespace Go.Proofs.Ytlphgonhenegoaa
open Go.Sx
section
theorem or_pow : ∀ f : Nat, f < 6 → ∀ W : Nat, W < 64 → W.testBit f = true → W ||| 2 ^ f = W := by decide +kernel
theorem again {c : Cn} {r : Rd} (hc : c.Ok) (h : Ok c r) {P f : Nat} (hP : P < 64) (hf : f < 6) (hw : r.W.testBit f = true) : tickR c.M c.S r (P ||| 2 ^ f) = tickR c.M c.S r P ∧ servR r (P ||| 2 ^ f) = servR r P := by
  have h5 := hc.h5
  have e1 : (endR r).W = r.W := by unfold endR; split; rfl; split; rfl; split <;> rfl
  have e2 : (endR r).doing = 2 → f ≠ (endR r).F ∧ (endR r).F < 6 := by
    intro hd
    have : r.doing = 2 ∧ (endR r).F = r.F := by
      unfold endR at hd ⊢
      by_cases g0 : r.doing = 0
      · rw [if_pos g0] at hd; omega
      rw [if_neg g0] at hd ⊢
      by_cases g1 : 1 < r.left
      · rw [if_pos g1] at hd ⊢; exact ⟨hd, rfl⟩
      rw [if_neg g1] at hd ⊢
      by_cases g2 : r.doing = 1
      · rw [if_pos g2] at hd; cases hd
      · rw [if_neg g2] at hd; cases hd
    have g := (h.d2 this.1).2.2
    rw [this.2]
    refine ⟨fun e => ?_, by have := h.f; omega⟩
    rw [← e, hw] at g
    cases g
  have e3 : pressR (endR r) (P ||| 2 ^ f) = pressR (endR r) P := by
    unfold pressR
    congr 1
    rw [e1]
    by_cases hd : (endR r).doing = 2
    · obtain ⟨g1, g2⟩ := e2 hd
      rw [if_pos hd, if_pos hd]
      have := off_or _ g2 P hP f hf
      have hb : (f == (endR r).F) = false := by simpa using g1
      rw [hb, cond_false] at this
      rw [← this, Nat.or_comm (off P _), ← Nat.or_assoc, or_pow f hf _ h.w6 hw]
    · rw [if_neg hd, if_neg hd, Nat.or_comm P, ← Nat.or_assoc, or_pow f hf _ h.w6 hw]
  have e4 : servP (endR r) (P ||| 2 ^ f) = servP (endR r) P := by
    unfold servP
    by_cases hd : (endR r).doing = 2
    · obtain ⟨g1, g2⟩ := e2 hd
      rw [if_pos hd, if_pos hd]
      have := serv_or _ g2 P hP f hf
      have hb : (f == (endR r).F) = false := by simpa using g1
      rw [hb, cond_false] at this
      exact this.symm
    · rw [if_neg hd, if_neg hd]
  unfold tickR servR
  rw [e3, e4]
  exact ⟨rfl, rfl⟩
theorem pset_congr {l l' : Arr api_Press} {p : Nat → Bool} {t n : Nat} (h : ∀ i, i < n → l'.f i = l.f i) : pset l' p t n = pset l p t n := by
  induction n with
  | zero => rfl
  | succ n ih =>
    unfold pset pA pG
    rw [ih fun i hi => h i (by omega), h n (by omega)]
structure More (c : Cn) (l l' : Arr api_Press) : Prop where
  ok : c.Ok
  v : VL c l'
  n : l'.n = l.n + 1
  f : ∀ i, i < l.n → l'.f i = l.f i
variable {c : Cn} {l l' : Arr api_Press}
theorem More.vl (h : More c l l') : VL c l := by
  have hn := h.n
  obtain ⟨v1, v2, v3, v4⟩ := h.v
  refine ⟨by omega, fun i hi => ?_, fun i j hij hj => ?_, fun i hi => ?_⟩
  · rw [← h.f i hi]; exact v2 i (by omega)
  · rw [← h.f i (by omega), ← h.f j hj]; exact v3 i j hij (by omega)
  · rw [← h.f i hi]; exact v4 i (by omega)
theorem More.pA (h : More c l l') {i : Nat} (hi : i < l.n) : pA l' i = pA l i := by unfold _root_.Go.Proofs.Ytlphgonhenegoaa.pA; rw [h.f i hi]
theorem More.pG (h : More c l l') {i : Nat} (hi : i < l.n) : pG l' i = pG l i := by unfold _root_.Go.Proofs.Ytlphgonhenegoaa.pG; rw [h.f i hi]
theorem More.le (h : More c l l') {i : Nat} (hi : i < l.n) : _root_.Go.Proofs.Ytlphgonhenegoaa.pA l i ≤ _root_.Go.Proofs.Ytlphgonhenegoaa.pA l' l.n := by
  rw [← h.pA hi]
  exact h.v.pm (by omega) (by rw [h.n]; omega)
theorem More.pP (h : More c l l') (t : Nat) : pP l' allP t = bif _root_.Go.Proofs.Ytlphgonhenegoaa.pA l' l.n == t then pP l allP t ||| 2 ^ _root_.Go.Proofs.Ytlphgonhenegoaa.pG l' l.n else pP l allP t := by
  unfold _root_.Go.Proofs.Ytlphgonhenegoaa.pP
  rw [h.n]
  show (bif _root_.Go.Proofs.Ytlphgonhenegoaa.pA l' l.n == t && true then pset l' allP t l.n ||| _ else pset l' allP t l.n) = _
  rw [pset_congr h.f, Bool.and_true]
theorem More.before (h : More c l l') : ∀ t, t ≤ _root_.Go.Proofs.Ytlphgonhenegoaa.pA l' l.n → st c l' allP t = st c l allP t := by
  intro t
  induction t with
  | zero => intro _; rfl
  | succ t ih =>
    intro ht
    unfold st
    have : (_root_.Go.Proofs.Ytlphgonhenegoaa.pA l' l.n == t) = false := by simp; omega
    rw [ih (by omega), h.pP, this, cond_false]
theorem More.same (h : More c l l') {i : Nat} (hi : i < l.n) (hg : _root_.Go.Proofs.Ytlphgonhenegoaa.pG l i = _root_.Go.Proofs.Ytlphgonhenegoaa.pG l' l.n) (hw : _root_.Go.Proofs.Ytlphgonhenegoaa.pA l' l.n < _root_.Go.Proofs.Ytlphgonhenegoaa.pA l i + wt c l allP i) (t : Nat) : st c l' allP t = st c l allP t ∧ sv c l' allP t = sv c l allP t := by
  have hl := h.vl
  have h5 := h.ok.h5
  have hf := (hl.pg hi).2
  have key : ∀ t, tickR c.M c.S (st c l allP t) (_root_.Go.Proofs.Ytlphgonhenegoaa.pP l' allP t) = tickR c.M c.S (st c l allP t) (_root_.Go.Proofs.Ytlphgonhenegoaa.pP l allP t) ∧ servR (st c l allP t) (_root_.Go.Proofs.Ytlphgonhenegoaa.pP l' allP t) = servR (st c l allP t) (_root_.Go.Proofs.Ytlphgonhenegoaa.pP l allP t) := by
    intro t
    rw [h.pP]
    cases hT : (_root_.Go.Proofs.Ytlphgonhenegoaa.pA l' l.n == t) with
    | false => exact ⟨rfl, rfl⟩
    | true =>
      rw [cond_true]
      have hT : _root_.Go.Proofs.Ytlphgonhenegoaa.pA l' l.n = t := by simpa using hT
      have hPf := pP_fl h.ok hl allP t
      by_cases he : _root_.Go.Proofs.Ytlphgonhenegoaa.pA l i = t
      · rw [or_pow _ (by omega) _ hPf.lt (pset_bit.2 ⟨i, hi, he, rfl, hg⟩)]
        exact ⟨rfl, rfl⟩
      · have hle := h.le hi
        exact again h.ok (st_ok h.ok hl allP t) hPf.lt (by omega) ((wants_iff h.ok hl allP t (by omega)).2 ⟨i, hi, rfl, hg, by omega, by omega⟩)
  have hs : st c l' allP t = st c l allP t := by
    induction t with
    | zero => rfl
    | succ t ih =>
      unfold st
      rw [ih]
      exact (key t).1
  refine ⟨hs, ?_⟩
  unfold sv
  rw [hs]
  exact (key t).2
theorem More.wt (h : More c l l') {i : Nat} (hi : i < l.n) (hg : _root_.Go.Proofs.Ytlphgonhenegoaa.pG l i = _root_.Go.Proofs.Ytlphgonhenegoaa.pG l' l.n) (hw : _root_.Go.Proofs.Ytlphgonhenegoaa.pA l' l.n < _root_.Go.Proofs.Ytlphgonhenegoaa.pA l i + wt c l allP i) {j : Nat} (hj : j < l.n) : _root_.Go.Proofs.Ytlphgonhenegoaa.wt c l' allP j = _root_.Go.Proofs.Ytlphgonhenegoaa.wt c l allP j := by
  unfold _root_.Go.Proofs.Ytlphgonhenegoaa.wt
  rw [h.pA hj, h.pG hj]
  congr 1
  funext d
  rw [(h.same hi hg hw _).2]
theorem More.own (h : More c l l') {i : Nat} (hi : i < l.n) (hg : _root_.Go.Proofs.Ytlphgonhenegoaa.pG l i = _root_.Go.Proofs.Ytlphgonhenegoaa.pG l' l.n) (hw : _root_.Go.Proofs.Ytlphgonhenegoaa.pA l' l.n < _root_.Go.Proofs.Ytlphgonhenegoaa.pA l i + _root_.Go.Proofs.Ytlphgonhenegoaa.wt c l allP i) : _root_.Go.Proofs.Ytlphgonhenegoaa.pA l' l.n + _root_.Go.Proofs.Ytlphgonhenegoaa.wt c l' allP l.n = _root_.Go.Proofs.Ytlphgonhenegoaa.pA l i + _root_.Go.Proofs.Ytlphgonhenegoaa.wt c l allP i := by
  have w := wt_ok h.ok h.vl (p := allP) hi rfl
  have hle := h.le hi
  have hlt := w.le
  have : _root_.Go.Proofs.Ytlphgonhenegoaa.wt c l' allP l.n = _root_.Go.Proofs.Ytlphgonhenegoaa.pA l i + _root_.Go.Proofs.Ytlphgonhenegoaa.wt c l allP i - _root_.Go.Proofs.Ytlphgonhenegoaa.pA l' l.n := by
    unfold _root_.Go.Proofs.Ytlphgonhenegoaa.wt
    refine fw_eq (d := _root_.Go.Proofs.Ytlphgonhenegoaa.pA l i + _root_.Go.Proofs.Ytlphgonhenegoaa.wt c l allP i - _root_.Go.Proofs.Ytlphgonhenegoaa.pA l' l.n) ?_ (fun e he => ?_) 100 0 (by omega) (by omega)
    · show (sv c l' allP (_ + _)).testBit _ = true
      rw [(h.same hi hg hw _).2, ← hg, show _root_.Go.Proofs.Ytlphgonhenegoaa.pA l' l.n + (_root_.Go.Proofs.Ytlphgonhenegoaa.pA l i + _root_.Go.Proofs.Ytlphgonhenegoaa.wt c l allP i - _root_.Go.Proofs.Ytlphgonhenegoaa.pA l' l.n) = _root_.Go.Proofs.Ytlphgonhenegoaa.pA l i + _root_.Go.Proofs.Ytlphgonhenegoaa.wt c l allP i by omega]
      exact w.hit
    · show (sv c l' allP (_ + _)).testBit _ = false
      rw [(h.same hi hg hw _).2, ← hg, show _root_.Go.Proofs.Ytlphgonhenegoaa.pA l' l.n + e = _root_.Go.Proofs.Ytlphgonhenegoaa.pA l i + (_root_.Go.Proofs.Ytlphgonhenegoaa.pA l' l.n - _root_.Go.Proofs.Ytlphgonhenegoaa.pA l i + e) by omega]
      exact w.no _ (by omega)
  omega
end
end Go.Proofs.Ytlphgonhenegoaa
set_option linter.unusedVariables false
set_option linter.unusedSimpArgs false
set_option maxHeartbeats 0
set_option maxRecDepth 100000
namespace Go.Proofs.Ytlphgonhenegoaa
open Go.Sx
section
set_option synthInstance.maxHeartbeats 0 in
set_option synthInstance.maxSize 1000 in
theorem mv_far : ∀ L : Nat, L < 6 → ∀ H : Nat, H < 6 → ∀ F : Nat, F < 6 → ∀ f : Nat, f < 6 → (L ≤ F ∧ F ≤ H ∧ L ≤ f ∧ f ≤ H) → 
    ((F < H → mv ⟨L, H, 0, 1, 1⟩ true F f + 1 ≤ 2 * farN ⟨L, H, 0, 1, 1⟩ f) ∧ (L < F → mv ⟨L, H, 0, 1, 1⟩ false F f + 1 ≤ 2 * farN ⟨L, H, 0, 1, 1⟩ f) ∧ (f ≠ F → ∀ u : Bool, mv ⟨L, H, 0, 1, 1⟩ (dir ⟨L, H, 0, 1, 1⟩ u F) F f + 2 ≤ 2 * farN ⟨L, H, 0, 1, 1⟩ f)) := by decide +kernel
theorem pot_worst {c : Cn} (hc : c.Ok) {r : Rd} (h : Ok c r) {f : Nat} (hw : r.W.testBit f = true) : pot c r f ≤ worstN c f := by
  have h5 := hc.h5
  have hF := h.f
  have hf := h.w f hw
  obtain ⟨m1, m2, m3⟩ := mv_far c.L (by have := hc.ls; have := hc.sh; omega) c.H (by omega) r.F (by omega) f (by omega) ⟨hF.1, hF.2, hf.1, hf.2⟩
  have hmv : ∀ u, mv ⟨c.L, c.H, 0, 1, 1⟩ u r.F f = mv c u r.F f := fun u => rfl
  have hdir : ∀ u, dir ⟨c.L, c.H, 0, 1, 1⟩ u r.F = dir c u r.F := fun u => rfl
  have hfar : farN ⟨c.L, c.H, 0, 1, 1⟩ f = farN c f := rfl
  rw [hmv, hfar] at m1 m2
  have hd := h.d
  have fin : ∀ k x : Nat, k + 1 ≤ 2 * farN c f → x ≤ c.M → x + k * (c.S + c.M) ≤ worstN c f := fun k x h1 h2 => by
    unfold worstN
    rw [if_neg (by omega)]
    have := Nat.mul_le_mul_right (c.S + c.M) (show k ≤ 2 * farN c f - 1 by omega)
    have e : (2 * farN c f - 1) * (c.S + c.M) = (2 * farN c f - 1) * c.S + (2 * farN c f - 1) * c.M := Nat.mul_add _ _ _
    have e2 : 2 * farN c f * c.M = (2 * farN c f - 1) * c.M + c.M := by
      have := Nat.succ_mul (2 * farN c f - 1) c.M
      rwa [show (2 * farN c f - 1).succ = 2 * farN c f by omega] at this
    omega
  rcases (show r.doing = 0 ∨ r.doing = 1 ∨ r.doing = 2 by omega) with e | e | e
  · rw [(h.d0 e).2] at hw
    simp at hw
  · obtain ⟨g1, g2⟩ := h.d1 e
    obtain ⟨s1, s2⟩ := side_lt hc h.w g2
    unfold pot
    rw [if_neg (by omega)]
    cases hu : r.up with
    | true => exact fin _ _ (m1 (by have := s1 hu; omega)) g1.2
    | false => exact fin _ _ (m2 (by have := s2 hu; omega)) g1.2
  · obtain ⟨g1, g2, g3⟩ := h.d2 e
    have hne : f ≠ r.F := fun e => by rw [← e, hw] at g3; cases g3
    have m := m3 hne r.up
    rw [hdir, hmv, hfar] at m
    unfold pot
    rw [if_pos e]
    have := fin (mv c (dir c r.up r.F) r.F f + 1) c.M (by omega) (Nat.le_refl _)
    rw [Nat.succ_mul] at this
    omega
theorem wt_worst {c : Cn} (hc : c.Ok) {l : Arr api_Press} {p : Nat → Bool} (hl : VQ c l p) {i : Nat} (hi : i < l.n) (hp : p i = true) : wt c l p i ≤ worstN c (pG l i) := by
  have w := wt_ok hc hl hi hp
  by_cases h : 0 < wt c l p i
  · exact Nat.le_trans (w.pot h).1 (pot_worst hc (st_ok hc hl p _) (w.pot h).2)
  · omega
structure Sm (c : Cn) : Prop where
  h : c.H ≤ 3
  q : c.M + c.S ≤ 4
end
end Go.Proofs.Ytlphgonhenegoaa
set_option linter.unusedVariables false
set_option linter.unusedSimpArgs false
set_option maxHeartbeats 0
set_option maxRecDepth 100000
namespace Go.Proofs.Ytlphgonhenegoaa
open Go.Sx
section
instance (c : Cn) : Decidable (Sm c) := if h : c.H ≤ 3 ∧ c.M + c.S ≤ 4 then isTrue ⟨h.1, h.2⟩ else isFalse fun g => h ⟨g.h, g.q⟩
end
end Go.Proofs.Ytlphgonhenegoaa
set_option linter.unusedVariables false
set_option linter.unusedSimpArgs false
set_option maxHeartbeats 0
set_option maxRecDepth 100000
namespace Go.Proofs.Ytlphgonhenegoaa
open Go.Sx
section
def maskB (L H W : Nat) : Bool := (List.range 6).all fun i => !W.testBit i || (decide (L ≤ i) && decide (i ≤ H))
theorem maskB_iff {L H W : Nat} (hW : W < 64) : maskB L H W = true ↔ ∀ i, W.testBit i = true → L ≤ i ∧ i ≤ H := by
  unfold maskB
  simp only [List.all_eq_true, List.mem_range, Bool.or_eq_true, Bool.not_eq_true', Bool.and_eq_true, decide_eq_true_eq]
  constructor
  · intro h i hi
    rcases h i (bit_lt hW hi) with g | g
    · rw [hi] at g; cases g
    · exact g
  · intro h i hi
    cases hb : W.testBit i with
    | false => exact .inl rfl
    | true => exact .inr (h i hb)
def RightI (c : Cn) (x : api_Ride) : Prop := (((c.L : Nat) : Int) ≤ x.Floor ∧ x.Floor ≤ ((c.H : Nat) : Int)) ∧ (0 ≤ x.Wants ∧ x.Wants < 64 ∧ maskB c.L c.H x.Wants.toNat = true) ∧
  ((x.Doing = 0 ∧ x.Left = 0 ∧ x.Wants = 0) ∨ (x.Doing = 1 ∧ (1 ≤ x.Left ∧ x.Left ≤ ((c.M : Nat) : Int)) ∧ side x.Up x.Floor.toNat x.Wants.toNat = true) ∨ (x.Doing = 2 ∧ (1 ≤ x.Left ∧ x.Left ≤ ((c.S : Nat) : Int)) ∧ x.Stood = true ∧ x.Wants.toNat.testBit x.Floor.toNat = false))
theorem RightI.ok {c : Cn} {x : api_Ride} (h : RightI c x) : ∃ r : Rd, x = r.ride ∧ Ok c r := by
  obtain ⟨fl, up, sd, dg, lf, w⟩ := x
  obtain ⟨⟨h1, h2⟩, ⟨h3, h4, h5⟩, h6⟩ := h
  simp only at h1 h2 h3 h4 h5 h6
  refine ⟨⟨fl.toNat, up, sd, dg.toNat, lf.toNat, w.toNat⟩, ?_, ⟨by simp only; omega, (by show w.toNat < 64; omega), (maskB_iff (W := w.toNat) (by omega)).1 h5, ?_, ?_, ?_, ?_⟩⟩
  · simp only [Rd.ride, api_Ride.mk.injEq]
    rcases h6 with ⟨a, b, d⟩ | ⟨a, b, d⟩ | ⟨a, b, d⟩ <;> refine ⟨?_, trivial, trivial, ?_, ?_, ?_⟩ <;> omega
  · rcases h6 with ⟨a, b, d⟩ | ⟨a, b, d⟩ | ⟨a, b, d⟩ <;> simp only <;> omega
  · intro e
    simp only at e ⊢
    rcases h6 with ⟨a, b, d⟩ | ⟨a, b, d⟩ | ⟨a, b, d⟩ <;> omega
  · intro e
    simp only at e ⊢
    rcases h6 with ⟨a, b, d⟩ | ⟨a, b, d⟩ | ⟨a, b, d⟩
    · omega
    · exact ⟨by omega, d⟩
    · omega
  · intro e
    simp only at e ⊢
    rcases h6 with ⟨a, b, d⟩ | ⟨a, b, d⟩ | ⟨a, b, d⟩
    · omega
    · omega
    · exact ⟨by omega, d.1, d.2⟩
theorem Ok.right {c : Cn} {r : Rd} (h : Ok c r) : RightI c r.ride := by
  refine ⟨by have := h.f; simp only [Rd.ride]; omega, ⟨by simp only [Rd.ride]; omega, by have := h.w6; simp only [Rd.ride]; omega, (maskB_iff (by have := h.w6; simpa [Rd.ride] using this)).2 (by simpa [Rd.ride] using h.w)⟩, ?_⟩
  have hd := h.d
  rcases (show r.doing = 0 ∨ r.doing = 1 ∨ r.doing = 2 by omega) with e | e | e
  · have := h.d0 e
    exact .inl (by simp only [Rd.ride]; omega)
  · obtain ⟨a, b⟩ := h.d1 e
    exact .inr (.inl ⟨by simp only [Rd.ride]; omega, by simp only [Rd.ride]; omega, b⟩)
  · obtain ⟨a, b, d⟩ := h.d2 e
    exact .inr (.inr ⟨by simp only [Rd.ride]; omega, by simp only [Rd.ride]; omega, b, d⟩)
theorem Ok.mid {c : Cn} {r : Rd} (h : Ok c r) : Mid c r := ⟨h.f, h.w6, h.w, h.d, fun e => (h.d0 e).1, h.d1, h.d2⟩
end
end Go.Proofs.Ytlphgonhenegoaa
set_option linter.unusedVariables false
set_option linter.unusedSimpArgs false
set_option maxHeartbeats 0
set_option maxRecDepth 100000
namespace Go.Proofs.Ytlphgonhenegoaa
open Go.Sx
section
end
end Go.Proofs.Ytlphgonhenegoaa
set_option linter.unusedVariables false
set_option linter.unusedSimpArgs false
set_option maxHeartbeats 0
set_option maxRecDepth 100000
namespace Go.Proofs.Ytlphgonhenegoaa
open Go.Sx
section
def rdOf (x : api_Ride) : Rd := ⟨x.Floor.toNat, x.Up, x.Stood, x.Doing.toNat, x.Left.toNat, x.Wants.toNat⟩
def codeN (r : Rd) : Nat := (((r.F + (bif r.up then 8 else 0) + (bif r.stood then 16 else 0)) * 4 + r.doing) * 8 + r.left) * 64 + r.W
structure Sz (r : Rd) : Prop where
  f : r.F < 8
  d : r.doing < 4
  l : r.left < 8
  w : r.W < 64
theorem Ok.sz {c : Cn} (hc : c.Ok) {r : Rd} (h : Ok c r) : Sz r := by
  have h5 := hc.h5
  have m3 := hc.m3
  have s4 := hc.s4
  have hd := h.d
  refine ⟨by have := h.f; omega, by omega, ?_, h.w6⟩
  rcases (show r.doing = 0 ∨ r.doing = 1 ∨ r.doing = 2 by omega) with e | e | e
  · have := (h.d0 e).1; omega
  · have := (h.d1 e).1; omega
  · have := (h.d2 e).1; omega
abbrev Kn (l : Arr newelref07_knot) (j : Nat) : Rd := rdOf (l.f j).f_ride
def has (l : Arr newelref07_knot) (r : Rd) : Prop := ∃ j, j < l.n ∧ Kn l j = r
structure LK (c : Cn) (l : Arr newelref07_knot) : Prop where
  ok : ∀ j, j < l.n → (l.f j).f_ride = (Kn l j).ride ∧ Ok c (Kn l j)
  n : l.n ≤ 65536
structure BI (c : Cn) (l : Arr newelref07_knot) (S : Arr Bool) : Prop where
  lk : LK c l
  sn : S.n = 65536
  s : ∀ v, v < 65536 → (S.f v = true ↔ ∃ j, j < l.n ∧ codeN (Kn l j) = v)
  ct : cntB (fun v => S.f v) 65536 = l.n
structure Rch (c : Cn) (r : Rd) (l : Arr newelref07_knot) : Prop where
  lk : LK c l
  first : has l r
  next : ∀ s, has l s → ∀ P, Fl c P → has l (tickR c.M c.S s P)
end
end Go.Proofs.Ytlphgonhenegoaa
set_option linter.unusedVariables false
set_option linter.unusedSimpArgs false
set_option maxHeartbeats 0
set_option maxRecDepth 100000
namespace Go.Proofs.Ytlphgonhenegoaa
open Go.Sx
section
def val (c : Cn) (f : Nat) (o : Nat → Nat) (r : Rd) (P : Nat) : Nat := bif (servR r P).testBit f then 1 else 1 + o (codeN (tickR c.M c.S r P))
structure Cls (c : Cn) (l : Arr newelref07_knot) : Prop where
  lk : LK c l
  next : ∀ s, has l s → ∀ P, Fl c P → has l (tickR c.M c.S s P)
theorem Cls.ok {c : Cn} {l : Arr newelref07_knot} (h : Cls c l) {r : Rd} (hr : has l r) : Ok c r := by
  obtain ⟨j, j1, j2⟩ := hr
  rw [← j2]
  exact (h.lk.ok j j1).2
structure OI (c : Cn) (l : Arr newelref07_knot) (f : Nat) (o : Nat → Nat) (k : Nat) : Prop where
  up : ∀ r, has l r → r.W.testBit f = true → o (codeN r) ≤ pot c r f
  lo : ∀ r, has l r → r.W.testBit f = true → min k (pot c r f) ≤ o (codeN r)
end
end Go.Proofs.Ytlphgonhenegoaa
set_option linter.unusedVariables false
set_option linter.unusedSimpArgs false
set_option maxHeartbeats 0
set_option maxRecDepth 100000
namespace Go.Proofs.Ytlphgonhenegoaa
open Go.Sx
section
end
end Go.Proofs.Ytlphgonhenegoaa
