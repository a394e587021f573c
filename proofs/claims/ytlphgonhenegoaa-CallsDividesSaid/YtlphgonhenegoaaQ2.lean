/-
  Several texts in one.
-/
import Derived.Test.YtlphgonhenegoaaP9
set_option linter.unusedVariables false
set_option linter.unusedSimpArgs false
set_option maxHeartbeats 0
set_option maxRecDepth 100000
namespace Go.Proofs.Ytlphgonhenegoaa
open Go.Sx
section
theorem or_pow : ∀ f : Nat, f < 6 → ∀ W : Nat, W < 64 → W.testBit f = true → W ||| 2 ^ f = W := by decide +kernel
theorem again {c : Cn} {r : Rd} (hc : c.Ok) (h : Ok c r) {P f : Nat} (hP : P < 64) (hf : f < 6) (hw : r.W.testBit f = true) : tickR c.M c.S r (P ||| 2 ^ f) = tickR c.M c.S r P ∧ servR r (P ||| 2 ^ f) = servR r P := by
  have h5 := hc.h5
  have e1 : (endR r).W = r.W := by unfold endR; split; rfl; split; rfl; split <;> rfl
  have e2 : (endR r).doing = 2 → f ≠ (endR r).F ∧ (endR r).F < 6 := by
    intro hd
    have : r.doing = 2 ∧ (endR r).F = r.F := by
      unfold endR at hd ⊢
      by_cases g0 : r.doing = 0
      · rw [if_pos g0] at hd; omega
      rw [if_neg g0] at hd ⊢
      by_cases g1 : 1 < r.left
      · rw [if_pos g1] at hd ⊢; exact ⟨hd, rfl⟩
      rw [if_neg g1] at hd ⊢
      by_cases g2 : r.doing = 1
      · rw [if_pos g2] at hd; cases hd
      · rw [if_neg g2] at hd; cases hd
    have g := (h.d2 this.1).2.2
    rw [this.2]
    refine ⟨fun e => ?_, by have := h.f; omega⟩
    rw [← e, hw] at g
    cases g
  have e3 : pressR (endR r) (P ||| 2 ^ f) = pressR (endR r) P := by
    unfold pressR
    congr 1
    rw [e1]
    by_cases hd : (endR r).doing = 2
    · obtain ⟨g1, g2⟩ := e2 hd
      rw [if_pos hd, if_pos hd]
      have := off_or _ g2 P hP f hf
      have hb : (f == (endR r).F) = false := by simpa using g1
      rw [hb, cond_false] at this
      rw [← this, Nat.or_comm (off P _), ← Nat.or_assoc, or_pow f hf _ h.w6 hw]
    · rw [if_neg hd, if_neg hd, Nat.or_comm P, ← Nat.or_assoc, or_pow f hf _ h.w6 hw]
  have e4 : servP (endR r) (P ||| 2 ^ f) = servP (endR r) P := by
    unfold servP
    by_cases hd : (endR r).doing = 2
    · obtain ⟨g1, g2⟩ := e2 hd
      rw [if_pos hd, if_pos hd]
      have := serv_or _ g2 P hP f hf
      have hb : (f == (endR r).F) = false := by simpa using g1
      rw [hb, cond_false] at this
      exact this.symm
    · rw [if_neg hd, if_neg hd]
  unfold tickR servR
  rw [e3, e4]
  exact ⟨rfl, rfl⟩
theorem pset_congr {l l' : Arr api_Press} {p : Nat → Bool} {t n : Nat} (h : ∀ i, i < n → l'.f i = l.f i) : pset l' p t n = pset l p t n := by
  induction n with
  | zero => rfl
  | succ n ih =>
    unfold pset pA pG
    rw [ih fun i hi => h i (by omega), h n (by omega)]
structure More (c : Cn) (l l' : Arr api_Press) : Prop where
  ok : c.Ok
  v : VL c l'
  n : l'.n = l.n + 1
  f : ∀ i, i < l.n → l'.f i = l.f i
variable {c : Cn} {l l' : Arr api_Press}
theorem More.vl (h : More c l l') : VL c l := by
  have hn := h.n
  obtain ⟨v1, v2, v3, v4⟩ := h.v
  refine ⟨by omega, fun i hi => ?_, fun i j hij hj => ?_, fun i hi => ?_⟩
  · rw [← h.f i hi]; exact v2 i (by omega)
  · rw [← h.f i (by omega), ← h.f j hj]; exact v3 i j hij (by omega)
  · rw [← h.f i hi]; exact v4 i (by omega)
theorem More.pA (h : More c l l') {i : Nat} (hi : i < l.n) : pA l' i = pA l i := by unfold _root_.Go.Proofs.Ytlphgonhenegoaa.pA; rw [h.f i hi]
theorem More.pG (h : More c l l') {i : Nat} (hi : i < l.n) : pG l' i = pG l i := by unfold _root_.Go.Proofs.Ytlphgonhenegoaa.pG; rw [h.f i hi]
theorem More.le (h : More c l l') {i : Nat} (hi : i < l.n) : _root_.Go.Proofs.Ytlphgonhenegoaa.pA l i ≤ _root_.Go.Proofs.Ytlphgonhenegoaa.pA l' l.n := by
  rw [← h.pA hi]
  exact h.v.pm (by omega) (by rw [h.n]; omega)
theorem More.pP (h : More c l l') (t : Nat) : pP l' allP t = bif _root_.Go.Proofs.Ytlphgonhenegoaa.pA l' l.n == t then pP l allP t ||| 2 ^ _root_.Go.Proofs.Ytlphgonhenegoaa.pG l' l.n else pP l allP t := by
  unfold _root_.Go.Proofs.Ytlphgonhenegoaa.pP
  rw [h.n]
  show (bif _root_.Go.Proofs.Ytlphgonhenegoaa.pA l' l.n == t && true then pset l' allP t l.n ||| _ else pset l' allP t l.n) = _
  rw [pset_congr h.f, Bool.and_true]
theorem More.before (h : More c l l') : ∀ t, t ≤ _root_.Go.Proofs.Ytlphgonhenegoaa.pA l' l.n → st c l' allP t = st c l allP t := by
  intro t
  induction t with
  | zero => intro _; rfl
  | succ t ih =>
    intro ht
    unfold st
    have : (_root_.Go.Proofs.Ytlphgonhenegoaa.pA l' l.n == t) = false := by simp; omega
    rw [ih (by omega), h.pP, this, cond_false]
theorem More.same (h : More c l l') {i : Nat} (hi : i < l.n) (hg : _root_.Go.Proofs.Ytlphgonhenegoaa.pG l i = _root_.Go.Proofs.Ytlphgonhenegoaa.pG l' l.n) (hw : _root_.Go.Proofs.Ytlphgonhenegoaa.pA l' l.n < _root_.Go.Proofs.Ytlphgonhenegoaa.pA l i + wt c l allP i) (t : Nat) : st c l' allP t = st c l allP t ∧ sv c l' allP t = sv c l allP t := by
  have hl := h.vl
  have h5 := h.ok.h5
  have hf := (hl.pg hi).2
  have key : ∀ t, tickR c.M c.S (st c l allP t) (_root_.Go.Proofs.Ytlphgonhenegoaa.pP l' allP t) = tickR c.M c.S (st c l allP t) (_root_.Go.Proofs.Ytlphgonhenegoaa.pP l allP t) ∧ servR (st c l allP t) (_root_.Go.Proofs.Ytlphgonhenegoaa.pP l' allP t) = servR (st c l allP t) (_root_.Go.Proofs.Ytlphgonhenegoaa.pP l allP t) := by
    intro t
    rw [h.pP]
    cases hT : (_root_.Go.Proofs.Ytlphgonhenegoaa.pA l' l.n == t) with
    | false => exact ⟨rfl, rfl⟩
    | true =>
      rw [cond_true]
      have hT : _root_.Go.Proofs.Ytlphgonhenegoaa.pA l' l.n = t := by simpa using hT
      have hPf := pP_fl h.ok hl allP t
      by_cases he : _root_.Go.Proofs.Ytlphgonhenegoaa.pA l i = t
      · rw [or_pow _ (by omega) _ hPf.lt (pset_bit.2 ⟨i, hi, he, rfl, hg⟩)]
        exact ⟨rfl, rfl⟩
      · have hle := h.le hi
        exact again h.ok (st_ok h.ok hl allP t) hPf.lt (by omega) ((wants_iff h.ok hl allP t (by omega)).2 ⟨i, hi, rfl, hg, by omega, by omega⟩)
  have hs : st c l' allP t = st c l allP t := by
    induction t with
    | zero => rfl
    | succ t ih =>
      unfold st
      rw [ih]
      exact (key t).1
  refine ⟨hs, ?_⟩
  unfold sv
  rw [hs]
  exact (key t).2
theorem More.wt (h : More c l l') {i : Nat} (hi : i < l.n) (hg : _root_.Go.Proofs.Ytlphgonhenegoaa.pG l i = _root_.Go.Proofs.Ytlphgonhenegoaa.pG l' l.n) (hw : _root_.Go.Proofs.Ytlphgonhenegoaa.pA l' l.n < _root_.Go.Proofs.Ytlphgonhenegoaa.pA l i + wt c l allP i) {j : Nat} (hj : j < l.n) : _root_.Go.Proofs.Ytlphgonhenegoaa.wt c l' allP j = _root_.Go.Proofs.Ytlphgonhenegoaa.wt c l allP j := by
  unfold _root_.Go.Proofs.Ytlphgonhenegoaa.wt
  rw [h.pA hj, h.pG hj]
  congr 1
  funext d
  rw [(h.same hi hg hw _).2]
theorem More.own (h : More c l l') {i : Nat} (hi : i < l.n) (hg : _root_.Go.Proofs.Ytlphgonhenegoaa.pG l i = _root_.Go.Proofs.Ytlphgonhenegoaa.pG l' l.n) (hw : _root_.Go.Proofs.Ytlphgonhenegoaa.pA l' l.n < _root_.Go.Proofs.Ytlphgonhenegoaa.pA l i + _root_.Go.Proofs.Ytlphgonhenegoaa.wt c l allP i) : _root_.Go.Proofs.Ytlphgonhenegoaa.pA l' l.n + _root_.Go.Proofs.Ytlphgonhenegoaa.wt c l' allP l.n = _root_.Go.Proofs.Ytlphgonhenegoaa.pA l i + _root_.Go.Proofs.Ytlphgonhenegoaa.wt c l allP i := by
  have w := wt_ok h.ok h.vl (p := allP) hi rfl
  have hle := h.le hi
  have hlt := w.le
  have : _root_.Go.Proofs.Ytlphgonhenegoaa.wt c l' allP l.n = _root_.Go.Proofs.Ytlphgonhenegoaa.pA l i + _root_.Go.Proofs.Ytlphgonhenegoaa.wt c l allP i - _root_.Go.Proofs.Ytlphgonhenegoaa.pA l' l.n := by
    unfold _root_.Go.Proofs.Ytlphgonhenegoaa.wt
    refine fw_eq (d := _root_.Go.Proofs.Ytlphgonhenegoaa.pA l i + _root_.Go.Proofs.Ytlphgonhenegoaa.wt c l allP i - _root_.Go.Proofs.Ytlphgonhenegoaa.pA l' l.n) ?_ (fun e he => ?_) 100 0 (by omega) (by omega)
    · show (sv c l' allP (_ + _)).testBit _ = true
      rw [(h.same hi hg hw _).2, ← hg, show _root_.Go.Proofs.Ytlphgonhenegoaa.pA l' l.n + (_root_.Go.Proofs.Ytlphgonhenegoaa.pA l i + _root_.Go.Proofs.Ytlphgonhenegoaa.wt c l allP i - _root_.Go.Proofs.Ytlphgonhenegoaa.pA l' l.n) = _root_.Go.Proofs.Ytlphgonhenegoaa.pA l i + _root_.Go.Proofs.Ytlphgonhenegoaa.wt c l allP i by omega]
      exact w.hit
    · show (sv c l' allP (_ + _)).testBit _ = false
      rw [(h.same hi hg hw _).2, ← hg, show _root_.Go.Proofs.Ytlphgonhenegoaa.pA l' l.n + e = _root_.Go.Proofs.Ytlphgonhenegoaa.pA l i + (_root_.Go.Proofs.Ytlphgonhenegoaa.pA l' l.n - _root_.Go.Proofs.Ytlphgonhenegoaa.pA l i + e) by omega]
      exact w.no _ (by omega)
  omega
end
end Go.Proofs.Ytlphgonhenegoaa
set_option linter.unusedVariables false
set_option linter.unusedSimpArgs false
set_option maxHeartbeats 0
set_option maxRecDepth 100000
namespace Go.Proofs.Ytlphgonhenegoaa
open Go.Sx
section
set_option synthInstance.maxHeartbeats 0 in
set_option synthInstance.maxSize 1000 in
theorem mv_far : ∀ L : Nat, L < 6 → ∀ H : Nat, H < 6 → ∀ F : Nat, F < 6 → ∀ f : Nat, f < 6 → (L ≤ F ∧ F ≤ H ∧ L ≤ f ∧ f ≤ H) → 
    ((F < H → mv ⟨L, H, 0, 1, 1⟩ true F f + 1 ≤ 2 * farN ⟨L, H, 0, 1, 1⟩ f) ∧ (L < F → mv ⟨L, H, 0, 1, 1⟩ false F f + 1 ≤ 2 * farN ⟨L, H, 0, 1, 1⟩ f) ∧ (f ≠ F → ∀ u : Bool, mv ⟨L, H, 0, 1, 1⟩ (dir ⟨L, H, 0, 1, 1⟩ u F) F f + 2 ≤ 2 * farN ⟨L, H, 0, 1, 1⟩ f)) := by decide +kernel
theorem pot_worst {c : Cn} (hc : c.Ok) {r : Rd} (h : Ok c r) {f : Nat} (hw : r.W.testBit f = true) : pot c r f ≤ worstN c f := by
  have h5 := hc.h5
  have hF := h.f
  have hf := h.w f hw
  obtain ⟨m1, m2, m3⟩ := mv_far c.L (by have := hc.ls; have := hc.sh; omega) c.H (by omega) r.F (by omega) f (by omega) ⟨hF.1, hF.2, hf.1, hf.2⟩
  have hmv : ∀ u, mv ⟨c.L, c.H, 0, 1, 1⟩ u r.F f = mv c u r.F f := fun u => rfl
  have hdir : ∀ u, dir ⟨c.L, c.H, 0, 1, 1⟩ u r.F = dir c u r.F := fun u => rfl
  have hfar : farN ⟨c.L, c.H, 0, 1, 1⟩ f = farN c f := rfl
  rw [hmv, hfar] at m1 m2
  have hd := h.d
  have fin : ∀ k x : Nat, k + 1 ≤ 2 * farN c f → x ≤ c.M → x + k * (c.S + c.M) ≤ worstN c f := fun k x h1 h2 => by
    unfold worstN
    rw [if_neg (by omega)]
    have := Nat.mul_le_mul_right (c.S + c.M) (show k ≤ 2 * farN c f - 1 by omega)
    have e : (2 * farN c f - 1) * (c.S + c.M) = (2 * farN c f - 1) * c.S + (2 * farN c f - 1) * c.M := Nat.mul_add _ _ _
    have e2 : 2 * farN c f * c.M = (2 * farN c f - 1) * c.M + c.M := by
      have := Nat.succ_mul (2 * farN c f - 1) c.M
      rwa [show (2 * farN c f - 1).succ = 2 * farN c f by omega] at this
    omega
  rcases (show r.doing = 0 ∨ r.doing = 1 ∨ r.doing = 2 by omega) with e | e | e
  · rw [(h.d0 e).2] at hw
    simp at hw
  · obtain ⟨g1, g2⟩ := h.d1 e
    obtain ⟨s1, s2⟩ := side_lt hc h.w g2
    unfold pot
    rw [if_neg (by omega)]
    cases hu : r.up with
    | true => exact fin _ _ (m1 (by have := s1 hu; omega)) g1.2
    | false => exact fin _ _ (m2 (by have := s2 hu; omega)) g1.2
  · obtain ⟨g1, g2, g3⟩ := h.d2 e
    have hne : f ≠ r.F := fun e => by rw [← e, hw] at g3; cases g3
    have m := m3 hne r.up
    rw [hdir, hmv, hfar] at m
    unfold pot
    rw [if_pos e]
    have := fin (mv c (dir c r.up r.F) r.F f + 1) c.M (by omega) (Nat.le_refl _)
    rw [Nat.succ_mul] at this
    omega
def cG (L H s M S f : Nat) : Bool := decide ((L ≤ s ∧ s ≤ H) ∧ (1 ≤ M ∧ 1 ≤ S ∧ M + S ≤ 4) ∧ (L ≤ f ∧ f ≤ H))
structure Sm (c : Cn) : Prop where
  h : c.H ≤ 3
  q : c.M + c.S ≤ 4
end
end Go.Proofs.Ytlphgonhenegoaa
set_option linter.unusedVariables false
set_option linter.unusedSimpArgs false
set_option maxHeartbeats 0
set_option maxRecDepth 100000
namespace Go.Proofs.Ytlphgonhenegoaa
open Go.Sx
section
instance (c : Cn) : Decidable (Sm c) := if h : c.H ≤ 3 ∧ c.M + c.S ≤ 4 then isTrue ⟨h.1, h.2⟩ else isFalse fun g => h ⟨g.h, g.q⟩
def servesE (c : api_Car) (f : Int) : Int := if VC c then (if c.Low ≤ f ∧ f ≤ c.High then 0 else 1) else 70
theorem servesE_ok {c : Cn} (hc : c.Ok) {f : Nat} (hf : c.L ≤ f ∧ f ≤ c.H) : servesE c.car (f : Int) = 0 := by
  unfold servesE
  rw [if_pos hc.vc, if_pos (by show ((c.L : Nat) : Int) ≤ _ ∧ _ ≤ ((c.H : Nat) : Int); omega)]
end
end Go.Proofs.Ytlphgonhenegoaa
set_option linter.unusedVariables false
set_option linter.unusedSimpArgs false
set_option maxHeartbeats 0
set_option maxRecDepth 100000
namespace Go.Proofs.Ytlphgonhenegoaa
open Go.Sx
section
def maskB (L H W : Nat) : Bool := (List.range 6).all fun i => !W.testBit i || (decide (L ≤ i) && decide (i ≤ H))
theorem maskB_iff {L H W : Nat} (hW : W < 64) : maskB L H W = true ↔ ∀ i, W.testBit i = true → L ≤ i ∧ i ≤ H := by
  unfold maskB
  simp only [List.all_eq_true, List.mem_range, Bool.or_eq_true, Bool.not_eq_true', Bool.and_eq_true, decide_eq_true_eq]
  constructor
  · intro h i hi
    rcases h i (bit_lt hW hi) with g | g
    · rw [hi] at g; cases g
    · exact g
  · intro h i hi
    cases hb : W.testBit i with
    | false => exact .inl rfl
    | true => exact .inr (h i hb)
def RightI (c : Cn) (x : api_Ride) : Prop := (((c.L : Nat) : Int) ≤ x.Floor ∧ x.Floor ≤ ((c.H : Nat) : Int)) ∧ (0 ≤ x.Wants ∧ x.Wants < 64 ∧ maskB c.L c.H x.Wants.toNat = true) ∧
  ((x.Doing = 0 ∧ x.Left = 0 ∧ x.Wants = 0) ∨ (x.Doing = 1 ∧ (1 ≤ x.Left ∧ x.Left ≤ ((c.M : Nat) : Int)) ∧ side x.Up x.Floor.toNat x.Wants.toNat = true) ∨ (x.Doing = 2 ∧ (1 ≤ x.Left ∧ x.Left ≤ ((c.S : Nat) : Int)) ∧ x.Stood = true ∧ x.Wants.toNat.testBit x.Floor.toNat = false))
theorem RightI.ok {c : Cn} {x : api_Ride} (h : RightI c x) : ∃ r : Rd, x = r.ride ∧ Ok c r := by
  obtain ⟨fl, up, sd, dg, lf, w⟩ := x
  obtain ⟨⟨h1, h2⟩, ⟨h3, h4, h5⟩, h6⟩ := h
  simp only at h1 h2 h3 h4 h5 h6
  refine ⟨⟨fl.toNat, up, sd, dg.toNat, lf.toNat, w.toNat⟩, ?_, ⟨by simp only; omega, (by show w.toNat < 64; omega), (maskB_iff (W := w.toNat) (by omega)).1 h5, ?_, ?_, ?_, ?_⟩⟩
  · simp only [Rd.ride, api_Ride.mk.injEq]
    rcases h6 with ⟨a, b, d⟩ | ⟨a, b, d⟩ | ⟨a, b, d⟩ <;> refine ⟨?_, trivial, trivial, ?_, ?_, ?_⟩ <;> omega
  · rcases h6 with ⟨a, b, d⟩ | ⟨a, b, d⟩ | ⟨a, b, d⟩ <;> simp only <;> omega
  · intro e
    simp only at e ⊢
    rcases h6 with ⟨a, b, d⟩ | ⟨a, b, d⟩ | ⟨a, b, d⟩ <;> omega
  · intro e
    simp only at e ⊢
    rcases h6 with ⟨a, b, d⟩ | ⟨a, b, d⟩ | ⟨a, b, d⟩
    · omega
    · exact ⟨by omega, d⟩
    · omega
  · intro e
    simp only at e ⊢
    rcases h6 with ⟨a, b, d⟩ | ⟨a, b, d⟩ | ⟨a, b, d⟩
    · omega
    · omega
    · exact ⟨by omega, d.1, d.2⟩
theorem Ok.right {c : Cn} {r : Rd} (h : Ok c r) : RightI c r.ride := by
  refine ⟨by have := h.f; simp only [Rd.ride]; omega, ⟨by simp only [Rd.ride]; omega, by have := h.w6; simp only [Rd.ride]; omega, (maskB_iff (by have := h.w6; simpa [Rd.ride] using this)).2 (by simpa [Rd.ride] using h.w)⟩, ?_⟩
  have hd := h.d
  rcases (show r.doing = 0 ∨ r.doing = 1 ∨ r.doing = 2 by omega) with e | e | e
  · have := h.d0 e
    exact .inl (by simp only [Rd.ride]; omega)
  · obtain ⟨a, b⟩ := h.d1 e
    exact .inr (.inl ⟨by simp only [Rd.ride]; omega, by simp only [Rd.ride]; omega, b⟩)
  · obtain ⟨a, b, d⟩ := h.d2 e
    exact .inr (.inr ⟨by simp only [Rd.ride]; omega, by simp only [Rd.ride]; omega, b, d⟩)
theorem Ok.mid {c : Cn} {r : Rd} (h : Ok c r) : Mid c r := ⟨h.f, h.w6, h.w, h.d, fun e => (h.d0 e).1, h.d1, h.d2⟩
theorem hi_w : ∀ H : Nat, H < 6 → decide (IntKind.wrap IntKind.u64 (w64 ((H : Int) + (1 : Int))) < (0 : Int)) = false ∧ w64 ((1 : Int) * (2 : Int) ^ min (Int.toNat (IntKind.wrap IntKind.u64 (w64 ((H : Int) + (1 : Int))))) (IntKind.bits IntKind.i64)) = ((2 ^ (H + 1) : Nat) : Int) ∧ 2 ^ (H + 1) ≤ 64 ∧ decide (w64 ((H : Int) + (1 : Int)) < 0) = false := by decide +kernel
theorem lo_w : ∀ L : Nat, L < 6 → decide (IntKind.wrap IntKind.u64 (L : Int) < (0 : Int)) = false := by decide +kernel
theorem mask_w : ∀ L : Nat, L < 6 → ∀ H : Nat, H < 6 → ∀ W : Nat, W < 64 → (W < 2 ^ (H + 1) → (w64 (↑(BitVec.toNat (BitVec.ofInt (IntKind.bits IntKind.i64) (W : Int) &&& BitVec.ofInt (IntKind.bits IntKind.i64) (w64 (w64 ((1 : Int) * (2 : Int) ^ min (Int.toNat (IntKind.wrap IntKind.u64 (L : Int))) (IntKind.bits IntKind.i64)) - (1 : Int))))) : Int) != (0 : Int)) = !maskB L H W) ∧ (¬ W < 2 ^ (H + 1) → maskB L H W = false) := by decide +kernel
theorem bit0 : ∀ f : Nat, f < 6 → ∀ W : Nat, W < 64 → (w64 (↑(BitVec.toNat (BitVec.ofInt (IntKind.bits IntKind.i64) (Int.fdiv (W : Int) ((2 : Int) ^ min (Int.toNat (f : Int)) (IntKind.bits IntKind.i64))) &&& BitVec.ofInt (IntKind.bits IntKind.i64) (1 : Int))) : Int) == (0 : Int)) = !W.testBit f := by decide +kernel
end
end Go.Proofs.Ytlphgonhenegoaa
set_option linter.unusedVariables false
set_option linter.unusedSimpArgs false
set_option maxHeartbeats 0
set_option maxRecDepth 100000
namespace Go.Proofs.Ytlphgonhenegoaa
open Go.Sx
section
end
end Go.Proofs.Ytlphgonhenegoaa
set_option linter.unusedVariables false
set_option linter.unusedSimpArgs false
set_option maxHeartbeats 0
set_option maxRecDepth 100000
namespace Go.Proofs.Ytlphgonhenegoaa
open Go.Sx
section
def rdOf (x : api_Ride) : Rd := ⟨x.Floor.toNat, x.Up, x.Stood, x.Doing.toNat, x.Left.toNat, x.Wants.toNat⟩
theorem rdOf_ride (r : Rd) : rdOf r.ride = r := by
  cases r
  simp [rdOf, Rd.ride]
def codeN (r : Rd) : Nat := (((r.F + (bif r.up then 8 else 0) + (bif r.stood then 16 else 0)) * 4 + r.doing) * 8 + r.left) * 64 + r.W
structure Sz (r : Rd) : Prop where
  f : r.F < 8
  d : r.doing < 4
  l : r.left < 8
  w : r.W < 64
theorem Ok.sz {c : Cn} (hc : c.Ok) {r : Rd} (h : Ok c r) : Sz r := by
  have h5 := hc.h5
  have m3 := hc.m3
  have s4 := hc.s4
  have hd := h.d
  refine ⟨by have := h.f; omega, by omega, ?_, h.w6⟩
  rcases (show r.doing = 0 ∨ r.doing = 1 ∨ r.doing = 2 by omega) with e | e | e
  · have := (h.d0 e).1; omega
  · have := (h.d1 e).1; omega
  · have := (h.d2 e).1; omega
theorem codeN_lt {r : Rd} (h : Sz r) : codeN r < 65536 := by
  obtain ⟨h1, h2, h3, h4⟩ := h
  unfold codeN
  cases r.up <;> cases r.stood <;> simp only [cond_true, cond_false] <;> omega
theorem codeN_inj {r s : Rd} (h : Sz r) (g : Sz s) (e : codeN r = codeN s) : r = s := by
  obtain ⟨h1, h2, h3, h4⟩ := h
  obtain ⟨g1, g2, g3, g4⟩ := g
  obtain ⟨F, u, sd, d, l, W⟩ := r
  obtain ⟨F', u', sd', d', l', W'⟩ := s
  simp only at h1 h2 h3 h4 g1 g2 g3 g4
  unfold codeN at e
  simp only at e
  cases u <;> cases u' <;> cases sd <;> cases sd' <;> simp only [cond_true, cond_false] at e <;> first | (exfalso; omega) | (simp only [Rd.mk.injEq, true_and]; omega)
theorem code_eq (N : Nat) {r : Rd} (h : Sz r) {R : Type} (k : Int → Option R) : r7code N r.ride k = k ((codeN r : Nat) : Int) := by
  obtain ⟨h1, h2, h3, h4⟩ := h
  obtain ⟨F, u, sd, d, l, W⟩ := r
  simp only at h1 h2 h3 h4
  rw [r7code_def]
  unfold r7code_m
  cases u <;> cases sd
  · show k (w64 (w64 (w64 (w64 (w64 (w64 ((F : Int) * 4) + (d : Int)) * 8) + (l : Int)) * 64) + (W : Int))) = _
    congr 1
    simp only [codeN, cond_false]
    rw [w64_eq (n := (F : Int) * 4) (by omega) (by omega), w64_eq (n := (F : Int) * 4 + (d : Int)) (by omega) (by omega), w64_eq (n := ((F : Int) * 4 + (d : Int)) * 8) (by omega) (by omega), w64_eq (n := ((F : Int) * 4 + (d : Int)) * 8 + (l : Int)) (by omega) (by omega), w64_eq (n := (((F : Int) * 4 + (d : Int)) * 8 + (l : Int)) * 64) (by omega) (by omega), w64_eq (by omega) (by omega)]
    omega
  · show k (w64 (w64 (w64 (w64 (w64 (w64 (w64 ((F : Int) + 16) * 4) + (d : Int)) * 8) + (l : Int)) * 64) + (W : Int))) = _
    congr 1
    simp only [codeN, cond_false, cond_true]
    rw [w64_eq (n := (F : Int) + 16) (by omega) (by omega), w64_eq (n := ((F : Int) + 16) * 4) (by omega) (by omega), w64_eq (n := ((F : Int) + 16) * 4 + (d : Int)) (by omega) (by omega), w64_eq (n := (((F : Int) + 16) * 4 + (d : Int)) * 8) (by omega) (by omega), w64_eq (n := (((F : Int) + 16) * 4 + (d : Int)) * 8 + (l : Int)) (by omega) (by omega), w64_eq (n := ((((F : Int) + 16) * 4 + (d : Int)) * 8 + (l : Int)) * 64) (by omega) (by omega), w64_eq (by omega) (by omega)]
    omega
  · show k (w64 (w64 (w64 (w64 (w64 (w64 (w64 ((F : Int) + 8) * 4) + (d : Int)) * 8) + (l : Int)) * 64) + (W : Int))) = _
    congr 1
    simp only [codeN, cond_false, cond_true]
    rw [w64_eq (n := (F : Int) + 8) (by omega) (by omega), w64_eq (n := ((F : Int) + 8) * 4) (by omega) (by omega), w64_eq (n := ((F : Int) + 8) * 4 + (d : Int)) (by omega) (by omega), w64_eq (n := (((F : Int) + 8) * 4 + (d : Int)) * 8) (by omega) (by omega), w64_eq (n := (((F : Int) + 8) * 4 + (d : Int)) * 8 + (l : Int)) (by omega) (by omega), w64_eq (n := ((((F : Int) + 8) * 4 + (d : Int)) * 8 + (l : Int)) * 64) (by omega) (by omega), w64_eq (by omega) (by omega)]
    omega
  · show k (w64 (w64 (w64 (w64 (w64 (w64 (w64 (w64 ((F : Int) + 8) + 16) * 4) + (d : Int)) * 8) + (l : Int)) * 64) + (W : Int))) = _
    congr 1
    simp only [codeN, cond_true]
    rw [w64_eq (n := (F : Int) + 8) (by omega) (by omega), w64_eq (n := (F : Int) + 8 + 16) (by omega) (by omega), w64_eq (n := ((F : Int) + 8 + 16) * 4) (by omega) (by omega), w64_eq (n := ((F : Int) + 8 + 16) * 4 + (d : Int)) (by omega) (by omega), w64_eq (n := (((F : Int) + 8 + 16) * 4 + (d : Int)) * 8) (by omega) (by omega), w64_eq (n := (((F : Int) + 8 + 16) * 4 + (d : Int)) * 8 + (l : Int)) (by omega) (by omega), w64_eq (n := ((((F : Int) + 8 + 16) * 4 + (d : Int)) * 8 + (l : Int)) * 64) (by omega) (by omega), w64_eq (by omega) (by omega)]
    omega
theorem knot_dec (x : r7knot) : r7knotC.dec (lget (r7knotC.enc x)) = x := rfl
theorem setB_f (a : Nat → Bool) (c m : Nat) (v : Bool) (x : Nat) : (lst boolC c (setCs m 0 (Cod.cell boolC a) [SV.bool v])).f x = if x = m then v else a x := by
  show toB (setCs m 0 (Cod.cell boolC a) [SV.bool v] x 0) = _
  by_cases h : x = m
  · subst h
    simp [setCs, setC, toB]
  · have e0 : (x == m) = false := by simpa using h
    show toB (setC m 0 (Cod.cell boolC a) (SV.bool v) x 0) = _
    simp only [setC, e0, Bool.false_and, cond_false]
    rw [if_neg h]
    rfl
theorem cntB_set {b b' : Nat → Bool} {v : Nat} (hv : b v = false) (h : ∀ x, b' x = if x = v then true else b x) : ∀ n, cntB b' n = cntB b n + (if v < n then 1 else 0) := by
  intro n
  induction n with
  | zero => rfl
  | succ n ih =>
    show cntB b' n + _ = cntB b n + _ + _
    rw [ih, h n]
    by_cases e : n = v
    · subst e
      rw [if_pos rfl, hv, if_neg (Nat.lt_irrefl _), if_pos (Nat.lt_succ_self _)]
      rfl
    · rw [if_neg e]
      by_cases g : v < n
      · rw [if_pos g, if_pos (by omega)]; omega
      · rw [if_neg g, if_neg (by omega)]; omega
abbrev Kn (l : Arr r7knot) (j : Nat) : Rd := rdOf (l.f j).f_ride
def has (l : Arr r7knot) (r : Rd) : Prop := ∃ j, j < l.n ∧ Kn l j = r
structure LK (c : Cn) (l : Arr r7knot) : Prop where
  ok : ∀ j, j < l.n → (l.f j).f_ride = (Kn l j).ride ∧ Ok c (Kn l j)
  n : l.n ≤ 65536
structure BI (c : Cn) (l : Arr r7knot) (S : Arr Bool) : Prop where
  lk : LK c l
  sn : S.n = 65536
  s : ∀ v, v < 65536 → (S.f v = true ↔ ∃ j, j < l.n ∧ codeN (Kn l j) = v)
  ct : cntB (fun v => S.f v) 65536 = l.n
theorem fl_lt {c : Cn} (hc : c.Ok) {P : Nat} (hP : Fl c P) : P < 2 ^ (c.H + 1) ∧ maskB c.L c.H P = true := by
  have h5 := hc.h5
  have hLH : c.L ≤ c.H := Nat.le_trans hc.ls hc.sh
  have hm := (maskB_iff hP.lt).2 hP.b
  refine ⟨Classical.byContradiction fun hn => ?_, hm⟩
  have := (mask_w c.L (by omega) c.H (by omega) P hP.lt).2 hn
  rw [hm] at this
  cases this
theorem reach_l8 {N : Nat} (hN : 2000 < N) {c : Cn} (hc : c.Ok) (b0 : Bool) {i : Nat} {r0 : Rd} (h0 : Ok c r0) : ∀ (q p n : Nat) (S : Arr Bool) (b : Bool) (l : Arr r7knot), p + q = 2 ^ (c.H + 1) → q < n → i < l.n → Kn l i = r0 → BI c l S → (∀ P, P < p → Fl c P → has l (tickR c.M c.S r0 P)) →
    ∃ (S' : Arr Bool) (b' : Bool) (l' : Arr r7knot), BI c l' S' ∧ l.n ≤ l'.n ∧ (∀ j, j < l.n → Kn l' j = Kn l j) ∧ (∀ P, Fl c P → has l' (tickR c.M c.S r0 P)) ∧ ∀ {R : Type} (k : Arr Bool → Bool → Arr r7knot → Option R), r7reach_l8 N n (i : Int) (p : Int) c.car b0 S b l k = k S' b' l' := by
  have h5 := hc.h5
  have hLH : c.L ≤ c.H := Nat.le_trans hc.ls hc.sh
  obtain ⟨g1, g2, g3, _⟩ := hi_w c.H (by omega)
  have g1' : decide (IntKind.wrap IntKind.u64 (w64 (api_Car.High c.car + (1 : Int))) < (0 : Int)) = false := g1
  have g2' : w64 ((1 : Int) * (2 : Int) ^ min (Int.toNat (IntKind.wrap IntKind.u64 (w64 (api_Car.High c.car + (1 : Int))))) (IntKind.bits IntKind.i64)) = ((2 ^ (c.H + 1) : Nat) : Int) := g2
  have g4' : decide (IntKind.wrap IntKind.u64 (api_Car.Low c.car) < (0 : Int)) = false := lo_w c.L (by omega)
  intro q
  induction q with
  | zero =>
    intro p n S b l h1 h2 hi hr hI hP
    obtain ⟨n, rfl⟩ : ∃ m, n = m + 1 := ⟨n - 1, by omega⟩
    refine ⟨S, b, l, hI, Nat.le_refl _, fun _ _ => rfl, fun P hF => hP P (by have := (fl_lt hc hF).1; omega) hF, fun {R} k => ?_⟩
    unfold r7reach_l8 r7reach_b8
    rw [g1', cond_false, g2', ltF (show 2 ^ (c.H + 1) ≤ p by omega), cond_false]
  | succ q ih =>
    intro p n S b l h1 h2 hi hr hI hP
    obtain ⟨n, rfl⟩ : ∃ m, n = m + 1 := ⟨n - 1, by omega⟩
    have hp : p < 2 ^ (c.H + 1) := by omega
    have hm := (mask_w c.L (by omega) c.H (by omega) p (by omega)).1 hp
    have hm' : (w64 (↑(BitVec.toNat (BitVec.ofInt (IntKind.bits IntKind.i64) (p : Int) &&& BitVec.ofInt (IntKind.bits IntKind.i64) (w64 (w64 ((1 : Int) * (2 : Int) ^ min (Int.toNat (IntKind.wrap IntKind.u64 (api_Car.Low c.car))) (IntKind.bits IntKind.i64)) - (1 : Int))))) : Int) != (0 : Int)) = !maskB c.L c.H p := hm
    cases hmb : maskB c.L c.H p with
    | false =>
      obtain ⟨S', b', l', k1, k2, k3, k4, k5⟩ := ih (p + 1) n S b l (by omega) (by omega) hi hr hI (fun P hlt hF => by
        by_cases e : P = p
        · subst e
          have := (fl_lt hc hF).2
          rw [hmb] at this; cases this
        · exact hP P (by omega) hF)
      refine ⟨S', b', l', k1, k2, k3, k4, fun {R} k => ?_⟩
      unfold r7reach_l8 r7reach_b8
      rw [g1', cond_false, g2', ltT hp, cond_true, g4', cond_false, hm', hmb, Bool.not_false, cond_true, w64_succ (show p < 1000000000000 by omega)]
      exact k5 k
    | true =>
      have hF : Fl c p := ⟨by omega, (maskB_iff (W := p) (by omega)).1 hmb⟩
      have hr' := tick_ok hc h0 hF
      have hsz := hr'.sz hc
      have hcl := codeN_lt hsz
      have hx : (l.f i).f_ride = r0.ride := by rw [(hI.lk.ok i hi).1, hr]
      have ei : (decide ((0 : Int) ≤ (i : Int)) && decide ((i : Int) < (l.n : Int))) = true := by rw [nat_nonneg, ltT hi]; rfl
      have ec : (decide ((0 : Int) ≤ ((codeN (tickR c.M c.S r0 p) : Nat) : Int)) && decide (((codeN (tickR c.M c.S r0 p) : Nat) : Int) < (S.n : Int))) = true := by rw [nat_nonneg, hI.sn, ltT hcl]; rfl
      have front : ∀ {R : Type} (k : Arr Bool → Bool → Arr r7knot → Option R), r7reach_l8 N (n + 1) (i : Int) (p : Int) c.car b0 S b l k = (bif !S.f (codeN (tickR c.M c.S r0 p)) then
         (bif room (Arr.n l + (1 : Nat)) then
           r7reach_l8 N n (i : Int) ((p + 1 : Nat) : Int) c.car b0 (lst boolC (Arr.n S) (setCs (codeN (tickR c.M c.S r0 p)) (0 : Nat) (Cod.cell boolC (Arr.f S)) [SV.bool true])) false (lst r7knotC (Arr.n l + (1 : Nat)) (catC (Arr.n l) (Cod.cell r7knotC (Arr.f l)) (litC [SV.int IntKind.i64 (0 : Int), SV.bool false, SV.bool false, SV.int IntKind.i64 (0 : Int), SV.int IntKind.i64 (0 : Int), SV.int IntKind.i64 (0 : Int), SV.int IntKind.i64 (0 : Int), SV.int IntKind.i64 (0 : Int)] [r7knotC.enc ⟨(tickR c.M c.S r0 p).ride, (i : Int), (p : Int)⟩]))) k
          else none) else r7reach_l8 N n (i : Int) ((p + 1 : Nat) : Int) c.car b0 S b l k) := fun {R} k => by
        conv => lhs; unfold r7reach_l8 r7reach_b8
        rw [g1', cond_false, g2', ltT hp, cond_true, g4', cond_false, hm', hmb, Bool.not_true, cond_false, ei, cond_true]
        simp only [Int.toNat_natCast]
        rw [hx, refTick (by omega) hc h0 hF, code_eq N hsz, ec, cond_true, code_eq N hsz, ec, cond_true, w64_succ (show p < 1000000000000 by omega)]
        rfl
      cases hs : S.f (codeN (tickR c.M c.S r0 p)) with
      | true =>
        obtain ⟨S', b', l', k1, k2, k3, k4, k5⟩ := ih (p + 1) n S b l (by omega) (by omega) hi hr hI (fun P hlt hF' => by
          by_cases e : P = p
          · subst e
            obtain ⟨j, j1, j2⟩ := (hI.s _ hcl).1 hs
            exact ⟨j, j1, codeN_inj ((hI.lk.ok j j1).2.sz hc) hsz j2⟩
          · exact hP P (by omega) hF')
        refine ⟨S', b', l', k1, k2, k3, k4, fun {R} k => ?_⟩
        rw [front, hs, Bool.not_true, cond_false]
        exact k5 k
      | false =>
        have hpush := Arr.Is.push (C := r7knotC) knot_dec (a := l) (n := l.n) (g := fun j => if j < l.n then l.f j else ⟨(tickR c.M c.S r0 p).ride, (i : Int), (p : Int)⟩) ⟨rfl, fun i hi => by simp [hi]⟩ (z := [SV.int IntKind.i64 (0 : Int), SV.bool false, SV.bool false, SV.int IntKind.i64 (0 : Int), SV.int IntKind.i64 (0 : Int), SV.int IntKind.i64 (0 : Int), SV.int IntKind.i64 (0 : Int), SV.int IntKind.i64 (0 : Int)]) (e := r7knotC.enc ⟨(tickR c.M c.S r0 p).ride, (i : Int), (p : Int)⟩) (by simp; rfl)
        generalize hl' : (lst r7knotC (Arr.n l + (1 : Nat)) (catC (Arr.n l) (Cod.cell r7knotC (Arr.f l)) (litC [SV.int IntKind.i64 (0 : Int), SV.bool false, SV.bool false, SV.int IntKind.i64 (0 : Int), SV.int IntKind.i64 (0 : Int), SV.int IntKind.i64 (0 : Int), SV.int IntKind.i64 (0 : Int), SV.int IntKind.i64 (0 : Int)] [r7knotC.enc ⟨(tickR c.M c.S r0 p).ride, (i : Int), (p : Int)⟩]))) = l1 at hpush front
        have hn1 : l1.n = l.n + 1 := hpush.1
        have hold : ∀ j, j < l.n → l1.f j = l.f j := fun j hj => (hpush.2 j (by omega)).trans (by simp [hj])
        have hkold : ∀ j, j < l.n → Kn l1 j = Kn l j := fun j hj => by unfold Kn; rw [hold j hj]
        have hnew : l1.f l.n = ⟨(tickR c.M c.S r0 p).ride, (i : Int), (p : Int)⟩ := (hpush.2 l.n (by omega)).trans (by simp)
        have hknew : Kn l1 l.n = tickR c.M c.S r0 p := by unfold Kn; rw [hnew]; exact rdOf_ride _
        have hSf : ∀ x, (lst boolC (Arr.n S) (setCs (codeN (tickR c.M c.S r0 p)) (0 : Nat) (Cod.cell boolC (Arr.f S)) [SV.bool true])).f x = if x = codeN (tickR c.M c.S r0 p) then true else S.f x := fun x => setB_f S.f S.n _ true x
        have hct := cntB_set hs hSf 65536
        rw [if_pos hcl, hI.ct] at hct
        have hcn := cntB_n (fun v => (lst boolC (Arr.n S) (setCs (codeN (tickR c.M c.S r0 p)) (0 : Nat) (Cod.cell boolC (Arr.f S)) [SV.bool true])).f v) 65536
        rw [show cntB (fun v => (lst boolC (Arr.n S) (setCs (codeN (tickR c.M c.S r0 p)) (0 : Nat) (Cod.cell boolC (Arr.f S)) [SV.bool true])).f v) 65536 = l.n + 1 from hct] at hcn
        have hI' : BI c l1 (lst boolC (Arr.n S) (setCs (codeN (tickR c.M c.S r0 p)) (0 : Nat) (Cod.cell boolC (Arr.f S)) [SV.bool true])) := by
          refine ⟨⟨fun j hj => ?_, by omega⟩, hI.sn, fun v hv => ?_, hct.trans hn1.symm⟩
          · by_cases e : j < l.n
            · rw [hold j e, hkold j e]; exact hI.lk.ok j e
            · have : j = l.n := by omega
              subst this
              rw [hnew, hknew]
              exact ⟨rfl, hr'⟩
          · rw [hSf]
            by_cases e : v = codeN (tickR c.M c.S r0 p)
            · rw [if_pos e]
              exact ⟨fun _ => ⟨l.n, by omega, by rw [hknew]; exact e.symm⟩, fun _ => rfl⟩
            · rw [if_neg e, hI.s v hv]
              constructor
              · rintro ⟨j, j1, j2⟩
                exact ⟨j, by omega, by rw [hkold j j1]; exact j2⟩
              · rintro ⟨j, j1, j2⟩
                by_cases e2 : j < l.n
                · exact ⟨j, e2, by rw [← hkold j e2]; exact j2⟩
                · have : j = l.n := by omega
                  subst this
                  rw [hknew] at j2
                  exact absurd j2.symm e
        obtain ⟨S', b', l', k1, k2, k3, k4, k5⟩ := ih (p + 1) n _ false l1 (by omega) (by omega) (by omega) (by rw [hkold i hi]; exact hr) hI' (fun P hlt hF' => by
          by_cases e : P = p
          · subst e
            exact ⟨l.n, by omega, hknew⟩
          · obtain ⟨j, j1, j2⟩ := hP P (by omega) hF'
            exact ⟨j, by omega, by rw [hkold j j1]; exact j2⟩)
        refine ⟨S', b', l', k1, by omega, fun j hj => by rw [k3 j (by omega), hkold j hj], k4, fun {R} k => ?_⟩
        rw [front, hs, Bool.not_false, cond_true, room_of (by omega), cond_true]
        exact k5 k
theorem reach_l5 {N : Nat} (hN : 70000 < N) {c : Cn} (hc : c.Ok) (b0 : Bool) : ∀ (q i n : Nat) (S : Arr Bool) (b : Bool) (l : Arr r7knot), i + q = 65536 → q < n → i ≤ l.n → BI c l S → (∀ j, j < i → ∀ P, Fl c P → has l (tickR c.M c.S (Kn l j) P)) →
    ∃ (b' : Bool) (l' : Arr r7knot), LK c l' ∧ l.n ≤ l'.n ∧ (∀ j, j < l.n → Kn l' j = Kn l j) ∧ (∀ j, j < l'.n → ∀ P, Fl c P → has l' (tickR c.M c.S (Kn l' j) P)) ∧ ∀ {R : Type} (k : Bool → Arr r7knot → Option R), r7reach_l5 N n (i : Int) c.car b0 S b l k = k b' l' := by
  intro q
  induction q with
  | zero =>
    intro i n S b l h1 h2 hi hI hP
    obtain ⟨n, rfl⟩ : ∃ m, n = m + 1 := ⟨n - 1, by omega⟩
    have hn := hI.lk.n
    refine ⟨b, l, hI.lk, Nat.le_refl _, fun _ _ => rfl, fun j hj => hP j (by omega), fun {R} k => ?_⟩
    unfold r7reach_l5 r7reach_b5
    rw [ltF (show l.n ≤ i by omega), cond_false]
  | succ q ih =>
    intro i n S b l h1 h2 hi hI hP
    obtain ⟨n, rfl⟩ : ∃ m, n = m + 1 := ⟨n - 1, by omega⟩
    by_cases hil : i < l.n
    · have h64 : 2 ^ (c.H + 1) ≤ 64 := by have := hc.h5; exact (hi_w c.H (by omega)).2.2.1
      obtain ⟨S', b', l', k1, k2, k3, k4, k5⟩ := reach_l8 (show 2000 < N by omega) hc b0 (hI.lk.ok i hil).2 (2 ^ (c.H + 1)) 0 N S b l (by omega) (by omega) hil rfl hI (fun P hP => by omega)
      have ext : ∀ r, has l r → has l' r := fun r ⟨j, j1, j2⟩ => ⟨j, by omega, by rw [k3 j j1]; exact j2⟩
      obtain ⟨b2, l2, f1, f2, f3, f4, f5⟩ := ih (i + 1) n S' b' l' (by omega) (by omega) (by omega) k1 (fun j hj P hF => by
        rw [k3 j (by omega)]
        by_cases e : j = i
        · subst e; exact k4 P hF
        · exact ext _ (hP j (by omega) P hF))
      refine ⟨b2, l2, f1, by omega, fun j hj => by rw [f3 j (by omega), k3 j hj], f4, fun {R} k => ?_⟩
      unfold r7reach_l5 r7reach_b5
      rw [ltT hil, cond_true]
      refine (k5 _).trans ?_
      rw [w64_succ (show i < 1000000000000 by omega)]
      exact f5 k
    · refine ⟨b, l, hI.lk, Nat.le_refl _, fun _ _ => rfl, fun j hj => hP j (by omega), fun {R} k => ?_⟩
      unfold r7reach_l5 r7reach_b5
      rw [ltF (show l.n ≤ i by omega), cond_false]
structure Rch (c : Cn) (r : Rd) (l : Arr r7knot) : Prop where
  lk : LK c l
  first : has l r
  next : ∀ s, has l s → ∀ P, Fl c P → has l (tickR c.M c.S s P)
theorem reach_eq {N : Nat} (hN : 70000 < N) {c : Cn} (hc : c.Ok) {r : Rd} (h : Ok c r) : ∃ (b : Bool) (l : Arr r7knot), Rch c r l ∧ ∀ {R : Type} (k : Bool → Arr r7knot → Option R), r7reach N c.car r.ride k = k b l := by
  have hsz := h.sz hc
  have hcl := codeN_lt hsz
  have e1 : (decide ((0 : Int) ≤ ((codeN r : Nat) : Int)) && decide (((codeN r : Nat) : Int) < (↑(Int.toNat (65536 : Int)) : Int))) = true := by
    rw [nat_nonneg, Bool.true_and, show Int.toNat (65536 : Int) = 65536 from by decide]
    exact ltT hcl
  have hK0 : Kn (lst r7knotC (1 : Nat) (litC [SV.int IntKind.i64 (0 : Int), SV.bool false, SV.bool false, SV.int IntKind.i64 (0 : Int), SV.int IntKind.i64 (0 : Int), SV.int IntKind.i64 (0 : Int), SV.int IntKind.i64 (0 : Int), SV.int IntKind.i64 (0 : Int)] [r7knotC.enc ⟨r.ride, -1, 0⟩])) 0 = r := rdOf_ride r
  have hL : LK c (lst r7knotC (1 : Nat) (litC [SV.int IntKind.i64 (0 : Int), SV.bool false, SV.bool false, SV.int IntKind.i64 (0 : Int), SV.int IntKind.i64 (0 : Int), SV.int IntKind.i64 (0 : Int), SV.int IntKind.i64 (0 : Int), SV.int IntKind.i64 (0 : Int)] [r7knotC.enc ⟨r.ride, -1, 0⟩])) := ⟨fun j hj => by
    have : j = 0 := by have : j < 1 := hj; omega
    subst this
    rw [hK0]
    exact ⟨rfl, h⟩, by show 1 ≤ 65536; decide⟩
  have hSf : ∀ x, (lst boolC 65536 (setCs (codeN r) (0 : Nat) (zeroC [SV.bool false]) [SV.bool true])).f x = if x = codeN r then true else false := fun x => setB_f (fun _ => false) 65536 (codeN r) true x
  have hct := cntB_set (b := fun _ => false) (v := codeN r) rfl hSf 65536
  rw [if_pos hcl, cntB_zero.2 (fun _ _ => rfl)] at hct
  have hI : BI c (lst r7knotC (1 : Nat) (litC [SV.int IntKind.i64 (0 : Int), SV.bool false, SV.bool false, SV.int IntKind.i64 (0 : Int), SV.int IntKind.i64 (0 : Int), SV.int IntKind.i64 (0 : Int), SV.int IntKind.i64 (0 : Int), SV.int IntKind.i64 (0 : Int)] [r7knotC.enc ⟨r.ride, -1, 0⟩])) (lst boolC 65536 (setCs (codeN r) (0 : Nat) (zeroC [SV.bool false]) [SV.bool true])) := by
    refine ⟨hL, rfl, fun v hv => ?_, hct⟩
    rw [hSf]
    by_cases e : v = codeN r
    · rw [if_pos e]
      exact ⟨fun _ => ⟨0, Nat.zero_lt_one, by rw [hK0]; exact e.symm⟩, fun _ => rfl⟩
    · rw [if_neg e]
      constructor
      · intro h; cases h
      · rintro ⟨j, j1, j2⟩
        have : j = 0 := by have : j < 1 := j1; omega
        subst this
        rw [hK0] at j2
        exact absurd j2.symm e
  obtain ⟨b, l, k1, k2, k3, k4, k5⟩ := reach_l5 hN hc false 65536 0 N _ false _ (by omega) (by omega) (Nat.zero_le _) hI (fun j hj => by omega)
  refine ⟨b, l, ⟨k1, ⟨0, Nat.lt_of_lt_of_le Nat.zero_lt_one k2, (k3 0 Nat.zero_lt_one).trans hK0⟩, fun s ⟨j, j1, j2⟩ P hF => by rw [← j2]; exact k4 j j1 P hF⟩, fun {R} k => ?_⟩
  rw [r7reach_def]
  unfold r7reach_m
  rw [code_eq N hsz, e1, cond_true]
  exact k5 _
end
end Go.Proofs.Ytlphgonhenegoaa
set_option linter.unusedVariables false
set_option linter.unusedSimpArgs false
set_option maxHeartbeats 0
set_option maxRecDepth 100000
namespace Go.Proofs.Ytlphgonhenegoaa
open Go.Sx
section
theorem mx_nat (a b : Nat) : mxI (a : Int) (b : Int) = ((max a b : Nat) : Int) := by
  unfold mxI
  split <;> omega
theorem all_w : ∀ L : Nat, L < 6 → ∀ H : Nat, H < 6 → 2 ^ (H + 1) - 2 ^ L < 64 ∧ ∀ i : Nat, i < 6 → ((L ≤ i ∧ i ≤ H) ↔ (2 ^ (H + 1) - 2 ^ L).testBit i = true) ∨ H < L := by decide +kernel
def allN (c : Cn) : Nat := 2 ^ (c.H + 1) - 2 ^ c.L
theorem allN_ok {c : Cn} (hc : c.Ok) : All c (allN c) := by
  have h5 := hc.h5
  have hLH : c.L ≤ c.H := Nat.le_trans hc.ls hc.sh
  obtain ⟨h1, h2⟩ := all_w c.L (by omega) c.H (by omega)
  refine ⟨⟨h1, fun i hi => ?_⟩, fun i a b => ?_⟩
  · exact ((h2 i (bit_lt h1 hi)).resolve_right (by omega)).2 hi
  · exact ((h2 i (by omega)).resolve_right (by omega)).1 ⟨a, b⟩
def val (c : Cn) (f : Nat) (o : Nat → Nat) (r : Rd) (P : Nat) : Nat := bif (servR r P).testBit f then 1 else 1 + o (codeN (tickR c.M c.S r P))
structure Cls (c : Cn) (l : Arr r7knot) : Prop where
  lk : LK c l
  next : ∀ s, has l s → ∀ P, Fl c P → has l (tickR c.M c.S s P)
theorem Rch.cls {c : Cn} {r : Rd} {l : Arr r7knot} (h : Rch c r l) : Cls c l := ⟨h.lk, h.next⟩
theorem Cls.ok {c : Cn} {l : Arr r7knot} (h : Cls c l) {r : Rd} (hr : has l r) : Ok c r := by
  obtain ⟨j, j1, j2⟩ := hr
  rw [← j2]
  exact (h.lk.ok j j1).2
structure OI (c : Cn) (l : Arr r7knot) (f : Nat) (o : Nat → Nat) (k : Nat) : Prop where
  up : ∀ r, has l r → r.W.testBit f = true → o (codeN r) ≤ pot c r f
  lo : ∀ r, has l r → r.W.testBit f = true → min k (pot c r f) ≤ o (codeN r)
theorem val_up {c : Cn} (hc : c.Ok) {l : Arr r7knot} (hl : Cls c l) {f : Nat} {o : Nat → Nat} {k : Nat} (hO : OI c l f o k) {r : Rd} (hr : has l r) (hw : r.W.testBit f = true) {P : Nat} (hP : Fl c P) : val c f o r P ≤ pot c r f := by
  have s := step hc (hl.ok hr) hw hP
  have one := s.one
  unfold val
  rw [s.srv]
  by_cases h1 : pot c r f = 1
  · rw [decide_eq_true h1, cond_true]; omega
  · obtain ⟨g1, g2, _⟩ := s.go h1
    have := hO.up _ (hl.next r hr P hP) g1
    rw [decide_eq_false h1, cond_false]
    omega
theorem val_lo {c : Cn} (hc : c.Ok) {l : Arr r7knot} (hl : Cls c l) {f : Nat} {o : Nat → Nat} {k : Nat} (hO : OI c l f o k) {r : Rd} (hr : has l r) (hw : r.W.testBit f = true) : min (k + 1) (pot c r f) ≤ val c f o r (allN c) := by
  have hA := allN_ok hc
  have s := step hc (hl.ok hr) hw hA.1
  unfold val
  rw [s.srv]
  by_cases h1 : pot c r f = 1
  · rw [decide_eq_true h1, cond_true]; omega
  · obtain ⟨g1, g2, g3⟩ := s.go h1
    have := g3 hA
    have := hO.lo _ (hl.next r hr _ hA.1) g1
    rw [decide_eq_false h1, cond_false]
    omega
theorem bounds_l11 {N : Nat} (hN : 2000 < N) {c : Cn} (hc : c.Ok) {l : Arr r7knot} (hl : Cls c l) {f : Nat} (hf : f < 6) (b0 b1 : Bool) {i : Nat} (hi : i < l.n) {o : Nat → Nat} (ho : ∀ v, o v ≤ 1000) {out : Arr Int} (hout : out.Is 65536 (fun v => (o v : Int))) : ∀ (q p n m : Nat), p + q = 2 ^ (c.H + 1) → q < n → m ≤ 2000 → (∀ P, P < p → Fl c P → val c f o (Kn l i) P ≤ m) → (∀ B, (∀ P, Fl c P → val c f o (Kn l i) P ≤ B) → m ≤ B) →
    ∃ m' : Nat, (∀ P, Fl c P → val c f o (Kn l i) P ≤ m') ∧ (∀ B, (∀ P, Fl c P → val c f o (Kn l i) P ≤ B) → m' ≤ B) ∧ ∀ {R : Type} (k : Int → Option R), r7bounds_l11 N n l (f : Int) b0 (i : Int) (m : Int) (p : Int) c.car b1 out k = k (m' : Int) := by
  have h5 := hc.h5
  have hLH : c.L ≤ c.H := Nat.le_trans hc.ls hc.sh
  obtain ⟨g1, g2, g3, _⟩ := hi_w c.H (by omega)
  have g1' : decide (IntKind.wrap IntKind.u64 (w64 (api_Car.High c.car + (1 : Int))) < (0 : Int)) = false := g1
  have g2' : w64 ((1 : Int) * (2 : Int) ^ min (Int.toNat (IntKind.wrap IntKind.u64 (w64 (api_Car.High c.car + (1 : Int))))) (IntKind.bits IntKind.i64)) = ((2 ^ (c.H + 1) : Nat) : Int) := g2
  have g4' : decide (IntKind.wrap IntKind.u64 (api_Car.Low c.car) < (0 : Int)) = false := lo_w c.L (by omega)
  have h0 := (hl.lk.ok i hi).2
  have hx := (hl.lk.ok i hi).1
  intro q
  induction q with
  | zero =>
    intro p n m h1 h2 hm hP hB
    obtain ⟨n, rfl⟩ : ∃ m, n = m + 1 := ⟨n - 1, by omega⟩
    refine ⟨m, fun P hF => hP P (by have := (fl_lt hc hF).1; omega) hF, hB, fun {R} k => ?_⟩
    unfold r7bounds_l11 r7bounds_b11
    rw [g1', cond_false, g2', ltF (show 2 ^ (c.H + 1) ≤ p by omega), cond_false]
  | succ q ih =>
    intro p n m h1 h2 hm hP hB
    obtain ⟨n, rfl⟩ : ∃ m, n = m + 1 := ⟨n - 1, by omega⟩
    have hp : p < 2 ^ (c.H + 1) := by omega
    have hmm := (mask_w c.L (by omega) c.H (by omega) p (by omega)).1 hp
    have hm' : (w64 (↑(BitVec.toNat (BitVec.ofInt (IntKind.bits IntKind.i64) (p : Int) &&& BitVec.ofInt (IntKind.bits IntKind.i64) (w64 (w64 ((1 : Int) * (2 : Int) ^ min (Int.toNat (IntKind.wrap IntKind.u64 (api_Car.Low c.car))) (IntKind.bits IntKind.i64)) - (1 : Int))))) : Int) != (0 : Int)) = !maskB c.L c.H p := hmm
    cases hmb : maskB c.L c.H p with
    | false =>
      obtain ⟨m', k1, k2, k3⟩ := ih (p + 1) n m (by omega) (by omega) hm (fun P hlt hF => by
        by_cases e : P = p
        · subst e
          have := (fl_lt hc hF).2
          rw [hmb] at this; cases this
        · exact hP P (by omega) hF) hB
      refine ⟨m', k1, k2, fun {R} k => ?_⟩
      unfold r7bounds_l11 r7bounds_b11
      rw [g1', cond_false, g2', ltT hp, cond_true, g4', cond_false, hm', hmb, Bool.not_false, cond_true, w64_succ (show p < 1000000000000 by omega)]
      exact k3 k
    | true =>
      have hF : Fl c p := ⟨by omega, (maskB_iff (W := p) (by omega)).1 hmb⟩
      have hr' := tick_ok hc h0 hF
      have hsz := hr'.sz hc
      have hcl := codeN_lt hsz
      have hov := ho (codeN (tickR c.M c.S (Kn l i) p))
      have hv : val c f o (Kn l i) p ≤ 1001 := by unfold val; cases (servR (Kn l i) p).testBit f <;> simp only [cond_true, cond_false] <;> omega
      have ei : (decide ((0 : Int) ≤ (i : Int)) && decide ((i : Int) < (l.n : Int))) = true := by rw [nat_nonneg, ltT hi]; rfl
      have ec : (decide ((0 : Int) ≤ ((codeN (tickR c.M c.S (Kn l i) p) : Nat) : Int)) && decide (((codeN (tickR c.M c.S (Kn l i) p) : Nat) : Int) < (out.n : Int))) = true := by rw [nat_nonneg, hout.1, ltT hcl]; rfl
      obtain ⟨m', k1, k2, k3⟩ := ih (p + 1) n (max m (val c f o (Kn l i) p)) (by omega) (by omega) (by omega) (fun P hlt hF' => by
        by_cases e : P = p
        · subst e; omega
        · have := hP P (by omega) hF'
          omega) (fun B hB' => by
        have := hB B hB'
        have := hB' p hF
        omega)
      refine ⟨m', k1, k2, fun {R} k => ?_⟩
      conv => lhs; unfold r7bounds_l11 r7bounds_b11
      rw [g1', cond_false, g2', ltT hp, cond_true, g4', cond_false, hm', hmb, Bool.not_true, cond_false, ei, cond_true]
      simp only [Int.toNat_natCast]
      rw [hx, refTick (by omega) hc h0 hF, wrapU f (by omega), natF, cond_false, bitq f hf _ (serv_lt hc h0 hF), w64_succ (show p < 1000000000000 by omega)]
      have hval : val c f o (Kn l i) p = bif (servR (Kn l i) p).testBit f then 1 else 1 + o (codeN (tickR c.M c.S (Kn l i) p)) := rfl
      cases hs : (servR (Kn l i) p).testBit f with
      | true =>
        rw [hs, cond_true] at hval
        rw [cond_true, show mxI (m : Int) (1 : Int) = ((max m 1 : Nat) : Int) from mx_nat m 1]
        rw [hval] at k3
        exact k3 k
      | false =>
        rw [hs, cond_false] at hval
        rw [cond_false, code_eq N hsz, ec, cond_true, Int.toNat_natCast, hout.2 _ hcl, show w64 ((1 : Int) + (o (codeN (tickR c.M c.S (Kn l i) p)) : Int)) = ((1 + o (codeN (tickR c.M c.S (Kn l i) p)) : Nat) : Int) by rw [w64_eq (by omega) (by omega)]; omega, mx_nat]
        rw [hval] at k3
        exact k3 k
def Fix (c : Cn) (l : Arr r7knot) (f : Nat) (o : Nat → Nat) : Prop := ∀ r, has l r → r.W.testBit f = true → ∀ P, Fl c P → val c f o r P ≤ o (codeN r)
theorem bounds_l6 {N : Nat} (hN : 2000 < N) {c : Cn} (hc : c.Ok) {l : Arr r7knot} (hl : Cls c l) {f : Nat} (hf : c.L ≤ f ∧ f ≤ c.H) (b1 : Bool) (kk : Nat) : ∀ (q i n : Nat) (o : Nat → Nat) (out : Arr Int) (more : Bool), i + q = l.n → q < n → (∀ v, o v ≤ 1000) → out.Is 65536 (fun v => (o v : Int)) → OI c l f o kk →
      (∀ j, j < i → (Kn l j).W.testBit f = true → min (kk + 1) (pot c (Kn l j) f) ≤ o (codeN (Kn l j))) → (more = false → ∀ j, j < i → (Kn l j).W.testBit f = true → ∀ P, Fl c P → val c f o (Kn l j) P ≤ o (codeN (Kn l j))) → (77 ≤ kk → more = false) →
    ∃ (o' : Nat → Nat) (out' : Arr Int) (more' : Bool), (∀ v, o' v ≤ 1000) ∧ out'.Is 65536 (fun v => (o' v : Int)) ∧ OI c l f o' (kk + 1) ∧ (more' = false → Fix c l f o') ∧ (77 ≤ kk → more' = false) ∧ ∀ {R : Type} (k : Bool → Arr Int → Option R), r7bounds_l6 N n l (f : Int) more (i : Int) c.car b1 out k = k more' out' := by
  have h5 := hc.h5
  intro q
  induction q with
  | zero =>
    intro i n o out more h1 h2 ho hout hO hlo hfix hst
    obtain ⟨n, rfl⟩ : ∃ m, n = m + 1 := ⟨n - 1, by omega⟩
    refine ⟨o, out, more, ho, hout, ⟨hO.up, fun r ⟨j, j1, j2⟩ hw => ?_⟩, fun hm r ⟨j, j1, j2⟩ hw P hP => ?_, hst, fun {R} k => ?_⟩
    · rw [← j2] at hw ⊢
      exact hlo j (by omega) hw
    · rw [← j2] at hw ⊢
      exact hfix hm j (by omega) hw P hP
    · unfold r7bounds_l6 r7bounds_b6
      rw [ltF (show l.n ≤ i by omega), cond_false]
  | succ q ih =>
    intro i n o out more h1 h2 ho hout hO hlo hfix hst
    obtain ⟨n, rfl⟩ : ∃ m, n = m + 1 := ⟨n - 1, by omega⟩
    have hln := hl.lk.n
    have hi : i < l.n := by omega
    have h0 := (hl.lk.ok i hi).2
    have hx := (hl.lk.ok i hi).1
    have hsz := h0.sz hc
    have hcl := codeN_lt hsz
    have ei : (decide ((0 : Int) ≤ (i : Int)) && decide ((i : Int) < (l.n : Int))) = true := by rw [nat_nonneg, ltT hi]; rfl
    have ec : (decide ((0 : Int) ≤ ((codeN (Kn l i) : Nat) : Int)) && decide (((codeN (Kn l i) : Nat) : Int) < (out.n : Int))) = true := by rw [nat_nonneg, hout.1, ltT hcl]; rfl
    have hhas : has l (Kn l i) := ⟨i, hi, rfl⟩
    cases hw : (Kn l i).W.testBit f with
    | false =>
      obtain ⟨o', out', more', k1, k2, k3, k4, k5, k6⟩ := ih (i + 1) n o out more (by omega) (by omega) ho hout hO (fun j hj hwj => by
        by_cases e : j = i
        · subst e; rw [hw] at hwj; cases hwj
        · exact hlo j (by omega) hwj) (fun hm j hj hwj => by
        by_cases e : j = i
        · subst e; rw [hw] at hwj; cases hwj
        · exact hfix hm j (by omega) hwj) hst
      refine ⟨o', out', more', k1, k2, k3, k4, k5, fun {R} k => ?_⟩
      unfold r7bounds_l6 r7bounds_b6
      rw [ltT hi, cond_true, nat_nonneg, Bool.true_and, cond_true, Int.toNat_natCast, hx, wanted_eq N h0.w6 (by omega), hw, Bool.not_false, cond_true, w64_succ (show i < 1000000000000 by omega)]
      exact k6 k
    | true =>
      have h64 : 2 ^ (c.H + 1) ≤ 64 := (hi_w c.H (by omega)).2.2.1
      obtain ⟨m, m1, m2, m3⟩ := bounds_l11 hN hc hl (show f < 6 by omega) more b1 hi ho hout (2 ^ (c.H + 1)) 0 N 0 (by omega) (by omega) (by omega) (fun P hP => by omega) (fun B hB => Nat.zero_le _)
      have hmp : m ≤ pot c (Kn l i) f := m2 _ fun P hP => val_up hc hl hO hhas hw hP
      have hml : min (kk + 1) (pot c (Kn l i) f) ≤ m := Nat.le_trans (val_lo hc hl hO hhas hw) (m1 _ (allN_ok hc).1)
      have hp77 := pot_le hc h0 hf.2
      have hgt : ∀ a b : Nat, decide ((a : Int) > (b : Int)) = decide (b < a) := gtN
      by_cases hgtm : o (codeN (Kn l i)) < m
      · -- raised
        have hod : ∀ v, (if v = codeN (Kn l i) then m else o v) ≤ 1000 := fun v => by split; omega; exact ho v
        have hsame : ∀ r, has l r → codeN r = codeN (Kn l i) → r = Kn l i := fun r hr e => codeN_inj ((hl.ok hr).sz hc) hsz e
        have hO' : OI c l f (fun v => if v = codeN (Kn l i) then m else o v) kk := by
          refine ⟨fun r hr hwr => ?_, fun r hr hwr => ?_⟩
          · show (if codeN r = codeN (Kn l i) then m else o (codeN r)) ≤ _
            by_cases e : codeN r = codeN (Kn l i)
            · rw [if_pos e, hsame r hr e]; exact hmp
            · rw [if_neg e]; exact hO.up r hr hwr
          · show _ ≤ (if codeN r = codeN (Kn l i) then m else o (codeN r))
            have := hO.lo r hr hwr
            by_cases e : codeN r = codeN (Kn l i)
            · rw [if_pos e]
              rw [e] at this
              omega
            · rw [if_neg e]; exact this
        obtain ⟨o', out', more', k1, k2, k3, k4, k5, k6⟩ := ih (i + 1) n (fun v => if v = codeN (Kn l i) then m else o v) (lst intC (Arr.n out) (setCs (codeN (Kn l i)) (0 : Nat) (Cod.cell intC (Arr.f out)) [SV.int IntKind.i64 (m : Int)])) true (by omega) (by omega) hod ⟨hout.1, fun v hv => by
            rw [set_f]
            by_cases e : v = codeN (Kn l i)
            · rw [if_pos e]; simp [e]
            · rw [if_neg e, hout.2 v hv]; simp [e]⟩ hO' (fun j hj hwj => by
            show _ ≤ (if codeN (Kn l j) = codeN (Kn l i) then m else o (codeN (Kn l j)))
            by_cases e : codeN (Kn l j) = codeN (Kn l i)
            · rw [if_pos e, hsame _ ⟨j, by omega, rfl⟩ e]; exact hml
            · rw [if_neg e]
              exact hlo j (by have : j ≠ i := fun h => e (by rw [h]); omega) hwj) (fun h => by cases h) (fun h77 => by
            exfalso
            have := hO.lo _ hhas hw
            omega)
        refine ⟨o', out', more', k1, k2, k3, k4, k5, fun {R} k => ?_⟩
        unfold r7bounds_l6 r7bounds_b6
        rw [ltT hi, cond_true, nat_nonneg, Bool.true_and, cond_true, Int.toNat_natCast, hx, wanted_eq N h0.w6 (by omega), hw, Bool.not_true, cond_false]
        refine (m3 _).trans ?_
        rw [cond_true, code_eq N hsz, ec, cond_true, Int.toNat_natCast, hout.2 _ hcl, hgt, decide_eq_true hgtm, cond_true, cond_true, code_eq N hsz, ec, cond_true, w64_succ (show i < 1000000000000 by omega)]
        exact k6 k
      · obtain ⟨o', out', more', k1, k2, k3, k4, k5, k6⟩ := ih (i + 1) n o out more (by omega) (by omega) ho hout hO (fun j hj hwj => by
          by_cases e : j = i
          · subst e; omega
          · exact hlo j (by omega) hwj) (fun hm j hj hwj P hP => by
          by_cases e : j = i
          · subst e
            have := m1 P hP
            omega
          · exact hfix hm j (by omega) hwj P hP) hst
        refine ⟨o', out', more', k1, k2, k3, k4, k5, fun {R} k => ?_⟩
        unfold r7bounds_l6 r7bounds_b6
        rw [ltT hi, cond_true, nat_nonneg, Bool.true_and, cond_true, Int.toNat_natCast, hx, wanted_eq N h0.w6 (by omega), hw, Bool.not_true, cond_false]
        refine (m3 _).trans ?_
        rw [cond_true, code_eq N hsz, ec, cond_true, Int.toNat_natCast, hout.2 _ hcl, hgt, decide_eq_false hgtm, cond_false, w64_succ (show i < 1000000000000 by omega)]
        exact k6 k
theorem bounds_l3 {N : Nat} (hN : 70000 < N) {c : Cn} (hc : c.Ok) {l : Arr r7knot} (hl : Cls c l) {f : Nat} (hf : c.L ≤ f ∧ f ≤ c.H) (b1 : Bool) : ∀ (q kk n : Nat) (o : Nat → Nat) (out : Arr Int) (more : Bool), kk + q = 80 → q < n → (∀ v, o v ≤ 1000) → out.Is 65536 (fun v => (o v : Int)) → OI c l f o kk → (more = false → Fix c l f o) → (78 ≤ kk → more = false) →
    ∃ (o' : Nat → Nat) (out' : Arr Int), (∀ v, o' v ≤ 1000) ∧ out'.Is 65536 (fun v => (o' v : Int)) ∧ OI c l f o' 0 ∧ Fix c l f o' ∧ ∀ {R : Type} (k : Arr Int → Option R), r7bounds_l3 N n l (f : Int) more c.car b1 out k = k out' := by
  intro q
  induction q with
  | zero =>
    intro kk n o out more h1 h2 ho hout hO hfix hst
    obtain ⟨n, rfl⟩ : ∃ m, n = m + 1 := ⟨n - 1, by omega⟩
    have hm := hst (by omega)
    subst hm
    refine ⟨o, out, ho, hout, ⟨hO.up, fun _ _ _ => by omega⟩, hfix rfl, fun {R} k => ?_⟩
    unfold r7bounds_l3 r7bounds_b3
    rfl
  | succ q ih =>
    intro kk n o out more h1 h2 ho hout hO hfix hst
    obtain ⟨n, rfl⟩ : ∃ m, n = m + 1 := ⟨n - 1, by omega⟩
    cases more with
    | false =>
      refine ⟨o, out, ho, hout, ⟨hO.up, fun _ _ _ => by omega⟩, hfix rfl, fun {R} k => ?_⟩
      unfold r7bounds_l3 r7bounds_b3
      rfl
    | true =>
      have hln := hl.lk.n
      obtain ⟨o1, out1, more1, k1, k2, k3, k4, k5, k6⟩ := bounds_l6 (show 2000 < N by omega) hc hl hf b1 kk l.n 0 N o out false (by omega) (by omega) ho hout hO (fun j hj => by omega) (fun _ j hj => by omega) (fun _ => rfl)
      obtain ⟨o2, out2, f1, f2, f3, f4, f5⟩ := ih (kk + 1) n o1 out1 more1 (by omega) (by omega) k1 k2 k3 k4 (fun h => k5 (by omega))
      refine ⟨o2, out2, f1, f2, f3, f4, fun {R} k => ?_⟩
      unfold r7bounds_l3 r7bounds_b3
      rw [cond_true]
      refine (k6 _).trans ?_
      exact f5 k
theorem bounds_eq {N : Nat} (hN : 70000 < N) {c : Cn} (hc : c.Ok) {l : Arr r7knot} (hl : Cls c l) {f : Nat} (hf : c.L ≤ f ∧ f ≤ c.H) :
    ∃ (out : Arr Int), out.n = 65536 ∧ (∀ r, has l r → r.W.testBit f = true → out.f (codeN r) = ((pot c r f : Nat) : Int)) ∧ ∀ {R : Type} (k : Bool → Arr Int → Option R), r7bounds N c.car l (f : Int) k = k false out := by
  have hz : (lst intC (65536 : Nat) (zeroC [SV.int IntKind.i64 (0 : Int)])).Is 65536 (fun v => (((fun _ => 0 : Nat → Nat) v : Nat) : Int)) := ⟨rfl, fun v hv => rfl⟩
  obtain ⟨o, out, k1, k2, k3, k4, k5⟩ := bounds_l3 hN hc hl hf false 80 0 N (fun _ => 0) _ true (by omega) (by omega) (fun _ => Nat.zero_le _) hz ⟨fun _ _ _ => Nat.zero_le _, fun _ _ _ => by omega⟩ (fun h => by cases h) (fun h => by omega)
  have lo : ∀ (m : Nat) (r : Rd), has l r → r.W.testBit f = true → pot c r f ≤ m → pot c r f ≤ o (codeN r) := by
    intro m
    induction m with
    | zero => intro r _ _ h; omega
    | succ m ih =>
      intro r hr hw hp
      have hA := allN_ok hc
      have s := step hc (hl.ok hr) hw hA.1
      have hv := k4 r hr hw _ hA.1
      unfold val at hv
      rw [s.srv] at hv
      by_cases h1 : pot c r f = 1
      · rw [decide_eq_true h1, cond_true] at hv; omega
      · obtain ⟨g1, g2, g3⟩ := s.go h1
        have e := g3 hA
        rw [decide_eq_false h1, cond_false] at hv
        have := ih _ (hl.next r hr _ hA.1) g1 (by omega)
        omega
  refine ⟨out, k2.1, fun r hr hw => ?_, fun {R} k => ?_⟩
  · rw [k2.2 _ (codeN_lt ((hl.ok hr).sz hc))]
    have := lo _ r hr hw (Nat.le_refl _)
    have := k3.up r hr hw
    omega
  · rw [r7bounds_def]
    unfold r7bounds_m
    exact k5 _
end
end Go.Proofs.Ytlphgonhenegoaa
set_option linter.unusedVariables false
set_option linter.unusedSimpArgs false
set_option maxHeartbeats 0
set_option maxRecDepth 100000
namespace Go.Proofs.Ytlphgonhenegoaa
open Go.Sx
section
def cand (c : Cn) (f : Nat) (r : Rd) (P : Nat) : Nat := bif (servR r P).testBit f then 0 else pot c (tickR c.M c.S r P) f
theorem cand_up {c : Cn} (hc : c.Ok) {r : Rd} (h : Ok c r) {f : Nat} (hf : f < 6) {P : Nat} (hP : Fl c P) (hb : P.testBit f = true) : cand c f r P ≤ worstN c f := by
  unfold cand
  cases hs : (servR r P).testBit f with
  | true => exact Nat.zero_le _
  | false =>
    rw [cond_false]
    refine pot_worst hc (tick_ok hc h hP) ?_
    rw [(tick_bit hc h hP hf).1, hs, hb, Bool.or_true]
    rfl
theorem worst_l6 {N : Nat} (hN : 2000 < N) {c : Cn} (hc : c.Ok) {l : Arr r7knot} (hl : Cls c l) {f : Nat} (hf : f < 6) {out : Arr Int} (hn : out.n = 65536) (hout : ∀ r, has l r → r.W.testBit f = true → out.f (codeN r) = ((pot c r f : Nat) : Int)) {i : Nat} (hi : i < l.n) : ∀ (q p n : Nat) (m a w : Int), p + q = 2 ^ (c.H + 1) → q < n → m ≤ (worstN c f : Int) → (∀ P, P < p → Fl c P → P.testBit f = true → (Kn l i).W.testBit f = false → ((cand c f (Kn l i) P : Nat) : Int) ≤ m) →
    ∃ (m' a' w' : Int), m ≤ m' ∧ m' ≤ (worstN c f : Int) ∧ (∀ P, Fl c P → P.testBit f = true → (Kn l i).W.testBit f = false → ((cand c f (Kn l i) P : Nat) : Int) ≤ m') ∧ ∀ {R : Type} (k : Int → Int → Int → Option R), r7worst_l6 N n l out (f : Int) m a w (i : Int) (p : Int) c.car k = k m' a' w' := by
  have h5 := hc.h5
  have hLH : c.L ≤ c.H := Nat.le_trans hc.ls hc.sh
  obtain ⟨g1, g2, g3, _⟩ := hi_w c.H (by omega)
  have g1' : decide (IntKind.wrap IntKind.u64 (w64 (api_Car.High c.car + (1 : Int))) < (0 : Int)) = false := g1
  have g2' : w64 ((1 : Int) * (2 : Int) ^ min (Int.toNat (IntKind.wrap IntKind.u64 (w64 (api_Car.High c.car + (1 : Int))))) (IntKind.bits IntKind.i64)) = ((2 ^ (c.H + 1) : Nat) : Int) := g2
  have g4' : decide (IntKind.wrap IntKind.u64 (api_Car.Low c.car) < (0 : Int)) = false := lo_w c.L (by omega)
  have h0 := (hl.lk.ok i hi).2
  have hx := (hl.lk.ok i hi).1
  have ei : (decide ((0 : Int) ≤ (i : Int)) && decide ((i : Int) < (l.n : Int))) = true := by rw [nat_nonneg, ltT hi]; rfl
  intro q
  induction q with
  | zero =>
    intro p n m a w h1 h2 hm hP
    obtain ⟨n, rfl⟩ : ∃ m, n = m + 1 := ⟨n - 1, by omega⟩
    refine ⟨m, a, w, Int.le_refl _, hm, fun P hF => hP P (by have := (fl_lt hc hF).1; omega) hF, fun {R} k => ?_⟩
    unfold r7worst_l6 r7worst_b6
    rw [g1', cond_false, g2', ltF (show 2 ^ (c.H + 1) ≤ p by omega), cond_false]
  | succ q ih =>
    intro p n m a w h1 h2 hm hP
    obtain ⟨n, rfl⟩ : ∃ m, n = m + 1 := ⟨n - 1, by omega⟩
    have hp : p < 2 ^ (c.H + 1) := by omega
    have hmm := (mask_w c.L (by omega) c.H (by omega) p (by omega)).1 hp
    have hm' : (w64 (↑(BitVec.toNat (BitVec.ofInt (IntKind.bits IntKind.i64) (p : Int) &&& BitVec.ofInt (IntKind.bits IntKind.i64) (w64 (w64 ((1 : Int) * (2 : Int) ^ min (Int.toNat (IntKind.wrap IntKind.u64 (api_Car.Low c.car))) (IntKind.bits IntKind.i64)) - (1 : Int))))) : Int) != (0 : Int)) = !maskB c.L c.H p := hmm
    -- nothing new is looked at
    have skip : (Fl c p → p.testBit f = true → (Kn l i).W.testBit f = false → ((cand c f (Kn l i) p : Nat) : Int) ≤ m) → ∃ (m' a' w' : Int), m ≤ m' ∧ m' ≤ (worstN c f : Int) ∧ (∀ P, Fl c P → P.testBit f = true → (Kn l i).W.testBit f = false → ((cand c f (Kn l i) P : Nat) : Int) ≤ m') ∧ ∀ {R : Type} (k : Int → Int → Int → Option R), r7worst_l6 N n l out (f : Int) m a w (i : Int) ((p + 1 : Nat) : Int) c.car k = k m' a' w' := fun hs =>
      ih (p + 1) n m a w (by omega) (by omega) hm fun P hlt hF hb hw => by
        by_cases e : P = p
        · subst e; exact hs hF hb hw
        · exact hP P (by omega) hF hb hw
    cases hmb : maskB c.L c.H p with
    | false =>
      obtain ⟨m', a', w', k1, k2, k3, k4⟩ := skip (fun hF _ _ => by
        have := (fl_lt hc hF).2
        rw [hmb] at this; cases this)
      refine ⟨m', a', w', k1, k2, k3, fun {R} k => ?_⟩
      unfold r7worst_l6 r7worst_b6
      rw [g1', cond_false, g2', ltT hp, cond_true, g4', cond_false, hm', hmb, Bool.not_false, cond_true, w64_succ (show p < 1000000000000 by omega)]
      exact k4 k
    | true =>
      have hp64 : p < 64 := by omega
      have hF : Fl c p := ⟨hp64, (maskB_iff (W := p) hp64).1 hmb⟩
      cases hb : p.testBit f with
      | false =>
        obtain ⟨m', a', w', k1, k2, k3, k4⟩ := skip (fun _ h _ => by rw [hb] at h; cases h)
        refine ⟨m', a', w', k1, k2, k3, fun {R} k => ?_⟩
        unfold r7worst_l6 r7worst_b6
        rw [g1', cond_false, g2', ltT hp, cond_true, g4', cond_false, hm', hmb, Bool.not_true, cond_false, wrapU f (by omega), natF, cond_false, bit0 f hf p hp64, hb, Bool.not_false, cond_true, w64_succ (show p < 1000000000000 by omega)]
        exact k4 k
      | true =>
        cases hw : (Kn l i).W.testBit f with
        | true =>
          obtain ⟨m', a', w', k1, k2, k3, k4⟩ := skip (fun _ _ h => by rw [hw] at h; cases h)
          refine ⟨m', a', w', k1, k2, fun P q1 q2 q3 => k3 P q1 q2 (hw.trans q3), fun {R} k => ?_⟩
          unfold r7worst_l6 r7worst_b6
          rw [g1', cond_false, g2', ltT hp, cond_true, g4', cond_false, hm', hmb, Bool.not_true, cond_false, wrapU f (by omega), natF, cond_false, bit0 f hf p hp64, hb, Bool.not_true, cond_false, ei, cond_true]
          simp only [Int.toNat_natCast]
          rw [hx, wanted_eq N h0.w6 hf, hw, cond_true, w64_succ (show p < 1000000000000 by omega)]
          exact k4 k
        | false =>
          have hr' := tick_ok hc h0 hF
          have hsz := hr'.sz hc
          have hcl := codeN_lt hsz
          have ec : (decide ((0 : Int) ≤ ((codeN (tickR c.M c.S (Kn l i) p) : Nat) : Int)) && decide (((codeN (tickR c.M c.S (Kn l i) p) : Nat) : Int) < (out.n : Int))) = true := by rw [nat_nonneg, hn, ltT hcl]; rfl
          have hcu := cand_up hc h0 hf hF hb
          -- the state behind the look
          have go : ∀ (m1 a1 w1 : Int), m ≤ m1 → m1 ≤ (worstN c f : Int) → ((cand c f (Kn l i) p : Nat) : Int) ≤ m1 → ∃ (m' a' w' : Int), m ≤ m' ∧ m' ≤ (worstN c f : Int) ∧ (∀ P, Fl c P → P.testBit f = true → (Kn l i).W.testBit f = false → ((cand c f (Kn l i) P : Nat) : Int) ≤ m') ∧ ∀ {R : Type} (k : Int → Int → Int → Option R), r7worst_l6 N n l out (f : Int) m1 a1 w1 (i : Int) ((p + 1 : Nat) : Int) c.car k = k m' a' w' := fun m1 a1 w1 q1 q2 q3 => by
            obtain ⟨m', a', w', k1, k2, k3, k4⟩ := ih (p + 1) n m1 a1 w1 (by omega) (by omega) q2 (fun P hlt hF' hb' hw' => by
              by_cases e : P = p
              · subst e; exact q3
              · exact Int.le_trans (hP P (by omega) hF' hb' hw') q1)
            exact ⟨m', a', w', Int.le_trans q1 k1, k2, k3, k4⟩
          have front : ∀ {R : Type} (k : Int → Int → Int → Option R), r7worst_l6 N (n + 1) l out (f : Int) m a w (i : Int) (p : Int) c.car k = (bif !(servR (Kn l i) p).testBit f then
              (bif decide (out.f (codeN (tickR c.M c.S (Kn l i) p)) > m) then r7worst_l6 N n l out (f : Int) (out.f (codeN (tickR c.M c.S (Kn l i) p))) (i : Int) (p : Int) (i : Int) ((p + 1 : Nat) : Int) c.car k else r7worst_l6 N n l out (f : Int) m a w (i : Int) ((p + 1 : Nat) : Int) c.car k)
              else (bif decide ((0 : Int) > m) then r7worst_l6 N n l out (f : Int) (0 : Int) (i : Int) (p : Int) (i : Int) ((p + 1 : Nat) : Int) c.car k else r7worst_l6 N n l out (f : Int) m a w (i : Int) ((p + 1 : Nat) : Int) c.car k)) := fun {R} k => by
            conv => lhs; unfold r7worst_l6 r7worst_b6
            rw [g1', cond_false, g2', ltT hp, cond_true, g4', cond_false, hm', hmb, Bool.not_true, cond_false, wrapU f (by omega), natF, cond_false, bit0 f hf p hp64, hb, Bool.not_true, cond_false, ei, cond_true]
            simp only [Int.toNat_natCast]
            rw [hx, wanted_eq N h0.w6 hf, hw, cond_false, cond_true, refTick (by omega) hc h0 hF, cond_false]
            rw [show (w64 (↑(BitVec.toNat (BitVec.ofInt (IntKind.bits IntKind.i64) (Int.fdiv ((servR (Kn l i) p : Nat) : Int) ((2 : Int) ^ min f (IntKind.bits IntKind.i64))) &&& BitVec.ofInt (IntKind.bits IntKind.i64) (1 : Int))) : Int) == (0 : Int)) = !(servR (Kn l i) p).testBit f from bit0 f hf _ (serv_lt hc h0 hF), code_eq N hsz, ec, cond_true, w64_succ (show p < 1000000000000 by omega)]
            rfl
          cases hs : (servR (Kn l i) p).testBit f with
          | true =>
            have hcd : cand c f (Kn l i) p = 0 := by unfold cand; rw [hs]; rfl
            by_cases h0m : (0 : Int) > m
            · obtain ⟨m', a', w', k1, k2, k3, k4⟩ := go 0 (i : Int) (p : Int) (by omega) (by omega) (by rw [hcd]; exact Int.le_refl _)
              refine ⟨m', a', w', k1, k2, fun P q1 q2 q3 => k3 P q1 q2 (hw.trans q3), fun {R} k => ?_⟩
              rw [front, hs, Bool.not_true, cond_false, decide_eq_true h0m, cond_true]
              exact k4 k
            · obtain ⟨m', a', w', k1, k2, k3, k4⟩ := go m a w (Int.le_refl _) hm (by rw [hcd]; omega)
              refine ⟨m', a', w', k1, k2, fun P q1 q2 q3 => k3 P q1 q2 (hw.trans q3), fun {R} k => ?_⟩
              rw [front, hs, Bool.not_true, cond_false, decide_eq_false h0m, cond_false]
              exact k4 k
          | false =>
            have hcd : cand c f (Kn l i) p = pot c (tickR c.M c.S (Kn l i) p) f := by unfold cand; rw [hs]; rfl
            have hwt : (tickR c.M c.S (Kn l i) p).W.testBit f = true := by
              rw [(tick_bit hc h0 hF hf).1, hs, hb, Bool.or_true]
              rfl
            have ho := hout _ (hl.next _ ⟨i, hi, rfl⟩ p hF) hwt
            rw [← hcd] at ho
            by_cases h0m : out.f (codeN (tickR c.M c.S (Kn l i) p)) > m
            · obtain ⟨m', a', w', k1, k2, k3, k4⟩ := go (out.f (codeN (tickR c.M c.S (Kn l i) p))) (i : Int) (p : Int) (by omega) (by rw [ho]; omega) (by rw [ho]; exact Int.le_refl _)
              refine ⟨m', a', w', k1, k2, fun P q1 q2 q3 => k3 P q1 q2 (hw.trans q3), fun {R} k => ?_⟩
              rw [front, hs, Bool.not_false, cond_true, decide_eq_true h0m, cond_true]
              exact k4 k
            · obtain ⟨m', a', w', k1, k2, k3, k4⟩ := go m a w (Int.le_refl _) hm (by rw [← ho]; omega)
              refine ⟨m', a', w', k1, k2, fun P q1 q2 q3 => k3 P q1 q2 (hw.trans q3), fun {R} k => ?_⟩
              rw [front, hs, Bool.not_false, cond_true, decide_eq_false h0m, cond_false]
              exact k4 k
theorem worst_l3 {N : Nat} (hN : 70000 < N) {c : Cn} (hc : c.Ok) {l : Arr r7knot} (hl : Cls c l) {f : Nat} (hf : f < 6) {out : Arr Int} (hn : out.n = 65536) (hout : ∀ r, has l r → r.W.testBit f = true → out.f (codeN r) = ((pot c r f : Nat) : Int)) : ∀ (q i n : Nat) (m a w : Int), i + q = l.n → q < n → m ≤ (worstN c f : Int) → (∀ j, j < i → ∀ P, Fl c P → P.testBit f = true → (Kn l j).W.testBit f = false → ((cand c f (Kn l j) P : Nat) : Int) ≤ m) →
    ∃ (m' a' w' : Int), m' ≤ (worstN c f : Int) ∧ (∀ r, has l r → ∀ P, Fl c P → P.testBit f = true → r.W.testBit f = false → ((cand c f r P : Nat) : Int) ≤ m') ∧ ∀ {R : Type} (k : Int → Int → Int → Option R), r7worst_l3 N n l out (f : Int) m a w (i : Int) c.car k = k m' a' w' := by
  intro q
  induction q with
  | zero =>
    intro i n m a w h1 h2 hm hP
    obtain ⟨n, rfl⟩ : ∃ m, n = m + 1 := ⟨n - 1, by omega⟩
    refine ⟨m, a, w, hm, fun r ⟨j, j1, j2⟩ => by rw [← j2]; exact hP j (by omega), fun {R} k => ?_⟩
    unfold r7worst_l3 r7worst_b3
    rw [ltF (show l.n ≤ i by omega), cond_false]
  | succ q ih =>
    intro i n m a w h1 h2 hm hP
    obtain ⟨n, rfl⟩ : ∃ m, n = m + 1 := ⟨n - 1, by omega⟩
    have hln := hl.lk.n
    have h64 : 2 ^ (c.H + 1) ≤ 64 := by have := hc.h5; exact (hi_w c.H (by omega)).2.2.1
    obtain ⟨m1, a1, w1, k1, k2, k3, k4⟩ := worst_l6 (show 2000 < N by omega) hc hl hf hn hout (show i < l.n by omega) (2 ^ (c.H + 1)) 0 N m a w (by omega) (by omega) hm (fun P hP => by omega)
    obtain ⟨m2, a2, w2, f1, f2, f3⟩ := ih (i + 1) n m1 a1 w1 (by omega) (by omega) k2 (fun j hj P hF hb hw => by
      by_cases e : j = i
      · subst e; exact k3 P hF hb hw
      · exact Int.le_trans (hP j (by omega) P hF hb hw) k1)
    refine ⟨m2, a2, w2, f1, f2, fun {R} k => ?_⟩
    unfold r7worst_l3 r7worst_b3
    rw [ltT (show i < l.n by omega), cond_true]
    refine (k4 _).trans ?_
    rw [w64_succ (show i < 1000000000000 by omega)]
    exact f3 k
def endF (c : Cn) (f : Nat) : Nat := if f - c.L ≤ c.H - f then c.H else c.L
def chkS (c : Cn) (f : Nat) (r : Rd) : Bool := !r.W.testBit f && (cand c f r (2 ^ f ||| 2 ^ endF c f) == worstN c f)
def findS (c : Cn) (f : Nat) : Nat → Rd → Bool
  | 0, r => chkS c f r
  | n + 1, r => chkS c f r || findS c f n (tickR c.M c.S r 0)
theorem findS_all0 : ((List.range 4).all fun L => (List.range 4).all fun H => (List.range 4).all fun s => (List.range 4).all fun M => (List.range 4).all fun S => (List.range 4).all fun f => !cG L H s M S f || (chkS ⟨L, H, s, M, S⟩ f (beg ⟨L, H, s, M, S⟩) || findS ⟨L, H, s, M, S⟩ f 40 (tickR M S (beg ⟨L, H, s, M, S⟩) (2 ^ f)))) = true := by decide +kernel
theorem findS_ok {c : Cn} {l : Arr r7knot} (hl : Cls c l) {f : Nat} : ∀ (n : Nat) (r : Rd), has l r → findS c f n r = true → ∃ s, has l s ∧ chkS c f s = true := by
  intro n
  induction n with
  | zero => intro r hr h; exact ⟨r, hr, h⟩
  | succ n ih =>
    intro r hr h
    unfold findS at h
    rw [Bool.or_eq_true] at h
    rcases h with h | h
    · exact ⟨r, hr, h⟩
    · exact ih _ (hl.next r hr 0 ⟨by decide, fun i hi => by simp at hi⟩) h
theorem some_worst {c : Cn} (hc : c.Ok) (hs : Sm c) {l : Arr r7knot} (hl : Rch c (beg c) l) {f : Nat} (hf : c.L ≤ f ∧ f ≤ c.H) : ∃ r, has l r ∧ ∃ P, Fl c P ∧ P.testBit f = true ∧ r.W.testBit f = false ∧ cand c f r P = worstN c f := by
  have g1 := hs.h
  have g2 := hs.q
  have := hc.ls
  have := hc.sh
  have := hc.m1
  have := hc.s1
  have h0 := findS_all0
  simp only [List.all_eq_true, List.mem_range] at h0
  have h := h0 c.L (by omega) c.H (by omega) c.s (by omega) c.M (by omega) c.S (by omega) f (by omega)
  have hg : cG c.L c.H c.s c.M c.S f = true := decide_eq_true (by omega)
  rw [hg, Bool.not_true, Bool.false_or, Bool.or_eq_true] at h
  have hF : ∀ e, c.L ≤ e → e ≤ c.H → Fl c (2 ^ e) := fun e h1 h2 => ⟨pow_lt (by omega), fun i hi => by rw [pow_bit, decide_eq_true_eq] at hi; omega⟩
  have hE : c.L ≤ endF c f ∧ endF c f ≤ c.H := by unfold endF; split <;> omega
  have key : ∃ s, has l s ∧ chkS c f s = true := by
    rcases h with h | h
    · exact ⟨_, hl.first, h⟩
    · exact findS_ok hl.cls 40 _ (hl.next _ hl.first _ (hF f hf.1 hf.2)) h
  obtain ⟨s, s1, s2⟩ := key
  unfold chkS at s2
  simp only [Bool.and_eq_true, Bool.not_eq_true', beq_iff_eq] at s2
  refine ⟨s, s1, 2 ^ f ||| 2 ^ endF c f, ⟨or_lt (hF f hf.1 hf.2).lt (hF _ hE.1 hE.2).lt, fun i hi => ?_⟩, ?_, s2.1, s2.2⟩
  · rw [Nat.testBit_or, Bool.or_eq_true, pow_bit, pow_bit, decide_eq_true_eq, decide_eq_true_eq] at hi
    omega
  · rw [Nat.testBit_or, pow_bit, decide_eq_true rfl, Bool.true_or]
theorem checkFloor_eq (N : Nat) (c : api_Car) (f : Int) {R : Type} (k : Int → Option R) : r7checkFloor N c f k = k (servesE c f) := by
  rw [r7checkFloor_def]
  unfold r7checkFloor_m servesE
  rw [refCar, from_eq]
  by_cases h : VC c
  · rw [if_pos h, if_pos h]
    by_cases h2 : c.Low ≤ f ∧ f ≤ c.High
    · rw [decide_eq_true h2, if_pos h2]; rfl
    · rw [decide_eq_false h2, if_neg h2]; rfl
  · rw [if_neg h, if_neg h]; rfl
theorem refWorst_eq {N : Nat} (hN : 70000 < N) {c : Cn} (hc : c.Ok) (hs : Sm c) {f : Nat} (hf : c.L ≤ f ∧ f ≤ c.H) {R : Type} (k : Int → Int → Option R) : r7Worst N c.car (f : Int) k = k ((worstN c f : Nat) : Int) 0 := by
  have h5 := hc.h5
  rw [r7Worst_def]
  unfold r7Worst_m
  have e0 : ((0 : Int) != 0) = false := rfl
  rw [checkFloor_eq, servesE_ok hc hf, e0, cond_false, r7Begin_def]
  obtain ⟨b, l, k1, k2⟩ := reach_eq hN hc (beg_ok hc)
  refine (k2 _).trans ?_
  obtain ⟨out, o1, o2, o3⟩ := bounds_eq hN hc k1.cls hf
  refine (o3 _).trans ?_
  rw [r7worst_def]
  unfold r7worst_m
  obtain ⟨m, a, w, w1, w2, w3⟩ := worst_l3 hN hc k1.cls (show f < 6 by omega) o1 o2 l.n 0 N (-1) 0 0 (by omega) (by have := k1.lk.n; omega) (by omega) (fun j hj => by omega)
  refine (w3 _).trans ?_
  obtain ⟨r, r1, P, p1, p2, p3, p4⟩ := some_worst hc hs k1 hf
  have := w2 r r1 P p1 p2 p3
  rw [p4] at this
  rw [show m = ((worstN c f : Nat) : Int) by omega]
end
end Go.Proofs.Ytlphgonhenegoaa
