/-
  Several texts in one.
-/
import Derived.Test.YtlphgonhenegoaaQ5
set_option linter.unusedVariables false
set_option linter.unusedSimpArgs false
set_option maxHeartbeats 0
set_option maxRecDepth 100000
namespace Go.Proofs.Ytlphgonhenegoaa
open Go.Sx
section
def maskB (L H W : Nat) : Bool := (List.range 6).all fun i => !W.testBit i || (decide (L ≤ i) && decide (i ≤ H))
theorem maskB_iff {L H W : Nat} (hW : W < 64) : maskB L H W = true ↔ ∀ i, W.testBit i = true → L ≤ i ∧ i ≤ H := by
  unfold maskB
  simp only [List.all_eq_true, List.mem_range, Bool.or_eq_true, Bool.not_eq_true', Bool.and_eq_true, decide_eq_true_eq]
  constructor
  · intro h i hi
    rcases h i (bit_lt hW hi) with g | g
    · rw [hi] at g; cases g
    · exact g
  · intro h i hi
    cases hb : W.testBit i with
    | false => exact .inl rfl
    | true => exact .inr (h i hb)
def RightI (c : Cn) (x : api_Ride) : Prop := (((c.L : Nat) : Int) ≤ x.Floor ∧ x.Floor ≤ ((c.H : Nat) : Int)) ∧ (0 ≤ x.Wants ∧ x.Wants < 64 ∧ maskB c.L c.H x.Wants.toNat = true) ∧
  ((x.Doing = 0 ∧ x.Left = 0 ∧ x.Wants = 0) ∨ (x.Doing = 1 ∧ (1 ≤ x.Left ∧ x.Left ≤ ((c.M : Nat) : Int)) ∧ side x.Up x.Floor.toNat x.Wants.toNat = true) ∨ (x.Doing = 2 ∧ (1 ≤ x.Left ∧ x.Left ≤ ((c.S : Nat) : Int)) ∧ x.Stood = true ∧ x.Wants.toNat.testBit x.Floor.toNat = false))
theorem RightI.ok {c : Cn} {x : api_Ride} (h : RightI c x) : ∃ r : Rd, x = r.ride ∧ Ok c r := by
  obtain ⟨fl, up, sd, dg, lf, w⟩ := x
  obtain ⟨⟨h1, h2⟩, ⟨h3, h4, h5⟩, h6⟩ := h
  simp only at h1 h2 h3 h4 h5 h6
  refine ⟨⟨fl.toNat, up, sd, dg.toNat, lf.toNat, w.toNat⟩, ?_, ⟨by simp only; omega, (by show w.toNat < 64; omega), (maskB_iff (W := w.toNat) (by omega)).1 h5, ?_, ?_, ?_, ?_⟩⟩
  · simp only [Rd.ride, api_Ride.mk.injEq]
    rcases h6 with ⟨a, b, d⟩ | ⟨a, b, d⟩ | ⟨a, b, d⟩ <;> refine ⟨?_, trivial, trivial, ?_, ?_, ?_⟩ <;> omega
  · rcases h6 with ⟨a, b, d⟩ | ⟨a, b, d⟩ | ⟨a, b, d⟩ <;> simp only <;> omega
  · intro e
    simp only at e ⊢
    rcases h6 with ⟨a, b, d⟩ | ⟨a, b, d⟩ | ⟨a, b, d⟩ <;> omega
  · intro e
    simp only at e ⊢
    rcases h6 with ⟨a, b, d⟩ | ⟨a, b, d⟩ | ⟨a, b, d⟩
    · omega
    · exact ⟨by omega, d⟩
    · omega
  · intro e
    simp only at e ⊢
    rcases h6 with ⟨a, b, d⟩ | ⟨a, b, d⟩ | ⟨a, b, d⟩
    · omega
    · omega
    · exact ⟨by omega, d.1, d.2⟩
theorem Ok.right {c : Cn} {r : Rd} (h : Ok c r) : RightI c r.ride := by
  refine ⟨by have := h.f; simp only [Rd.ride]; omega, ⟨by simp only [Rd.ride]; omega, by have := h.w6; simp only [Rd.ride]; omega, (maskB_iff (by have := h.w6; simpa [Rd.ride] using this)).2 (by simpa [Rd.ride] using h.w)⟩, ?_⟩
  have hd := h.d
  rcases (show r.doing = 0 ∨ r.doing = 1 ∨ r.doing = 2 by omega) with e | e | e
  · have := h.d0 e
    exact .inl (by simp only [Rd.ride]; omega)
  · obtain ⟨a, b⟩ := h.d1 e
    exact .inr (.inl ⟨by simp only [Rd.ride]; omega, by simp only [Rd.ride]; omega, b⟩)
  · obtain ⟨a, b, d⟩ := h.d2 e
    exact .inr (.inr ⟨by simp only [Rd.ride]; omega, by simp only [Rd.ride]; omega, b, d⟩)
theorem Ok.mid {c : Cn} {r : Rd} (h : Ok c r) : Mid c r := ⟨h.f, h.w6, h.w, h.d, fun e => (h.d0 e).1, h.d1, h.d2⟩
theorem hi_w : ∀ H : Nat, H < 6 → decide (IntKind.wrap IntKind.u64 (w64 ((H : Int) + (1 : Int))) < (0 : Int)) = false ∧ w64 ((1 : Int) * (2 : Int) ^ min (Int.toNat (IntKind.wrap IntKind.u64 (w64 ((H : Int) + (1 : Int))))) (IntKind.bits IntKind.i64)) = ((2 ^ (H + 1) : Nat) : Int) ∧ 2 ^ (H + 1) ≤ 64 ∧ decide (w64 ((H : Int) + (1 : Int)) < 0) = false := by decide +kernel
theorem lo_w : ∀ L : Nat, L < 6 → decide (IntKind.wrap IntKind.u64 (L : Int) < (0 : Int)) = false := by decide +kernel
theorem mask_w : ∀ L : Nat, L < 6 → ∀ H : Nat, H < 6 → ∀ W : Nat, W < 64 → (W < 2 ^ (H + 1) → (w64 (↑(BitVec.toNat (BitVec.ofInt (IntKind.bits IntKind.i64) (W : Int) &&& BitVec.ofInt (IntKind.bits IntKind.i64) (w64 (w64 ((1 : Int) * (2 : Int) ^ min (Int.toNat (IntKind.wrap IntKind.u64 (L : Int))) (IntKind.bits IntKind.i64)) - (1 : Int))))) : Int) != (0 : Int)) = !maskB L H W) ∧ (¬ W < 2 ^ (H + 1) → maskB L H W = false) := by decide +kernel
theorem mask_p : ∀ L : Nat, L < 6 → ∀ H : Nat, H < 6 → (L ≤ H → w64 (w64 ((1 : Int) * (2 : Int) ^ min (Int.toNat (w64 ((H : Int) + (1 : Int)))) (IntKind.bits IntKind.i64)) - w64 ((1 : Int) * (2 : Int) ^ min (Int.toNat (L : Int)) (IntKind.bits IntKind.i64))) = ((2 ^ (H + 1) - 2 ^ L : Nat) : Int) ∧ 2 ^ (H + 1) - 2 ^ L < 64) := by decide +kernel
theorem mask_q : ∀ L : Nat, L < 6 → ∀ H : Nat, H < 6 → (L ≤ H → ∀ W : Nat, W < 64 → (w64 (↑(BitVec.toNat (BitVec.ofInt (IntKind.bits IntKind.i64) (W : Int) &&& ~~~BitVec.ofInt (IntKind.bits IntKind.i64) ((2 ^ (H + 1) - 2 ^ L : Nat) : Int))) : Int) != (0 : Int)) = !maskB L H W) := by decide +kernel
theorem bit0 : ∀ f : Nat, f < 6 → ∀ W : Nat, W < 64 → (w64 (↑(BitVec.toNat (BitVec.ofInt (IntKind.bits IntKind.i64) (Int.fdiv (W : Int) ((2 : Int) ^ min (Int.toNat (f : Int)) (IntKind.bits IntKind.i64))) &&& BitVec.ofInt (IntKind.bits IntKind.i64) (1 : Int))) : Int) == (0 : Int)) = !W.testBit f := by decide +kernel
theorem andc_zero {w : Int} (hw : i64 w) {m : Nat} (hm : m < 64) (h : (w64 (↑(BitVec.toNat (BitVec.ofInt (IntKind.bits IntKind.i64) w &&& ~~~BitVec.ofInt (IntKind.bits IntKind.i64) (m : Int))) : Int) != (0 : Int)) = false) : 0 ≤ w ∧ w < 64 := by
  have h1 : ∀ v : Nat, v < 2 ^ 64 → w64 (v : Int) = 0 → v = 0 := fun v hv h => by
    by_cases hh : v < 2 ^ 63
    · rw [w64_eq (by omega) (by omega)] at h; omega
    · have : w64 (v : Int) = (v : Int) - 2 ^ 64 := by
        unfold w64 Go.IntKind.wrap
        simp [IntKind.signed, IntKind.bits]
        omega
      rw [this] at h
      omega
  have h2 : (BitVec.ofInt 64 w &&& ~~~BitVec.ofInt 64 (m : Int)).toNat = 0 := by
    refine h1 _ (BitVec.isLt _) ?_
    exact bne_eq_false_iff_eq.1 h
  have h3 : BitVec.ofInt 64 w &&& ~~~BitVec.ofInt 64 (m : Int) = 0#64 := BitVec.eq_of_toNat_eq (by rw [h2]; rfl)
  have h4 : BitVec.ofInt 64 w = BitVec.ofInt 64 w &&& BitVec.ofInt 64 (m : Int) := by
    refine BitVec.eq_of_getLsbD_eq fun i hi => ?_
    have := congrArg (fun b => BitVec.getLsbD b i) h3
    simp only [BitVec.getLsbD_and, BitVec.getLsbD_not, hi, decide_true, Bool.true_and, BitVec.getLsbD_zero] at this
    rw [BitVec.getLsbD_and]
    revert this
    cases BitVec.getLsbD (BitVec.ofInt 64 w) i <;> cases BitVec.getLsbD (BitVec.ofInt 64 (m : Int)) i <;> simp
  have h5 : (BitVec.ofInt 64 w).toNat ≤ m := by
    rw [h4, BitVec.toNat_and]
    refine Nat.le_trans Nat.and_le_right ?_
    rw [BitVec.toNat_ofInt]
    omega
  rw [BitVec.toNat_ofInt] at h5
  obtain ⟨a, b⟩ := hw
  omega
open Classical in
theorem refRight {N : Nat} (hN : 7 ≤ N) {c : Cn} (hc : c.Ok) (x : api_Ride) {R : Type} (k : Bool → Option R) : newelref07_Right N c.car x k = k (decide (RightI c x)) := by
  have h5 := hc.h5
  have hLH : c.L ≤ c.H := Nat.le_trans hc.ls hc.sh
  obtain ⟨fl, up, sd, dg, lf, w⟩ := x
  have no : ∀ h : ¬ RightI c ⟨fl, up, sd, dg, lf, w⟩, k false = k (decide (RightI c ⟨fl, up, sd, dg, lf, w⟩)) := fun h => by rw [decide_eq_false h]
  have yes : ∀ h : RightI c ⟨fl, up, sd, dg, lf, w⟩, k true = k (decide (RightI c ⟨fl, up, sd, dg, lf, w⟩)) := fun h => by rw [decide_eq_true h]
  rw [newelref07_Right_def]
  unfold newelref07_Right_m
  rw [from_eq]
  obtain ⟨g1, g2, g3, _⟩ := hi_w c.H (by omega)
  have g1' : decide (IntKind.wrap IntKind.u64 (w64 (api_Car.High c.car + (1 : Int))) < (0 : Int)) = false := g1
  have g2' : w64 ((1 : Int) * (2 : Int) ^ min (Int.toNat (IntKind.wrap IntKind.u64 (w64 (api_Car.High c.car + (1 : Int))))) (IntKind.bits IntKind.i64)) = ((2 ^ (c.H + 1) : Nat) : Int) := g2
  have g4' : decide (IntKind.wrap IntKind.u64 (api_Car.Low c.car) < (0 : Int)) = false := lo_w c.L (by omega)
  by_cases a1 : ((c.L : Nat) : Int) ≤ fl ∧ fl ≤ ((c.H : Nat) : Int)
  rotate_left
  · rw [decide_eq_false (show ¬ (api_Car.Low c.car ≤ fl ∧ fl ≤ api_Car.High c.car) from a1), Bool.not_false, cond_true]
    exact no fun h => a1 h.1
  rw [decide_eq_true (show (api_Car.Low c.car ≤ fl ∧ fl ≤ api_Car.High c.car) from a1), Bool.not_true, cond_false]
  show (bif decide (w < 0) then _ else _) = _
  by_cases a2 : w < 0
  · rw [decide_eq_true a2, cond_true]
    exact no fun h => by have := h.2.1.1; simp only at this; omega
  rw [decide_eq_false a2, cond_false, g1', cond_false]
  show (bif decide (w ≥ w64 ((1 : Int) * (2 : Int) ^ min (Int.toNat (IntKind.wrap IntKind.u64 (w64 (api_Car.High c.car + (1 : Int))))) (IntKind.bits IntKind.i64))) then _ else _) = _
  rw [g2']
  obtain ⟨W, rfl⟩ : ∃ W : Nat, w = (W : Int) := ⟨w.toNat, by omega⟩
  obtain ⟨F, rfl⟩ : ∃ F : Nat, fl = (F : Int) := ⟨fl.toNat, by omega⟩
  by_cases a3 : (W : Int) ≥ ((2 ^ (c.H + 1) : Nat) : Int)
  · rw [decide_eq_true a3, cond_true]
    refine no fun h => ?_
    have := h.2.1.2
    simp only [Int.toNat_natCast] at this
    have := (mask_w c.L (by omega) c.H (by omega) W (by omega)).2 (by omega)
    simp_all
  rw [decide_eq_false a3, cond_false, g4', cond_false]
  have hW : W < 64 := by omega
  have hm := (mask_w c.L (by omega) c.H (by omega) W hW).1 (by omega)
  have hm' : (w64 (↑(BitVec.toNat (BitVec.ofInt (IntKind.bits IntKind.i64) (W : Int) &&& BitVec.ofInt (IntKind.bits IntKind.i64) (w64 (w64 ((1 : Int) * (2 : Int) ^ min (Int.toNat (IntKind.wrap IntKind.u64 (api_Car.Low c.car))) (IntKind.bits IntKind.i64)) - (1 : Int))))) : Int) != (0 : Int)) = !maskB c.L c.H W := hm
  show (bif (w64 (↑(BitVec.toNat (BitVec.ofInt (IntKind.bits IntKind.i64) (W : Int) &&& BitVec.ofInt (IntKind.bits IntKind.i64) (w64 (w64 ((1 : Int) * (2 : Int) ^ min (Int.toNat (IntKind.wrap IntKind.u64 (api_Car.Low c.car))) (IntKind.bits IntKind.i64)) - (1 : Int))))) : Int) != (0 : Int)) then _ else _) = _
  rw [hm']
  cases a4 : maskB c.L c.H W with
  | false =>
    rw [Bool.not_false, cond_true]
    exact no fun h => by have := h.2.1.2.2; simp only [Int.toNat_natCast] at this; rw [a4] at this; cases this
  | true =>
    rw [Bool.not_true, cond_false]
    have base : (((c.L : Nat) : Int) ≤ (F : Int) ∧ (F : Int) ≤ ((c.H : Nat) : Int)) ∧ (0 ≤ (W : Int) ∧ (W : Int) < 64 ∧ maskB c.L c.H (W : Int).toNat = true) := ⟨a1, by omega, by omega, by simpa using a4⟩
    show (bif dg == 0 then _ else _) = _
    by_cases d0 : dg = 0
    · subst d0
      rw [BEq.rfl, cond_true]
      show (bif lf == 0 then k ((W : Int) == 0) else _) = _
      by_cases l0 : lf = 0
      · subst l0
        rw [BEq.rfl, cond_true]
        by_cases w0 : (W : Int) = 0
        · have w0' : W = 0 := by omega
          subst w0'
          exact yes ⟨base.1, base.2, .inl ⟨rfl, rfl, rfl⟩⟩
        · rw [show ((W : Int) == 0) = false by simpa using w0]
          refine no fun h => ?_
          rcases h.2.2 with ⟨_, _, e⟩ | ⟨e, _⟩ | ⟨e, _⟩
          · exact w0 e
          · cases e
          · cases e
      · rw [show (lf == 0) = false by simpa using l0, cond_false]
        refine no fun h => ?_
        rcases h.2.2 with ⟨_, e, _⟩ | ⟨e, _⟩ | ⟨e, _⟩
        · exact l0 e
        · cases e
        · cases e
    rw [show (dg == 0) = false by simpa using d0, cond_false]
    show (bif dg == 1 then _ else _) = _
    by_cases d1 : dg = 1
    · subst d1
      rw [BEq.rfl, cond_true, from_eq]
      by_cases l1 : 1 ≤ lf ∧ lf ≤ ((c.M : Nat) : Int)
      · rw [decide_eq_true (show (1 : Int) ≤ lf ∧ lf ≤ api_Car.Move c.car from l1), cond_true]
        obtain ⟨q, rfl⟩ : ∃ q : Nat, lf = (q : Int) := ⟨lf.toNat, by omega⟩
        refine (refAhead hN (r := ⟨F, up, sd, 1, q, W⟩) hW k).trans ?_
        cases hs : side up F W with
        | true => exact yes ⟨base.1, base.2, .inr (.inl ⟨rfl, l1, hs⟩)⟩
        | false =>
          refine no fun h => ?_
          rcases h.2.2 with ⟨e, _⟩ | ⟨_, _, e⟩ | ⟨e, _⟩
          · cases e
          · simp only [Int.toNat_natCast] at e; rw [hs] at e; cases e
          · cases e
      · rw [decide_eq_false (show ¬ ((1 : Int) ≤ lf ∧ lf ≤ api_Car.Move c.car) from l1), cond_false]
        refine no fun h => ?_
        rcases h.2.2 with ⟨e, _⟩ | ⟨_, e, _⟩ | ⟨e, _⟩
        · cases e
        · exact l1 e
        · cases e
    rw [show (dg == 1) = false by simpa using d1, cond_false]
    show (bif dg == 2 then _ else _) = _
    by_cases d2 : dg = 2
    · subst d2
      rw [BEq.rfl, cond_true, from_eq]
      by_cases l1 : 1 ≤ lf ∧ lf ≤ ((c.S : Nat) : Int)
      · rw [decide_eq_true (show (1 : Int) ≤ lf ∧ lf ≤ api_Car.Stop c.car from l1), cond_true]
        obtain ⟨q, rfl⟩ : ∃ q : Nat, lf = (q : Int) := ⟨lf.toNat, by omega⟩
        cases sd with
        | false =>
          rw [cond_false]
          refine no fun h => ?_
          rcases h.2.2 with ⟨e, _⟩ | ⟨e, _⟩ | ⟨_, _, e, _⟩ <;> cases e
        | true =>
          rw [cond_true]
          refine (wanted_eq N (r := ⟨F, up, true, 2, q, W⟩) hW (f := F) (by omega) (fun r332 => k (!r332))).trans ?_
          show k (!W.testBit F) = _
          cases hs : W.testBit F with
          | false => exact yes ⟨base.1, base.2, .inr (.inr ⟨rfl, l1, rfl, hs⟩)⟩
          | true =>
            refine no fun h => ?_
            rcases h.2.2 with ⟨e, _⟩ | ⟨e, _⟩ | ⟨_, _, _, e⟩
            · cases e
            · cases e
            · simp only [Int.toNat_natCast] at e; rw [hs] at e; cases e
      · rw [decide_eq_false (show ¬ ((1 : Int) ≤ lf ∧ lf ≤ api_Car.Stop c.car) from l1), cond_false]
        refine no fun h => ?_
        rcases h.2.2 with ⟨e, _⟩ | ⟨e, _⟩ | ⟨_, e, _⟩
        · cases e
        · cases e
        · exact l1 e
    rw [show (dg == 2) = false by simpa using d2, cond_false]
    refine no fun h => ?_
    rcases h.2.2 with ⟨e, _⟩ | ⟨e, _⟩ | ⟨e, _⟩
    · exact d0 e
    · exact d1 e
    · exact d2 e
end
end Go.Proofs.Ytlphgonhenegoaa
set_option linter.unusedVariables false
set_option linter.unusedSimpArgs false
set_option maxHeartbeats 0
set_option maxRecDepth 100000
namespace Go.Proofs.Ytlphgonhenegoaa
open Go.Sx
section
theorem side_p : ∀ F : Nat, F < 6 → ∀ W : Nat, W < 64 → ∀ u : Bool, (w64 (↑(BitVec.toNat (BitVec.ofInt (IntKind.bits IntKind.i64) (W : Int) &&& BitVec.ofInt (IntKind.bits IntKind.i64) (bif u then -((2 ^ (F + 1) : Nat) : Int) else ((2 ^ F - 1 : Nat) : Int)))) : Int) != (0 : Int)) = side u F W := by decide +kernel
open Classical in
theorem right_eq (N : Nat) {c : Cn} (hc : c.Ok) (x : api_Ride) (hx : x.wf) {R : Type} (k : Bool → Option R) : calls_right N c.car x k = k (decide (RightI c x)) := by
  have h5 := hc.h5
  have hLH : c.L ≤ c.H := Nat.le_trans hc.ls hc.sh
  have hw : i64 x.Wants := hx.2.2.2.2.2
  obtain ⟨fl, up, sd, dg, lf, w⟩ := x
  have no : ∀ h : ¬ RightI c ⟨fl, up, sd, dg, lf, w⟩, k false = k (decide (RightI c ⟨fl, up, sd, dg, lf, w⟩)) := fun h => by rw [decide_eq_false h]
  have yes : ∀ h : RightI c ⟨fl, up, sd, dg, lf, w⟩, k true = k (decide (RightI c ⟨fl, up, sd, dg, lf, w⟩)) := fun h => by rw [decide_eq_true h]
  rw [calls_right_def]
  unfold calls_right_m
  obtain ⟨_, _, _, g1⟩ := hi_w c.H (by omega)
  obtain ⟨g2, g3⟩ := mask_p c.L (by omega) c.H (by omega) hLH
  have g1' : decide (w64 (api_Car.High c.car + (1 : Int)) < (0 : Int)) = false := g1
  have g4' : decide (api_Car.Low c.car < (0 : Int)) = false := natF c.L
  have g2' : w64 (w64 ((1 : Int) * (2 : Int) ^ min (Int.toNat (w64 (api_Car.High c.car + (1 : Int)))) (IntKind.bits IntKind.i64)) - w64 ((1 : Int) * (2 : Int) ^ min (Int.toNat (api_Car.Low c.car)) (IntKind.bits IntKind.i64))) = ((2 ^ (c.H + 1) - 2 ^ c.L : Nat) : Int) := g2
  rw [g1', cond_false, g4', cond_false, in_eq, g2']
  by_cases a1 : ((c.L : Nat) : Int) ≤ fl ∧ fl ≤ ((c.H : Nat) : Int)
  rotate_left
  · rw [decide_eq_false (show ¬ (api_Car.Low c.car ≤ fl ∧ fl ≤ api_Car.High c.car) from a1), Bool.not_false, cond_true]
    exact no fun h => a1 h.1
  rw [decide_eq_true (show (api_Car.Low c.car ≤ fl ∧ fl ≤ api_Car.High c.car) from a1), Bool.not_true, cond_false]
  show (bif (w64 (↑(BitVec.toNat (BitVec.ofInt (IntKind.bits IntKind.i64) w &&& ~~~BitVec.ofInt (IntKind.bits IntKind.i64) ((2 ^ (c.H + 1) - 2 ^ c.L : Nat) : Int))) : Int) != (0 : Int)) then _ else _) = _
  by_cases a2 : 0 ≤ w ∧ w < 64
  rotate_left
  · have : (w64 (↑(BitVec.toNat (BitVec.ofInt (IntKind.bits IntKind.i64) w &&& ~~~BitVec.ofInt (IntKind.bits IntKind.i64) ((2 ^ (c.H + 1) - 2 ^ c.L : Nat) : Int))) : Int) != (0 : Int)) = true := by
      cases h : (w64 (↑(BitVec.toNat (BitVec.ofInt (IntKind.bits IntKind.i64) w &&& ~~~BitVec.ofInt (IntKind.bits IntKind.i64) ((2 ^ (c.H + 1) - 2 ^ c.L : Nat) : Int))) : Int) != (0 : Int)) with
      | true => rfl
      | false => exact absurd (andc_zero hw g3 h) a2
    rw [this, cond_true]
    exact no fun h => a2 ⟨h.2.1.1, h.2.1.2.1⟩
  obtain ⟨W, rfl⟩ : ∃ W : Nat, w = (W : Int) := ⟨w.toNat, by omega⟩
  obtain ⟨F, rfl⟩ : ∃ F : Nat, fl = (F : Int) := ⟨fl.toNat, by omega⟩
  have hW : W < 64 := by omega
  rw [mask_q c.L (by omega) c.H (by omega) hLH W hW]
  cases a4 : maskB c.L c.H W with
  | false =>
    rw [Bool.not_false, cond_true]
    exact no fun h => by have := h.2.1.2.2; simp only [Int.toNat_natCast] at this; rw [a4] at this; cases this
  | true =>
    rw [Bool.not_true, cond_false]
    have base : (((c.L : Nat) : Int) ≤ (F : Int) ∧ (F : Int) ≤ ((c.H : Nat) : Int)) ∧ (0 ≤ (W : Int) ∧ (W : Int) < 64 ∧ maskB c.L c.H (W : Int).toNat = true) := ⟨a1, by omega, by omega, by simpa using a4⟩
    show (bif dg == 0 then _ else _) = _
    by_cases d0 : dg = 0
    · subst d0
      rw [BEq.rfl, cond_true]
      show (bif lf == 0 then k ((W : Int) == 0) else _) = _
      by_cases l0 : lf = 0
      · subst l0
        rw [BEq.rfl, cond_true]
        by_cases w0 : (W : Int) = 0
        · have w0' : W = 0 := by omega
          subst w0'
          exact yes ⟨base.1, base.2, .inl ⟨rfl, rfl, rfl⟩⟩
        · rw [show ((W : Int) == 0) = false by simpa using w0]
          refine no fun h => ?_
          rcases h.2.2 with ⟨_, _, e⟩ | ⟨e, _⟩ | ⟨e, _⟩
          · exact w0 e
          · cases e
          · cases e
      · rw [show (lf == 0) = false by simpa using l0, cond_false]
        refine no fun h => ?_
        rcases h.2.2 with ⟨_, e, _⟩ | ⟨e, _⟩ | ⟨e, _⟩
        · exact l0 e
        · cases e
        · cases e
    rw [show (dg == 0) = false by simpa using d0, cond_false]
    show (bif dg == 1 then _ else _) = _
    by_cases d1 : dg = 1
    · subst d1
      rw [BEq.rfl, cond_true, in_eq]
      by_cases l1 : 1 ≤ lf ∧ lf ≤ ((c.M : Nat) : Int)
      · rw [decide_eq_true (show (1 : Int) ≤ lf ∧ lf ≤ api_Car.Move c.car from l1), cond_true]
        obtain ⟨q, rfl⟩ : ∃ q : Nat, lf = (q : Int) := ⟨lf.toNat, by omega⟩
        have key : ∀ kk : Int → Option R, calls_cage_ahead N ⟨c.car, ⟨F, up, sd, 1, q, W⟩⟩ kk = kk (bif up then -((2 ^ (F + 1) : Nat) : Int) else ((2 ^ F - 1 : Nat) : Int)) := fun kk => by
          have hf : F < 6 := by omega
          rw [calls_cage_ahead_def]
          unfold calls_cage_ahead_m
          show (bif decide ((F : Int) < 0) then _ else _) = _
          rw [natF]
          simp only [cond_false]
          simp only [shl_eq (show F < 60 by omega)]
          cases up with
          | true => simp only [cond_true, up_w F hf]
          | false => simp only [cond_false, dn_w F hf]
        refine (key _).trans ?_
        show k (w64 (↑(BitVec.toNat (BitVec.ofInt (IntKind.bits IntKind.i64) (W : Int) &&& BitVec.ofInt (IntKind.bits IntKind.i64) (bif up then -((2 ^ (F + 1) : Nat) : Int) else ((2 ^ F - 1 : Nat) : Int)))) : Int) != (0 : Int)) = _
        rw [side_p F (by omega) W hW]
        cases hs : side up F W with
        | true => exact yes ⟨base.1, base.2, .inr (.inl ⟨rfl, l1, hs⟩)⟩
        | false =>
          refine no fun h => ?_
          rcases h.2.2 with ⟨e, _⟩ | ⟨_, _, e⟩ | ⟨e, _⟩
          · cases e
          · simp only [Int.toNat_natCast] at e; rw [hs] at e; cases e
          · cases e
      · rw [decide_eq_false (show ¬ ((1 : Int) ≤ lf ∧ lf ≤ api_Car.Move c.car) from l1), cond_false]
        refine no fun h => ?_
        rcases h.2.2 with ⟨e, _⟩ | ⟨_, e, _⟩ | ⟨e, _⟩
        · cases e
        · exact l1 e
        · cases e
    rw [show (dg == 1) = false by simpa using d1, cond_false]
    show (bif dg == 2 then _ else _) = _
    by_cases d2 : dg = 2
    · subst d2
      rw [BEq.rfl, cond_true, in_eq]
      by_cases l1 : 1 ≤ lf ∧ lf ≤ ((c.S : Nat) : Int)
      · rw [decide_eq_true (show (1 : Int) ≤ lf ∧ lf ≤ api_Car.Stop c.car from l1), cond_true]
        cases sd with
        | false =>
          rw [cond_false]
          refine no fun h => ?_
          rcases h.2.2 with ⟨e, _⟩ | ⟨e, _⟩ | ⟨_, _, e, _⟩ <;> cases e
        | true =>
          rw [cond_true]
          show (bif decide ((F : Int) < 0) then _ else k (w64 (↑(BitVec.toNat (BitVec.ofInt (IntKind.bits IntKind.i64) (Int.fdiv (W : Int) ((2 : Int) ^ min (Int.toNat (F : Int)) (IntKind.bits IntKind.i64))) &&& BitVec.ofInt (IntKind.bits IntKind.i64) (1 : Int))) : Int) == (0 : Int))) = _
          rw [natF, cond_false, bit0 F (by omega) W hW]
          cases hs : W.testBit F with
          | false => exact yes ⟨base.1, base.2, .inr (.inr ⟨rfl, l1, rfl, hs⟩)⟩
          | true =>
            refine no fun h => ?_
            rcases h.2.2 with ⟨e, _⟩ | ⟨e, _⟩ | ⟨_, _, _, e⟩
            · cases e
            · cases e
            · simp only [Int.toNat_natCast] at e; rw [hs] at e; cases e
      · rw [decide_eq_false (show ¬ ((1 : Int) ≤ lf ∧ lf ≤ api_Car.Stop c.car) from l1), cond_false]
        refine no fun h => ?_
        rcases h.2.2 with ⟨e, _⟩ | ⟨e, _⟩ | ⟨_, e, _⟩
        · cases e
        · cases e
        · exact l1 e
    rw [show (dg == 2) = false by simpa using d2, cond_false]
    refine no fun h => ?_
    rcases h.2.2 with ⟨e, _⟩ | ⟨e, _⟩ | ⟨e, _⟩
    · exact d0 e
    · exact d1 e
    · exact d2 e
theorem bound_l8 (N : Nat) {c : Cn} (hc : c.Ok) (f : Int) (x : api_Ride) : ∀ (q i n : Nat) (b : Bool) (a : Arr Int), i + q = c.H + 1 → q < n → c.L ≤ i → a.Is (i - c.L) (fun j => ((c.L + j : Nat) : Int)) →
    ∃ (b' : Bool) (a' : Arr Int), a'.Is (c.H + 1 - c.L) (fun j => ((c.L + j : Nat) : Int)) ∧ ∀ {R : Type} (k : Bool → Arr Int → Option R), calls_Bound_l8 N n f (i : Int) c.car x b a k = k b' a' := by
  have h5 := hc.h5
  intro q
  induction q with
  | zero =>
    intro i n b a h1 h2 hL h3
    obtain ⟨n, rfl⟩ : ∃ m, n = m + 1 := ⟨n - 1, by omega⟩
    have : i = c.H + 1 := by omega
    subst this
    refine ⟨b, a, h3, fun {R} k => ?_⟩
    unfold calls_Bound_l8 calls_Bound_b8
    have e : decide (((c.H + 1 : Nat) : Int) ≤ api_Car.High c.car) = false := decide_eq_false (by show ¬ _ ≤ ((c.H : Nat) : Int); omega)
    rw [e, cond_false]
  | succ q ih =>
    intro i n b a h1 h2 hL h3
    obtain ⟨n, rfl⟩ : ∃ m, n = m + 1 := ⟨n - 1, by omega⟩
    have hpush := Arr.Is.push_int h3 (z := [SV.int IntKind.i64 (0 : Int)]) (v := (i : Int)) (by show (i : Int) = ((c.L + (i - c.L) : Nat) : Int); omega)
    rw [show i - c.L + 1 = i + 1 - c.L by omega] at hpush
    obtain ⟨b', a', g1, g2⟩ := ih (i + 1) n false _ (by omega) (by omega) (by omega) hpush
    refine ⟨b', a', g1, fun {R} k => ?_⟩
    unfold calls_Bound_l8 calls_Bound_b8
    have e : decide ((i : Int) ≤ api_Car.High c.car) = true := decide_eq_true (by show _ ≤ ((c.H : Nat) : Int); omega)
    have er : room (a.n + 1) = true := room_of (by rw [h3.1]; omega)
    rw [e, cond_true, er, cond_true, w64_succ (show i < 1000000000000 by omega)]
    exact g2 k
theorem setA_bit {a : Arr Int} {n f : Nat} (h : ∀ i, i < n → 0 ≤ a.f i) : (setA a n).testBit f = true ↔ ∃ i, i < n ∧ a.f i = (f : Int) := by
  induction n with
  | zero => simp [setA]
  | succ n ih =>
    simp only [setA, Nat.testBit_or, Bool.or_eq_true, ih fun i hi => h i (by omega), pow_bit, decide_eq_true_eq]
    have hn := h n (by omega)
    constructor
    · rintro (⟨i, h1, h2⟩ | h1)
      · exact ⟨i, by omega, h2⟩
      · exact ⟨n, by omega, by omega⟩
    · rintro ⟨i, h1, h2⟩
      by_cases e : i = n
      · subst e; exact .inr (by omega)
      · exact .inl ⟨i, by omega, h2⟩
open Classical in
theorem bound_eq {N : Nat} (hN : 2000 < N) {c : Cn} (hc : c.Ok) {r : Rd} (h : Ok c r) {f : Nat} (hw : r.W.testBit f = true) {R : Type} (k : Int → Int → Option R) : calls_Bound N c.car r.ride (f : Int) k = k ((pot c r f : Nat) : Int) 0 := by
  have h5 := hc.h5
  have hLH : c.L ≤ c.H := Nat.le_trans hc.ls hc.sh
  have hf := h.w f hw
  have hwf : r.ride.wf := by
    have h1 := h.f
    have h2 := h.d
    have h3 := h.w6
    have hl : r.left ≤ 4 := by
      have m3 := hc.m3
      have s4 := hc.s4
      rcases (show r.doing = 0 ∨ r.doing = 1 ∨ r.doing = 2 by omega) with e | e | e
      · have := (h.d0 e).1; omega
      · have := (h.d1 e).1; omega
      · have := (h.d2 e).1; omega
    refine ⟨?_, trivial, trivial, ?_, ?_, ?_⟩ <;> simp only [Rd.ride] <;> constructor <;> omega
  rw [calls_Bound_def]
  unfold calls_Bound_m
  rw [serves_eq, servesE_ok hc hf, right_eq N hc _ hwf, decide_eq_true h.right]
  show (bif decide ((f : Int) < 0) then none else bif w64 (↑(BitVec.toNat (BitVec.ofInt (IntKind.bits IntKind.i64) (Int.fdiv (r.W : Int) ((2 : Int) ^ min (Int.toNat (f : Int)) (IntKind.bits IntKind.i64))) &&& BitVec.ofInt (IntKind.bits IntKind.i64) (1 : Int))) : Int) == (0 : Int) then _ else _) = _
  rw [natF, cond_false, bit0 f (by omega) r.W h.w6, hw, Bool.not_true, cond_false]
  obtain ⟨b, a, g1, g2⟩ := bound_l8 N hc (f : Int) r.ride (c.H + 1 - c.L) c.L N true (lst intC (0 : Nat) (zeroC [SV.int IntKind.i64 (0 : Int)])) (by omega) (by omega) (Nat.le_refl _) (by rw [Nat.sub_self]; exact .zero)
  refine (g2 _).trans ?_
  have ha : ∀ i, i < a.n → 0 ≤ a.f i ∧ (c.L : Int) ≤ a.f i ∧ a.f i ≤ (c.H : Int) := fun i hi => by
    rw [g1.1] at hi
    rw [g1.2 i hi]
    omega
  have hall : All c (setA a a.n) := by
    refine ⟨⟨set_lt fun i hi => by have := ha i hi; omega, fun i hi => ?_⟩, fun i h1 h2 => ?_⟩
    · obtain ⟨j, e1, e2⟩ := (setA_bit (fun i hi => (ha i hi).1)).1 hi
      have := ha j e1
      omega
    · refine (setA_bit (fun i hi => (ha i hi).1)).2 ⟨i - c.L, by rw [g1.1]; omega, ?_⟩
      rw [g1.2 _ (by omega)]
      omega
  have key : ∀ (q t : Nat) (r : Rd) (n : Nat), Ok c r → r.W.testBit f = true → pot c r f ≤ q → q < n → t < 1000 → q + t < 1000 → calls_Bound_l14 N n (f : Int) ((t : Nat) : Int) b a ⟨c.car, r.ride⟩ (fun r431 r432 => k r431 r432) = k ((t + pot c r f - 1 : Nat) : Int) 0 := by
    intro q
    induction q with
    | zero =>
      intro t r n h hw hp
      have := (step hc h hw hall.1).one
      omega
    | succ q ih =>
      intro t r n h hw hp hn ht ht2
      obtain ⟨n, rfl⟩ : ∃ m, n = m + 1 := ⟨n - 1, by omega⟩
      have s := step hc h hw hall.1
      unfold calls_Bound_l14 calls_Bound_b14
      rw [tick_eq hc h ha (by rw [g1.1]; omega) (by omega), natF, cond_false, bitq f (by omega) _ (serv_lt hc h hall.1), s.srv]
      by_cases h1 : pot c r f = 1
      · rw [decide_eq_true h1, cond_true, h1, Nat.add_sub_cancel]
      · obtain ⟨k1, k2, k3⟩ := s.go h1
        have k4 := k3 hall
        rw [decide_eq_false h1, cond_false, w64_succ (show t < 1000000000000 by omega)]
        refine (ih (t + 1) _ n (tick_ok hc h hall.1) k1 (by omega) (by omega) (by omega) (by omega)).trans ?_
        rw [show t + 1 + pot c (tickR c.M c.S r (setA a a.n)) f - 1 = t + pot c r f - 1 by omega]
  have hp := pot_le hc h hf.2
  refine (key 77 1 r N h hw hp (by omega) (by omega) (by omega)).trans ?_
  rw [Nat.add_sub_cancel_left]
end
end Go.Proofs.Ytlphgonhenegoaa
