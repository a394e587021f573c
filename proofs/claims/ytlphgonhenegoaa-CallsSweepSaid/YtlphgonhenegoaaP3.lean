import Derived.Test.YtlphgonhenegoaaP2
set_option linter.unusedVariables false
set_option linter.unusedSimpArgs false
set_option maxHeartbeats 0
set_option maxRecDepth 100000
namespace Go.Proofs.Ytlphgonhenegoaa
open Go.Sx
section
theorem bitq : ∀ f : Nat, f < 6 → ∀ W : Nat, W < 64 → (w64 (↑(BitVec.toNat (BitVec.ofInt (IntKind.bits IntKind.i64) (Int.fdiv (W : Int) ((2 : Int) ^ min (Int.toNat (f : Int)) (IntKind.bits IntKind.i64))) &&& BitVec.ofInt (IntKind.bits IntKind.i64) (1 : Int))) : Int) == (1 : Int)) = W.testBit f := by decide +kernel
theorem wanted_eq (N : Nat) {r : Rd} (hw : r.W < 64) {f : Nat} (hf : f < 6) {R : Type} (k : Bool → Option R) : newelref07_wanted N r.ride (f : Int) k = k (r.W.testBit f) := by
  rw [newelref07_wanted_def]
  unfold newelref07_wanted_m
  rw [wrapU f (by omega), natF, cond_false]
  exact congrArg k (bitq f hf r.W hw)
theorem gtN (a b : Nat) : decide ((a : Int) > (b : Int)) = decide (b < a) := by simp
theorem ltN (a b : Nat) : decide ((a : Int) < (b : Int)) = decide (a < b) := by simp
theorem ahead_l2 (N : Nat) {r : Rd} (hw : r.W < 64) {R : Type} (kr : Bool → Option R) (k0 : Unit → Option R) : ∀ (q i n : Nat), i + q = 6 → q < n →
    newelref07_ahead_l2 N n (i : Int) r.ride kr k0 = bif (List.range' i q).any fun j => r.W.testBit j && (bif r.up then decide (r.F < j) else decide (j < r.F)) then kr true else k0 () := by
  intro q
  induction q with
  | zero =>
    intro i n h1 h2
    obtain ⟨n, rfl⟩ : ∃ m, n = m + 1 := ⟨n - 1, by omega⟩
    unfold newelref07_ahead_l2 newelref07_ahead_b2
    have : decide ((i : Int) ≤ 5) = false := by simp; omega
    rw [this]
    rfl
  | succ q ih =>
    intro i n h1 h2
    obtain ⟨n, rfl⟩ : ∃ m, n = m + 1 := ⟨n - 1, by omega⟩
    unfold newelref07_ahead_l2 newelref07_ahead_b2
    have : decide ((i : Int) ≤ 5) = true := by simp; omega
    rw [this, cond_true, wanted_eq N hw (by omega)]
    have hs : w64 ((i : Int) + 1) = ((i + 1 : Nat) : Int) := w64_succ (by omega)
    simp only [hs, ih (i + 1) n (by omega) (by omega)]
    have hF : api_Ride.Floor r.ride = (r.F : Int) := rfl
    have hU : api_Ride.Up r.ride = r.up := rfl
    simp only [hF, hU, gtN, ltN, List.range'_succ, List.any_cons]
    cases hb : r.W.testBit i with
    | false => simp only [cond_false, Bool.false_and, Bool.false_or]
    | true =>
      cases hu : r.up with
      | true => simp only [cond_true, Bool.true_and, Bool.not_true, cond_false]; cases decide (r.F < i) <;> rfl
      | false => simp only [cond_false, Bool.not_false, cond_true, Bool.true_and]; cases decide (i < r.F) <;> rfl
theorem any_side (u : Bool) (F W : Nat) : ((List.range' 0 6).any fun j => W.testBit j && (bif u then decide (F < j) else decide (j < F))) = side u F W := by
  have : List.range' 0 6 = List.range 6 := by decide
  rw [this]
  cases u with
  | true => simp only [cond_true, side, up]; congr 1; funext j; exact Bool.and_comm _ _
  | false => simp only [cond_false, side, dn]; congr 1; funext j; exact Bool.and_comm _ _
theorem refAhead {N : Nat} (hN : 7 ≤ N) {r : Rd} (hw : r.W < 64) {R : Type} (k : Bool → Option R) : newelref07_ahead N r.ride k = k (side r.up r.F r.W) := by
  rw [newelref07_ahead_def]
  unfold newelref07_ahead_m
  refine (ahead_l2 N hw _ _ 6 0 N (by omega) (by omega)).trans ?_
  rw [any_side]
  cases side r.up r.F r.W <;> rfl
theorem j1_eq {N : Nat} (hN : 7 ≤ N) {c : Cn} {r : Rd} (hf : r.F < 6) (hw : r.W < 64) {Q sv : Nat} (hQ : Q < 64) (hsv : sv < 64) (z : api_Ride) {R : Type} (kr : Int → api_Ride → Option R) :
    newelref07_Tick_j1 N (Q : Int) ((2 ^ r.F : Nat) : Int) (sv : Int) c.car r.ride z kr = kr ((sv ||| (bif begS ⟨r.F, r.up, r.stood, r.doing, r.left, r.W ||| Q⟩ then 2 ^ r.F else 0) : Nat) : Int) (beginR c.M c.S ⟨r.F, r.up, r.stood, r.doing, r.left, r.W ||| Q⟩).ride := by
  rw [newelref07_Tick_j1_def]
  unfold newelref07_Tick_j1_m
  have hF : api_Ride.Floor r.ride = (r.F : Int) := rfl
  have hU : api_Ride.Up r.ride = r.up := rfl
  have hD : api_Ride.Doing r.ride = (r.doing : Int) := rfl
  have hL : api_Ride.Left r.ride = (r.left : Int) := rfl
  have hS : api_Ride.Stood r.ride = r.stood := rfl
  have hW : api_Ride.Wants r.ride = (r.W : Int) := rfl
  have hA : ∀ (k : Bool → Option R), newelref07_ahead N (api_Ride.mk (r.F : Int) r.up r.stood (r.doing : Int) (r.left : Int) ((r.W ||| Q : Nat) : Int)) k = k (side r.up r.F (r.W ||| Q)) := fun k => refAhead hN (r := ⟨r.F, r.up, r.stood, r.doing, r.left, r.W ||| Q⟩) (or_lt hw hQ) k
  simp only [hF, hU, hD, hL, hS, hW, or64 r.W hw Q hQ, hA, nez, eqz, eqN, here_eq r.F hf _ (or_lt hw hQ), off_eq r.F hf _ (or_lt hw hQ), or64 sv hsv _ (pow_lt hf)]
  unfold begS beginR
  by_cases h0 : r.doing = 0
  · have e0 : (r.doing != 0) = false := by simp [h0]
    have e1 : (r.doing == 0) = true := by simp [h0]
    simp only [e0, cond_false, h0, ne_eq, not_true_eq_false, if_false, BEq.rfl, Bool.true_and]
    by_cases hw0 : r.W ||| Q = 0
    · simp only [hw0, BEq.rfl, cond_true, if_true, bne_self_eq_false, Bool.false_and, cond_false, Nat.or_zero]
      rfl
    · have e2 : (r.W ||| Q == 0) = false := by simpa using hw0
      have e3 : (r.W ||| Q != 0) = true := by simp [bne, e2]
      simp only [e2, cond_false, if_neg hw0, e3, Bool.true_and]
      cases hb : (r.W ||| Q).testBit r.F with
      | false =>
        simp only [Bool.false_and, cond_false, Nat.or_zero]
        cases side r.up r.F (r.W ||| Q) <;> rfl
      | true =>
        simp only [Bool.true_and, cond_true]
        cases hst : r.stood with
        | false => rfl
        | true =>
          simp only [Bool.not_true, cond_false, Bool.false_or]
          cases hw2 : (r.W ||| Q == 2 ^ r.F) with
          | true => rfl
          | false =>
            simp only [cond_false, Nat.or_zero]
            cases side r.up r.F (r.W ||| Q) <;> rfl
  · have e0 : (r.doing != 0) = true := by simpa using h0
    have e1 : (r.doing == 0) = false := by simpa using h0
    simp only [e0, cond_true, e1, Bool.false_and, ne_eq, h0, not_false_eq_true, if_true, cond_false, Nat.or_zero]
    rfl
theorem j0_eq {N : Nat} (hN : 7 ≤ N) {c : Cn} (hc : c.Ok) {r : Rd} (h : Mid c r) {P : Nat} (hP : Fl c P) (z : api_Ride) {R : Type} (kr : Int → api_Ride → Option R) :
    newelref07_Tick_j0 N (P : Int) c.car r.ride z kr = kr ((servP r P ||| (bif begS (pressR r P) then 2 ^ r.F else 0) : Nat) : Int) (beginR c.M c.S (pressR r P)).ride := by
  have hf : r.F < 6 := by have := h.f; have := hc.h5; omega
  rw [newelref07_Tick_j0_def]
  unfold newelref07_Tick_j0_m
  have hF : api_Ride.Floor r.ride = (r.F : Int) := rfl
  have hD : api_Ride.Doing r.ride = (r.doing : Int) := rfl
  have e1 : (((r.doing : Nat) : Int) == 2) = (r.doing == 2) := eqN r.doing 2
  rw [hF, wrapU r.F (by omega), natF, cond_false, hD, e1, shl_eq (show r.F < 60 by omega), off_eq r.F hf P hP.lt, and64 P hP.lt _ (pow_lt hf)]
  by_cases h2 : r.doing = 2
  · have e2 : (r.doing == 2) = true := by simpa using h2
    rw [e2, cond_true, j1_eq hN hf h.w6 (off_lt hP.lt) (Nat.lt_of_le_of_lt Nat.and_le_left hP.lt)]
    simp only [servP, pressR, if_pos h2]
  · have e2 : (r.doing == 2) = false := by simpa using h2
    rw [e2, cond_false]
    refine (j1_eq hN hf h.w6 hP.lt (Nat.zero_lt_succ _) (sv := 0) z _).trans ?_
    simp only [servP, pressR, if_neg h2]
theorem refTick {N : Nat} (hN : 7 ≤ N) {c : Cn} (hc : c.Ok) {r : Rd} (h : Ok c r) {P : Nat} (hP : Fl c P) {R : Type} (k : api_Ride → Int → Option R) :
    newelref07_Tick N c.car r.ride (P : Int) k = k (tickR c.M c.S r P).ride ((servR r P : Nat) : Int) := by
  have hm := end_mid hc h
  have hj : ∀ (z : api_Ride) (kr : Int → api_Ride → Option R), newelref07_Tick_j0 N (P : Int) c.car (endR r).ride z kr = kr ((servR r P : Nat) : Int) (tickR c.M c.S r P).ride := fun z kr => j0_eq hN hc hm hP z kr
  rw [newelref07_Tick_def]
  unfold newelref07_Tick_m
  have hF : api_Ride.Floor r.ride = (r.F : Int) := rfl
  have hU : api_Ride.Up r.ride = r.up := rfl
  have hD : api_Ride.Doing r.ride = (r.doing : Int) := rfl
  have hL : api_Ride.Left r.ride = (r.left : Int) := rfl
  have hS : api_Ride.Stood r.ride = r.stood := rfl
  have hW : api_Ride.Wants r.ride = (r.W : Int) := rfl
  have m3 := hc.m3
  have s4 := hc.s4
  have h5 := hc.h5
  by_cases h0 : r.doing = 0
  · have e0 : (((r.doing : Nat) : Int) != 0) = false := by rw [nez]; simp [h0]
    rw [hD, e0, cond_false]
    have : endR r = r := by simp [endR, h0]
    rw [this] at hj
    rw [hj]
  have e0 : (((r.doing : Nat) : Int) != 0) = true := by rw [nez]; simpa using h0
  have hl : 1 ≤ r.left ∧ r.left ≤ 4 := by
    have := h.d
    have : r.doing = 1 ∨ r.doing = 2 := by omega
    rcases this with e | e
    · have := (h.d1 e).1; omega
    · have := (h.d2 e).1; omega
  have e1 : (((r.doing : Nat) : Int) == 1) = (r.doing == 1) := eqN r.doing 1
  have hlw : w64 ((r.left : Int) - 1) = ((r.left - 1 : Nat) : Int) := w64_pred hl.1 (by omega)
  rw [hD, e0, cond_true]
  simp only [hL, hlw, eqz, e1, hU, hF, hS, hW]
  by_cases h1 : 1 < r.left
  · have el : (r.left - 1 == 0) = false := by simp; omega
    simp only [el, cond_false, Bool.false_and]
    have : endR r = ⟨r.F, r.up, r.stood, r.doing, r.left - 1, r.W⟩ := by simp [endR, h0, h1]
    rw [this] at hj
    have hj' : ∀ (z : api_Ride) (kr : Int → api_Ride → Option R), newelref07_Tick_j0 N (P : Int) c.car (api_Ride.mk (r.F : Int) r.up r.stood (r.doing : Int) ((r.left - 1 : Nat) : Int) (r.W : Int)) z kr = kr ((servR r P : Nat) : Int) (tickR c.M c.S r P).ride := hj
    simp only [hj']
  · have el : (r.left - 1 == 0) = true := by simp; omega
    have hl0 : r.left - 1 = 0 := by omega
    simp only [el, cond_true, hl0]
    by_cases h2 : r.doing = 1
    · obtain ⟨hu, hd⟩ := side_lt hc h.w (h.d1 h2).2
      have e2 : (r.doing == 1) = true := by simp [h2]
      simp only [e2, cond_true]
      cases hup : r.up with
      | true =>
        have hx := hu hup
        have : endR r = ⟨r.F + 1, true, false, 0, 0, r.W⟩ := by simp [endR, h0, h1, h2, hup]
        rw [this] at hj
        have hj' : ∀ (z : api_Ride) (kr : Int → api_Ride → Option R), newelref07_Tick_j0 N (P : Int) c.car (api_Ride.mk ((r.F + 1 : Nat) : Int) true false 0 ((0 : Nat) : Int) (r.W : Int)) z kr = kr ((servR r P : Nat) : Int) (tickR c.M c.S r P).ride := hj
        simp only [cond_true, w64_succ (show r.F < 1000000000000 by omega)]
        exact hj' _ _
      | false =>
        have hx := hd hup
        have : endR r = ⟨r.F - 1, false, false, 0, 0, r.W⟩ := by simp [endR, h0, h1, h2, hup]
        rw [this] at hj
        have hj' : ∀ (z : api_Ride) (kr : Int → api_Ride → Option R), newelref07_Tick_j0 N (P : Int) c.car (api_Ride.mk ((r.F - 1 : Nat) : Int) false false 0 ((0 : Nat) : Int) (r.W : Int)) z kr = kr ((servR r P : Nat) : Int) (tickR c.M c.S r P).ride := hj
        simp only [cond_false, w64_pred (show 1 ≤ r.F by omega) (show r.F < 1000000 by have := h.f; omega)]
        exact hj' _ _
    · have e2 : (r.doing == 1) = false := by simpa using h2
      simp only [e2, cond_false]
      have : endR r = ⟨r.F, r.up, r.stood, 0, 0, r.W⟩ := by simp [endR, h0, h1, h2]
      rw [this] at hj
      have hj' : ∀ (z : api_Ride) (kr : Int → api_Ride → Option R), newelref07_Tick_j0 N (P : Int) c.car (api_Ride.mk (r.F : Int) r.up r.stood 0 ((0 : Nat) : Int) (r.W : Int)) z kr = kr ((servR r P : Nat) : Int) (tickR c.M c.S r P).ride := hj
      exact hj' _ _
end
end Go.Proofs.Ytlphgonhenegoaa
