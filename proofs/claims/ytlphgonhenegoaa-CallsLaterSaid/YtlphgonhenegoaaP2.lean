import Derived.Test.YtlphgonhenegoaaP1
set_option linter.unusedVariables false
set_option linter.unusedSimpArgs false
set_option maxHeartbeats 0
set_option maxRecDepth 100000
namespace Go.Proofs.Ytlphgonhenegoaa
open Go.Sx
section
theorem w64_pred {n : Nat} (h1 : 1 ≤ n) (h : n < 1000000) : w64 ((n : Int) - 1) = ((n - 1 : Nat) : Int) := by
  rw [w64_eq (by omega) (by omega)]; omega
theorem w64_succ {n : Nat} (h : n < 1000000000000) : w64 ((n : Int) + 1) = ((n + 1 : Nat) : Int) := by
  rw [w64_eq (by omega) (by omega)]; omega
theorem eqN (a b : Nat) : (((a : Nat) : Int) == ((b : Nat) : Int)) = (a == b) := by
  by_cases h : a = b
  · simp [h]
  · have h1 : ¬ ((a : Nat) : Int) = (b : Int) := by omega
    rw [beq_eq_false_iff_ne.2 h1, beq_eq_false_iff_ne.2 h]
theorem eqz (a : Nat) : (((a : Nat) : Int) == 0) = (a == 0) := eqN a 0
theorem nez (a : Nat) : (((a : Nat) : Int) != 0) = (a != 0) := congrArg not (eqz a)
theorem end_eq (N : Nat) {c : Cn} {r : Rd} (hc : c.Ok) (h : Ok c r) {R : Type} (k : calls_cage → Option R) : calls_cage_end N ⟨c.car, r.ride⟩ k = k ⟨c.car, (endR r).ride⟩ := by
  rw [calls_cage_end_def]
  unfold calls_cage_end_m endR
  simp only [Rd.ride, eqz]
  have hm := hc.m3
  have hs := hc.s4
  by_cases h0 : r.doing = 0
  · simp [h0]
  have e0 : (r.doing == 0) = false := by simpa using h0
  simp only [e0, cond_false, if_neg h0]
  have hl : 1 ≤ r.left ∧ r.left ≤ 4 := by
    have := h.d
    have : r.doing = 1 ∨ r.doing = 2 := by omega
    rcases this with e | e
    · have := (h.d1 e).1; omega
    · have := (h.d2 e).1; omega
  simp only [w64_pred hl.1 (show r.left < 1000000 by omega)]
  by_cases h1 : 1 < r.left
  · have : decide (((r.left - 1 : Nat) : Int) > 0) = true := by simp; omega
    simp only [this, cond_true, if_pos h1]
  · have : decide (((r.left - 1 : Nat) : Int) > 0) = false := by simp; omega
    have hl0 : r.left - 1 = 0 := by omega
    simp only [this, cond_false, if_neg h1, hl0]
    have e1 : (((r.doing : Nat) : Int) == 1) = (r.doing == 1) := eqN r.doing 1
    rw [e1]
    by_cases h2 : r.doing = 1
    · obtain ⟨hu, hd⟩ := side_lt hc h.w (h.d1 h2).2
      have h5 := hc.h5
      simp only [h2, BEq.rfl, cond_true, if_true]
      cases hup : r.up with
      | true =>
        simp only [cond_true]
        have := hu hup
        rw [w64_succ (by omega)]
        rfl
      | false =>
        simp only [cond_false]
        have := hd hup
        rw [w64_pred (by omega) (by have := h.f; omega)]
        rfl
    · have e2 : (r.doing == 1) = false := by simpa using h2
      simp only [e2, cond_false, if_neg h2]
      rfl
theorem press1_eq (N : Nat) {c : Cn} {r : Rd} (hc : c.Ok) (h : Mid c r) {g : Nat} (hg : g < 6) {R : Type} (k : Bool → calls_cage → Option R) :
    calls_cage_press N (g : Int) ⟨c.car, r.ride⟩ k = k (r.doing == 2 && g == r.F) ⟨c.car, (⟨r.F, r.up, r.stood, r.doing, r.left, bif r.doing == 2 && g == r.F then r.W else r.W ||| 2 ^ g⟩ : Rd).ride⟩ := by
  rw [calls_cage_press_def]
  unfold calls_cage_press_m
  have e1 : (((r.doing : Nat) : Int) == 2) = (r.doing == 2) := eqN r.doing 2
  simp only [Rd.ride, e1, eqN, natF, cond_false, shl_eq (show g < 60 by omega), or64 r.W h.w6 (2 ^ g) (pow_lt hg)]
  cases h2 : r.doing == 2 with
  | true =>
    simp only [cond_true, Bool.true_and]
    cases h3 : g == r.F <;> simp
  | false => simp
def setA (a : Arr Int) : Nat → Nat
  | 0 => 0
  | n + 1 => setA a n ||| 2 ^ (a.f n).toNat
theorem set_lt {a : Arr Int} {n : Nat} (h : ∀ i, i < n → 0 ≤ a.f i ∧ a.f i < 6) : setA a n < 64 := by
  induction n with
  | zero => exact Nat.zero_lt_succ _
  | succ n ih =>
    have := h n (by omega)
    exact or_lt (ih fun i hi => h i (by omega)) (pow_lt (by omega))
theorem off_or : ∀ F : Nat, F < 6 → ∀ P : Nat, P < 64 → ∀ g : Nat, g < 6 → (bif g == F then off P F else off P F ||| 2 ^ g) = off (P ||| 2 ^ g) F := by decide +kernel
theorem serv_or : ∀ F : Nat, F < 6 → ∀ P : Nat, P < 64 → ∀ g : Nat, g < 6 → (bif g == F then (P &&& 2 ^ F) ||| 2 ^ g else P &&& 2 ^ F) = (P ||| 2 ^ g) &&& 2 ^ F := by decide +kernel
theorem press_l3 (N : Nat) {c : Cn} {r : Rd} (hc : c.Ok) (h : Mid c r) {a : Arr Int} (ha : ∀ i, i < a.n → 0 ≤ a.f i ∧ (c.L : Int) ≤ a.f i ∧ a.f i ≤ (c.H : Int)) (hn : a.n ≤ 1000) {R : Type} (k0 : Int → calls_cage → Option R) : ∀ (q i n : Nat), i + q = a.n → q < n →
    calls_cage_tick_l3 N n ((servP r (setA a i) : Nat) : Int) a (a.n : Int) (i : Int) ⟨c.car, (pressR r (setA a i)).ride⟩ k0 = k0 ((servP r (setA a a.n) : Nat) : Int) ⟨c.car, (pressR r (setA a a.n)).ride⟩ := by
  have hf : r.F < 6 := by have := h.f; have := hc.h5; omega
  have h5 := hc.h5
  have hlt : ∀ i, i ≤ a.n → setA a i < 64 := fun i hi => set_lt fun j hj => by have := ha j (by omega); omega
  have hfl : ∀ i, i ≤ a.n → Fl c (setA a i) := fun i hi => by
    refine ⟨hlt i hi, ?_⟩
    clear hlt
    induction i with
    | zero => intro j hj; simp [setA] at hj
    | succ i ih =>
      intro j hj
      simp only [setA, Nat.testBit_or, Bool.or_eq_true] at hj
      rcases hj with hj | hj
      · exact ih (by omega) j hj
      · rw [Nat.testBit_two_pow] at hj
        have : (a.f i).toNat = j := by simpa using hj
        have := ha i (by omega)
        omega
  intro q
  induction q with
  | zero =>
    intro i n h1 h2
    obtain ⟨n, rfl⟩ : ∃ m, n = m + 1 := ⟨n - 1, by omega⟩
    have : i = a.n := by omega
    subst this
    unfold calls_cage_tick_l3 calls_cage_tick_b3
    simp only [ltF (Nat.le_refl a.n), cond_false]
  | succ q ih =>
    intro i n h1 h2
    obtain ⟨n, rfl⟩ : ∃ m, n = m + 1 := ⟨n - 1, by omega⟩
    have hg := ha i (by omega)
    obtain ⟨g, hge⟩ : ∃ g : Nat, a.f i = (g : Int) := ⟨(a.f i).toNat, by omega⟩
    have hg6 : g < 6 := by omega
    have hmid := press_mid hc h (hfl i (by omega))
    have ih' := ih (i + 1) n (by omega) (by omega)
    have hset : setA a (i + 1) = setA a i ||| 2 ^ g := by simp [setA, hge]
    rw [hset] at ih'
    unfold calls_cage_tick_l3 calls_cage_tick_b3
    simp only [ltT (show i < a.n by omega), nat_nonneg, Bool.and_self, cond_true, Int.toNat_natCast (n := i), hge, w64_succ (show i < 1000000000000 by omega)]
    rw [press1_eq N hc hmid hg6]
    have hd : (pressR r (setA a i)).doing = r.doing := rfl
    have hF : (pressR r (setA a i)).F = r.F := rfl
    simp only [hd, hF]
    refine Eq.trans ?_ ih'
    simp only [natF, cond_false, shl_eq (show g < 60 by omega)]
    have hs := serv_or r.F hf (setA a i) (hlt i (by omega)) g hg6
    have ho := off_or r.F hf (setA a i) (hlt i (by omega)) g hg6
    by_cases h2 : r.doing = 2
    · have e2 : (r.doing == 2) = true := by simpa using h2
      cases h3 : g == r.F with
      | true =>
        rw [h3] at hs ho
        simp only [cond_true] at hs ho
        simp only [e2, Bool.true_and, cond_true, servP, if_pos h2]
        rw [or64 _ (Nat.lt_of_le_of_lt Nat.and_le_left (hlt i (by omega))) _ (pow_lt hg6), hs]
        simp only [pressR, if_pos h2, ho]
      | false =>
        rw [h3] at hs ho
        simp only [cond_false] at hs ho
        simp only [e2, Bool.true_and, cond_false, servP, if_pos h2, ← hs]
        simp only [pressR, if_pos h2, ← ho, Nat.or_assoc]
    · have e2 : (r.doing == 2) = false := by simpa using h2
      simp only [e2, Bool.false_and, cond_false, servP, if_neg h2, pressR, Nat.or_assoc]
theorem rideF (c : api_Car) (r : Rd) : decide (api_Ride.Floor (calls_cage.Ride ⟨c, r.ride⟩) < (0 : Int)) = false := natF r.F
theorem ahead_eq (N : Nat) {c : Cn} {r : Rd} (hc : c.Ok) (h : Mid c r) {R : Type} (k : Int → Option R) : calls_cage_ahead N ⟨c.car, r.ride⟩ k = k (bif r.up then -((2 ^ (r.F + 1) : Nat) : Int) else ((2 ^ r.F - 1 : Nat) : Int)) := by
  have hf : r.F < 6 := by have := h.f; have := hc.h5; omega
  rw [calls_cage_ahead_def]
  unfold calls_cage_ahead_m
  rw [rideF]
  simp only [cond_false]
  simp only [Rd.ride, shl_eq (show r.F < 60 by omega)]
  cases r.up with
  | true => simp only [cond_true, up_w r.F hf]
  | false => simp only [cond_false, dn_w r.F hf]
theorem begins_eq (N : Nat) {c : Cn} {r : Rd} (hc : c.Ok) (h : Mid c r) {R : Type} (k : Bool → calls_cage → Option R) : calls_cage_begins N ⟨c.car, r.ride⟩ k = k (begS r) ⟨c.car, (beginR c.M c.S r).ride⟩ := by
  have hf : r.F < 6 := by have := h.f; have := hc.h5; omega
  rw [calls_cage_begins_def]
  unfold calls_cage_begins_m
  rw [rideF]
  simp only [ahead_eq N hc h, cond_false]
  simp only [Rd.ride, shl_eq (show r.F < 60 by omega), nez, eqz, eqN, here_eq r.F hf r.W h.w6, off_eq r.F hf r.W h.w6]
  unfold begS beginR
  by_cases h0 : r.doing = 0
  · have e0 : (r.doing != 0) = false := by simp [h0]
    have e1 : (r.doing == 0) = true := by simp [h0]
    simp only [e0, cond_false, h0, ne_eq, not_true_eq_false, if_false, BEq.rfl, Bool.true_and]
    by_cases hw : r.W = 0
    · simp [hw, h0]
    · have e2 : (r.W == 0) = false := by simpa using hw
      have e3 : (r.W != 0) = true := by simp [bne, e2]
      simp only [e2, cond_false, if_neg hw, e3, Bool.true_and]
      have hsd : (w64 (↑(BitVec.toNat (BitVec.ofInt (IntKind.bits IntKind.i64) (r.W : Int) &&& BitVec.ofInt (IntKind.bits IntKind.i64) (bif r.up then -((2 ^ (r.F + 1) : Nat) : Int) else ((2 ^ r.F - 1 : Nat) : Int)))) : Int) == (0 : Int)) = !side r.up r.F r.W := by
        cases hu : r.up with
        | true => simp only [cond_true, side]; exact up_eq r.F hf r.W h.w6
        | false => simp only [cond_false, side]; exact dn_eq r.F hf r.W h.w6
      rw [hsd]
      cases hb : r.W.testBit r.F with
      | false =>
        simp only [Bool.false_and, cond_false]
        cases side r.up r.F r.W <;> rfl
      | true =>
        simp only [Bool.true_and, cond_true]
        cases hst : r.stood with
        | false => rfl
        | true =>
          simp only [Bool.not_true, cond_false, Bool.false_or]
          cases hw2 : r.W == 2 ^ r.F with
          | true => rfl
          | false =>
            simp only [cond_false]
            cases side r.up r.F r.W <;> rfl
  · have e0 : (r.doing != 0) = true := by simpa using h0
    have e1 : (r.doing == 0) = false := by simpa using h0
    simp only [e0, cond_true, e1, Bool.false_and, ne_eq, h0, not_false_eq_true, if_true]
theorem tick_eq {N : Nat} {c : Cn} {r : Rd} (hc : c.Ok) (h : Ok c r) {a : Arr Int} (ha : ∀ i, i < a.n → 0 ≤ a.f i ∧ (c.L : Int) ≤ a.f i ∧ a.f i ≤ (c.H : Int)) (hn : a.n ≤ 1000) (hN : 1000 < N) {R : Type} (k : Int → calls_cage → Option R) :
    calls_cage_tick N a ⟨c.car, r.ride⟩ k = k ((servR r (setA a a.n) : Nat) : Int) ⟨c.car, (tickR c.M c.S r (setA a a.n)).ride⟩ := by
  have hm := end_mid hc h
  have hf : (endR r).F < 6 := by have := hm.f; have := hc.h5; omega
  have h5 := hc.h5
  have hlt : setA a a.n < 64 := set_lt fun j hj => by have := ha j hj; omega
  have hfl : Fl c (setA a a.n) := by
    refine ⟨hlt, ?_⟩
    have key : ∀ i, i ≤ a.n → ∀ j, (setA a i).testBit j = true → c.L ≤ j ∧ j ≤ c.H := by
      intro i
      induction i with
      | zero => intro _ j hj; simp [setA] at hj
      | succ i ih =>
        intro hi j hj
        simp only [setA, Nat.testBit_or, Bool.or_eq_true] at hj
        rcases hj with hj | hj
        · exact ih (by omega) j hj
        · rw [Nat.testBit_two_pow] at hj
          have : (a.f i).toNat = j := by simpa using hj
          have := ha i (by omega)
          omega
    exact key a.n (Nat.le_refl _)
  rw [calls_cage_tick_def]
  unfold calls_cage_tick_m
  rw [end_eq N hc h]
  have h0 : servP (endR r) (setA a 0) = 0 := by unfold servP; split <;> simp [setA]
  have hp0 : pressR (endR r) (setA a 0) = endR r := by
    simp only [pressR, setA]
    have : (if (endR r).doing = 2 then off 0 (endR r).F else 0) = 0 := by split <;> simp [off]
    rw [this, Nat.or_zero]
  have key := press_l3 N hc hm ha hn (k0 := fun r183 r184 => calls_cage_begins N r184 (fun r189 r190 =>
   bif r189 then
    bif decide (api_Ride.Floor (calls_cage.Ride r190) < (0 : Int)) then
     Option.none
    else
     k (w64 (↑(BitVec.toNat (BitVec.ofInt (IntKind.bits IntKind.i64) r183 ||| BitVec.ofInt (IntKind.bits IntKind.i64) (w64 ((1 : Int) * (2 : Int) ^ min (Int.toNat (api_Ride.Floor (calls_cage.Ride r190))) (IntKind.bits IntKind.i64))))) : Int)) r190
   else
    k r183 r190)) a.n 0 N (by omega) (by omega)
  rw [h0, hp0] at key
  refine key.trans ?_
  have hpm := press_mid hc hm hfl
  rw [begins_eq N hc hpm]
  unfold servR tickR
  have hF : ((beginR c.M c.S (pressR (endR r) (setA a a.n))).ride).Floor = (((endR r).F : Nat) : Int) := by
    unfold beginR
    split
    · rfl
    · split
      · rfl
      · cases (pressR (endR r) (setA a a.n)).W.testBit (pressR (endR r) (setA a a.n)).F && (!(pressR (endR r) (setA a a.n)).stood || (pressR (endR r) (setA a a.n)).W == 2 ^ (pressR (endR r) (setA a a.n)).F) <;> rfl
  cases hb : begS (pressR (endR r) (setA a a.n)) with
  | true =>
    have hsp : servP (endR r) (setA a a.n) < 64 := by
      unfold servP; split
      · exact Nat.lt_of_le_of_lt Nat.and_le_left hlt
      · exact Nat.zero_lt_succ _
    simp only [cond_true, hF, natF, cond_false, shl_eq (show (endR r).F < 60 by omega), or64 _ hsp _ (pow_lt hf)]
  | false => simp only [cond_false, Nat.or_zero]
end
end Go.Proofs.Ytlphgonhenegoaa
