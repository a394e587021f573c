/-
  Several texts in one.
-/
import Derived.Test.YtlphgonhenegoaaG2
import Derived.Test.YtlphgonhenegoaaSxMath
set_option linter.unusedVariables false
set_option linter.unusedSimpArgs false
set_option maxHeartbeats 0
set_option maxRecDepth 100000
namespace Go.Proofs.Ytlphgonhenegoaa
open Go.Sx
section
theorem ltF {a b : Nat} (h : b ≤ a) : decide ((a : Int) < (b : Int)) = false := by simp; omega
theorem ltT {a b : Nat} (h : a < b) : decide ((a : Int) < (b : Int)) = true := by simp; omega
theorem natF (a : Nat) : decide ((a : Int) < 0) = false := by simp
theorem shl_eq {f : Nat} (h : f < 60) : w64 ((1 : Int) * (2 : Int) ^ min (Int.toNat (f : Int)) (IntKind.bits IntKind.i64)) = ((2 ^ f : Nat) : Int) := by
  have h1 : (2 : Nat) ^ f ≤ 2 ^ 60 := Nat.pow_le_pow_right (by omega) (by omega)
  have h2 : min (Int.toNat (f : Int)) (IntKind.bits IntKind.i64) = f := by show min f 64 = f; omega
  rw [h2, Int.one_mul, show ((2 : Int) ^ f) = ((2 ^ f : Nat) : Int) by push_cast; rfl]
  generalize (2 : Nat) ^ f = x at h1 ⊢
  exact w64_eq (by omega) (by omega)
theorem pow_lt {f : Nat} (h : f < 6) : 2 ^ f < 64 := by
  have : (2 : Nat) ^ f ≤ 2 ^ 5 := Nat.pow_le_pow_right (by omega) (by omega)
  omega
theorem or_lt {a b : Nat} (ha : a < 64) (hb : b < 64) : a ||| b < 64 := Nat.or_lt_two_pow (n := 6) ha hb
theorem bit_lt {a i : Nat} (ha : a < 64) (h : a.testBit i = true) : i < 6 := by
  by_cases hi : i < 6
  · exact hi
  · have : a.testBit i = false := Nat.testBit_lt_two_pow (by have : 2 ^ 6 ≤ 2 ^ i := Nat.pow_le_pow_right (by omega) (by omega); omega)
    rw [this] at h; cases h
theorem wrapU : ∀ n : Nat, n < 64 → IntKind.wrap .u64 (n : Int) = (n : Int) := by decide +kernel
theorem or64 : ∀ a : Nat, a < 64 → ∀ b : Nat, b < 64 → w64 (↑(BitVec.toNat (BitVec.ofInt (IntKind.bits IntKind.i64) (a : Int) ||| BitVec.ofInt (IntKind.bits IntKind.i64) (b : Int))) : Int) = ((a ||| b : Nat) : Int) := by decide +kernel
theorem and64 : ∀ a : Nat, a < 64 → ∀ b : Nat, b < 64 → w64 (↑(BitVec.toNat (BitVec.ofInt (IntKind.bits IntKind.i64) (a : Int) &&& BitVec.ofInt (IntKind.bits IntKind.i64) (b : Int))) : Int) = ((a &&& b : Nat) : Int) := by decide +kernel
def up (F W : Nat) : Bool := (List.range 6).any fun i => decide (F < i) && W.testBit i
def dn (F W : Nat) : Bool := (List.range 6).any fun i => decide (i < F) && W.testBit i
def side (u : Bool) (F W : Nat) : Bool := bif u then up F W else dn F W
def off (W F : Nat) : Nat := W - (bif W.testBit F then 2 ^ F else 0)
theorem here_eq : ∀ F : Nat, F < 6 → ∀ W : Nat, W < 64 → (w64 (↑(BitVec.toNat (BitVec.ofInt (IntKind.bits IntKind.i64) (W : Int) &&& BitVec.ofInt (IntKind.bits IntKind.i64) ((2 ^ F : Nat) : Int))) : Int) != (0 : Int)) = W.testBit F := by decide +kernel
theorem up_eq : ∀ F : Nat, F < 6 → ∀ W : Nat, W < 64 → (w64 (↑(BitVec.toNat (BitVec.ofInt (IntKind.bits IntKind.i64) (W : Int) &&& BitVec.ofInt (IntKind.bits IntKind.i64) (-((2 ^ (F + 1) : Nat) : Int)))) : Int) == (0 : Int)) = !up F W := by decide +kernel
theorem dn_eq : ∀ F : Nat, F < 6 → ∀ W : Nat, W < 64 → (w64 (↑(BitVec.toNat (BitVec.ofInt (IntKind.bits IntKind.i64) (W : Int) &&& BitVec.ofInt (IntKind.bits IntKind.i64) (((2 ^ F - 1 : Nat) : Int)))) : Int) == (0 : Int)) = !dn F W := by decide +kernel
theorem off_eq : ∀ F : Nat, F < 6 → ∀ W : Nat, W < 64 → w64 (↑(BitVec.toNat (BitVec.ofInt (IntKind.bits IntKind.i64) (W : Int) &&& ~~~BitVec.ofInt (IntKind.bits IntKind.i64) ((2 ^ F : Nat) : Int))) : Int) = ((off W F : Nat) : Int) := by decide +kernel
theorem off_bit : ∀ F : Nat, F < 6 → ∀ W : Nat, W < 64 → ∀ i, i < 6 → (off W F).testBit i = (W.testBit i && !(i == F)) := by decide +kernel
theorem off_lt {F W : Nat} (h : W < 64) : off W F < 64 := Nat.lt_of_le_of_lt (Nat.sub_le _ _) h
theorem up_w : ∀ F : Nat, F < 6 → w64 (↑(BitVec.toNat (BitVec.ofInt (IntKind.bits IntKind.i64) (if IntKind.signed IntKind.i64 = true then (-1 : Int) else IntKind.max IntKind.i64) ^^^ BitVec.ofInt (IntKind.bits IntKind.i64) (w64 (↑(BitVec.toNat (BitVec.ofInt (IntKind.bits IntKind.i64) (w64 (((2 ^ F : Nat) : Int) - 1)) ||| BitVec.ofInt (IntKind.bits IntKind.i64) ((2 ^ F : Nat) : Int))) : Int)))) : Int) = -((2 ^ (F + 1) : Nat) : Int) := by decide +kernel
theorem dn_w : ∀ F : Nat, F < 6 → w64 (((2 ^ F : Nat) : Int) - 1) = ((2 ^ F - 1 : Nat) : Int) := by decide +kernel
theorem up_iff {F W : Nat} : up F W = true ↔ ∃ i, i < 6 ∧ F < i ∧ W.testBit i = true := by simp only [up, List.any_eq_true, List.mem_range, Bool.and_eq_true, decide_eq_true_eq]
theorem dn_iff {F W : Nat} : dn F W = true ↔ ∃ i, i < 6 ∧ i < F ∧ W.testBit i = true := by simp only [dn, List.any_eq_true, List.mem_range, Bool.and_eq_true, decide_eq_true_eq]
theorem sides : ∀ F : Nat, F < 6 → ∀ W : Nat, W < 64 → W ≠ 0 → (W.testBit F = true → W ≠ 2 ^ F) → (up F W || dn F W) = true := by decide +kernel
theorem zero_bits : ∀ W : Nat, W < 64 → W ≠ 0 → ∃ i, i < 6 ∧ W.testBit i = true := by decide +kernel
structure Rd where
  F : Nat
  up : Bool
  stood : Bool
  doing : Nat
  left : Nat
  W : Nat
deriving DecidableEq
def Rd.ride (r : Rd) : api_Ride := ⟨r.F, r.up, r.stood, r.doing, r.left, r.W⟩
structure Cn where
  L : Nat
  H : Nat
  s : Nat
  M : Nat
  S : Nat
def Cn.car (c : Cn) : api_Car := ⟨c.L, c.H, c.s, c.M, c.S⟩
structure Cn.Ok (c : Cn) : Prop where
  ls : c.L ≤ c.s
  sh : c.s ≤ c.H
  h5 : c.H ≤ 5
  m1 : 1 ≤ c.M
  m3 : c.M ≤ 3
  s1 : 1 ≤ c.S
  s4 : c.S ≤ 4
def endR (r : Rd) : Rd := if r.doing = 0 then r else if 1 < r.left then ⟨r.F, r.up, r.stood, r.doing, r.left - 1, r.W⟩ else if r.doing = 1 then ⟨bif r.up then r.F + 1 else r.F - 1, r.up, false, 0, 0, r.W⟩ else ⟨r.F, r.up, r.stood, 0, 0, r.W⟩
def pressR (r : Rd) (P : Nat) : Rd := ⟨r.F, r.up, r.stood, r.doing, r.left, r.W ||| (if r.doing = 2 then off P r.F else P)⟩
def servP (r : Rd) (P : Nat) : Nat := if r.doing = 2 then P &&& 2 ^ r.F else 0
def begS (r : Rd) : Bool := r.doing == 0 && (r.W != 0 && (r.W.testBit r.F && (!r.stood || r.W == 2 ^ r.F)))
def beginR (M S : Nat) (r : Rd) : Rd :=
  if r.doing ≠ 0 then r else if r.W = 0 then r else bif r.W.testBit r.F && (!r.stood || r.W == 2 ^ r.F) then ⟨r.F, r.up, true, 2, S, off r.W r.F⟩ else ⟨r.F, bif side r.up r.F r.W then r.up else !r.up, r.stood, 1, M, r.W⟩
def tickR (M S : Nat) (r : Rd) (P : Nat) : Rd := beginR M S (pressR (endR r) P)
def servR (r : Rd) (P : Nat) : Nat := servP (endR r) P ||| (bif begS (pressR (endR r) P) then 2 ^ (endR r).F else 0)
structure Ok (c : Cn) (r : Rd) : Prop where
  f : c.L ≤ r.F ∧ r.F ≤ c.H
  w6 : r.W < 64
  w : ∀ i, r.W.testBit i = true → c.L ≤ i ∧ i ≤ c.H
  d : r.doing ≤ 2
  d0 : r.doing = 0 → r.left = 0 ∧ r.W = 0
  d1 : r.doing = 1 → (1 ≤ r.left ∧ r.left ≤ c.M) ∧ side r.up r.F r.W = true
  d2 : r.doing = 2 → (1 ≤ r.left ∧ r.left ≤ c.S) ∧ r.stood = true ∧ r.W.testBit r.F = false
structure Mid (c : Cn) (r : Rd) : Prop where
  f : c.L ≤ r.F ∧ r.F ≤ c.H
  w6 : r.W < 64
  w : ∀ i, r.W.testBit i = true → c.L ≤ i ∧ i ≤ c.H
  d : r.doing ≤ 2
  d0 : r.doing = 0 → r.left = 0
  d1 : r.doing = 1 → (1 ≤ r.left ∧ r.left ≤ c.M) ∧ side r.up r.F r.W = true
  d2 : r.doing = 2 → (1 ≤ r.left ∧ r.left ≤ c.S) ∧ r.stood = true ∧ r.W.testBit r.F = false
structure Fl (c : Cn) (P : Nat) : Prop where
  lt : P < 64
  b : ∀ i, P.testBit i = true → c.L ≤ i ∧ i ≤ c.H
theorem side_lt {c : Cn} {r : Rd} (hc : c.Ok) (hw : ∀ i, r.W.testBit i = true → c.L ≤ i ∧ i ≤ c.H) (hs : side r.up r.F r.W = true) : (r.up = true → r.F + 1 ≤ c.H) ∧ (r.up = false → c.L + 1 ≤ r.F) := by
  constructor
  · intro hu
    rw [side, hu, cond_true] at hs
    obtain ⟨i, h1, h2, h3⟩ := up_iff.1 hs
    have := hw i h3
    omega
  · intro hu
    rw [side, hu, cond_false] at hs
    obtain ⟨i, h1, h2, h3⟩ := dn_iff.1 hs
    have := hw i h3
    omega
theorem end_mid {c : Cn} {r : Rd} (hc : c.Ok) (h : Ok c r) : Mid c (endR r) := by
  unfold endR
  by_cases h0 : r.doing = 0
  · rw [if_pos h0]
    exact ⟨h.f, h.w6, h.w, h.d, fun _ => (h.d0 h0).1, h.d1, h.d2⟩
  rw [if_neg h0]
  by_cases h1 : 1 < r.left
  · rw [if_pos h1]
    refine ⟨h.f, h.w6, h.w, h.d, fun e => absurd e h0, fun e => ?_, fun e => ?_⟩
    · obtain ⟨a, b⟩ := h.d1 e
      exact ⟨⟨by show 1 ≤ r.left - 1; omega, by show r.left - 1 ≤ c.M; omega⟩, b⟩
    · obtain ⟨a, b⟩ := h.d2 e
      exact ⟨⟨by show 1 ≤ r.left - 1; omega, by show r.left - 1 ≤ c.S; omega⟩, b⟩
  rw [if_neg h1]
  by_cases h2 : r.doing = 1
  · rw [if_pos h2]
    obtain ⟨hu, hd⟩ := side_lt hc h.w (h.d1 h2).2
    refine ⟨?_, h.w6, h.w, Nat.zero_le 2, fun _ => rfl, fun e => (by cases e), fun e => (by cases e)⟩
    cases hup : r.up with
    | true => have := hu hup; have := h.f; simp only [cond_true]; omega
    | false => have := hd hup; have := h.f; simp only [cond_false]; omega
  · rw [if_neg h2]
    exact ⟨h.f, h.w6, h.w, Nat.zero_le 2, fun _ => rfl, fun e => (by cases e), fun e => (by cases e)⟩
theorem side_or {u : Bool} {F W Q : Nat} (h : side u F W = true) : side u F (W ||| Q) = true := by
  cases u with
  | true =>
    simp only [side, cond_true] at h ⊢
    obtain ⟨i, h1, h2, h3⟩ := up_iff.1 h
    exact up_iff.2 ⟨i, h1, h2, by rw [Nat.testBit_or, h3]; rfl⟩
  | false =>
    simp only [side, cond_false] at h ⊢
    obtain ⟨i, h1, h2, h3⟩ := dn_iff.1 h
    exact dn_iff.2 ⟨i, h1, h2, by rw [Nat.testBit_or, h3]; rfl⟩
theorem press_mid {c : Cn} {r : Rd} (hc : c.Ok) (h : Mid c r) {P : Nat} (hP : Fl c P) : Mid c (pressR r P) := by
  have hf : r.F < 6 := by have := h.f; have := hc.h5; omega
  have hoff : ∀ i, (off P r.F).testBit i = true → P.testBit i = true ∧ i ≠ r.F := fun i hi => by
    have h6 := bit_lt (off_lt hP.lt) hi
    rw [off_bit r.F hf P hP.lt i h6, Bool.and_eq_true] at hi
    exact ⟨hi.1, by simpa using hi.2⟩
  refine ⟨h.f, ?_, fun i hi => ?_, h.d, h.d0, fun e => ⟨(h.d1 e).1, side_or (h.d1 e).2⟩, fun e => ⟨(h.d2 e).1, (h.d2 e).2.1, ?_⟩⟩
  · show r.W ||| _ < 64
    split
    · exact or_lt h.w6 (off_lt hP.lt)
    · exact or_lt h.w6 hP.lt
  · have hi : (r.W ||| (if r.doing = 2 then off P r.F else P)).testBit i = true := hi
    rw [Nat.testBit_or, Bool.or_eq_true] at hi
    rcases hi with hi | hi
    · exact h.w i hi
    · split at hi
      · exact hP.b i (hoff i hi).1
      · exact hP.b i hi
  · show (r.W ||| (if r.doing = 2 then off P r.F else P)).testBit r.F = false
    have e : r.doing = 2 := e
    rw [if_pos e, Nat.testBit_or, (h.d2 e).2.2, off_bit r.F hf P hP.lt r.F hf]
    simp
theorem begin_ok {c : Cn} {r : Rd} (hc : c.Ok) (h : Mid c r) : Ok c (beginR c.M c.S r) := by
  have hf : r.F < 6 := by have := h.f; have := hc.h5; omega
  have hm := hc.m1
  have hs := hc.s1
  unfold beginR
  by_cases h0 : r.doing = 0
  · rw [if_neg (by simpa using h0)]
    by_cases hw : r.W = 0
    · rw [if_pos hw]
      exact ⟨h.f, h.w6, h.w, h.d, fun e => ⟨h.d0 e, hw⟩, h.d1, h.d2⟩
    rw [if_neg hw]
    cases hb : (r.W.testBit r.F && (!r.stood || r.W == 2 ^ r.F)) with
    | true =>
      simp only [cond_true]
      refine ⟨h.f, off_lt h.w6, fun i hi => ?_, Nat.le_refl 2, fun e => (by cases e), fun e => (by cases e), fun _ => ⟨⟨hs, Nat.le_refl _⟩, rfl, ?_⟩⟩
      · have h6 := bit_lt (off_lt h.w6) hi
        have hi : (off r.W r.F).testBit i = true := hi
        rw [off_bit r.F hf r.W h.w6 i h6, Bool.and_eq_true] at hi
        exact h.w i hi.1
      · show (off r.W r.F).testBit r.F = false
        rw [off_bit r.F hf r.W h.w6 r.F hf]
        simp
    | false =>
      simp only [cond_false]
      refine ⟨h.f, h.w6, h.w, Nat.le_succ 1, fun e => (by cases e), fun _ => ⟨⟨hm, Nat.le_refl _⟩, ?_⟩, fun e => (by cases e)⟩
      show side (bif side r.up r.F r.W then r.up else !r.up) r.F r.W = true
      cases hsd : side r.up r.F r.W with
      | true => simp only [cond_true, hsd]
      | false =>
        simp only [cond_false]
        have hh : r.W.testBit r.F = true → r.W ≠ 2 ^ r.F := fun h1 h2 => by
          rw [h1, h2] at hb
          simp at hb
        have := sides r.F hf r.W h.w6 hw hh
        rw [Bool.or_eq_true] at this
        cases hu : r.up with
        | true =>
          simp only [side, hu, cond_true] at hsd
          rw [hsd] at this
          simp only [side, Bool.not_true, cond_false]
          simpa using this
        | false =>
          simp only [side, hu, cond_false] at hsd
          rw [hsd] at this
          simp only [side, Bool.not_false, cond_true]
          simpa using this
  · rw [if_pos h0]
    exact ⟨h.f, h.w6, h.w, h.d, fun e => absurd e h0, h.d1, h.d2⟩
theorem tick_ok {c : Cn} {r : Rd} (hc : c.Ok) (h : Ok c r) {P : Nat} (hP : Fl c P) : Ok c (tickR c.M c.S r P) := begin_ok hc (press_mid hc (end_mid hc h) hP)
theorem serv_lt {c : Cn} {r : Rd} (hc : c.Ok) (h : Ok c r) {P : Nat} (hP : Fl c P) : servR r P < 64 := by
  have hm := end_mid hc h
  have hf : (endR r).F < 6 := by have := hm.f; have := hc.h5; omega
  refine or_lt ?_ ?_
  · unfold servP
    split
    · exact Nat.lt_of_le_of_lt Nat.and_le_left hP.lt
    · decide
  · cases begS (pressR (endR r) P)
    · exact Nat.zero_lt_succ _
    · exact pow_lt hf
end
end Go.Proofs.Ytlphgonhenegoaa
set_option linter.unusedVariables false
set_option linter.unusedSimpArgs false
set_option maxHeartbeats 0
set_option maxRecDepth 100000
namespace Go.Proofs.Ytlphgonhenegoaa
open Go.Sx
section
theorem w64_pred {n : Nat} (h1 : 1 ≤ n) (h : n < 1000000) : w64 ((n : Int) - 1) = ((n - 1 : Nat) : Int) := by
  rw [w64_eq (by omega) (by omega)]; omega
theorem w64_succ {n : Nat} (h : n < 1000000000000) : w64 ((n : Int) + 1) = ((n + 1 : Nat) : Int) := by
  rw [w64_eq (by omega) (by omega)]; omega
theorem eqN (a b : Nat) : (((a : Nat) : Int) == ((b : Nat) : Int)) = (a == b) := by
  by_cases h : a = b
  · simp [h]
  · have h1 : ¬ ((a : Nat) : Int) = (b : Int) := by omega
    rw [beq_eq_false_iff_ne.2 h1, beq_eq_false_iff_ne.2 h]
theorem eqz (a : Nat) : (((a : Nat) : Int) == 0) = (a == 0) := eqN a 0
theorem nez (a : Nat) : (((a : Nat) : Int) != 0) = (a != 0) := congrArg not (eqz a)
theorem end_eq (N : Nat) {c : Cn} {r : Rd} (hc : c.Ok) (h : Ok c r) {R : Type} (k : calls_cage → Option R) : calls_cage_end N ⟨c.car, r.ride⟩ k = k ⟨c.car, (endR r).ride⟩ := by
  rw [calls_cage_end_def]
  unfold calls_cage_end_m endR
  simp only [Rd.ride, eqz]
  have hm := hc.m3
  have hs := hc.s4
  by_cases h0 : r.doing = 0
  · simp [h0]
  have e0 : (r.doing == 0) = false := by simpa using h0
  simp only [e0, cond_false, if_neg h0]
  have hl : 1 ≤ r.left ∧ r.left ≤ 4 := by
    have := h.d
    have : r.doing = 1 ∨ r.doing = 2 := by omega
    rcases this with e | e
    · have := (h.d1 e).1; omega
    · have := (h.d2 e).1; omega
  simp only [w64_pred hl.1 (show r.left < 1000000 by omega)]
  by_cases h1 : 1 < r.left
  · have : decide (((r.left - 1 : Nat) : Int) > 0) = true := by simp; omega
    simp only [this, cond_true, if_pos h1]
  · have : decide (((r.left - 1 : Nat) : Int) > 0) = false := by simp; omega
    have hl0 : r.left - 1 = 0 := by omega
    simp only [this, cond_false, if_neg h1, hl0]
    have e1 : (((r.doing : Nat) : Int) == 1) = (r.doing == 1) := eqN r.doing 1
    rw [e1]
    by_cases h2 : r.doing = 1
    · obtain ⟨hu, hd⟩ := side_lt hc h.w (h.d1 h2).2
      have h5 := hc.h5
      simp only [h2, BEq.rfl, cond_true, if_true]
      cases hup : r.up with
      | true =>
        simp only [cond_true]
        have := hu hup
        rw [w64_succ (by omega)]
        rfl
      | false =>
        simp only [cond_false]
        have := hd hup
        rw [w64_pred (by omega) (by have := h.f; omega)]
        rfl
    · have e2 : (r.doing == 1) = false := by simpa using h2
      simp only [e2, cond_false, if_neg h2]
      rfl
theorem press1_eq (N : Nat) {c : Cn} {r : Rd} (hc : c.Ok) (h : Mid c r) {g : Nat} (hg : g < 6) {R : Type} (k : Bool → calls_cage → Option R) :
    calls_cage_press N (g : Int) ⟨c.car, r.ride⟩ k = k (r.doing == 2 && g == r.F) ⟨c.car, (⟨r.F, r.up, r.stood, r.doing, r.left, bif r.doing == 2 && g == r.F then r.W else r.W ||| 2 ^ g⟩ : Rd).ride⟩ := by
  rw [calls_cage_press_def]
  unfold calls_cage_press_m
  have e1 : (((r.doing : Nat) : Int) == 2) = (r.doing == 2) := eqN r.doing 2
  simp only [Rd.ride, e1, eqN, natF, cond_false, shl_eq (show g < 60 by omega), or64 r.W h.w6 (2 ^ g) (pow_lt hg)]
  cases h2 : r.doing == 2 with
  | true =>
    simp only [cond_true, Bool.true_and]
    cases h3 : g == r.F <;> simp
  | false => simp
def setA (a : Arr Int) : Nat → Nat
  | 0 => 0
  | n + 1 => setA a n ||| 2 ^ (a.f n).toNat
theorem set_lt {a : Arr Int} {n : Nat} (h : ∀ i, i < n → 0 ≤ a.f i ∧ a.f i < 6) : setA a n < 64 := by
  induction n with
  | zero => exact Nat.zero_lt_succ _
  | succ n ih =>
    have := h n (by omega)
    exact or_lt (ih fun i hi => h i (by omega)) (pow_lt (by omega))
theorem off_or : ∀ F : Nat, F < 6 → ∀ P : Nat, P < 64 → ∀ g : Nat, g < 6 → (bif g == F then off P F else off P F ||| 2 ^ g) = off (P ||| 2 ^ g) F := by decide +kernel
theorem serv_or : ∀ F : Nat, F < 6 → ∀ P : Nat, P < 64 → ∀ g : Nat, g < 6 → (bif g == F then (P &&& 2 ^ F) ||| 2 ^ g else P &&& 2 ^ F) = (P ||| 2 ^ g) &&& 2 ^ F := by decide +kernel
theorem press_l3 (N : Nat) {c : Cn} {r : Rd} (hc : c.Ok) (h : Mid c r) {a : Arr Int} (ha : ∀ i, i < a.n → 0 ≤ a.f i ∧ (c.L : Int) ≤ a.f i ∧ a.f i ≤ (c.H : Int)) (hn : a.n ≤ 1000) {R : Type} (k0 : Int → calls_cage → Option R) : ∀ (q i n : Nat), i + q = a.n → q < n →
    calls_cage_tick_l3 N n ((servP r (setA a i) : Nat) : Int) a (a.n : Int) (i : Int) ⟨c.car, (pressR r (setA a i)).ride⟩ k0 = k0 ((servP r (setA a a.n) : Nat) : Int) ⟨c.car, (pressR r (setA a a.n)).ride⟩ := by
  have hf : r.F < 6 := by have := h.f; have := hc.h5; omega
  have h5 := hc.h5
  have hlt : ∀ i, i ≤ a.n → setA a i < 64 := fun i hi => set_lt fun j hj => by have := ha j (by omega); omega
  have hfl : ∀ i, i ≤ a.n → Fl c (setA a i) := fun i hi => by
    refine ⟨hlt i hi, ?_⟩
    clear hlt
    induction i with
    | zero => intro j hj; simp [setA] at hj
    | succ i ih =>
      intro j hj
      simp only [setA, Nat.testBit_or, Bool.or_eq_true] at hj
      rcases hj with hj | hj
      · exact ih (by omega) j hj
      · rw [Nat.testBit_two_pow] at hj
        have : (a.f i).toNat = j := by simpa using hj
        have := ha i (by omega)
        omega
  intro q
  induction q with
  | zero =>
    intro i n h1 h2
    obtain ⟨n, rfl⟩ : ∃ m, n = m + 1 := ⟨n - 1, by omega⟩
    have : i = a.n := by omega
    subst this
    unfold calls_cage_tick_l3 calls_cage_tick_b3
    simp only [ltF (Nat.le_refl a.n), cond_false]
  | succ q ih =>
    intro i n h1 h2
    obtain ⟨n, rfl⟩ : ∃ m, n = m + 1 := ⟨n - 1, by omega⟩
    have hg := ha i (by omega)
    obtain ⟨g, hge⟩ : ∃ g : Nat, a.f i = (g : Int) := ⟨(a.f i).toNat, by omega⟩
    have hg6 : g < 6 := by omega
    have hmid := press_mid hc h (hfl i (by omega))
    have ih' := ih (i + 1) n (by omega) (by omega)
    have hset : setA a (i + 1) = setA a i ||| 2 ^ g := by simp [setA, hge]
    rw [hset] at ih'
    unfold calls_cage_tick_l3 calls_cage_tick_b3
    simp only [ltT (show i < a.n by omega), nat_nonneg, Bool.and_self, cond_true, Int.toNat_natCast (n := i), hge, w64_succ (show i < 1000000000000 by omega)]
    rw [press1_eq N hc hmid hg6]
    have hd : (pressR r (setA a i)).doing = r.doing := rfl
    have hF : (pressR r (setA a i)).F = r.F := rfl
    simp only [hd, hF]
    refine Eq.trans ?_ ih'
    simp only [natF, cond_false, shl_eq (show g < 60 by omega)]
    have hs := serv_or r.F hf (setA a i) (hlt i (by omega)) g hg6
    have ho := off_or r.F hf (setA a i) (hlt i (by omega)) g hg6
    by_cases h2 : r.doing = 2
    · have e2 : (r.doing == 2) = true := by simpa using h2
      cases h3 : g == r.F with
      | true =>
        rw [h3] at hs ho
        simp only [cond_true] at hs ho
        simp only [e2, Bool.true_and, cond_true, servP, if_pos h2]
        rw [or64 _ (Nat.lt_of_le_of_lt Nat.and_le_left (hlt i (by omega))) _ (pow_lt hg6), hs]
        simp only [pressR, if_pos h2, ho]
      | false =>
        rw [h3] at hs ho
        simp only [cond_false] at hs ho
        simp only [e2, Bool.true_and, cond_false, servP, if_pos h2, ← hs]
        simp only [pressR, if_pos h2, ← ho, Nat.or_assoc]
    · have e2 : (r.doing == 2) = false := by simpa using h2
      simp only [e2, Bool.false_and, cond_false, servP, if_neg h2, pressR, Nat.or_assoc]
theorem rideF (c : api_Car) (r : Rd) : decide (api_Ride.Floor (calls_cage.Ride ⟨c, r.ride⟩) < (0 : Int)) = false := natF r.F
theorem ahead_eq (N : Nat) {c : Cn} {r : Rd} (hc : c.Ok) (h : Mid c r) {R : Type} (k : Int → Option R) : calls_cage_ahead N ⟨c.car, r.ride⟩ k = k (bif r.up then -((2 ^ (r.F + 1) : Nat) : Int) else ((2 ^ r.F - 1 : Nat) : Int)) := by
  have hf : r.F < 6 := by have := h.f; have := hc.h5; omega
  rw [calls_cage_ahead_def]
  unfold calls_cage_ahead_m
  rw [rideF]
  simp only [cond_false]
  simp only [Rd.ride, shl_eq (show r.F < 60 by omega)]
  cases r.up with
  | true => simp only [cond_true, up_w r.F hf]
  | false => simp only [cond_false, dn_w r.F hf]
theorem begins_eq (N : Nat) {c : Cn} {r : Rd} (hc : c.Ok) (h : Mid c r) {R : Type} (k : Bool → calls_cage → Option R) : calls_cage_begins N ⟨c.car, r.ride⟩ k = k (begS r) ⟨c.car, (beginR c.M c.S r).ride⟩ := by
  have hf : r.F < 6 := by have := h.f; have := hc.h5; omega
  rw [calls_cage_begins_def]
  unfold calls_cage_begins_m
  rw [rideF]
  simp only [ahead_eq N hc h, cond_false]
  simp only [Rd.ride, shl_eq (show r.F < 60 by omega), nez, eqz, eqN, here_eq r.F hf r.W h.w6, off_eq r.F hf r.W h.w6]
  unfold begS beginR
  by_cases h0 : r.doing = 0
  · have e0 : (r.doing != 0) = false := by simp [h0]
    have e1 : (r.doing == 0) = true := by simp [h0]
    simp only [e0, cond_false, h0, ne_eq, not_true_eq_false, if_false, BEq.rfl, Bool.true_and]
    by_cases hw : r.W = 0
    · simp [hw, h0]
    · have e2 : (r.W == 0) = false := by simpa using hw
      have e3 : (r.W != 0) = true := by simp [bne, e2]
      simp only [e2, cond_false, if_neg hw, e3, Bool.true_and]
      have hsd : (w64 (↑(BitVec.toNat (BitVec.ofInt (IntKind.bits IntKind.i64) (r.W : Int) &&& BitVec.ofInt (IntKind.bits IntKind.i64) (bif r.up then -((2 ^ (r.F + 1) : Nat) : Int) else ((2 ^ r.F - 1 : Nat) : Int)))) : Int) == (0 : Int)) = !side r.up r.F r.W := by
        cases hu : r.up with
        | true => simp only [cond_true, side]; exact up_eq r.F hf r.W h.w6
        | false => simp only [cond_false, side]; exact dn_eq r.F hf r.W h.w6
      rw [hsd]
      cases hb : r.W.testBit r.F with
      | false =>
        simp only [Bool.false_and, cond_false]
        cases side r.up r.F r.W <;> rfl
      | true =>
        simp only [Bool.true_and, cond_true]
        cases hst : r.stood with
        | false => rfl
        | true =>
          simp only [Bool.not_true, cond_false, Bool.false_or]
          cases hw2 : r.W == 2 ^ r.F with
          | true => rfl
          | false =>
            simp only [cond_false]
            cases side r.up r.F r.W <;> rfl
  · have e0 : (r.doing != 0) = true := by simpa using h0
    have e1 : (r.doing == 0) = false := by simpa using h0
    simp only [e0, cond_true, e1, Bool.false_and, ne_eq, h0, not_false_eq_true, if_true]
theorem tick_eq {N : Nat} {c : Cn} {r : Rd} (hc : c.Ok) (h : Ok c r) {a : Arr Int} (ha : ∀ i, i < a.n → 0 ≤ a.f i ∧ (c.L : Int) ≤ a.f i ∧ a.f i ≤ (c.H : Int)) (hn : a.n ≤ 1000) (hN : 1000 < N) {R : Type} (k : Int → calls_cage → Option R) :
    calls_cage_tick N a ⟨c.car, r.ride⟩ k = k ((servR r (setA a a.n) : Nat) : Int) ⟨c.car, (tickR c.M c.S r (setA a a.n)).ride⟩ := by
  have hm := end_mid hc h
  have hf : (endR r).F < 6 := by have := hm.f; have := hc.h5; omega
  have h5 := hc.h5
  have hlt : setA a a.n < 64 := set_lt fun j hj => by have := ha j hj; omega
  have hfl : Fl c (setA a a.n) := by
    refine ⟨hlt, ?_⟩
    have key : ∀ i, i ≤ a.n → ∀ j, (setA a i).testBit j = true → c.L ≤ j ∧ j ≤ c.H := by
      intro i
      induction i with
      | zero => intro _ j hj; simp [setA] at hj
      | succ i ih =>
        intro hi j hj
        simp only [setA, Nat.testBit_or, Bool.or_eq_true] at hj
        rcases hj with hj | hj
        · exact ih (by omega) j hj
        · rw [Nat.testBit_two_pow] at hj
          have : (a.f i).toNat = j := by simpa using hj
          have := ha i (by omega)
          omega
    exact key a.n (Nat.le_refl _)
  rw [calls_cage_tick_def]
  unfold calls_cage_tick_m
  rw [end_eq N hc h]
  have h0 : servP (endR r) (setA a 0) = 0 := by unfold servP; split <;> simp [setA]
  have hp0 : pressR (endR r) (setA a 0) = endR r := by
    simp only [pressR, setA]
    have : (if (endR r).doing = 2 then off 0 (endR r).F else 0) = 0 := by split <;> simp [off]
    rw [this, Nat.or_zero]
  have key := press_l3 N hc hm ha hn (k0 := fun r183 r184 => calls_cage_begins N r184 (fun r189 r190 =>
   bif r189 then
    bif decide (api_Ride.Floor (calls_cage.Ride r190) < (0 : Int)) then
     Option.none
    else
     k (w64 (↑(BitVec.toNat (BitVec.ofInt (IntKind.bits IntKind.i64) r183 ||| BitVec.ofInt (IntKind.bits IntKind.i64) (w64 ((1 : Int) * (2 : Int) ^ min (Int.toNat (api_Ride.Floor (calls_cage.Ride r190))) (IntKind.bits IntKind.i64))))) : Int)) r190
   else
    k r183 r190)) a.n 0 N (by omega) (by omega)
  rw [h0, hp0] at key
  refine key.trans ?_
  have hpm := press_mid hc hm hfl
  rw [begins_eq N hc hpm]
  unfold servR tickR
  have hF : ((beginR c.M c.S (pressR (endR r) (setA a a.n))).ride).Floor = (((endR r).F : Nat) : Int) := by
    unfold beginR
    split
    · rfl
    · split
      · rfl
      · cases (pressR (endR r) (setA a a.n)).W.testBit (pressR (endR r) (setA a a.n)).F && (!(pressR (endR r) (setA a a.n)).stood || (pressR (endR r) (setA a a.n)).W == 2 ^ (pressR (endR r) (setA a a.n)).F) <;> rfl
  cases hb : begS (pressR (endR r) (setA a a.n)) with
  | true =>
    have hsp : servP (endR r) (setA a a.n) < 64 := by
      unfold servP; split
      · exact Nat.lt_of_le_of_lt Nat.and_le_left hlt
      · exact Nat.zero_lt_succ _
    simp only [cond_true, hF, natF, cond_false, shl_eq (show (endR r).F < 60 by omega), or64 _ hsp _ (pow_lt hf)]
  | false => simp only [cond_false, Nat.or_zero]
end
end Go.Proofs.Ytlphgonhenegoaa
set_option linter.unusedVariables false
set_option linter.unusedSimpArgs false
set_option maxHeartbeats 0
set_option maxRecDepth 100000
namespace Go.Proofs.Ytlphgonhenegoaa
open Go.Sx
section
theorem bitq : ∀ f : Nat, f < 6 → ∀ W : Nat, W < 64 → (w64 (↑(BitVec.toNat (BitVec.ofInt (IntKind.bits IntKind.i64) (Int.fdiv (W : Int) ((2 : Int) ^ min (Int.toNat (f : Int)) (IntKind.bits IntKind.i64))) &&& BitVec.ofInt (IntKind.bits IntKind.i64) (1 : Int))) : Int) == (1 : Int)) = W.testBit f := by decide +kernel
theorem wanted_eq (N : Nat) {r : Rd} (hw : r.W < 64) {f : Nat} (hf : f < 6) {R : Type} (k : Bool → Option R) : r7wanted N r.ride (f : Int) k = k (r.W.testBit f) := by
  rw [r7wanted_def]
  unfold r7wanted_m
  rw [wrapU f (by omega), natF, cond_false]
  exact congrArg k (bitq f hf r.W hw)
theorem gtN (a b : Nat) : decide ((a : Int) > (b : Int)) = decide (b < a) := by simp
theorem ltN (a b : Nat) : decide ((a : Int) < (b : Int)) = decide (a < b) := by simp
theorem ahead_l2 (N : Nat) {r : Rd} (hw : r.W < 64) {R : Type} (kr : Bool → Option R) (k0 : Unit → Option R) : ∀ (q i n : Nat), i + q = 6 → q < n →
    r7ahead_l2 N n (i : Int) r.ride kr k0 = bif (List.range' i q).any fun j => r.W.testBit j && (bif r.up then decide (r.F < j) else decide (j < r.F)) then kr true else k0 () := by
  intro q
  induction q with
  | zero =>
    intro i n h1 h2
    obtain ⟨n, rfl⟩ : ∃ m, n = m + 1 := ⟨n - 1, by omega⟩
    unfold r7ahead_l2 r7ahead_b2
    have : decide ((i : Int) ≤ 5) = false := by simp; omega
    rw [this]
    rfl
  | succ q ih =>
    intro i n h1 h2
    obtain ⟨n, rfl⟩ : ∃ m, n = m + 1 := ⟨n - 1, by omega⟩
    unfold r7ahead_l2 r7ahead_b2
    have : decide ((i : Int) ≤ 5) = true := by simp; omega
    rw [this, cond_true, wanted_eq N hw (by omega)]
    have hs : w64 ((i : Int) + 1) = ((i + 1 : Nat) : Int) := w64_succ (by omega)
    simp only [hs, ih (i + 1) n (by omega) (by omega)]
    have hF : api_Ride.Floor r.ride = (r.F : Int) := rfl
    have hU : api_Ride.Up r.ride = r.up := rfl
    simp only [hF, hU, gtN, ltN, List.range'_succ, List.any_cons]
    cases hb : r.W.testBit i with
    | false => simp only [cond_false, Bool.false_and, Bool.false_or]
    | true =>
      cases hu : r.up with
      | true => simp only [cond_true, Bool.true_and, Bool.not_true, cond_false]; cases decide (r.F < i) <;> rfl
      | false => simp only [cond_false, Bool.not_false, cond_true, Bool.true_and]; cases decide (i < r.F) <;> rfl
theorem any_side (u : Bool) (F W : Nat) : ((List.range' 0 6).any fun j => W.testBit j && (bif u then decide (F < j) else decide (j < F))) = side u F W := by
  have : List.range' 0 6 = List.range 6 := by decide
  rw [this]
  cases u with
  | true => simp only [cond_true, side, up]; congr 1; funext j; exact Bool.and_comm _ _
  | false => simp only [cond_false, side, dn]; congr 1; funext j; exact Bool.and_comm _ _
theorem refAhead {N : Nat} (hN : 7 ≤ N) {r : Rd} (hw : r.W < 64) {R : Type} (k : Bool → Option R) : r7ahead N r.ride k = k (side r.up r.F r.W) := by
  rw [r7ahead_def]
  unfold r7ahead_m
  refine (ahead_l2 N hw _ _ 6 0 N (by omega) (by omega)).trans ?_
  rw [any_side]
  cases side r.up r.F r.W <;> rfl
theorem j1_eq {N : Nat} (hN : 7 ≤ N) {c : Cn} {r : Rd} (hf : r.F < 6) (hw : r.W < 64) {Q sv : Nat} (hQ : Q < 64) (hsv : sv < 64) (z : api_Ride) {R : Type} (kr : Int → api_Ride → Option R) :
    r7Tick_j1 N (Q : Int) ((2 ^ r.F : Nat) : Int) (sv : Int) c.car r.ride z kr = kr ((sv ||| (bif begS ⟨r.F, r.up, r.stood, r.doing, r.left, r.W ||| Q⟩ then 2 ^ r.F else 0) : Nat) : Int) (beginR c.M c.S ⟨r.F, r.up, r.stood, r.doing, r.left, r.W ||| Q⟩).ride := by
  rw [r7Tick_j1_def]
  unfold r7Tick_j1_m
  have hF : api_Ride.Floor r.ride = (r.F : Int) := rfl
  have hU : api_Ride.Up r.ride = r.up := rfl
  have hD : api_Ride.Doing r.ride = (r.doing : Int) := rfl
  have hL : api_Ride.Left r.ride = (r.left : Int) := rfl
  have hS : api_Ride.Stood r.ride = r.stood := rfl
  have hW : api_Ride.Wants r.ride = (r.W : Int) := rfl
  have hA : ∀ (k : Bool → Option R), r7ahead N (api_Ride.mk (r.F : Int) r.up r.stood (r.doing : Int) (r.left : Int) ((r.W ||| Q : Nat) : Int)) k = k (side r.up r.F (r.W ||| Q)) := fun k => refAhead hN (r := ⟨r.F, r.up, r.stood, r.doing, r.left, r.W ||| Q⟩) (or_lt hw hQ) k
  simp only [hF, hU, hD, hL, hS, hW, or64 r.W hw Q hQ, hA, nez, eqz, eqN, here_eq r.F hf _ (or_lt hw hQ), off_eq r.F hf _ (or_lt hw hQ), or64 sv hsv _ (pow_lt hf)]
  unfold begS beginR
  by_cases h0 : r.doing = 0
  · have e0 : (r.doing != 0) = false := by simp [h0]
    have e1 : (r.doing == 0) = true := by simp [h0]
    simp only [e0, cond_false, h0, ne_eq, not_true_eq_false, if_false, BEq.rfl, Bool.true_and]
    by_cases hw0 : r.W ||| Q = 0
    · simp only [hw0, BEq.rfl, cond_true, if_true, bne_self_eq_false, Bool.false_and, cond_false, Nat.or_zero]
      rfl
    · have e2 : (r.W ||| Q == 0) = false := by simpa using hw0
      have e3 : (r.W ||| Q != 0) = true := by simp [bne, e2]
      simp only [e2, cond_false, if_neg hw0, e3, Bool.true_and]
      cases hb : (r.W ||| Q).testBit r.F with
      | false =>
        simp only [Bool.false_and, cond_false, Nat.or_zero]
        cases side r.up r.F (r.W ||| Q) <;> rfl
      | true =>
        simp only [Bool.true_and, cond_true]
        cases hst : r.stood with
        | false => rfl
        | true =>
          simp only [Bool.not_true, cond_false, Bool.false_or]
          cases hw2 : (r.W ||| Q == 2 ^ r.F) with
          | true => rfl
          | false =>
            simp only [cond_false, Nat.or_zero]
            cases side r.up r.F (r.W ||| Q) <;> rfl
  · have e0 : (r.doing != 0) = true := by simpa using h0
    have e1 : (r.doing == 0) = false := by simpa using h0
    simp only [e0, cond_true, e1, Bool.false_and, ne_eq, h0, not_false_eq_true, if_true, cond_false, Nat.or_zero]
    rfl
theorem j0_eq {N : Nat} (hN : 7 ≤ N) {c : Cn} (hc : c.Ok) {r : Rd} (h : Mid c r) {P : Nat} (hP : Fl c P) (z : api_Ride) {R : Type} (kr : Int → api_Ride → Option R) :
    r7Tick_j0 N (P : Int) c.car r.ride z kr = kr ((servP r P ||| (bif begS (pressR r P) then 2 ^ r.F else 0) : Nat) : Int) (beginR c.M c.S (pressR r P)).ride := by
  have hf : r.F < 6 := by have := h.f; have := hc.h5; omega
  rw [r7Tick_j0_def]
  unfold r7Tick_j0_m
  have hF : api_Ride.Floor r.ride = (r.F : Int) := rfl
  have hD : api_Ride.Doing r.ride = (r.doing : Int) := rfl
  have e1 : (((r.doing : Nat) : Int) == 2) = (r.doing == 2) := eqN r.doing 2
  rw [hF, wrapU r.F (by omega), natF, cond_false, hD, e1, shl_eq (show r.F < 60 by omega), off_eq r.F hf P hP.lt, and64 P hP.lt _ (pow_lt hf)]
  by_cases h2 : r.doing = 2
  · have e2 : (r.doing == 2) = true := by simpa using h2
    rw [e2, cond_true, j1_eq hN hf h.w6 (off_lt hP.lt) (Nat.lt_of_le_of_lt Nat.and_le_left hP.lt)]
    simp only [servP, pressR, if_pos h2]
  · have e2 : (r.doing == 2) = false := by simpa using h2
    rw [e2, cond_false]
    refine (j1_eq hN hf h.w6 hP.lt (Nat.zero_lt_succ _) (sv := 0) z _).trans ?_
    simp only [servP, pressR, if_neg h2]
theorem refTick {N : Nat} (hN : 7 ≤ N) {c : Cn} (hc : c.Ok) {r : Rd} (h : Ok c r) {P : Nat} (hP : Fl c P) {R : Type} (k : api_Ride → Int → Option R) :
    r7Tick N c.car r.ride (P : Int) k = k (tickR c.M c.S r P).ride ((servR r P : Nat) : Int) := by
  have hm := end_mid hc h
  have hj : ∀ (z : api_Ride) (kr : Int → api_Ride → Option R), r7Tick_j0 N (P : Int) c.car (endR r).ride z kr = kr ((servR r P : Nat) : Int) (tickR c.M c.S r P).ride := fun z kr => j0_eq hN hc hm hP z kr
  rw [r7Tick_def]
  unfold r7Tick_m
  have hF : api_Ride.Floor r.ride = (r.F : Int) := rfl
  have hU : api_Ride.Up r.ride = r.up := rfl
  have hD : api_Ride.Doing r.ride = (r.doing : Int) := rfl
  have hL : api_Ride.Left r.ride = (r.left : Int) := rfl
  have hS : api_Ride.Stood r.ride = r.stood := rfl
  have hW : api_Ride.Wants r.ride = (r.W : Int) := rfl
  have m3 := hc.m3
  have s4 := hc.s4
  have h5 := hc.h5
  by_cases h0 : r.doing = 0
  · have e0 : (((r.doing : Nat) : Int) != 0) = false := by rw [nez]; simp [h0]
    rw [hD, e0, cond_false]
    have : endR r = r := by simp [endR, h0]
    rw [this] at hj
    rw [hj]
  have e0 : (((r.doing : Nat) : Int) != 0) = true := by rw [nez]; simpa using h0
  have hl : 1 ≤ r.left ∧ r.left ≤ 4 := by
    have := h.d
    have : r.doing = 1 ∨ r.doing = 2 := by omega
    rcases this with e | e
    · have := (h.d1 e).1; omega
    · have := (h.d2 e).1; omega
  have e1 : (((r.doing : Nat) : Int) == 1) = (r.doing == 1) := eqN r.doing 1
  have hlw : w64 ((r.left : Int) - 1) = ((r.left - 1 : Nat) : Int) := w64_pred hl.1 (by omega)
  rw [hD, e0, cond_true]
  simp only [hL, hlw, eqz, e1, hU, hF, hS, hW]
  by_cases h1 : 1 < r.left
  · have el : (r.left - 1 == 0) = false := by simp; omega
    simp only [el, cond_false, Bool.false_and]
    have : endR r = ⟨r.F, r.up, r.stood, r.doing, r.left - 1, r.W⟩ := by simp [endR, h0, h1]
    rw [this] at hj
    have hj' : ∀ (z : api_Ride) (kr : Int → api_Ride → Option R), r7Tick_j0 N (P : Int) c.car (api_Ride.mk (r.F : Int) r.up r.stood (r.doing : Int) ((r.left - 1 : Nat) : Int) (r.W : Int)) z kr = kr ((servR r P : Nat) : Int) (tickR c.M c.S r P).ride := hj
    simp only [hj']
  · have el : (r.left - 1 == 0) = true := by simp; omega
    have hl0 : r.left - 1 = 0 := by omega
    simp only [el, cond_true, hl0]
    by_cases h2 : r.doing = 1
    · obtain ⟨hu, hd⟩ := side_lt hc h.w (h.d1 h2).2
      have e2 : (r.doing == 1) = true := by simp [h2]
      simp only [e2, cond_true]
      cases hup : r.up with
      | true =>
        have hx := hu hup
        have : endR r = ⟨r.F + 1, true, false, 0, 0, r.W⟩ := by simp [endR, h0, h1, h2, hup]
        rw [this] at hj
        have hj' : ∀ (z : api_Ride) (kr : Int → api_Ride → Option R), r7Tick_j0 N (P : Int) c.car (api_Ride.mk ((r.F + 1 : Nat) : Int) true false 0 ((0 : Nat) : Int) (r.W : Int)) z kr = kr ((servR r P : Nat) : Int) (tickR c.M c.S r P).ride := hj
        simp only [cond_true, w64_succ (show r.F < 1000000000000 by omega)]
        exact hj' _ _
      | false =>
        have hx := hd hup
        have : endR r = ⟨r.F - 1, false, false, 0, 0, r.W⟩ := by simp [endR, h0, h1, h2, hup]
        rw [this] at hj
        have hj' : ∀ (z : api_Ride) (kr : Int → api_Ride → Option R), r7Tick_j0 N (P : Int) c.car (api_Ride.mk ((r.F - 1 : Nat) : Int) false false 0 ((0 : Nat) : Int) (r.W : Int)) z kr = kr ((servR r P : Nat) : Int) (tickR c.M c.S r P).ride := hj
        simp only [cond_false, w64_pred (show 1 ≤ r.F by omega) (show r.F < 1000000 by have := h.f; omega)]
        exact hj' _ _
    · have e2 : (r.doing == 1) = false := by simpa using h2
      simp only [e2, cond_false]
      have : endR r = ⟨r.F, r.up, r.stood, 0, 0, r.W⟩ := by simp [endR, h0, h1, h2]
      rw [this] at hj
      have hj' : ∀ (z : api_Ride) (kr : Int → api_Ride → Option R), r7Tick_j0 N (P : Int) c.car (api_Ride.mk (r.F : Int) r.up r.stood 0 ((0 : Nat) : Int) (r.W : Int)) z kr = kr ((servR r P : Nat) : Int) (tickR c.M c.S r P).ride := hj
      exact hj' _ _
end
end Go.Proofs.Ytlphgonhenegoaa
set_option linter.unusedVariables false
set_option linter.unusedSimpArgs false
set_option maxHeartbeats 0
set_option maxRecDepth 100000
namespace Go.Proofs.Ytlphgonhenegoaa
open Go.Sx
section
def mv (c : Cn) (u : Bool) (F f : Nat) : Nat := bif u then (if F < f then f - F - 1 else (c.H - F - 1) + (c.H - f)) else (if f < F then F - 1 - f else (F - 1 - c.L) + (f - c.L))
def dir (c : Cn) (u : Bool) (F : Nat) : Bool := bif u then decide (F < c.H) else !decide (c.L < F)
def pot (c : Cn) (r : Rd) (f : Nat) : Nat := if r.doing = 2 then r.left + c.M + mv c (dir c r.up r.F) r.F f * (c.S + c.M) else r.left + mv c r.up r.F f * (c.S + c.M)
theorem mulS (a q : Nat) : (a + 1) * q = a * q + q := Nat.succ_mul a q
theorem mulLe {a b : Nat} (q : Nat) (h : a ≤ b) : a * q ≤ b * q := Nat.mul_le_mul_right q h
theorem side_wit {u : Bool} {F W f : Nat} (hW : W < 64) (hf : W.testBit f = true) (h : side u F W = false) : (u = true → f ≤ F) ∧ (u = false → F ≤ f) := by
  have h6 := bit_lt hW hf
  constructor
  · rintro rfl
    simp only [side, cond_true] at h
    rcases Nat.lt_or_ge F f with hlt | hge
    · rw [up_iff.2 ⟨f, h6, hlt, hf⟩] at h; cases h
    · exact hge
  · rintro rfl
    simp only [side, cond_false] at h
    rcases Nat.lt_or_ge f F with hlt | hge
    · rw [dn_iff.2 ⟨f, h6, hlt, hf⟩] at h; cases h
    · exact hge
theorem side_true {c : Cn} {u : Bool} {F W : Nat} (hw : ∀ i, W.testBit i = true → c.L ≤ i ∧ i ≤ c.H) (h : side u F W = true) : (u = true → F < c.H) ∧ (u = false → c.L < F) := by
  constructor
  · rintro rfl
    simp only [side, cond_true] at h
    obtain ⟨i, _, h2, h3⟩ := up_iff.1 h
    have := hw i h3
    omega
  · rintro rfl
    simp only [side, cond_false] at h
    obtain ⟨i, _, h2, h3⟩ := dn_iff.1 h
    have := hw i h3
    omega
def All (c : Cn) (P : Nat) : Prop := Fl c P ∧ ∀ i, c.L ≤ i → i ≤ c.H → P.testBit i = true
theorem side_all {c : Cn} {u : Bool} {F W : Nat} (hc : c.Ok) (hF : c.L ≤ F ∧ F ≤ c.H) (hw : ∀ i, W.testBit i = true → c.L ≤ i ∧ i ≤ c.H) (ha : ∀ i, c.L ≤ i → i ≤ c.H → W.testBit i = true) : (bif side u F W then u else !u) = dir c u F ∨ c.L = c.H := by
  have h5 := hc.h5
  by_cases hLH : c.L = c.H
  · exact .inr hLH
  left
  cases u with
  | true =>
    simp only [dir, cond_true, side, Bool.not_true]
    by_cases h : F < c.H
    · rw [up_iff.2 ⟨F + 1, by omega, by omega, ha _ (by omega) (by omega)⟩]
      simp [h]
    · have : up F W = false := by
        cases hu : up F W with
        | false => rfl
        | true =>
          obtain ⟨i, _, h2, h3⟩ := up_iff.1 hu
          have := hw i h3
          omega
      rw [this]
      simp [h]
  | false =>
    simp only [dir, cond_false, side, Bool.not_false]
    by_cases h : c.L < F
    · rw [dn_iff.2 ⟨F - 1, by omega, by omega, ha _ (by omega) (by omega)⟩]
      simp [h]
    · have : dn F W = false := by
        cases hu : dn F W with
        | false => rfl
        | true =>
          obtain ⟨i, _, h2, h3⟩ := dn_iff.1 hu
          have := hw i h3
          omega
      rw [this]
      simp [h]
theorem press_bit {r : Rd} {P f : Nat} (h : r.W.testBit f = true) : (pressR r P).W.testBit f = true := by
  show (r.W ||| _).testBit f = true
  rw [Nat.testBit_or, h]
  rfl
structure Step (c : Cn) (r : Rd) (f P : Nat) : Prop where
  one : 1 ≤ pot c r f
  srv : (servR r P).testBit f = decide (pot c r f = 1)
  go : pot c r f ≠ 1 → (tickR c.M c.S r P).W.testBit f = true ∧ pot c (tickR c.M c.S r P) f + 1 ≤ pot c r f ∧ (All c P → pot c (tickR c.M c.S r P) f + 1 = pot c r f)
theorem pow_bit (F f : Nat) : (2 ^ F).testBit f = decide (F = f) := by rw [Nat.testBit_two_pow]
theorem step {c : Cn} {r : Rd} (hc : c.Ok) (h : Ok c r) {f : Nat} (hf : r.W.testBit f = true) {P : Nat} (hP : Fl c P) : Step c r f P := by
  have hm1 := hc.m1
  have hs1 := hc.s1
  have hF := h.f
  have hfb := h.w f hf
  have hd2 := h.d
  generalize hq : c.S + c.M = q
  have hW0 : r.W ≠ 0 := fun h0 => by rw [h0] at hf; simp at hf
  by_cases h0 : r.doing = 0
  · exact absurd (h.d0 h0).2 hW0
  by_cases hl : 1 < r.left
  · -- nothing but time
    have he : endR r = ⟨r.F, r.up, r.stood, r.doing, r.left - 1, r.W⟩ := by simp [endR, h0, hl]
    have ht : tickR c.M c.S r P = pressR ⟨r.F, r.up, r.stood, r.doing, r.left - 1, r.W⟩ P := by
      unfold tickR
      rw [he]
      unfold beginR
      rw [if_pos (show (pressR ⟨r.F, r.up, r.stood, r.doing, r.left - 1, r.W⟩ P).doing ≠ 0 from h0)]
    have hb : begS (pressR (endR r) P) = false := by
      rw [he]
      have : (r.doing == 0) = false := by simpa using h0
      simp [begS, pressR, this]
    have hpot : pot c (tickR c.M c.S r P) f + 1 = pot c r f := by
      rw [ht]
      simp only [pot, pressR]
      split <;> omega
    refine ⟨by omega, ?_, fun _ => ⟨by rw [ht]; exact press_bit hf, by omega, fun _ => hpot⟩⟩
    have : (servR r P).testBit f = false := by
      unfold servR
      rw [hb, he]
      simp only [cond_false, Nat.or_zero, servP]
      split
      · rename_i h2
        have hF' := (h.d2 h2).2.2
        have hne : r.F ≠ f := fun e => by rw [e] at hF'; rw [hf] at hF'; cases hF'
        rw [Nat.testBit_and, pow_bit]
        simp [hne]
      · simp
    rw [this]
    have : pot c r f ≠ 1 := by
      have : 1 ≤ pot c (tickR c.M c.S r P) f := by
        rw [ht]
        simp only [pot, pressR]
        split <;> omega
      omega
    simp [this]
  by_cases h1 : r.doing = 1
  · obtain ⟨⟨hl1, _⟩, hsd⟩ := h.d1 h1
    have hl1 : r.left = 1 := by omega
    obtain ⟨hu, hd⟩ := side_lt hc h.w hsd
    generalize hF' : (bif r.up then r.F + 1 else r.F - 1) = F'
    have he : endR r = ⟨F', r.up, false, 0, 0, r.W⟩ := by simp [endR, h0, hl, h1, hF']
    have hmid : Mid c (pressR (endR r) P) := press_mid hc (end_mid hc h) hP
    have hpr : pressR (endR r) P = ⟨F', r.up, false, 0, 0, r.W ||| P⟩ := by rw [he]; simp [pressR]
    have hpot : pot c r f = 1 + mv c r.up r.F f * q := by simp [pot, h1, hl1, hq]
    have hsp : servP (endR r) P = 0 := by rw [he]; simp [servP]
    have hWf : (r.W ||| P).testBit f = true := by rw [Nat.testBit_or, hf]; rfl
    have hWn : r.W ||| P ≠ 0 := fun h0 => by rw [h0] at hWf; simp at hWf
    rw [hpr] at hmid
    have hw := hmid.w
    have hw6 : r.W ||| P < 64 := hmid.w6
    have hmf : c.L ≤ F' ∧ F' ≤ c.H := hmid.f
    have hF6 : F' < 6 := by have := hc.h5; omega
    have hbeg : begS (pressR (endR r) P) = (r.W ||| P).testBit F' := by
      rw [hpr]
      have : (r.W ||| P != 0) = true := by simpa using hWn
      simp [begS, this]
    have hsrv : servR r P = bif (r.W ||| P).testBit F' then 2 ^ F' else 0 := by
      unfold servR
      rw [hsp, hbeg, he, Nat.zero_or]
    have htk : tickR c.M c.S r P = bif (r.W ||| P).testBit F' then ⟨F', r.up, true, 2, c.S, off (r.W ||| P) F'⟩ else ⟨F', bif side r.up F' (r.W ||| P) then r.up else !r.up, false, 1, c.M, r.W ||| P⟩ := by
      unfold tickR
      rw [hpr]
      unfold beginR
      rw [if_neg (show ¬ ((0 : Nat) ≠ 0) by omega), if_neg (show ¬ (r.W ||| P = 0) from hWn)]
      simp
    by_cases hff : f = F'
    · subst hff
      have hmv : mv c r.up r.F f = 0 := by
        unfold mv
        cases hup : r.up with
        | true => rw [hup] at hF'; simp only [cond_true] at hF' ⊢; rw [if_pos (by omega)]; omega
        | false => rw [hup] at hF'; simp only [cond_false] at hF' ⊢; have := hd hup; rw [if_pos (by omega)]; omega
      have hp1 : pot c r f = 1 := by rw [hpot, hmv]; simp
      refine ⟨by omega, ?_, fun hne => absurd hp1 hne⟩
      rw [hsrv, hWf, cond_true, pow_bit, hp1]
      simp
    · -- mv turns
      have hmv : (∀ u', (u' = r.up → (u' = true → F' < c.H) → (u' = false → c.L < F') → mv c u' F' f + 1 = mv c r.up r.F f)) ∧ mv c (dir c r.up F') F' f + 1 = mv c r.up r.F f ∧ ((r.up = true → f ≤ F') → (r.up = false → F' ≤ f) → mv c (!r.up) F' f + 1 ≤ mv c r.up r.F f) := by
        unfold mv dir
        cases hup : r.up with
        | true =>
          rw [hup] at hF'
          simp only [cond_true] at hF'
          have := hu hup
          refine ⟨fun u' hu' g1 _ => ?_, ?_, fun g1 _ => ?_⟩
          · subst hu'
            have := g1 rfl
            simp only [cond_true]
            split <;> split <;> omega
          · by_cases hx : F' < c.H
            · simp only [cond_true, hx, decide_true]
              split <;> split <;> omega
            · simp only [cond_true, hx, decide_false, cond_false]
              split <;> split <;> omega
          · have := g1 rfl
            simp only [cond_true, Bool.not_true, cond_false]
            split <;> split <;> omega
        | false =>
          rw [hup] at hF'
          simp only [cond_false] at hF'
          have := hd hup
          refine ⟨fun u' hu' _ g1 => ?_, ?_, fun _ g1 => ?_⟩
          · subst hu'
            have := g1 rfl
            simp only [cond_false]
            split <;> split <;> omega
          · by_cases hx : c.L < F'
            · simp only [cond_false, hx, decide_true, Bool.not_true]
              split <;> split <;> omega
            · simp only [cond_false, hx, decide_false, Bool.not_false, cond_true]
              split <;> split <;> omega
          · have := g1 rfl
            simp only [cond_false, Bool.not_false, cond_true]
            split <;> split <;> omega
      obtain ⟨mv1, mv2, mv3⟩ := hmv
      have hpn : pot c r f ≠ 1 := by
        rw [hpot, ← mv2, mulS]
        omega
      refine ⟨by rw [hpot]; omega, ?_, fun _ => ?_⟩
      · rw [hsrv]
        cases (r.W ||| P).testBit F' with
        | true =>
          have : ¬ F' = f := fun e => hff e.symm
          rw [cond_true, pow_bit]
          simp [hpn, this]
        | false => simp [hpn]
      · rw [htk]
        cases hb : (r.W ||| P).testBit F' with
        | true =>
          simp only [cond_true]
          have hfb' : (off (r.W ||| P) F').testBit f = true := by
            rw [off_bit F' hF6 _ hw6 f (bit_lt hw6 hWf), hWf]
            simp [hff]
          have : pot c ⟨F', r.up, true, 2, c.S, off (r.W ||| P) F'⟩ f + 1 = pot c r f := by
            rw [hpot, ← mv2, mulS]
            simp only [pot, if_true, hq]
            omega
          exact ⟨hfb', by omega, fun _ => this⟩
        | false =>
          simp only [cond_false]
          refine ⟨hWf, ?_, fun ha => ?_⟩
          · rw [hpot]
            cases hs : side r.up F' (r.W ||| P) with
            | true =>
              simp only [cond_true, pot, hq]
              obtain ⟨g1, g2⟩ := side_true hw hs
              have := mv1 r.up rfl g1 g2
              rw [← this, mulS]
              simp
              omega
            | false =>
              simp only [cond_false, pot, hq]
              obtain ⟨g1, g2⟩ := side_wit hw6 hWf hs
              have := mulLe q (mv3 g1 g2)
              rw [mulS] at this
              simp
              omega
          · have := ha.2 F' hmf.1 hmf.2
            rw [Nat.testBit_or, this, Bool.or_true] at hb
            cases hb
  · have h2 : r.doing = 2 := by omega
    obtain ⟨⟨hl1, _⟩, hst, hbF⟩ := h.d2 h2
    have hl1 : r.left = 1 := by omega
    have hne : f ≠ r.F := fun e => by rw [← e, hf] at hbF; cases hbF
    have he : endR r = ⟨r.F, r.up, r.stood, 0, 0, r.W⟩ := by simp [endR, h0, hl, h1]
    have hmid : Mid c (pressR (endR r) P) := press_mid hc (end_mid hc h) hP
    have hpr : pressR (endR r) P = ⟨r.F, r.up, r.stood, 0, 0, r.W ||| P⟩ := by rw [he]; simp [pressR]
    have hpot : pot c r f = 1 + c.M + mv c (dir c r.up r.F) r.F f * q := by simp [pot, h2, hl1, hq]
    have hsp : servP (endR r) P = 0 := by rw [he]; simp [servP]
    have hWf : (r.W ||| P).testBit f = true := by rw [Nat.testBit_or, hf]; rfl
    have hWn : r.W ||| P ≠ 0 := fun h0 => by rw [h0] at hWf; simp at hWf
    rw [hpr] at hmid
    have hw := hmid.w
    have hw6 : r.W ||| P < 64 := hmid.w6
    have hW2 : (r.W ||| P == 2 ^ r.F) = false := by
      rw [beq_eq_false_iff_ne]
      intro e
      rw [e, pow_bit] at hWf
      simp at hWf
      exact hne hWf.symm
    have hbeg : begS (pressR (endR r) P) = false := by
      rw [hpr]
      simp [begS, hst, hW2]
    have hsrv : servR r P = 0 := by
      unfold servR
      rw [hsp, hbeg]
      simp
    have htk : tickR c.M c.S r P = ⟨r.F, bif side r.up r.F (r.W ||| P) then r.up else !r.up, r.stood, 1, c.M, r.W ||| P⟩ := by
      unfold tickR
      rw [hpr]
      unfold beginR
      rw [if_neg (show ¬ ((0 : Nat) ≠ 0) by omega), if_neg (show ¬ (r.W ||| P = 0) from hWn)]
      simp [hst, hW2]
    refine ⟨by omega, ?_, fun _ => ?_⟩
    · rw [hsrv, hpot]
      have : ¬ 1 + c.M + mv c (dir c r.up r.F) r.F f * q = 1 := by omega
      simp [this]
    · rw [htk]
      refine ⟨hWf, ?_, fun ha => ?_⟩
      · rw [hpot]
        simp only [pot, hq]
        have key : mv c (bif side r.up r.F (r.W ||| P) then r.up else !r.up) r.F f ≤ mv c (dir c r.up r.F) r.F f := by
          cases hs : side r.up r.F (r.W ||| P) with
          | true =>
            obtain ⟨g1, g2⟩ := side_true hw hs
            have : dir c r.up r.F = r.up := by
              unfold dir
              cases hup : r.up with
              | true => simp [g1 hup]
              | false => simp [g2 hup]
            rw [this]
            exact Nat.le_refl _
          | false =>
            obtain ⟨g1, g2⟩ := side_wit hw6 hWf hs
            unfold dir mv
            cases hup : r.up with
            | true =>
              have := g1 hup
              simp only [cond_false, cond_true, Bool.not_true]
              by_cases hx : r.F < c.H
              · simp only [hx, decide_true, cond_true]
                split <;> split <;> omega
              · simp only [hx, decide_false, cond_false]
                exact Nat.le_refl _
            | false =>
              have := g2 hup
              simp only [cond_false, cond_true, Bool.not_false]
              by_cases hx : c.L < r.F
              · simp only [hx, decide_true, Bool.not_true, cond_false]
                split <;> split <;> omega
              · simp only [hx, decide_false, Bool.not_false, cond_true]
                exact Nat.le_refl _
        have := mulLe q key
        simp
        omega
      · rw [hpot]
        simp only [pot, hq]
        have ha' : ∀ i, c.L ≤ i → i ≤ c.H → (r.W ||| P).testBit i = true := fun i h1 h2 => by rw [Nat.testBit_or, ha.2 i h1 h2, Bool.or_true]
        rcases side_all (u := r.up) hc hF hw ha' with e | e
        · rw [e]
          simp
          omega
        · omega
end
end Go.Proofs.Ytlphgonhenegoaa
set_option linter.unusedVariables false
set_option linter.unusedSimpArgs false
set_option maxHeartbeats 0
set_option maxRecDepth 100000
namespace Go.Proofs.Ytlphgonhenegoaa
open Go.Sx
section
theorem tick_bit {c : Cn} {r : Rd} (hc : c.Ok) (h : Ok c r) {P : Nat} (hP : Fl c P) {f : Nat} (hf : f < 6) :
    (tickR c.M c.S r P).W.testBit f = ((r.W.testBit f || P.testBit f) && !(servR r P).testBit f) ∧ ((servR r P).testBit f = true → r.W.testBit f = true ∨ P.testBit f = true) := by
  have hm := end_mid hc h
  have hpm := press_mid hc hm hP
  have hFe : (endR r).F < 6 := by have := hm.f; have := hc.h5; omega
  have hWe : (endR r).W = r.W := by unfold endR; split; rfl; split; rfl; split <;> rfl
  have hpW : (pressR (endR r) P).W = r.W ||| (if (endR r).doing = 2 then off P (endR r).F else P) := by show (endR r).W ||| _ = _; rw [hWe]
  have hpF : (pressR (endR r) P).F = (endR r).F := rfl
  have hpd : (pressR (endR r) P).doing = (endR r).doing := rfl
  have hps : (pressR (endR r) P).stood = (endR r).stood := rfl
  unfold tickR servR
  by_cases h2 : (endR r).doing = 2
  · have hb : begS (pressR (endR r) P) = false := by simp [begS, hpd, h2]
    have ht : beginR c.M c.S (pressR (endR r) P) = pressR (endR r) P := by unfold beginR; rw [if_pos (by rw [hpd, h2]; decide)]
    have hw2 := (hm.d2 h2).2.2
    rw [hWe] at hw2
    rw [hb, ht, hpW, if_pos h2]
    simp only [cond_false, Nat.or_zero, servP, if_pos h2, Nat.testBit_or, Nat.testBit_and, pow_bit, off_bit _ hFe P hP.lt f hf]
    by_cases hfF : f = (endR r).F
    · subst hfF
      rw [hw2]
      simp
    · have e1 : (f == (endR r).F) = false := by simp [hfF]
      have e2 : decide ((endR r).F = f) = false := by simp; exact fun e => hfF e.symm
      rw [e1, e2]
      simp
  · have hW : (pressR (endR r) P).W = r.W ||| P := by rw [hpW, if_neg h2]
    simp only [servP, if_neg h2, Nat.zero_or]
    by_cases h0 : (endR r).doing = 0
    · by_cases hw : (pressR (endR r) P).W = 0
      · have hb : begS (pressR (endR r) P) = false := by simp [begS, hw]
        have ht : beginR c.M c.S (pressR (endR r) P) = pressR (endR r) P := by
          unfold beginR
          rw [if_neg (by rw [hpd, h0]; simp), if_pos hw]
        rw [hb, ht, hW]
        simp [Nat.testBit_or]
      · have hbe : begS (pressR (endR r) P) = ((pressR (endR r) P).W.testBit (endR r).F && (!(endR r).stood || (pressR (endR r) P).W == 2 ^ (endR r).F)) := by
          simp [begS, hpd, h0, hw, hpF, hps]
        unfold beginR
        rw [if_neg (by rw [hpd, h0]; simp), if_neg hw, hbe, hpF, hps]
        cases hb : ((pressR (endR r) P).W.testBit (endR r).F && (!(endR r).stood || (pressR (endR r) P).W == 2 ^ (endR r).F)) with
        | true =>
          simp only [cond_true]
          rw [Bool.and_eq_true] at hb
          rw [off_bit _ hFe _ hpm.w6 f hf, hW, pow_bit, Nat.testBit_or]
          rw [hW, Nat.testBit_or] at hb
          by_cases hfF : f = (endR r).F
          · subst hfF
            simp only [BEq.rfl, Bool.not_true, Bool.and_false, decide_true, true_and]
            intro _
            simpa using hb.1
          · have e1 : (f == (endR r).F) = false := by simp [hfF]
            have e2 : decide ((endR r).F = f) = false := by simp; exact fun e => hfF e.symm
            rw [e1, e2]
            simp
        | false =>
          simp only [cond_false]
          rw [hW, Nat.testBit_or]
          simp
    · have hb : begS (pressR (endR r) P) = false := by
        have : ((pressR (endR r) P).doing == 0) = false := by rw [hpd]; simpa using h0
        simp [begS, this]
      have ht : beginR c.M c.S (pressR (endR r) P) = pressR (endR r) P := by unfold beginR; rw [if_pos (by rw [hpd]; exact h0)]
      rw [hb, ht, hW]
      simp [Nat.testBit_or]
def pA (l : Arr api_Press) (i : Nat) : Nat := (l.f i).At.toNat
def pG (l : Arr api_Press) (i : Nat) : Nat := (l.f i).Floor.toNat
def allP : Nat → Bool := fun _ => true
structure VQ (c : Cn) (l : Arr api_Press) (p : Nat → Bool) : Prop where
  n : l.n ≤ 200
  a : ∀ i, i < l.n → 0 ≤ (l.f i).At ∧ (l.f i).At ≤ 500
  m : ∀ i j, i ≤ j → j < l.n → (l.f i).At ≤ (l.f j).At
  g : ∀ i, i < l.n → p i = true → (c.L : Int) ≤ (l.f i).Floor ∧ (l.f i).Floor ≤ (c.H : Int)
abbrev VL (c : Cn) (l : Arr api_Press) : Prop := VQ c l allP
theorem VQ.pa {c : Cn} {l : Arr api_Press} {p : Nat → Bool} (h : VQ c l p) {i : Nat} (hi : i < l.n) : (l.f i).At = (pA l i : Int) ∧ pA l i ≤ 500 := by
  have := h.a i hi
  unfold pA
  omega
theorem VQ.pgp {c : Cn} {l : Arr api_Press} {p : Nat → Bool} (h : VQ c l p) {i : Nat} (hi : i < l.n) (hp : p i = true) : (l.f i).Floor = (pG l i : Int) ∧ c.L ≤ pG l i ∧ pG l i ≤ c.H := by
  have := h.g i hi hp
  unfold pG
  omega
theorem VQ.pg {c : Cn} {l : Arr api_Press} (h : VQ c l allP) {i : Nat} (hi : i < l.n) : (l.f i).Floor = (pG l i : Int) ∧ c.L ≤ pG l i ∧ pG l i ≤ c.H := h.pgp hi rfl
theorem VQ.pm {c : Cn} {l : Arr api_Press} {p : Nat → Bool} (h : VQ c l p) {i j : Nat} (hij : i ≤ j) (hj : j < l.n) : pA l i ≤ pA l j := by
  have := h.m i j hij hj
  unfold pA
  omega
def pset (l : Arr api_Press) (p : Nat → Bool) (t : Nat) : Nat → Nat
  | 0 => 0
  | n + 1 => bif pA l n == t && p n then pset l p t n ||| 2 ^ pG l n else pset l p t n
def pP (l : Arr api_Press) (p : Nat → Bool) (t : Nat) : Nat := pset l p t l.n
theorem pset_bit {l : Arr api_Press} {p : Nat → Bool} {t n f : Nat} : (pset l p t n).testBit f = true ↔ ∃ i, i < n ∧ pA l i = t ∧ p i = true ∧ pG l i = f := by
  induction n with
  | zero => simp [pset]
  | succ n ih =>
    unfold pset
    cases hb : (pA l n == t && p n) with
    | true =>
      simp only [cond_true, Nat.testBit_or, Bool.or_eq_true, ih, pow_bit, decide_eq_true_eq]
      simp only [Bool.and_eq_true, beq_iff_eq] at hb
      constructor
      · rintro (⟨i, h1, h2⟩ | h)
        · exact ⟨i, by omega, h2⟩
        · exact ⟨n, by omega, hb.1, hb.2, h⟩
      · rintro ⟨i, h1, h2, h3, h4⟩
        by_cases hi : i = n
        · subst hi; exact .inr h4
        · exact .inl ⟨i, by omega, h2, h3, h4⟩
    | false =>
      simp only [cond_false, ih]
      constructor
      · rintro ⟨i, h1, h2⟩
        exact ⟨i, by omega, h2⟩
      · rintro ⟨i, h1, h2, h3, h4⟩
        by_cases hi : i = n
        · subst hi
          simp [h2, h3] at hb
        · exact ⟨i, by omega, h2, h3, h4⟩
theorem pset_lt {l : Arr api_Press} {p : Nat → Bool} {t n : Nat} (h : ∀ i, i < n → p i = true → pG l i < 6) : pset l p t n < 64 := by
  induction n with
  | zero => exact Nat.zero_lt_succ _
  | succ n ih =>
    unfold pset
    cases hb : pA l n == t && p n
    · exact ih fun i hi => h i (by omega)
    · exact or_lt (ih fun i hi => h i (by omega)) (pow_lt (h n (by omega) (by simp only [Bool.and_eq_true] at hb; exact hb.2)))
theorem pP_fl {c : Cn} (hc : c.Ok) {l : Arr api_Press} {p : Nat → Bool} (hl : VQ c l p) (_p : Nat → Bool) (t : Nat) : Fl c (pP l p t) := by
  have h5 := hc.h5
  refine ⟨pset_lt fun i hi hp => by have := (hl.pgp hi hp).2; omega, fun f hf => ?_⟩
  obtain ⟨i, h1, h2, h3, h4⟩ := pset_bit.1 hf
  have := (hl.pgp h1 h3).2
  omega
def beg (c : Cn) : Rd := ⟨c.s, true, false, 0, 0, 0⟩
theorem beg_ok {c : Cn} (hc : c.Ok) : Ok c (beg c) := by
  have h1 := hc.ls
  have h2 := hc.sh
  exact ⟨⟨h1, h2⟩, Nat.zero_lt_succ _, fun i hi => by simp [beg] at hi, Nat.zero_le _, fun _ => ⟨rfl, rfl⟩, fun e => (by cases e), fun e => (by cases e)⟩
def st (c : Cn) (l : Arr api_Press) (p : Nat → Bool) : Nat → Rd
  | 0 => beg c
  | t + 1 => tickR c.M c.S (st c l p t) (pP l p t)
def sv (c : Cn) (l : Arr api_Press) (p : Nat → Bool) (t : Nat) : Nat := servR (st c l p t) (pP l p t)
theorem st_ok {c : Cn} (hc : c.Ok) {l : Arr api_Press} {p : Nat → Bool} (hl : VQ c l p) (_p : Nat → Bool) (t : Nat) : Ok c (st c l p t) := by
  induction t with
  | zero => exact beg_ok hc
  | succ t ih => exact tick_ok hc ih (pP_fl hc hl p t)
theorem sv_lt {c : Cn} (hc : c.Ok) {l : Arr api_Press} {p : Nat → Bool} (hl : VQ c l p) (_p : Nat → Bool) (t : Nat) : sv c l p t < 64 := serv_lt hc (st_ok hc hl p t) (pP_fl hc hl p t)
theorem st_bit {c : Cn} (hc : c.Ok) {l : Arr api_Press} {p : Nat → Bool} (hl : VQ c l p) (_p : Nat → Bool) (t : Nat) {f : Nat} (hf : f < 6) :
    (st c l p (t + 1)).W.testBit f = (((st c l p t).W.testBit f || (pP l p t).testBit f) && !(sv c l p t).testBit f) := (tick_bit hc (st_ok hc hl p t) (pP_fl hc hl p t) hf).1
theorem pot_le {c : Cn} (hc : c.Ok) {r : Rd} (h : Ok c r) {f : Nat} (hf : f ≤ c.H) : pot c r f ≤ 77 := by
  have m3 := hc.m3
  have s4 := hc.s4
  have h5 := hc.h5
  have hF := h.f
  have hmv : ∀ u, mv c u r.F f ≤ 10 := fun u => by
    unfold mv
    cases u
    · simp only [cond_false]; split <;> omega
    · simp only [cond_true]; split <;> omega
  have hl : r.left ≤ 4 := by
    have := h.d
    have : r.doing = 0 ∨ r.doing = 1 ∨ r.doing = 2 := by omega
    rcases this with e | e | e
    · have := (h.d0 e).1; omega
    · have := (h.d1 e).1; omega
    · have := (h.d2 e).1; omega
  have hq : c.S + c.M ≤ 7 := by omega
  unfold pot
  split
  · have := Nat.mul_le_mul (hmv (dir c r.up r.F)) hq
    omega
  · have := Nat.mul_le_mul (hmv r.up) hq
    omega
def run (c : Cn) (Q : Nat → Nat) (r : Rd) : Nat → Rd
  | 0 => r
  | t + 1 => tickR c.M c.S (run c Q r t) (Q t)
theorem run_ok {c : Cn} (hc : c.Ok) {Q : Nat → Nat} (hQ : ∀ t, Fl c (Q t)) {r : Rd} (h : Ok c r) (t : Nat) : Ok c (run c Q r t) := by
  induction t with
  | zero => exact h
  | succ t ih => exact tick_ok hc ih (hQ t)
theorem run_succ (c : Cn) (Q : Nat → Nat) (r : Rd) (t : Nat) : run c (fun i => Q (i + 1)) (tickR c.M c.S r (Q 0)) t = run c Q r (t + 1) := by
  induction t with
  | zero => rfl
  | succ t ih =>
    show tickR c.M c.S (run c (fun i => Q (i + 1)) (tickR c.M c.S r (Q 0)) t) (Q (t + 1)) = _
    rw [ih]
    rfl
theorem st_run (c : Cn) (l : Arr api_Press) (p : Nat → Bool) (t d : Nat) : st c l p (t + d) = run c (fun i => pP l p (t + i)) (st c l p t) d := by
  induction d with
  | zero => rfl
  | succ d ih =>
    show tickR c.M c.S (st c l p (t + d)) (pP l p (t + d)) = tickR c.M c.S (run c _ _ d) _
    rw [ih]
theorem served {c : Cn} (hc : c.Ok) {f : Nat} : ∀ (n : Nat) (Q : Nat → Nat), (∀ t, Fl c (Q t)) → ∀ (r : Rd), Ok c r → r.W.testBit f = true → pot c r f ≤ n →
    ∃ d, d + 1 ≤ pot c r f ∧ (servR (run c Q r d) (Q d)).testBit f = true ∧ (∀ e, e < d → (servR (run c Q r e) (Q e)).testBit f = false) ∧ ∀ e, e ≤ d → (run c Q r e).W.testBit f = true ∧ pot c (run c Q r e) f + e ≤ pot c r f ∧ ((∀ t, All c (Q t)) → d + 1 = pot c r f) := by
  intro n
  induction n with
  | zero =>
    intro Q hQ r h hf hp
    have := (step hc h hf (hQ 0)).one
    omega
  | succ n ih =>
    intro Q hQ r h hf hp
    have s := step hc h hf (hQ 0)
    by_cases h1 : pot c r f = 1
    · refine ⟨0, by omega, ?_, fun e he => by omega, fun e he => ?_⟩
      · have := s.srv
        rw [h1] at this
        simpa [run] using this
      · have : e = 0 := by omega
        subst this
        exact ⟨hf, by simp [run], fun _ => by omega⟩
    · obtain ⟨g1, g2, g3⟩ := s.go h1
      obtain ⟨d, a1, a2, a3, a4⟩ := ih (fun i => Q (i + 1)) (fun t => hQ (t + 1)) _ (tick_ok hc h (hQ 0)) g1 (by omega)
      refine ⟨d + 1, by omega, by rw [run_succ] at a2; exact a2, fun e he => ?_, fun e he => ?_⟩
      · cases e with
        | zero =>
          have := s.srv
          simpa [run, h1] using this
        | succ e =>
          have := a3 e (by omega)
          rwa [run_succ] at this
      · cases e with
        | zero =>
          refine ⟨hf, by simp [run], fun ha => ?_⟩
          have := (a4 0 (by omega)).2.2 fun t => ha (t + 1)
          have := g3 (ha 0)
          omega
        | succ e =>
          have := a4 e (by omega)
          rw [run_succ] at this
          refine ⟨this.1, by omega, fun ha => ?_⟩
          have h2 := this.2.2 fun t => ha (t + 1)
          have := g3 (ha 0)
          omega
def fw (b : Nat → Bool) : Nat → Nat → Nat
  | 0, d => d
  | n + 1, d => bif b d then d else fw b n (d + 1)
theorem fw_eq {b : Nat → Bool} {d : Nat} (h1 : b d = true) (h2 : ∀ e, e < d → b e = false) : ∀ (n k : Nat), k ≤ d → d < k + n → fw b n k = d := by
  intro n
  induction n with
  | zero => intro k h3 h4; omega
  | succ n ih =>
    intro k h3 h4
    unfold fw
    by_cases hk : k = d
    · subst hk
      rw [h1, cond_true]
    · rw [h2 k (by omega), cond_false]
      exact ih (k + 1) (by omega) (by omega)
def wt (c : Cn) (l : Arr api_Press) (p : Nat → Bool) (i : Nat) : Nat := fw (fun d => (sv c l p (pA l i + d)).testBit (pG l i)) 100 0
structure WtOk (c : Cn) (l : Arr api_Press) (p : Nat → Bool) (i : Nat) : Prop where
  le : wt c l p i ≤ 77
  hit : (sv c l p (pA l i + wt c l p i)).testBit (pG l i) = true
  no : ∀ e, e < wt c l p i → (sv c l p (pA l i + e)).testBit (pG l i) = false
  pot : 0 < wt c l p i → wt c l p i ≤ pot c (st c l p (pA l i + 1)) (pG l i) ∧ (st c l p (pA l i + 1)).W.testBit (pG l i) = true
theorem wt_ok {c : Cn} (hc : c.Ok) {l : Arr api_Press} {p : Nat → Bool} (hl : VQ c l p) {i : Nat} (hi : i < l.n) (hp : p i = true) : WtOk c l p i := by
  have h5 := hc.h5
  have hg := (hl.pgp hi hp).2
  have hf6 : pG l i < 6 := by omega
  have hP : (pP l p (pA l i)).testBit (pG l i) = true := pset_bit.2 ⟨i, hi, rfl, hp, rfl⟩
  have key : ∃ d, d ≤ 77 ∧ (sv c l p (pA l i + d)).testBit (pG l i) = true ∧ (∀ e, e < d → (sv c l p (pA l i + e)).testBit (pG l i) = false) ∧ (0 < d → d ≤ Go.Proofs.Ytlphgonhenegoaa.pot c (st c l p (pA l i + 1)) (pG l i) ∧ (st c l p (pA l i + 1)).W.testBit (pG l i) = true) := by
    cases hs : (sv c l p (pA l i)).testBit (pG l i) with
    | true => exact ⟨0, by omega, hs, fun e he => by omega, fun h => by omega⟩
    | false =>
      have hb := st_bit hc hl p (pA l i) hf6
      rw [hP, hs, Bool.or_true, Bool.not_false, Bool.and_true] at hb
      have hok := st_ok hc hl p (pA l i + 1)
      obtain ⟨d, a1, a2, a3, _⟩ := served hc _ (fun j => pP l p (pA l i + 1 + j)) (fun t => pP_fl hc hl p _) _ hok hb (Nat.le_refl _)
      have hle := pot_le hc hok hg.2
      refine ⟨d + 1, by omega, ?_, fun e he => ?_, fun _ => ⟨a1, hb⟩⟩
      · unfold sv
        rw [show pA l i + (d + 1) = pA l i + 1 + d by omega, st_run]
        exact a2
      · cases e with
        | zero => exact hs
        | succ e =>
          unfold sv
          rw [show pA l i + (e + 1) = pA l i + 1 + e by omega, st_run]
          exact a3 e (by omega)
  obtain ⟨d, b1, b2, b3, b4⟩ := key
  have hd : wt c l p i = d := fw_eq (b := fun d => (sv c l p (pA l i + d)).testBit (pG l i)) b2 b3 100 0 (by omega) (by omega)
  exact ⟨by omega, by rw [hd]; exact b2, by rw [hd]; exact b3, by rw [hd]; exact b4⟩
theorem wants_iff {c : Cn} (hc : c.Ok) {l : Arr api_Press} {p : Nat → Bool} (hl : VQ c l p) (_p : Nat → Bool) (t : Nat) {f : Nat} (hf : f < 6) :
    (st c l p t).W.testBit f = true ↔ ∃ i, i < l.n ∧ p i = true ∧ pG l i = f ∧ pA l i < t ∧ t ≤ pA l i + wt c l p i := by
  induction t with
  | zero =>
    constructor
    · intro h
      simp [st, beg] at h
    · rintro ⟨i, _, _, _, h, _⟩
      omega
  | succ t ih =>
    rw [st_bit hc hl p t hf, Bool.and_eq_true, Bool.or_eq_true, ih]
    constructor
    · rintro ⟨h1 | h1, h2⟩
      · obtain ⟨i, a1, a2, a3, a4, a5⟩ := h1
        have w := wt_ok hc hl a1 a2
        refine ⟨i, a1, a2, a3, by omega, ?_⟩
        rcases Nat.lt_or_ge t (pA l i + wt c l p i) with h | h
        · omega
        · have : pA l i + wt c l p i = t := by omega
          have := w.hit
          rw [‹pA l i + wt c l p i = t›, a3] at this
          rw [this] at h2
          cases h2
      · obtain ⟨i, a1, a2, a3, a4⟩ := pset_bit.1 h1
        have w := wt_ok hc hl a1 a3
        refine ⟨i, a1, a3, a4, by omega, ?_⟩
        rcases Nat.eq_zero_or_pos (wt c l p i) with h | h
        · have := w.hit
          rw [h, Nat.add_zero, a2, a4] at this
          rw [this] at h2
          cases h2
        · omega
    · rintro ⟨i, a1, a2, a3, a4, a5⟩
      have w := wt_ok hc hl a1 a2
      refine ⟨?_, ?_⟩
      · rcases Nat.lt_or_ge (pA l i) t with h | h
        · exact .inl ⟨i, a1, a2, a3, h, by omega⟩
        · exact .inr (pset_bit.2 ⟨i, a1, by omega, a2, a3⟩)
      · have := w.no (t - pA l i) (by omega)
        rw [show pA l i + (t - pA l i) = t by omega, a3] at this
        rw [this]
        rfl
end
end Go.Proofs.Ytlphgonhenegoaa
set_option linter.unusedVariables false
set_option linter.unusedSimpArgs false
set_option maxHeartbeats 0
set_option maxRecDepth 100000
namespace Go.Proofs.Ytlphgonhenegoaa
open Go.Sx
section
theorem from_eq (N : Nat) (n lo hi : Int) {R : Type} (k : Bool → Option R) : r7from N n lo hi k = k (decide (lo ≤ n ∧ n ≤ hi)) := by
  rw [r7from_def]
  unfold r7from_m
  by_cases h : n ≥ lo
  · have h' : lo ≤ n := h
    simp [h, h']
  · have h' : ¬ lo ≤ n := h
    simp [h, h']
theorem in_eq (N : Nat) (n lo hi : Int) {R : Type} (k : Bool → Option R) : calls_within N n lo hi k = k (decide (lo ≤ n ∧ n ≤ hi)) := by
  rw [calls_within_def]
  unfold calls_within_m
  by_cases h : n ≥ lo
  · have h' : lo ≤ n := h
    simp [h, h']
  · have h' : ¬ lo ≤ n := h
    simp [h, h']
structure VC (c : api_Car) : Prop where
  lo : 0 ≤ c.Low
  hi : c.High ≤ 5
  s : c.Low ≤ c.Start ∧ c.Start ≤ c.High
  m : 1 ≤ c.Move ∧ c.Move ≤ 3
  p : 1 ≤ c.Stop ∧ c.Stop ≤ 4
instance (c : api_Car) : Decidable (VC c) :=
  if h : 0 ≤ c.Low ∧ c.High ≤ 5 ∧ (c.Low ≤ c.Start ∧ c.Start ≤ c.High) ∧ (1 ≤ c.Move ∧ c.Move ≤ 3) ∧ (1 ≤ c.Stop ∧ c.Stop ≤ 4) then isTrue ⟨h.1, h.2.1, h.2.2.1, h.2.2.2.1, h.2.2.2.2⟩
  else isFalse fun v => h ⟨v.lo, v.hi, v.s, v.m, v.p⟩
theorem VC.cn {c : api_Car} (h : VC c) : ∃ n : Cn, n.Ok ∧ c = n.car := by
  obtain ⟨h1, h2, h3, h4, h5⟩ := h
  refine ⟨⟨c.Low.toNat, c.High.toNat, c.Start.toNat, c.Move.toNat, c.Stop.toNat⟩, ⟨by simp; omega, by simp; omega, by simp; omega, by simp; omega, by simp; omega, by simp; omega, by simp; omega⟩, ?_⟩
  obtain ⟨a1, a2, a3, a4, a5⟩ := c
  simp only at h1 h2 h3 h4 h5
  simp only [Cn.car, api_Car.mk.injEq]
  omega
theorem Cn.Ok.vc {n : Cn} (h : n.Ok) : VC n.car := by
  obtain ⟨h1, h2, h3, h4, h5, h6, h7⟩ := h
  exact ⟨by simp [Cn.car], by simp [Cn.car]; omega, by simp [Cn.car]; omega, by simp [Cn.car]; omega, by simp [Cn.car]; omega⟩
theorem refCar (N : Nat) (c : api_Car) {R : Type} (k : Int → Option R) : r7CheckCar N c k = k (if VC c then 0 else 70) := by
  rw [r7CheckCar_def]
  unfold r7CheckCar_m
  simp only [from_eq]
  by_cases c1 : c.Low < 0
  · have : ¬ VC c := fun h => by have := h.lo; omega
    simp only [c1, this, decide_true, cond_true, if_false]
  by_cases c2 : c.Low ≤ c.Start ∧ c.Start ≤ c.High
  rotate_left
  · have : ¬ VC c := fun h => c2 h.s
    simp only [c1, c2, this, decide_false, Bool.not_false, cond_true, cond_false, if_false]
  by_cases c3 : c.High > 5
  · have : ¬ VC c := fun h => by have := h.hi; omega
    simp only [c1, c2, c3, this, and_self, decide_true, decide_false, Bool.not_true, cond_true, cond_false, if_false]
  by_cases c4 : 1 ≤ c.Move ∧ c.Move ≤ 3
  rotate_left
  · have : ¬ VC c := fun h => c4 h.m
    simp only [c1, c2, c3, c4, this, and_self, decide_true, decide_false, Bool.not_true, Bool.not_false, cond_true, cond_false, if_false]
  by_cases c5 : 1 ≤ c.Stop ∧ c.Stop ≤ 4
  rotate_left
  · have : ¬ VC c := fun h => c5 h.p
    simp only [c1, c2, c3, c4, c5, this, and_self, decide_true, decide_false, Bool.not_true, Bool.not_false, cond_true, cond_false, if_false]
  have : VC c := ⟨by omega, by omega, c2, c4, c5⟩
  simp only [c1, c2, c3, c4, c5, this, and_self, decide_true, decide_false, Bool.not_true, cond_true, cond_false, if_true]
theorem valid_eq (N : Nat) (c : api_Car) {R : Type} (k : Bool → Option R) : calls_valid N c k = k (decide (VC c)) := by
  rw [calls_valid_def]
  unfold calls_valid_m
  simp only [in_eq]
  by_cases c2 : c.Low ≤ c.Start ∧ c.Start ≤ c.High
  rotate_left
  · have : ¬ VC c := fun h => c2 h.s
    simp only [c2, this, decide_false, cond_false]
  by_cases c1 : c.Low ≥ 0
  rotate_left
  · have : ¬ VC c := fun h => c1 h.lo
    simp only [c1, c2, this, and_self, decide_true, decide_false, cond_false, cond_true]
  by_cases c3 : c.High ≤ 5
  rotate_left
  · have : ¬ VC c := fun h => c3 h.hi
    simp only [c1, c2, c3, this, and_self, decide_true, decide_false, cond_true, cond_false]
  by_cases c4 : 1 ≤ c.Move ∧ c.Move ≤ 3
  rotate_left
  · have : ¬ VC c := fun h => c4 h.m
    simp only [c1, c2, c3, c4, this, and_self, decide_true, decide_false, cond_true, cond_false]
  by_cases c5 : 1 ≤ c.Stop ∧ c.Stop ≤ 4
  rotate_left
  · have : ¬ VC c := fun h => c5 h.p
    simp only [c1, c2, c3, c4, c5, this, and_self, decide_true, decide_false, cond_true, cond_false]
  have : VC c := ⟨c1, c3, c2, c4, c5⟩
  simp only [c1, c2, c3, c4, c5, this, and_self, decide_true, cond_true]
def prevA (l : Arr api_Press) (i : Nat) : Int := if i = 0 then 0 else (l.f (i - 1)).At
def tP (l : Arr api_Press) (i : Nat) : Prop := prevA l i ≤ (l.f i).At ∧ (l.f i).At ≤ 500
def fP (c : api_Car) (l : Arr api_Press) (i : Nat) : Prop := c.Low ≤ (l.f i).Floor ∧ (l.f i).Floor ≤ c.High
def tAll (l : Arr api_Press) : Prop := l.n ≤ 200 ∧ ∀ i, i < l.n → tP l i
def fAll (c : api_Car) (l : Arr api_Press) : Prop := ∀ i, i < l.n → fP c l i
open Classical in
noncomputable def errC (c : api_Car) (l : Arr api_Press) : Int := if VC c then (if tAll l then (if fAll c l then 0 else 71) else 71) else 70
theorem tP_nonneg {l : Arr api_Press} {n : Nat} (h : ∀ i, i < n → tP l i) : ∀ i, i < n → 0 ≤ (l.f i).At := by
  intro i
  induction i with
  | zero => intro hi; have := (h 0 hi).1; simpa [prevA] using this
  | succ i ih =>
    intro hi
    have h1 := ih (by omega)
    have := (h (i + 1) hi).1
    simp [prevA] at this
    omega
theorem VL.of {n : Cn} {l : Arr api_Press} (h1 : tAll l) (h2 : fAll n.car l) : VL n l := by
  refine ⟨h1.1, fun i hi => ⟨tP_nonneg h1.2 i hi, (h1.2 i hi).2⟩, ?_, fun i hi _ => h2 i hi⟩
  intro i j hij
  induction j with
  | zero => intro _; have : i = 0 := by omega
            subst this; exact Int.le_refl _
  | succ j ih =>
    intro hj
    by_cases h : i = j + 1
    · subst h; exact Int.le_refl _
    · have := ih (by omega) (by omega)
      have h3 := (h1.2 (j + 1) hj).1
      simp [prevA] at h3
      omega
theorem VL.all {n : Cn} {l : Arr api_Press} (h : VL n l) : tAll l ∧ fAll n.car l := by
  refine ⟨⟨h.n, fun i hi => ⟨?_, (h.a i hi).2⟩⟩, fun i hi => h.g i hi rfl⟩
  unfold prevA
  split
  · exact (h.a i hi).1
  · exact h.m _ _ (by omega) hi
open Classical in
theorem timed_l3 (N : Nat) {l : Arr api_Press} (hn : l.n ≤ 1000) {R : Type} (kr : Bool → Option R) (k0 : Unit → Option R) : ∀ (q i n : Nat), i + q = l.n → q < n →
    calls_timed_l3 N n l (prevA l i) l (l.n : Int) (i : Int) kr k0 = if ∀ j, i ≤ j → j < l.n → tP l j then k0 () else kr false := by
  intro q
  induction q with
  | zero =>
    intro i n h1 h2
    obtain ⟨n, rfl⟩ : ∃ m, n = m + 1 := ⟨n - 1, by omega⟩
    unfold calls_timed_l3 calls_timed_b3
    rw [ltF (show l.n ≤ i by omega), cond_false, if_pos (fun j h3 h4 => by omega)]
  | succ q ih =>
    intro i n h1 h2
    obtain ⟨n, rfl⟩ : ∃ m, n = m + 1 := ⟨n - 1, by omega⟩
    unfold calls_timed_l3 calls_timed_b3
    rw [ltT (show i < l.n by omega), cond_true, nat_nonneg, Bool.and_self, cond_true, in_eq]
    simp only [Int.toNat_natCast, w64_succ (show i < 1000000000000 by omega)]
    by_cases h : tP l i
    · have h' : prevA l i ≤ (l.f i).At ∧ (l.f i).At ≤ 500 := h
      have hd : decide (prevA l i ≤ (l.f i).At ∧ (l.f i).At ≤ 500) = true := decide_eq_true h'
      rw [hd, Bool.not_true, cond_false]
      have := ih (i + 1) n (by omega) (by omega)
      have hp : prevA l (i + 1) = (l.f i).At := by simp [prevA]
      rw [hp] at this
      rw [this]
      refine ite_congr (propext ⟨fun g j h3 h4 => ?_, fun g j h3 h4 => g j (by omega) h4⟩) (fun _ => rfl) (fun _ => rfl)
      by_cases hj : j = i
      · subst hj; exact h
      · exact g j (by omega) h4
    · have h' : ¬ (prevA l i ≤ (l.f i).At ∧ (l.f i).At ≤ 500) := h
      rw [decide_eq_false h', Bool.not_false, cond_true, if_neg (fun g => h (g i (Nat.le_refl _) (by omega)))]
open Classical in
theorem timed_eq {N : Nat} (hN : 1000 < N) {l : Arr api_Press} (hn : l.n ≤ 1000) {R : Type} (k : Bool → Option R) : calls_timed N l k = k (decide (tAll l)) := by
  rw [calls_timed_def]
  unfold calls_timed_m
  have := timed_l3 N hn (kr := fun r17 => k r17) (k0 := fun _ => k (decide ((l.n : Int) ≤ 200))) l.n 0 N (by omega) (by omega)
  have h0 : prevA l 0 = 0 := rfl
  rw [h0] at this
  refine Eq.trans this ?_
  by_cases h : ∀ j, 0 ≤ j → j < l.n → tP l j
  · rw [if_pos h]
    congr 1
    have : ((l.n : Int) ≤ 200) ↔ tAll l := ⟨fun g => ⟨by omega, fun i hi => h i (by omega) hi⟩, fun g => by have := g.1; omega⟩
    exact decide_eq_decide.2 this
  · rw [if_neg h, decide_eq_false (fun g => h fun j _ hj => g.2 j hj)]
open Classical in
theorem floors_l6 (N : Nat) {c : api_Car} {l : Arr api_Press} (hn : l.n ≤ 1000) {R : Type} (kr : Int → Option R) (k0 : Unit → Option R) : ∀ (q i n : Nat), i + q = l.n → q < n →
    calls_Check_l6 N n l (l.n : Int) (i : Int) c kr k0 = if ∀ j, i ≤ j → j < l.n → fP c l j then k0 () else kr 71 := by
  intro q
  induction q with
  | zero =>
    intro i n h1 h2
    obtain ⟨n, rfl⟩ : ∃ m, n = m + 1 := ⟨n - 1, by omega⟩
    unfold calls_Check_l6 calls_Check_b6
    rw [ltF (show l.n ≤ i by omega), cond_false, if_pos (fun j h3 h4 => by omega)]
  | succ q ih =>
    intro i n h1 h2
    obtain ⟨n, rfl⟩ : ∃ m, n = m + 1 := ⟨n - 1, by omega⟩
    unfold calls_Check_l6 calls_Check_b6
    rw [ltT (show i < l.n by omega), cond_true, nat_nonneg, Bool.and_self, cond_true, in_eq]
    simp only [Int.toNat_natCast, w64_succ (show i < 1000000000000 by omega)]
    by_cases h : fP c l i
    · have hd : decide (c.Low ≤ (l.f i).Floor ∧ (l.f i).Floor ≤ c.High) = true := decide_eq_true h
      rw [hd, Bool.not_true, cond_false, ih (i + 1) n (by omega) (by omega)]
      refine ite_congr (propext ⟨fun g j h3 h4 => ?_, fun g j h3 h4 => g j (by omega) h4⟩) (fun _ => rfl) (fun _ => rfl)
      by_cases hj : j = i
      · subst hj; exact h
      · exact g j (by omega) h4
    · have h' : ¬ (c.Low ≤ (l.f i).Floor ∧ (l.f i).Floor ≤ c.High) := h
      rw [decide_eq_false h', Bool.not_false, cond_true, if_neg (fun g => h (g i (Nat.le_refl _) (by omega)))]
open Classical in
theorem check_eq {N : Nat} (hN : 1000 < N) (c : api_Car) {l : Arr api_Press} (hn : l.n ≤ 1000) {R : Type} (k : Int → Option R) : calls_Check N c l k = k (errC c l) := by
  rw [calls_Check_def]
  unfold calls_Check_m errC
  rw [valid_eq]
  by_cases hc : VC c
  · rw [decide_eq_true hc, Bool.not_true, cond_false, if_pos hc, timed_eq hN hn]
    by_cases ht : tAll l
    · rw [decide_eq_true ht, Bool.not_true, cond_false, if_pos ht]
      refine (floors_l6 N hn _ _ l.n 0 N (by omega) (by omega)).trans ?_
      by_cases hf : fAll c l
      · rw [if_pos hf, if_pos (fun j _ hj => hf j hj)]
      · rw [if_neg hf, if_neg (fun g => hf fun j hj => g j (by omega) hj)]
    · rw [decide_eq_false ht, Bool.not_false, cond_true, if_neg ht]
  · rw [decide_eq_false hc, Bool.not_false, cond_true, if_neg hc]
open Classical in
theorem isP_l2 (N : Nat) {l : Arr api_Press} (hn : l.n ≤ 1000) {R : Type} (kr : Bool → Option R) (k0 : Unit → Option R) : ∀ (q i n : Nat), i + q = l.n → q < n → (∀ j, j < i → tP l j) →
    r7isPresses_l2 N n l (i : Int) kr k0 = if ∀ j, i ≤ j → j < l.n → tP l j then k0 () else kr false := by
  intro q
  induction q with
  | zero =>
    intro i n h1 h2 _
    obtain ⟨n, rfl⟩ : ∃ m, n = m + 1 := ⟨n - 1, by omega⟩
    unfold r7isPresses_l2 r7isPresses_b2
    rw [ltF (show l.n ≤ i by omega), cond_false, if_pos (fun j h3 h4 => by omega)]
  | succ q ih =>
    intro i n h1 h2 hp
    obtain ⟨n, rfl⟩ : ∃ m, n = m + 1 := ⟨n - 1, by omega⟩
    have go : tP l i → r7isPresses_l2 N n l (w64 ((i : Int) + 1)) kr k0 = if ∀ j, i ≤ j → j < l.n → tP l j then k0 () else kr false := fun h => by
      rw [w64_succ (show i < 1000000000000 by omega), ih (i + 1) n (by omega) (by omega) fun j hj => by
        by_cases e : j = i
        · subst e; exact h
        · exact hp j (by omega)]
      refine ite_congr (propext ⟨fun g j h3 h4 => ?_, fun g j h3 h4 => g j (by omega) h4⟩) (fun _ => rfl) (fun _ => rfl)
      by_cases hj : j = i
      · subst hj; exact h
      · exact g j (by omega) h4
    have no : ¬ tP l i → kr false = if ∀ j, i ≤ j → j < l.n → tP l j then k0 () else kr false := fun h => by
      rw [if_neg (fun g => h (g i (Nat.le_refl _) (by omega)))]
    unfold r7isPresses_l2 r7isPresses_b2
    rw [ltT (show i < l.n by omega), cond_true, nat_nonneg, Bool.and_self, cond_true, from_eq]
    simp only [Int.toNat_natCast]
    by_cases h : 0 ≤ (l.f i).At ∧ (l.f i).At ≤ 500
    · rw [decide_eq_true h, Bool.not_true, cond_false]
      cases i with
      | zero =>
        have : decide (((0 : Nat) : Int) > 0) = false := by simp
        rw [this, cond_false]
        exact go ⟨by simpa [prevA] using h.1, h.2⟩
      | succ i =>
        have e1 : decide (((i + 1 : Nat) : Int) > 0) = true := by simp
        have e2 : w64 (((i + 1 : Nat) : Int) - 1) = ((i : Nat) : Int) := w64_pred (n := i + 1) (by omega) (by omega)
        rw [e1, cond_true, e2, nat_nonneg, ltT (show i < l.n by omega), Bool.and_self, cond_true]
        simp only [Int.toNat_natCast]
        by_cases h3 : (l.f (i + 1)).At < (l.f i).At
        · rw [decide_eq_true h3, cond_true]
          refine no fun g => ?_
          have := g.1
          simp [prevA] at this
          omega
        · rw [decide_eq_false h3, cond_false]
          refine go ⟨?_, h.2⟩
          simp [prevA]
          omega
    · rw [decide_eq_false h, Bool.not_false, cond_true]
      refine no fun g => h ⟨?_, g.2⟩
      have hp' : ∀ j, j < i + 1 → tP l j := fun j hj => by
        by_cases e : j = i
        · subst e; exact g
        · exact hp j (by omega)
      exact tP_nonneg hp' i (by omega)
open Classical in
theorem isP_eq {N : Nat} (hN : 1000 < N) {l : Arr api_Press} (hn : l.n ≤ 1000) {R : Type} (k : Bool → Option R) : r7isPresses N l k = k (decide (tAll l)) := by
  rw [r7isPresses_def]
  unfold r7isPresses_m
  refine Eq.trans (isP_l2 N hn (kr := fun r26 => k r26) (k0 := fun _ => k (decide ((l.n : Int) ≤ 200))) l.n 0 N (by omega) (by omega) (fun j hj => by omega)) ?_
  by_cases h : ∀ j, 0 ≤ j → j < l.n → tP l j
  · rw [if_pos h]
    congr 1
    have : ((l.n : Int) ≤ 200) ↔ tAll l := ⟨fun g => ⟨by omega, fun i hi => h i (by omega) hi⟩, fun g => by have := g.1; omega⟩
    exact decide_eq_decide.2 this
  · rw [if_neg h, decide_eq_false (fun g => h fun j _ hj => g.2 j hj)]
theorem err_ok {n : Cn} (hn : n.Ok) {l : Arr api_Press} (hl : VL n l) : errC n.car l = 0 := by
  unfold errC
  rw [if_pos hn.vc, if_pos hl.all.1, if_pos hl.all.2]
end
end Go.Proofs.Ytlphgonhenegoaa
set_option linter.unusedVariables false
set_option linter.unusedSimpArgs false
set_option maxHeartbeats 0
set_option maxRecDepth 100000
namespace Go.Proofs.Ytlphgonhenegoaa
open Go.Sx
section
theorem setA_congr {a b : Arr Int} {n : Nat} (h : ∀ i, i < n → a.f i = b.f i) : setA a n = setA b n := by
  induction n with
  | zero => rfl
  | succ n ih => simp only [setA, ih fun i hi => h i (by omega), h n (by omega)]
structure Now (c : Cn) (now : Arr Int) (S : Nat → Prop) : Prop where
  g : ∀ j, j < now.n → 0 ≤ now.f j ∧ (c.L : Int) ≤ now.f j ∧ now.f j ≤ (c.H : Int)
  b : ∀ f, (setA now now.n).testBit f = true ↔ S f
def pushI (now : Arr Int) (v : Int) : Arr Int := lst intC (now.n + 1) (catC now.n (Cod.cell intC now.f) (litC [SV.int IntKind.i64 (0 : Int)] [[SV.int IntKind.i64 v]]))
theorem push_is (now : Arr Int) (v : Int) : (pushI now v).n = now.n + 1 ∧ (∀ j, j < now.n → (pushI now v).f j = now.f j) ∧ (pushI now v).f now.n = v := by
  have h := Arr.Is.push_int (a := now) (n := now.n) (g := fun j => if j < now.n then now.f j else v) ⟨rfl, fun i hi => by simp [hi]⟩ (z := [SV.int IntKind.i64 (0 : Int)]) (v := v) (by simp)
  exact ⟨h.1, fun j hj => (h.2 j (by omega)).trans (by simp [hj]), (h.2 now.n (by omega)).trans (by simp)⟩
theorem Now.push {c : Cn} {now : Arr Int} {S : Nat → Prop} (h : Now c now S) {v : Int} {g : Nat} (hv : v = (g : Int)) (hg : c.L ≤ g ∧ g ≤ c.H) : Now c (pushI now v) (fun f => S f ∨ f = g) := by
  subst hv
  obtain ⟨h1, h2, h3⟩ := push_is now (g : Int)
  refine ⟨fun j hj => ?_, fun f => ?_⟩
  · rw [h1] at hj
    by_cases hjn : j = now.n
    · rw [hjn, h3]; omega
    · rw [h2 j (by omega)]; exact h.g j (by omega)
  · rw [h1]
    simp only [setA, h3, Int.toNat_natCast]
    rw [setA_congr (fun i hi => h2 i hi), Nat.testBit_or, Bool.or_eq_true, h.b f, pow_bit, decide_eq_true_eq]
    exact or_congr_right eq_comm
theorem Now.nil (c : Cn) (f : Nat → Nat → SV) : Now c (lst intC 0 f) (fun _ => False) := ⟨fun j hj => by simp [lst] at hj, fun f => by simp [lst, setA]⟩
theorem Now.set {c : Cn} (hc : c.Ok) {l : Arr api_Press} {p : Nat → Bool} (hl : VQ c l p) {t k k' : Nat} {now : Arr Int} (hk : ∀ i, i < k → pA l i < t) (h1 : ∀ i, k ≤ i → i < k' → pA l i = t) (h2 : ∀ i, k' ≤ i → i < l.n → t < pA l i) (hk' : k' ≤ l.n)
    (h : Now c now fun f => ∃ i, k ≤ i ∧ i < k' ∧ p i = true ∧ pG l i = f) : setA now now.n = pP l p t := by
  refine Nat.eq_of_testBit_eq fun f => ?_
  have : (setA now now.n).testBit f = true ↔ (pP l p t).testBit f = true := by
    rw [h.b f]
    unfold pP
    rw [pset_bit]
    constructor
    · rintro ⟨i, a1, a2, a3, a4⟩
      exact ⟨i, by omega, h1 i a1 a2, a3, a4⟩
    · rintro ⟨i, a1, a2, a3, a4⟩
      refine ⟨i, ?_, ?_, a3, a4⟩
      · rcases Nat.lt_or_ge i k with g | g
        · have := hk i g; omega
        · exact g
      · rcases Nat.lt_or_ge i k' with g | g
        · exact g
        · have := h2 i g a1; omega
  cases h3 : (setA now now.n).testBit f <;> cases h4 : (pP l p t).testBit f <;> simp_all
def sub (l : Arr api_Press) (k : Nat) : Arr api_Press := ⟨l.n - k, fun i => l.f (k + i)⟩
theorem sub_zero (l : Arr api_Press) : sub l 0 = l := by simp [sub]
end
end Go.Proofs.Ytlphgonhenegoaa
