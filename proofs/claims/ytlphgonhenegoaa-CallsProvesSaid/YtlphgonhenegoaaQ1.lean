/-
  Several texts in one.
-/
import Derived.Test.YtlphgonhenegoaaG2
import Derived.Test.YtlphgonhenegoaaSxMath
set_option linter.unusedVariables false
set_option linter.unusedSimpArgs false
set_option maxHeartbeats 0
set_option maxRecDepth 100000
namespace Go.Proofs.Ytlphgonhenegoaa
open Go.Sx
section
theorem ltF {a b : Nat} (h : b ≤ a) : decide ((a : Int) < (b : Int)) = false := by simp; omega
theorem ltT {a b : Nat} (h : a < b) : decide ((a : Int) < (b : Int)) = true := by simp; omega
theorem natF (a : Nat) : decide ((a : Int) < 0) = false := by simp
theorem shl_eq {f : Nat} (h : f < 60) : w64 ((1 : Int) * (2 : Int) ^ min (Int.toNat (f : Int)) (IntKind.bits IntKind.i64)) = ((2 ^ f : Nat) : Int) := by
  have h1 : (2 : Nat) ^ f ≤ 2 ^ 60 := Nat.pow_le_pow_right (by omega) (by omega)
  have h2 : min (Int.toNat (f : Int)) (IntKind.bits IntKind.i64) = f := by show min f 64 = f; omega
  rw [h2, Int.one_mul, show ((2 : Int) ^ f) = ((2 ^ f : Nat) : Int) by push_cast; rfl]
  generalize (2 : Nat) ^ f = x at h1 ⊢
  exact w64_eq (by omega) (by omega)
theorem pow_lt {f : Nat} (h : f < 6) : 2 ^ f < 64 := by
  have : (2 : Nat) ^ f ≤ 2 ^ 5 := Nat.pow_le_pow_right (by omega) (by omega)
  omega
theorem or_lt {a b : Nat} (ha : a < 64) (hb : b < 64) : a ||| b < 64 := Nat.or_lt_two_pow (n := 6) ha hb
theorem bit_lt {a i : Nat} (ha : a < 64) (h : a.testBit i = true) : i < 6 := by
  by_cases hi : i < 6
  · exact hi
  · have : a.testBit i = false := Nat.testBit_lt_two_pow (by have : 2 ^ 6 ≤ 2 ^ i := Nat.pow_le_pow_right (by omega) (by omega); omega)
    rw [this] at h; cases h
theorem wrapU : ∀ n : Nat, n < 64 → IntKind.wrap .u64 (n : Int) = (n : Int) := by decide +kernel
theorem or64 : ∀ a : Nat, a < 64 → ∀ b : Nat, b < 64 → w64 (↑(BitVec.toNat (BitVec.ofInt (IntKind.bits IntKind.i64) (a : Int) ||| BitVec.ofInt (IntKind.bits IntKind.i64) (b : Int))) : Int) = ((a ||| b : Nat) : Int) := by decide +kernel
theorem and64 : ∀ a : Nat, a < 64 → ∀ b : Nat, b < 64 → w64 (↑(BitVec.toNat (BitVec.ofInt (IntKind.bits IntKind.i64) (a : Int) &&& BitVec.ofInt (IntKind.bits IntKind.i64) (b : Int))) : Int) = ((a &&& b : Nat) : Int) := by decide +kernel
def up (F W : Nat) : Bool := (List.range 6).any fun i => decide (F < i) && W.testBit i
def dn (F W : Nat) : Bool := (List.range 6).any fun i => decide (i < F) && W.testBit i
def side (u : Bool) (F W : Nat) : Bool := bif u then up F W else dn F W
def off (W F : Nat) : Nat := W - (bif W.testBit F then 2 ^ F else 0)
theorem here_eq : ∀ F : Nat, F < 6 → ∀ W : Nat, W < 64 → (w64 (↑(BitVec.toNat (BitVec.ofInt (IntKind.bits IntKind.i64) (W : Int) &&& BitVec.ofInt (IntKind.bits IntKind.i64) ((2 ^ F : Nat) : Int))) : Int) != (0 : Int)) = W.testBit F := by decide +kernel
theorem up_eq : ∀ F : Nat, F < 6 → ∀ W : Nat, W < 64 → (w64 (↑(BitVec.toNat (BitVec.ofInt (IntKind.bits IntKind.i64) (W : Int) &&& BitVec.ofInt (IntKind.bits IntKind.i64) (-((2 ^ (F + 1) : Nat) : Int)))) : Int) == (0 : Int)) = !up F W := by decide +kernel
theorem dn_eq : ∀ F : Nat, F < 6 → ∀ W : Nat, W < 64 → (w64 (↑(BitVec.toNat (BitVec.ofInt (IntKind.bits IntKind.i64) (W : Int) &&& BitVec.ofInt (IntKind.bits IntKind.i64) (((2 ^ F - 1 : Nat) : Int)))) : Int) == (0 : Int)) = !dn F W := by decide +kernel
theorem off_eq : ∀ F : Nat, F < 6 → ∀ W : Nat, W < 64 → w64 (↑(BitVec.toNat (BitVec.ofInt (IntKind.bits IntKind.i64) (W : Int) &&& ~~~BitVec.ofInt (IntKind.bits IntKind.i64) ((2 ^ F : Nat) : Int))) : Int) = ((off W F : Nat) : Int) := by decide +kernel
theorem off_bit : ∀ F : Nat, F < 6 → ∀ W : Nat, W < 64 → ∀ i, i < 6 → (off W F).testBit i = (W.testBit i && !(i == F)) := by decide +kernel
theorem off_lt {F W : Nat} (h : W < 64) : off W F < 64 := Nat.lt_of_le_of_lt (Nat.sub_le _ _) h
theorem up_w : ∀ F : Nat, F < 6 → w64 (↑(BitVec.toNat (BitVec.ofInt (IntKind.bits IntKind.i64) (if IntKind.signed IntKind.i64 = true then (-1 : Int) else IntKind.max IntKind.i64) ^^^ BitVec.ofInt (IntKind.bits IntKind.i64) (w64 (↑(BitVec.toNat (BitVec.ofInt (IntKind.bits IntKind.i64) (w64 (((2 ^ F : Nat) : Int) - 1)) ||| BitVec.ofInt (IntKind.bits IntKind.i64) ((2 ^ F : Nat) : Int))) : Int)))) : Int) = -((2 ^ (F + 1) : Nat) : Int) := by decide +kernel
theorem dn_w : ∀ F : Nat, F < 6 → w64 (((2 ^ F : Nat) : Int) - 1) = ((2 ^ F - 1 : Nat) : Int) := by decide +kernel
theorem up_iff {F W : Nat} : up F W = true ↔ ∃ i, i < 6 ∧ F < i ∧ W.testBit i = true := by simp only [up, List.any_eq_true, List.mem_range, Bool.and_eq_true, decide_eq_true_eq]
theorem dn_iff {F W : Nat} : dn F W = true ↔ ∃ i, i < 6 ∧ i < F ∧ W.testBit i = true := by simp only [dn, List.any_eq_true, List.mem_range, Bool.and_eq_true, decide_eq_true_eq]
theorem sides : ∀ F : Nat, F < 6 → ∀ W : Nat, W < 64 → W ≠ 0 → (W.testBit F = true → W ≠ 2 ^ F) → (up F W || dn F W) = true := by decide +kernel
theorem zero_bits : ∀ W : Nat, W < 64 → W ≠ 0 → ∃ i, i < 6 ∧ W.testBit i = true := by decide +kernel
structure Rd where
  F : Nat
  up : Bool
  stood : Bool
  doing : Nat
  left : Nat
  W : Nat
deriving DecidableEq
def Rd.ride (r : Rd) : api_Ride := ⟨r.F, r.up, r.stood, r.doing, r.left, r.W⟩
structure Cn where
  L : Nat
  H : Nat
  s : Nat
  M : Nat
  S : Nat
def Cn.car (c : Cn) : api_Car := ⟨c.L, c.H, c.s, c.M, c.S⟩
structure Cn.Ok (c : Cn) : Prop where
  ls : c.L ≤ c.s
  sh : c.s ≤ c.H
  h5 : c.H ≤ 5
  m1 : 1 ≤ c.M
  m3 : c.M ≤ 3
  s1 : 1 ≤ c.S
  s4 : c.S ≤ 4
def endR (r : Rd) : Rd := if r.doing = 0 then r else if 1 < r.left then ⟨r.F, r.up, r.stood, r.doing, r.left - 1, r.W⟩ else if r.doing = 1 then ⟨bif r.up then r.F + 1 else r.F - 1, r.up, false, 0, 0, r.W⟩ else ⟨r.F, r.up, r.stood, 0, 0, r.W⟩
def pressR (r : Rd) (P : Nat) : Rd := ⟨r.F, r.up, r.stood, r.doing, r.left, r.W ||| (if r.doing = 2 then off P r.F else P)⟩
def servP (r : Rd) (P : Nat) : Nat := if r.doing = 2 then P &&& 2 ^ r.F else 0
def begS (r : Rd) : Bool := r.doing == 0 && (r.W != 0 && (r.W.testBit r.F && (!r.stood || r.W == 2 ^ r.F)))
def beginR (M S : Nat) (r : Rd) : Rd :=
  if r.doing ≠ 0 then r else if r.W = 0 then r else bif r.W.testBit r.F && (!r.stood || r.W == 2 ^ r.F) then ⟨r.F, r.up, true, 2, S, off r.W r.F⟩ else ⟨r.F, bif side r.up r.F r.W then r.up else !r.up, r.stood, 1, M, r.W⟩
def tickR (M S : Nat) (r : Rd) (P : Nat) : Rd := beginR M S (pressR (endR r) P)
def servR (r : Rd) (P : Nat) : Nat := servP (endR r) P ||| (bif begS (pressR (endR r) P) then 2 ^ (endR r).F else 0)
structure Ok (c : Cn) (r : Rd) : Prop where
  f : c.L ≤ r.F ∧ r.F ≤ c.H
  w6 : r.W < 64
  w : ∀ i, r.W.testBit i = true → c.L ≤ i ∧ i ≤ c.H
  d : r.doing ≤ 2
  d0 : r.doing = 0 → r.left = 0 ∧ r.W = 0
  d1 : r.doing = 1 → (1 ≤ r.left ∧ r.left ≤ c.M) ∧ side r.up r.F r.W = true
  d2 : r.doing = 2 → (1 ≤ r.left ∧ r.left ≤ c.S) ∧ r.stood = true ∧ r.W.testBit r.F = false
structure Mid (c : Cn) (r : Rd) : Prop where
  f : c.L ≤ r.F ∧ r.F ≤ c.H
  w6 : r.W < 64
  w : ∀ i, r.W.testBit i = true → c.L ≤ i ∧ i ≤ c.H
  d : r.doing ≤ 2
  d0 : r.doing = 0 → r.left = 0
  d1 : r.doing = 1 → (1 ≤ r.left ∧ r.left ≤ c.M) ∧ side r.up r.F r.W = true
  d2 : r.doing = 2 → (1 ≤ r.left ∧ r.left ≤ c.S) ∧ r.stood = true ∧ r.W.testBit r.F = false
structure Fl (c : Cn) (P : Nat) : Prop where
  lt : P < 64
  b : ∀ i, P.testBit i = true → c.L ≤ i ∧ i ≤ c.H
theorem side_lt {c : Cn} {r : Rd} (hc : c.Ok) (hw : ∀ i, r.W.testBit i = true → c.L ≤ i ∧ i ≤ c.H) (hs : side r.up r.F r.W = true) : (r.up = true → r.F + 1 ≤ c.H) ∧ (r.up = false → c.L + 1 ≤ r.F) := by
  constructor
  · intro hu
    rw [side, hu, cond_true] at hs
    obtain ⟨i, h1, h2, h3⟩ := up_iff.1 hs
    have := hw i h3
    omega
  · intro hu
    rw [side, hu, cond_false] at hs
    obtain ⟨i, h1, h2, h3⟩ := dn_iff.1 hs
    have := hw i h3
    omega
theorem end_mid {c : Cn} {r : Rd} (hc : c.Ok) (h : Ok c r) : Mid c (endR r) := by
  unfold endR
  by_cases h0 : r.doing = 0
  · rw [if_pos h0]
    exact ⟨h.f, h.w6, h.w, h.d, fun _ => (h.d0 h0).1, h.d1, h.d2⟩
  rw [if_neg h0]
  by_cases h1 : 1 < r.left
  · rw [if_pos h1]
    refine ⟨h.f, h.w6, h.w, h.d, fun e => absurd e h0, fun e => ?_, fun e => ?_⟩
    · obtain ⟨a, b⟩ := h.d1 e
      exact ⟨⟨by show 1 ≤ r.left - 1; omega, by show r.left - 1 ≤ c.M; omega⟩, b⟩
    · obtain ⟨a, b⟩ := h.d2 e
      exact ⟨⟨by show 1 ≤ r.left - 1; omega, by show r.left - 1 ≤ c.S; omega⟩, b⟩
  rw [if_neg h1]
  by_cases h2 : r.doing = 1
  · rw [if_pos h2]
    obtain ⟨hu, hd⟩ := side_lt hc h.w (h.d1 h2).2
    refine ⟨?_, h.w6, h.w, Nat.zero_le 2, fun _ => rfl, fun e => (by cases e), fun e => (by cases e)⟩
    cases hup : r.up with
    | true => have := hu hup; have := h.f; simp only [cond_true]; omega
    | false => have := hd hup; have := h.f; simp only [cond_false]; omega
  · rw [if_neg h2]
    exact ⟨h.f, h.w6, h.w, Nat.zero_le 2, fun _ => rfl, fun e => (by cases e), fun e => (by cases e)⟩
theorem side_or {u : Bool} {F W Q : Nat} (h : side u F W = true) : side u F (W ||| Q) = true := by
  cases u with
  | true =>
    simp only [side, cond_true] at h ⊢
    obtain ⟨i, h1, h2, h3⟩ := up_iff.1 h
    exact up_iff.2 ⟨i, h1, h2, by rw [Nat.testBit_or, h3]; rfl⟩
  | false =>
    simp only [side, cond_false] at h ⊢
    obtain ⟨i, h1, h2, h3⟩ := dn_iff.1 h
    exact dn_iff.2 ⟨i, h1, h2, by rw [Nat.testBit_or, h3]; rfl⟩
theorem press_mid {c : Cn} {r : Rd} (hc : c.Ok) (h : Mid c r) {P : Nat} (hP : Fl c P) : Mid c (pressR r P) := by
  have hf : r.F < 6 := by have := h.f; have := hc.h5; omega
  have hoff : ∀ i, (off P r.F).testBit i = true → P.testBit i = true ∧ i ≠ r.F := fun i hi => by
    have h6 := bit_lt (off_lt hP.lt) hi
    rw [off_bit r.F hf P hP.lt i h6, Bool.and_eq_true] at hi
    exact ⟨hi.1, by simpa using hi.2⟩
  refine ⟨h.f, ?_, fun i hi => ?_, h.d, h.d0, fun e => ⟨(h.d1 e).1, side_or (h.d1 e).2⟩, fun e => ⟨(h.d2 e).1, (h.d2 e).2.1, ?_⟩⟩
  · show r.W ||| _ < 64
    split
    · exact or_lt h.w6 (off_lt hP.lt)
    · exact or_lt h.w6 hP.lt
  · have hi : (r.W ||| (if r.doing = 2 then off P r.F else P)).testBit i = true := hi
    rw [Nat.testBit_or, Bool.or_eq_true] at hi
    rcases hi with hi | hi
    · exact h.w i hi
    · split at hi
      · exact hP.b i (hoff i hi).1
      · exact hP.b i hi
  · show (r.W ||| (if r.doing = 2 then off P r.F else P)).testBit r.F = false
    have e : r.doing = 2 := e
    rw [if_pos e, Nat.testBit_or, (h.d2 e).2.2, off_bit r.F hf P hP.lt r.F hf]
    simp
theorem begin_ok {c : Cn} {r : Rd} (hc : c.Ok) (h : Mid c r) : Ok c (beginR c.M c.S r) := by
  have hf : r.F < 6 := by have := h.f; have := hc.h5; omega
  have hm := hc.m1
  have hs := hc.s1
  unfold beginR
  by_cases h0 : r.doing = 0
  · rw [if_neg (by simpa using h0)]
    by_cases hw : r.W = 0
    · rw [if_pos hw]
      exact ⟨h.f, h.w6, h.w, h.d, fun e => ⟨h.d0 e, hw⟩, h.d1, h.d2⟩
    rw [if_neg hw]
    cases hb : (r.W.testBit r.F && (!r.stood || r.W == 2 ^ r.F)) with
    | true =>
      simp only [cond_true]
      refine ⟨h.f, off_lt h.w6, fun i hi => ?_, Nat.le_refl 2, fun e => (by cases e), fun e => (by cases e), fun _ => ⟨⟨hs, Nat.le_refl _⟩, rfl, ?_⟩⟩
      · have h6 := bit_lt (off_lt h.w6) hi
        have hi : (off r.W r.F).testBit i = true := hi
        rw [off_bit r.F hf r.W h.w6 i h6, Bool.and_eq_true] at hi
        exact h.w i hi.1
      · show (off r.W r.F).testBit r.F = false
        rw [off_bit r.F hf r.W h.w6 r.F hf]
        simp
    | false =>
      simp only [cond_false]
      refine ⟨h.f, h.w6, h.w, Nat.le_succ 1, fun e => (by cases e), fun _ => ⟨⟨hm, Nat.le_refl _⟩, ?_⟩, fun e => (by cases e)⟩
      show side (bif side r.up r.F r.W then r.up else !r.up) r.F r.W = true
      cases hsd : side r.up r.F r.W with
      | true => simp only [cond_true, hsd]
      | false =>
        simp only [cond_false]
        have hh : r.W.testBit r.F = true → r.W ≠ 2 ^ r.F := fun h1 h2 => by
          rw [h1, h2] at hb
          simp at hb
        have := sides r.F hf r.W h.w6 hw hh
        rw [Bool.or_eq_true] at this
        cases hu : r.up with
        | true =>
          simp only [side, hu, cond_true] at hsd
          rw [hsd] at this
          simp only [side, Bool.not_true, cond_false]
          simpa using this
        | false =>
          simp only [side, hu, cond_false] at hsd
          rw [hsd] at this
          simp only [side, Bool.not_false, cond_true]
          simpa using this
  · rw [if_pos h0]
    exact ⟨h.f, h.w6, h.w, h.d, fun e => absurd e h0, h.d1, h.d2⟩
theorem tick_ok {c : Cn} {r : Rd} (hc : c.Ok) (h : Ok c r) {P : Nat} (hP : Fl c P) : Ok c (tickR c.M c.S r P) := begin_ok hc (press_mid hc (end_mid hc h) hP)
theorem serv_lt {c : Cn} {r : Rd} (hc : c.Ok) (h : Ok c r) {P : Nat} (hP : Fl c P) : servR r P < 64 := by
  have hm := end_mid hc h
  have hf : (endR r).F < 6 := by have := hm.f; have := hc.h5; omega
  refine or_lt ?_ ?_
  · unfold servP
    split
    · exact Nat.lt_of_le_of_lt Nat.and_le_left hP.lt
    · decide
  · cases begS (pressR (endR r) P)
    · exact Nat.zero_lt_succ _
    · exact pow_lt hf
end
end Go.Proofs.Ytlphgonhenegoaa
set_option linter.unusedVariables false
set_option linter.unusedSimpArgs false
set_option maxHeartbeats 0
set_option maxRecDepth 100000
namespace Go.Proofs.Ytlphgonhenegoaa
open Go.Sx
section
theorem w64_pred {n : Nat} (h1 : 1 ≤ n) (h : n < 1000000) : w64 ((n : Int) - 1) = ((n - 1 : Nat) : Int) := by
  rw [w64_eq (by omega) (by omega)]; omega
theorem w64_succ {n : Nat} (h : n < 1000000000000) : w64 ((n : Int) + 1) = ((n + 1 : Nat) : Int) := by
  rw [w64_eq (by omega) (by omega)]; omega
theorem eqN (a b : Nat) : (((a : Nat) : Int) == ((b : Nat) : Int)) = (a == b) := by
  by_cases h : a = b
  · simp [h]
  · have h1 : ¬ ((a : Nat) : Int) = (b : Int) := by omega
    rw [beq_eq_false_iff_ne.2 h1, beq_eq_false_iff_ne.2 h]
theorem eqz (a : Nat) : (((a : Nat) : Int) == 0) = (a == 0) := eqN a 0
theorem nez (a : Nat) : (((a : Nat) : Int) != 0) = (a != 0) := congrArg not (eqz a)
theorem end_eq (N : Nat) {c : Cn} {r : Rd} (hc : c.Ok) (h : Ok c r) {R : Type} (k : calls_cage → Option R) : calls_cage_end N ⟨c.car, r.ride⟩ k = k ⟨c.car, (endR r).ride⟩ := by
  rw [calls_cage_end_def]
  unfold calls_cage_end_m endR
  simp only [Rd.ride, eqz]
  have hm := hc.m3
  have hs := hc.s4
  by_cases h0 : r.doing = 0
  · simp [h0]
  have e0 : (r.doing == 0) = false := by simpa using h0
  simp only [e0, cond_false, if_neg h0]
  have hl : 1 ≤ r.left ∧ r.left ≤ 4 := by
    have := h.d
    have : r.doing = 1 ∨ r.doing = 2 := by omega
    rcases this with e | e
    · have := (h.d1 e).1; omega
    · have := (h.d2 e).1; omega
  simp only [w64_pred hl.1 (show r.left < 1000000 by omega)]
  by_cases h1 : 1 < r.left
  · have : decide (((r.left - 1 : Nat) : Int) > 0) = true := by simp; omega
    simp only [this, cond_true, if_pos h1]
  · have : decide (((r.left - 1 : Nat) : Int) > 0) = false := by simp; omega
    have hl0 : r.left - 1 = 0 := by omega
    simp only [this, cond_false, if_neg h1, hl0]
    have e1 : (((r.doing : Nat) : Int) == 1) = (r.doing == 1) := eqN r.doing 1
    rw [e1]
    by_cases h2 : r.doing = 1
    · obtain ⟨hu, hd⟩ := side_lt hc h.w (h.d1 h2).2
      have h5 := hc.h5
      simp only [h2, BEq.rfl, cond_true, if_true]
      cases hup : r.up with
      | true =>
        simp only [cond_true]
        have := hu hup
        rw [w64_succ (by omega)]
        rfl
      | false =>
        simp only [cond_false]
        have := hd hup
        rw [w64_pred (by omega) (by have := h.f; omega)]
        rfl
    · have e2 : (r.doing == 1) = false := by simpa using h2
      simp only [e2, cond_false, if_neg h2]
      rfl
theorem press1_eq (N : Nat) {c : Cn} {r : Rd} (hc : c.Ok) (h : Mid c r) {g : Nat} (hg : g < 6) {R : Type} (k : Bool → calls_cage → Option R) :
    calls_cage_press N (g : Int) ⟨c.car, r.ride⟩ k = k (r.doing == 2 && g == r.F) ⟨c.car, (⟨r.F, r.up, r.stood, r.doing, r.left, bif r.doing == 2 && g == r.F then r.W else r.W ||| 2 ^ g⟩ : Rd).ride⟩ := by
  rw [calls_cage_press_def]
  unfold calls_cage_press_m
  have e1 : (((r.doing : Nat) : Int) == 2) = (r.doing == 2) := eqN r.doing 2
  simp only [Rd.ride, e1, eqN, natF, cond_false, shl_eq (show g < 60 by omega), or64 r.W h.w6 (2 ^ g) (pow_lt hg)]
  cases h2 : r.doing == 2 with
  | true =>
    simp only [cond_true, Bool.true_and]
    cases h3 : g == r.F <;> simp
  | false => simp
def setA (a : Arr Int) : Nat → Nat
  | 0 => 0
  | n + 1 => setA a n ||| 2 ^ (a.f n).toNat
theorem set_lt {a : Arr Int} {n : Nat} (h : ∀ i, i < n → 0 ≤ a.f i ∧ a.f i < 6) : setA a n < 64 := by
  induction n with
  | zero => exact Nat.zero_lt_succ _
  | succ n ih =>
    have := h n (by omega)
    exact or_lt (ih fun i hi => h i (by omega)) (pow_lt (by omega))
theorem off_or : ∀ F : Nat, F < 6 → ∀ P : Nat, P < 64 → ∀ g : Nat, g < 6 → (bif g == F then off P F else off P F ||| 2 ^ g) = off (P ||| 2 ^ g) F := by decide +kernel
theorem serv_or : ∀ F : Nat, F < 6 → ∀ P : Nat, P < 64 → ∀ g : Nat, g < 6 → (bif g == F then (P &&& 2 ^ F) ||| 2 ^ g else P &&& 2 ^ F) = (P ||| 2 ^ g) &&& 2 ^ F := by decide +kernel
theorem press_l3 (N : Nat) {c : Cn} {r : Rd} (hc : c.Ok) (h : Mid c r) {a : Arr Int} (ha : ∀ i, i < a.n → 0 ≤ a.f i ∧ (c.L : Int) ≤ a.f i ∧ a.f i ≤ (c.H : Int)) (hn : a.n ≤ 1000) {R : Type} (k0 : Int → calls_cage → Option R) : ∀ (q i n : Nat), i + q = a.n → q < n →
    calls_cage_tick_l3 N n ((servP r (setA a i) : Nat) : Int) a (a.n : Int) (i : Int) ⟨c.car, (pressR r (setA a i)).ride⟩ k0 = k0 ((servP r (setA a a.n) : Nat) : Int) ⟨c.car, (pressR r (setA a a.n)).ride⟩ := by
  have hf : r.F < 6 := by have := h.f; have := hc.h5; omega
  have h5 := hc.h5
  have hlt : ∀ i, i ≤ a.n → setA a i < 64 := fun i hi => set_lt fun j hj => by have := ha j (by omega); omega
  have hfl : ∀ i, i ≤ a.n → Fl c (setA a i) := fun i hi => by
    refine ⟨hlt i hi, ?_⟩
    clear hlt
    induction i with
    | zero => intro j hj; simp [setA] at hj
    | succ i ih =>
      intro j hj
      simp only [setA, Nat.testBit_or, Bool.or_eq_true] at hj
      rcases hj with hj | hj
      · exact ih (by omega) j hj
      · rw [Nat.testBit_two_pow] at hj
        have : (a.f i).toNat = j := by simpa using hj
        have := ha i (by omega)
        omega
  intro q
  induction q with
  | zero =>
    intro i n h1 h2
    obtain ⟨n, rfl⟩ : ∃ m, n = m + 1 := ⟨n - 1, by omega⟩
    have : i = a.n := by omega
    subst this
    unfold calls_cage_tick_l3 calls_cage_tick_b3
    simp only [ltF (Nat.le_refl a.n), cond_false]
  | succ q ih =>
    intro i n h1 h2
    obtain ⟨n, rfl⟩ : ∃ m, n = m + 1 := ⟨n - 1, by omega⟩
    have hg := ha i (by omega)
    obtain ⟨g, hge⟩ : ∃ g : Nat, a.f i = (g : Int) := ⟨(a.f i).toNat, by omega⟩
    have hg6 : g < 6 := by omega
    have hmid := press_mid hc h (hfl i (by omega))
    have ih' := ih (i + 1) n (by omega) (by omega)
    have hset : setA a (i + 1) = setA a i ||| 2 ^ g := by simp [setA, hge]
    rw [hset] at ih'
    unfold calls_cage_tick_l3 calls_cage_tick_b3
    simp only [ltT (show i < a.n by omega), nat_nonneg, Bool.and_self, cond_true, Int.toNat_natCast (n := i), hge, w64_succ (show i < 1000000000000 by omega)]
    rw [press1_eq N hc hmid hg6]
    have hd : (pressR r (setA a i)).doing = r.doing := rfl
    have hF : (pressR r (setA a i)).F = r.F := rfl
    simp only [hd, hF]
    refine Eq.trans ?_ ih'
    simp only [natF, cond_false, shl_eq (show g < 60 by omega)]
    have hs := serv_or r.F hf (setA a i) (hlt i (by omega)) g hg6
    have ho := off_or r.F hf (setA a i) (hlt i (by omega)) g hg6
    by_cases h2 : r.doing = 2
    · have e2 : (r.doing == 2) = true := by simpa using h2
      cases h3 : g == r.F with
      | true =>
        rw [h3] at hs ho
        simp only [cond_true] at hs ho
        simp only [e2, Bool.true_and, cond_true, servP, if_pos h2]
        rw [or64 _ (Nat.lt_of_le_of_lt Nat.and_le_left (hlt i (by omega))) _ (pow_lt hg6), hs]
        simp only [pressR, if_pos h2, ho]
      | false =>
        rw [h3] at hs ho
        simp only [cond_false] at hs ho
        simp only [e2, Bool.true_and, cond_false, servP, if_pos h2, ← hs]
        simp only [pressR, if_pos h2, ← ho, Nat.or_assoc]
    · have e2 : (r.doing == 2) = false := by simpa using h2
      simp only [e2, Bool.false_and, cond_false, servP, if_neg h2, pressR, Nat.or_assoc]
theorem rideF (c : api_Car) (r : Rd) : decide (api_Ride.Floor (calls_cage.Ride ⟨c, r.ride⟩) < (0 : Int)) = false := natF r.F
theorem ahead_eq (N : Nat) {c : Cn} {r : Rd} (hc : c.Ok) (h : Mid c r) {R : Type} (k : Int → Option R) : calls_cage_ahead N ⟨c.car, r.ride⟩ k = k (bif r.up then -((2 ^ (r.F + 1) : Nat) : Int) else ((2 ^ r.F - 1 : Nat) : Int)) := by
  have hf : r.F < 6 := by have := h.f; have := hc.h5; omega
  rw [calls_cage_ahead_def]
  unfold calls_cage_ahead_m
  rw [rideF]
  simp only [cond_false]
  simp only [Rd.ride, shl_eq (show r.F < 60 by omega)]
  cases r.up with
  | true => simp only [cond_true, up_w r.F hf]
  | false => simp only [cond_false, dn_w r.F hf]
theorem begins_eq (N : Nat) {c : Cn} {r : Rd} (hc : c.Ok) (h : Mid c r) {R : Type} (k : Bool → calls_cage → Option R) : calls_cage_begins N ⟨c.car, r.ride⟩ k = k (begS r) ⟨c.car, (beginR c.M c.S r).ride⟩ := by
  have hf : r.F < 6 := by have := h.f; have := hc.h5; omega
  rw [calls_cage_begins_def]
  unfold calls_cage_begins_m
  rw [rideF]
  simp only [ahead_eq N hc h, cond_false]
  simp only [Rd.ride, shl_eq (show r.F < 60 by omega), nez, eqz, eqN, here_eq r.F hf r.W h.w6, off_eq r.F hf r.W h.w6]
  unfold begS beginR
  by_cases h0 : r.doing = 0
  · have e0 : (r.doing != 0) = false := by simp [h0]
    have e1 : (r.doing == 0) = true := by simp [h0]
    simp only [e0, cond_false, h0, ne_eq, not_true_eq_false, if_false, BEq.rfl, Bool.true_and]
    by_cases hw : r.W = 0
    · simp [hw, h0]
    · have e2 : (r.W == 0) = false := by simpa using hw
      have e3 : (r.W != 0) = true := by simp [bne, e2]
      simp only [e2, cond_false, if_neg hw, e3, Bool.true_and]
      have hsd : (w64 (↑(BitVec.toNat (BitVec.ofInt (IntKind.bits IntKind.i64) (r.W : Int) &&& BitVec.ofInt (IntKind.bits IntKind.i64) (bif r.up then -((2 ^ (r.F + 1) : Nat) : Int) else ((2 ^ r.F - 1 : Nat) : Int)))) : Int) == (0 : Int)) = !side r.up r.F r.W := by
        cases hu : r.up with
        | true => simp only [cond_true, side]; exact up_eq r.F hf r.W h.w6
        | false => simp only [cond_false, side]; exact dn_eq r.F hf r.W h.w6
      rw [hsd]
      cases hb : r.W.testBit r.F with
      | false =>
        simp only [Bool.false_and, cond_false]
        cases side r.up r.F r.W <;> rfl
      | true =>
        simp only [Bool.true_and, cond_true]
        cases hst : r.stood with
        | false => rfl
        | true =>
          simp only [Bool.not_true, cond_false, Bool.false_or]
          cases hw2 : r.W == 2 ^ r.F with
          | true => rfl
          | false =>
            simp only [cond_false]
            cases side r.up r.F r.W <;> rfl
  · have e0 : (r.doing != 0) = true := by simpa using h0
    have e1 : (r.doing == 0) = false := by simpa using h0
    simp only [e0, cond_true, e1, Bool.false_and, ne_eq, h0, not_false_eq_true, if_true]
theorem tick_eq {N : Nat} {c : Cn} {r : Rd} (hc : c.Ok) (h : Ok c r) {a : Arr Int} (ha : ∀ i, i < a.n → 0 ≤ a.f i ∧ (c.L : Int) ≤ a.f i ∧ a.f i ≤ (c.H : Int)) (hn : a.n ≤ 1000) (hN : 1000 < N) {R : Type} (k : Int → calls_cage → Option R) :
    calls_cage_tick N a ⟨c.car, r.ride⟩ k = k ((servR r (setA a a.n) : Nat) : Int) ⟨c.car, (tickR c.M c.S r (setA a a.n)).ride⟩ := by
  have hm := end_mid hc h
  have hf : (endR r).F < 6 := by have := hm.f; have := hc.h5; omega
  have h5 := hc.h5
  have hlt : setA a a.n < 64 := set_lt fun j hj => by have := ha j hj; omega
  have hfl : Fl c (setA a a.n) := by
    refine ⟨hlt, ?_⟩
    have key : ∀ i, i ≤ a.n → ∀ j, (setA a i).testBit j = true → c.L ≤ j ∧ j ≤ c.H := by
      intro i
      induction i with
      | zero => intro _ j hj; simp [setA] at hj
      | succ i ih =>
        intro hi j hj
        simp only [setA, Nat.testBit_or, Bool.or_eq_true] at hj
        rcases hj with hj | hj
        · exact ih (by omega) j hj
        · rw [Nat.testBit_two_pow] at hj
          have : (a.f i).toNat = j := by simpa using hj
          have := ha i (by omega)
          omega
    exact key a.n (Nat.le_refl _)
  rw [calls_cage_tick_def]
  unfold calls_cage_tick_m
  rw [end_eq N hc h]
  have h0 : servP (endR r) (setA a 0) = 0 := by unfold servP; split <;> simp [setA]
  have hp0 : pressR (endR r) (setA a 0) = endR r := by
    simp only [pressR, setA]
    have : (if (endR r).doing = 2 then off 0 (endR r).F else 0) = 0 := by split <;> simp [off]
    rw [this, Nat.or_zero]
  have key := press_l3 N hc hm ha hn (k0 := fun r183 r184 => calls_cage_begins N r184 (fun r189 r190 =>
   bif r189 then
    bif decide (api_Ride.Floor (calls_cage.Ride r190) < (0 : Int)) then
     Option.none
    else
     k (w64 (↑(BitVec.toNat (BitVec.ofInt (IntKind.bits IntKind.i64) r183 ||| BitVec.ofInt (IntKind.bits IntKind.i64) (w64 ((1 : Int) * (2 : Int) ^ min (Int.toNat (api_Ride.Floor (calls_cage.Ride r190))) (IntKind.bits IntKind.i64))))) : Int)) r190
   else
    k r183 r190)) a.n 0 N (by omega) (by omega)
  rw [h0, hp0] at key
  refine key.trans ?_
  have hpm := press_mid hc hm hfl
  rw [begins_eq N hc hpm]
  unfold servR tickR
  have hF : ((beginR c.M c.S (pressR (endR r) (setA a a.n))).ride).Floor = (((endR r).F : Nat) : Int) := by
    unfold beginR
    split
    · rfl
    · split
      · rfl
      · cases (pressR (endR r) (setA a a.n)).W.testBit (pressR (endR r) (setA a a.n)).F && (!(pressR (endR r) (setA a a.n)).stood || (pressR (endR r) (setA a a.n)).W == 2 ^ (pressR (endR r) (setA a a.n)).F) <;> rfl
  cases hb : begS (pressR (endR r) (setA a a.n)) with
  | true =>
    have hsp : servP (endR r) (setA a a.n) < 64 := by
      unfold servP; split
      · exact Nat.lt_of_le_of_lt Nat.and_le_left hlt
      · exact Nat.zero_lt_succ _
    simp only [cond_true, hF, natF, cond_false, shl_eq (show (endR r).F < 60 by omega), or64 _ hsp _ (pow_lt hf)]
  | false => simp only [cond_false, Nat.or_zero]
end
end Go.Proofs.Ytlphgonhenegoaa
set_option linter.unusedVariables false
set_option linter.unusedSimpArgs false
set_option maxHeartbeats 0
set_option maxRecDepth 100000
namespace Go.Proofs.Ytlphgonhenegoaa
open Go.Sx
section
theorem bitq : ∀ f : Nat, f < 6 → ∀ W : Nat, W < 64 → (w64 (↑(BitVec.toNat (BitVec.ofInt (IntKind.bits IntKind.i64) (Int.fdiv (W : Int) ((2 : Int) ^ min (Int.toNat (f : Int)) (IntKind.bits IntKind.i64))) &&& BitVec.ofInt (IntKind.bits IntKind.i64) (1 : Int))) : Int) == (1 : Int)) = W.testBit f := by decide +kernel
theorem wanted_eq (N : Nat) {r : Rd} (hw : r.W < 64) {f : Nat} (hf : f < 6) {R : Type} (k : Bool → Option R) : newelref07_wanted N r.ride (f : Int) k = k (r.W.testBit f) := by
  rw [newelref07_wanted_def]
  unfold newelref07_wanted_m
  rw [wrapU f (by omega), natF, cond_false]
  exact congrArg k (bitq f hf r.W hw)
theorem gtN (a b : Nat) : decide ((a : Int) > (b : Int)) = decide (b < a) := by simp
theorem ltN (a b : Nat) : decide ((a : Int) < (b : Int)) = decide (a < b) := by simp
theorem ahead_l2 (N : Nat) {r : Rd} (hw : r.W < 64) {R : Type} (kr : Bool → Option R) (k0 : Unit → Option R) : ∀ (q i n : Nat), i + q = 6 → q < n →
    newelref07_ahead_l2 N n (i : Int) r.ride kr k0 = bif (List.range' i q).any fun j => r.W.testBit j && (bif r.up then decide (r.F < j) else decide (j < r.F)) then kr true else k0 () := by
  intro q
  induction q with
  | zero =>
    intro i n h1 h2
    obtain ⟨n, rfl⟩ : ∃ m, n = m + 1 := ⟨n - 1, by omega⟩
    unfold newelref07_ahead_l2 newelref07_ahead_b2
    have : decide ((i : Int) ≤ 5) = false := by simp; omega
    rw [this]
    rfl
  | succ q ih =>
    intro i n h1 h2
    obtain ⟨n, rfl⟩ : ∃ m, n = m + 1 := ⟨n - 1, by omega⟩
    unfold newelref07_ahead_l2 newelref07_ahead_b2
    have : decide ((i : Int) ≤ 5) = true := by simp; omega
    rw [this, cond_true, wanted_eq N hw (by omega)]
    have hs : w64 ((i : Int) + 1) = ((i + 1 : Nat) : Int) := w64_succ (by omega)
    simp only [hs, ih (i + 1) n (by omega) (by omega)]
    have hF : api_Ride.Floor r.ride = (r.F : Int) := rfl
    have hU : api_Ride.Up r.ride = r.up := rfl
    simp only [hF, hU, gtN, ltN, List.range'_succ, List.any_cons]
    cases hb : r.W.testBit i with
    | false => simp only [cond_false, Bool.false_and, Bool.false_or]
    | true =>
      cases hu : r.up with
      | true => simp only [cond_true, Bool.true_and, Bool.not_true, cond_false]; cases decide (r.F < i) <;> rfl
      | false => simp only [cond_false, Bool.not_false, cond_true, Bool.true_and]; cases decide (i < r.F) <;> rfl
theorem any_side (u : Bool) (F W : Nat) : ((List.range' 0 6).any fun j => W.testBit j && (bif u then decide (F < j) else decide (j < F))) = side u F W := by
  have : List.range' 0 6 = List.range 6 := by decide
  rw [this]
  cases u with
  | true => simp only [cond_true, side, up]; congr 1; funext j; exact Bool.and_comm _ _
  | false => simp only [cond_false, side, dn]; congr 1; funext j; exact Bool.and_comm _ _
theorem refAhead {N : Nat} (hN : 7 ≤ N) {r : Rd} (hw : r.W < 64) {R : Type} (k : Bool → Option R) : newelref07_ahead N r.ride k = k (side r.up r.F r.W) := by
  rw [newelref07_ahead_def]
  unfold newelref07_ahead_m
  refine (ahead_l2 N hw _ _ 6 0 N (by omega) (by omega)).trans ?_
  rw [any_side]
  cases side r.up r.F r.W <;> rfl
theorem j1_eq {N : Nat} (hN : 7 ≤ N) {c : Cn} {r : Rd} (hf : r.F < 6) (hw : r.W < 64) {Q sv : Nat} (hQ : Q < 64) (hsv : sv < 64) (z : api_Ride) {R : Type} (kr : Int → api_Ride → Option R) :
    newelref07_Tick_j1 N (Q : Int) ((2 ^ r.F : Nat) : Int) (sv : Int) c.car r.ride z kr = kr ((sv ||| (bif begS ⟨r.F, r.up, r.stood, r.doing, r.left, r.W ||| Q⟩ then 2 ^ r.F else 0) : Nat) : Int) (beginR c.M c.S ⟨r.F, r.up, r.stood, r.doing, r.left, r.W ||| Q⟩).ride := by
  rw [newelref07_Tick_j1_def]
  unfold newelref07_Tick_j1_m
  have hF : api_Ride.Floor r.ride = (r.F : Int) := rfl
  have hU : api_Ride.Up r.ride = r.up := rfl
  have hD : api_Ride.Doing r.ride = (r.doing : Int) := rfl
  have hL : api_Ride.Left r.ride = (r.left : Int) := rfl
  have hS : api_Ride.Stood r.ride = r.stood := rfl
  have hW : api_Ride.Wants r.ride = (r.W : Int) := rfl
  have hA : ∀ (k : Bool → Option R), newelref07_ahead N (api_Ride.mk (r.F : Int) r.up r.stood (r.doing : Int) (r.left : Int) ((r.W ||| Q : Nat) : Int)) k = k (side r.up r.F (r.W ||| Q)) := fun k => refAhead hN (r := ⟨r.F, r.up, r.stood, r.doing, r.left, r.W ||| Q⟩) (or_lt hw hQ) k
  simp only [hF, hU, hD, hL, hS, hW, or64 r.W hw Q hQ, hA, nez, eqz, eqN, here_eq r.F hf _ (or_lt hw hQ), off_eq r.F hf _ (or_lt hw hQ), or64 sv hsv _ (pow_lt hf)]
  unfold begS beginR
  by_cases h0 : r.doing = 0
  · have e0 : (r.doing != 0) = false := by simp [h0]
    have e1 : (r.doing == 0) = true := by simp [h0]
    simp only [e0, cond_false, h0, ne_eq, not_true_eq_false, if_false, BEq.rfl, Bool.true_and]
    by_cases hw0 : r.W ||| Q = 0
    · simp only [hw0, BEq.rfl, cond_true, if_true, bne_self_eq_false, Bool.false_and, cond_false, Nat.or_zero]
      rfl
    · have e2 : (r.W ||| Q == 0) = false := by simpa using hw0
      have e3 : (r.W ||| Q != 0) = true := by simp [bne, e2]
      simp only [e2, cond_false, if_neg hw0, e3, Bool.true_and]
      cases hb : (r.W ||| Q).testBit r.F with
      | false =>
        simp only [Bool.false_and, cond_false, Nat.or_zero]
        cases side r.up r.F (r.W ||| Q) <;> rfl
      | true =>
        simp only [Bool.true_and, cond_true]
        cases hst : r.stood with
        | false => rfl
        | true =>
          simp only [Bool.not_true, cond_false, Bool.false_or]
          cases hw2 : (r.W ||| Q == 2 ^ r.F) with
          | true => rfl
          | false =>
            simp only [cond_false, Nat.or_zero]
            cases side r.up r.F (r.W ||| Q) <;> rfl
  · have e0 : (r.doing != 0) = true := by simpa using h0
    have e1 : (r.doing == 0) = false := by simpa using h0
    simp only [e0, cond_true, e1, Bool.false_and, ne_eq, h0, not_false_eq_true, if_true, cond_false, Nat.or_zero]
    rfl
theorem j0_eq {N : Nat} (hN : 7 ≤ N) {c : Cn} (hc : c.Ok) {r : Rd} (h : Mid c r) {P : Nat} (hP : Fl c P) (z : api_Ride) {R : Type} (kr : Int → api_Ride → Option R) :
    newelref07_Tick_j0 N (P : Int) c.car r.ride z kr = kr ((servP r P ||| (bif begS (pressR r P) then 2 ^ r.F else 0) : Nat) : Int) (beginR c.M c.S (pressR r P)).ride := by
  have hf : r.F < 6 := by have := h.f; have := hc.h5; omega
  rw [newelref07_Tick_j0_def]
  unfold newelref07_Tick_j0_m
  have hF : api_Ride.Floor r.ride = (r.F : Int) := rfl
  have hD : api_Ride.Doing r.ride = (r.doing : Int) := rfl
  have e1 : (((r.doing : Nat) : Int) == 2) = (r.doing == 2) := eqN r.doing 2
  rw [hF, wrapU r.F (by omega), natF, cond_false, hD, e1, shl_eq (show r.F < 60 by omega), off_eq r.F hf P hP.lt, and64 P hP.lt _ (pow_lt hf)]
  by_cases h2 : r.doing = 2
  · have e2 : (r.doing == 2) = true := by simpa using h2
    rw [e2, cond_true, j1_eq hN hf h.w6 (off_lt hP.lt) (Nat.lt_of_le_of_lt Nat.and_le_left hP.lt)]
    simp only [servP, pressR, if_pos h2]
  · have e2 : (r.doing == 2) = false := by simpa using h2
    rw [e2, cond_false]
    refine (j1_eq hN hf h.w6 hP.lt (Nat.zero_lt_succ _) (sv := 0) z _).trans ?_
    simp only [servP, pressR, if_neg h2]
theorem refTick {N : Nat} (hN : 7 ≤ N) {c : Cn} (hc : c.Ok) {r : Rd} (h : Ok c r) {P : Nat} (hP : Fl c P) {R : Type} (k : api_Ride → Int → Option R) :
    newelref07_Tick N c.car r.ride (P : Int) k = k (tickR c.M c.S r P).ride ((servR r P : Nat) : Int) := by
  have hm := end_mid hc h
  have hj : ∀ (z : api_Ride) (kr : Int → api_Ride → Option R), newelref07_Tick_j0 N (P : Int) c.car (endR r).ride z kr = kr ((servR r P : Nat) : Int) (tickR c.M c.S r P).ride := fun z kr => j0_eq hN hc hm hP z kr
  rw [newelref07_Tick_def]
  unfold newelref07_Tick_m
  have hF : api_Ride.Floor r.ride = (r.F : Int) := rfl
  have hU : api_Ride.Up r.ride = r.up := rfl
  have hD : api_Ride.Doing r.ride = (r.doing : Int) := rfl
  have hL : api_Ride.Left r.ride = (r.left : Int) := rfl
  have hS : api_Ride.Stood r.ride = r.stood := rfl
  have hW : api_Ride.Wants r.ride = (r.W : Int) := rfl
  have m3 := hc.m3
  have s4 := hc.s4
  have h5 := hc.h5
  by_cases h0 : r.doing = 0
  · have e0 : (((r.doing : Nat) : Int) != 0) = false := by rw [nez]; simp [h0]
    rw [hD, e0, cond_false]
    have : endR r = r := by simp [endR, h0]
    rw [this] at hj
    rw [hj]
  have e0 : (((r.doing : Nat) : Int) != 0) = true := by rw [nez]; simpa using h0
  have hl : 1 ≤ r.left ∧ r.left ≤ 4 := by
    have := h.d
    have : r.doing = 1 ∨ r.doing = 2 := by omega
    rcases this with e | e
    · have := (h.d1 e).1; omega
    · have := (h.d2 e).1; omega
  have e1 : (((r.doing : Nat) : Int) == 1) = (r.doing == 1) := eqN r.doing 1
  have hlw : w64 ((r.left : Int) - 1) = ((r.left - 1 : Nat) : Int) := w64_pred hl.1 (by omega)
  rw [hD, e0, cond_true]
  simp only [hL, hlw, eqz, e1, hU, hF, hS, hW]
  by_cases h1 : 1 < r.left
  · have el : (r.left - 1 == 0) = false := by simp; omega
    simp only [el, cond_false, Bool.false_and]
    have : endR r = ⟨r.F, r.up, r.stood, r.doing, r.left - 1, r.W⟩ := by simp [endR, h0, h1]
    rw [this] at hj
    have hj' : ∀ (z : api_Ride) (kr : Int → api_Ride → Option R), newelref07_Tick_j0 N (P : Int) c.car (api_Ride.mk (r.F : Int) r.up r.stood (r.doing : Int) ((r.left - 1 : Nat) : Int) (r.W : Int)) z kr = kr ((servR r P : Nat) : Int) (tickR c.M c.S r P).ride := hj
    simp only [hj']
  · have el : (r.left - 1 == 0) = true := by simp; omega
    have hl0 : r.left - 1 = 0 := by omega
    simp only [el, cond_true, hl0]
    by_cases h2 : r.doing = 1
    · obtain ⟨hu, hd⟩ := side_lt hc h.w (h.d1 h2).2
      have e2 : (r.doing == 1) = true := by simp [h2]
      simp only [e2, cond_true]
      cases hup : r.up with
      | true =>
        have hx := hu hup
        have : endR r = ⟨r.F + 1, true, false, 0, 0, r.W⟩ := by simp [endR, h0, h1, h2, hup]
        rw [this] at hj
        have hj' : ∀ (z : api_Ride) (kr : Int → api_Ride → Option R), newelref07_Tick_j0 N (P : Int) c.car (api_Ride.mk ((r.F + 1 : Nat) : Int) true false 0 ((0 : Nat) : Int) (r.W : Int)) z kr = kr ((servR r P : Nat) : Int) (tickR c.M c.S r P).ride := hj
        simp only [cond_true, w64_succ (show r.F < 1000000000000 by omega)]
        exact hj' _ _
      | false =>
        have hx := hd hup
        have : endR r = ⟨r.F - 1, false, false, 0, 0, r.W⟩ := by simp [endR, h0, h1, h2, hup]
        rw [this] at hj
        have hj' : ∀ (z : api_Ride) (kr : Int → api_Ride → Option R), newelref07_Tick_j0 N (P : Int) c.car (api_Ride.mk ((r.F - 1 : Nat) : Int) false false 0 ((0 : Nat) : Int) (r.W : Int)) z kr = kr ((servR r P : Nat) : Int) (tickR c.M c.S r P).ride := hj
        simp only [cond_false, w64_pred (show 1 ≤ r.F by omega) (show r.F < 1000000 by have := h.f; omega)]
        exact hj' _ _
    · have e2 : (r.doing == 1) = false := by simpa using h2
      simp only [e2, cond_false]
      have : endR r = ⟨r.F, r.up, r.stood, 0, 0, r.W⟩ := by simp [endR, h0, h1, h2]
      rw [this] at hj
      have hj' : ∀ (z : api_Ride) (kr : Int → api_Ride → Option R), newelref07_Tick_j0 N (P : Int) c.car (api_Ride.mk (r.F : Int) r.up r.stood 0 ((0 : Nat) : Int) (r.W : Int)) z kr = kr ((servR r P : Nat) : Int) (tickR c.M c.S r P).ride := hj
      exact hj' _ _
end
end Go.Proofs.Ytlphgonhenegoaa
