import Derived.Test.YtlphgonhenegoaaG2
import Derived.Test.YtlphgonhenegoaaSxMath
set_option linter.unusedVariables false
set_option linter.unusedSimpArgs false
set_option maxHeartbeats 0
set_option maxRecDepth 100000
namespace Go.Proofs.Ytlphgonhenegoaa
open Go.Sx
section
theorem ltF {a b : Nat} (h : b ≤ a) : decide ((a : Int) < (b : Int)) = false := by simp; omega
theorem ltT {a b : Nat} (h : a < b) : decide ((a : Int) < (b : Int)) = true := by simp; omega
theorem natF (a : Nat) : decide ((a : Int) < 0) = false := by simp
theorem shl_eq {f : Nat} (h : f < 60) : w64 ((1 : Int) * (2 : Int) ^ min (Int.toNat (f : Int)) (IntKind.bits IntKind.i64)) = ((2 ^ f : Nat) : Int) := by
  have h1 : (2 : Nat) ^ f ≤ 2 ^ 60 := Nat.pow_le_pow_right (by omega) (by omega)
  have h2 : min (Int.toNat (f : Int)) (IntKind.bits IntKind.i64) = f := by show min f 64 = f; omega
  rw [h2, Int.one_mul, show ((2 : Int) ^ f) = ((2 ^ f : Nat) : Int) by push_cast; rfl]
  generalize (2 : Nat) ^ f = x at h1 ⊢
  exact w64_eq (by omega) (by omega)
theorem pow_lt {f : Nat} (h : f < 6) : 2 ^ f < 64 := by
  have : (2 : Nat) ^ f ≤ 2 ^ 5 := Nat.pow_le_pow_right (by omega) (by omega)
  omega
theorem or_lt {a b : Nat} (ha : a < 64) (hb : b < 64) : a ||| b < 64 := Nat.or_lt_two_pow (n := 6) ha hb
theorem bit_lt {a i : Nat} (ha : a < 64) (h : a.testBit i = true) : i < 6 := by
  by_cases hi : i < 6
  · exact hi
  · have : a.testBit i = false := Nat.testBit_lt_two_pow (by have : 2 ^ 6 ≤ 2 ^ i := Nat.pow_le_pow_right (by omega) (by omega); omega)
    rw [this] at h; cases h
theorem or64 : ∀ a : Nat, a < 64 → ∀ b : Nat, b < 64 → w64 (↑(BitVec.toNat (BitVec.ofInt (IntKind.bits IntKind.i64) (a : Int) ||| BitVec.ofInt (IntKind.bits IntKind.i64) (b : Int))) : Int) = ((a ||| b : Nat) : Int) := by decide +kernel
def up (F W : Nat) : Bool := (List.range 6).any fun i => decide (F < i) && W.testBit i
def dn (F W : Nat) : Bool := (List.range 6).any fun i => decide (i < F) && W.testBit i
def side (u : Bool) (F W : Nat) : Bool := bif u then up F W else dn F W
def off (W F : Nat) : Nat := W - (bif W.testBit F then 2 ^ F else 0)
theorem here_eq : ∀ F : Nat, F < 6 → ∀ W : Nat, W < 64 → (w64 (↑(BitVec.toNat (BitVec.ofInt (IntKind.bits IntKind.i64) (W : Int) &&& BitVec.ofInt (IntKind.bits IntKind.i64) ((2 ^ F : Nat) : Int))) : Int) != (0 : Int)) = W.testBit F := by decide +kernel
theorem up_eq : ∀ F : Nat, F < 6 → ∀ W : Nat, W < 64 → (w64 (↑(BitVec.toNat (BitVec.ofInt (IntKind.bits IntKind.i64) (W : Int) &&& BitVec.ofInt (IntKind.bits IntKind.i64) (-((2 ^ (F + 1) : Nat) : Int)))) : Int) == (0 : Int)) = !up F W := by decide +kernel
theorem dn_eq : ∀ F : Nat, F < 6 → ∀ W : Nat, W < 64 → (w64 (↑(BitVec.toNat (BitVec.ofInt (IntKind.bits IntKind.i64) (W : Int) &&& BitVec.ofInt (IntKind.bits IntKind.i64) (((2 ^ F - 1 : Nat) : Int)))) : Int) == (0 : Int)) = !dn F W := by decide +kernel
theorem off_eq : ∀ F : Nat, F < 6 → ∀ W : Nat, W < 64 → w64 (↑(BitVec.toNat (BitVec.ofInt (IntKind.bits IntKind.i64) (W : Int) &&& ~~~BitVec.ofInt (IntKind.bits IntKind.i64) ((2 ^ F : Nat) : Int))) : Int) = ((off W F : Nat) : Int) := by decide +kernel
theorem off_bit : ∀ F : Nat, F < 6 → ∀ W : Nat, W < 64 → ∀ i, i < 6 → (off W F).testBit i = (W.testBit i && !(i == F)) := by decide +kernel
theorem off_lt {F W : Nat} (h : W < 64) : off W F < 64 := Nat.lt_of_le_of_lt (Nat.sub_le _ _) h
theorem up_w : ∀ F : Nat, F < 6 → w64 (↑(BitVec.toNat (BitVec.ofInt (IntKind.bits IntKind.i64) (if IntKind.signed IntKind.i64 = true then (-1 : Int) else IntKind.max IntKind.i64) ^^^ BitVec.ofInt (IntKind.bits IntKind.i64) (w64 (↑(BitVec.toNat (BitVec.ofInt (IntKind.bits IntKind.i64) (w64 (((2 ^ F : Nat) : Int) - 1)) ||| BitVec.ofInt (IntKind.bits IntKind.i64) ((2 ^ F : Nat) : Int))) : Int)))) : Int) = -((2 ^ (F + 1) : Nat) : Int) := by decide +kernel
theorem dn_w : ∀ F : Nat, F < 6 → w64 (((2 ^ F : Nat) : Int) - 1) = ((2 ^ F - 1 : Nat) : Int) := by decide +kernel
theorem up_iff {F W : Nat} : up F W = true ↔ ∃ i, i < 6 ∧ F < i ∧ W.testBit i = true := by simp only [up, List.any_eq_true, List.mem_range, Bool.and_eq_true, decide_eq_true_eq]
theorem dn_iff {F W : Nat} : dn F W = true ↔ ∃ i, i < 6 ∧ i < F ∧ W.testBit i = true := by simp only [dn, List.any_eq_true, List.mem_range, Bool.and_eq_true, decide_eq_true_eq]
theorem sides : ∀ F : Nat, F < 6 → ∀ W : Nat, W < 64 → W ≠ 0 → (W.testBit F = true → W ≠ 2 ^ F) → (up F W || dn F W) = true := by decide +kernel
theorem zero_bits : ∀ W : Nat, W < 64 → W ≠ 0 → ∃ i, i < 6 ∧ W.testBit i = true := by decide +kernel
structure Rd where
  F : Nat
  up : Bool
  stood : Bool
  doing : Nat
  left : Nat
  W : Nat
deriving DecidableEq
def Rd.ride (r : Rd) : api_Ride := ⟨r.F, r.up, r.stood, r.doing, r.left, r.W⟩
structure Cn where
  L : Nat
  H : Nat
  s : Nat
  M : Nat
  S : Nat
def Cn.car (c : Cn) : api_Car := ⟨c.L, c.H, c.s, c.M, c.S⟩
structure Cn.Ok (c : Cn) : Prop where
  ls : c.L ≤ c.s
  sh : c.s ≤ c.H
  h5 : c.H ≤ 5
  m1 : 1 ≤ c.M
  m3 : c.M ≤ 3
  s1 : 1 ≤ c.S
  s4 : c.S ≤ 4
def endR (r : Rd) : Rd := if r.doing = 0 then r else if 1 < r.left then ⟨r.F, r.up, r.stood, r.doing, r.left - 1, r.W⟩ else if r.doing = 1 then ⟨bif r.up then r.F + 1 else r.F - 1, r.up, false, 0, 0, r.W⟩ else ⟨r.F, r.up, r.stood, 0, 0, r.W⟩
def pressR (r : Rd) (P : Nat) : Rd := ⟨r.F, r.up, r.stood, r.doing, r.left, r.W ||| (if r.doing = 2 then off P r.F else P)⟩
def servP (r : Rd) (P : Nat) : Nat := if r.doing = 2 then P &&& 2 ^ r.F else 0
def begS (r : Rd) : Bool := r.doing == 0 && (r.W != 0 && (r.W.testBit r.F && (!r.stood || r.W == 2 ^ r.F)))
def beginR (M S : Nat) (r : Rd) : Rd :=
  if r.doing ≠ 0 then r else if r.W = 0 then r else bif r.W.testBit r.F && (!r.stood || r.W == 2 ^ r.F) then ⟨r.F, r.up, true, 2, S, off r.W r.F⟩ else ⟨r.F, bif side r.up r.F r.W then r.up else !r.up, r.stood, 1, M, r.W⟩
def tickR (M S : Nat) (r : Rd) (P : Nat) : Rd := beginR M S (pressR (endR r) P)
def servR (r : Rd) (P : Nat) : Nat := servP (endR r) P ||| (bif begS (pressR (endR r) P) then 2 ^ (endR r).F else 0)
structure Ok (c : Cn) (r : Rd) : Prop where
  f : c.L ≤ r.F ∧ r.F ≤ c.H
  w6 : r.W < 64
  w : ∀ i, r.W.testBit i = true → c.L ≤ i ∧ i ≤ c.H
  d : r.doing ≤ 2
  d0 : r.doing = 0 → r.left = 0 ∧ r.W = 0
  d1 : r.doing = 1 → (1 ≤ r.left ∧ r.left ≤ c.M) ∧ side r.up r.F r.W = true
  d2 : r.doing = 2 → (1 ≤ r.left ∧ r.left ≤ c.S) ∧ r.stood = true ∧ r.W.testBit r.F = false
structure Mid (c : Cn) (r : Rd) : Prop where
  f : c.L ≤ r.F ∧ r.F ≤ c.H
  w6 : r.W < 64
  w : ∀ i, r.W.testBit i = true → c.L ≤ i ∧ i ≤ c.H
  d : r.doing ≤ 2
  d0 : r.doing = 0 → r.left = 0
  d1 : r.doing = 1 → (1 ≤ r.left ∧ r.left ≤ c.M) ∧ side r.up r.F r.W = true
  d2 : r.doing = 2 → (1 ≤ r.left ∧ r.left ≤ c.S) ∧ r.stood = true ∧ r.W.testBit r.F = false
structure Fl (c : Cn) (P : Nat) : Prop where
  lt : P < 64
  b : ∀ i, P.testBit i = true → c.L ≤ i ∧ i ≤ c.H
theorem side_lt {c : Cn} {r : Rd} (hc : c.Ok) (hw : ∀ i, r.W.testBit i = true → c.L ≤ i ∧ i ≤ c.H) (hs : side r.up r.F r.W = true) : (r.up = true → r.F + 1 ≤ c.H) ∧ (r.up = false → c.L + 1 ≤ r.F) := by
  constructor
  · intro hu
    rw [side, hu, cond_true] at hs
    obtain ⟨i, h1, h2, h3⟩ := up_iff.1 hs
    have := hw i h3
    omega
  · intro hu
    rw [side, hu, cond_false] at hs
    obtain ⟨i, h1, h2, h3⟩ := dn_iff.1 hs
    have := hw i h3
    omega
theorem end_mid {c : Cn} {r : Rd} (hc : c.Ok) (h : Ok c r) : Mid c (endR r) := by
  unfold endR
  by_cases h0 : r.doing = 0
  · rw [if_pos h0]
    exact ⟨h.f, h.w6, h.w, h.d, fun _ => (h.d0 h0).1, h.d1, h.d2⟩
  rw [if_neg h0]
  by_cases h1 : 1 < r.left
  · rw [if_pos h1]
    refine ⟨h.f, h.w6, h.w, h.d, fun e => absurd e h0, fun e => ?_, fun e => ?_⟩
    · obtain ⟨a, b⟩ := h.d1 e
      exact ⟨⟨by show 1 ≤ r.left - 1; omega, by show r.left - 1 ≤ c.M; omega⟩, b⟩
    · obtain ⟨a, b⟩ := h.d2 e
      exact ⟨⟨by show 1 ≤ r.left - 1; omega, by show r.left - 1 ≤ c.S; omega⟩, b⟩
  rw [if_neg h1]
  by_cases h2 : r.doing = 1
  · rw [if_pos h2]
    obtain ⟨hu, hd⟩ := side_lt hc h.w (h.d1 h2).2
    refine ⟨?_, h.w6, h.w, Nat.zero_le 2, fun _ => rfl, fun e => (by cases e), fun e => (by cases e)⟩
    cases hup : r.up with
    | true => have := hu hup; have := h.f; simp only [cond_true]; omega
    | false => have := hd hup; have := h.f; simp only [cond_false]; omega
  · rw [if_neg h2]
    exact ⟨h.f, h.w6, h.w, Nat.zero_le 2, fun _ => rfl, fun e => (by cases e), fun e => (by cases e)⟩
theorem side_or {u : Bool} {F W Q : Nat} (h : side u F W = true) : side u F (W ||| Q) = true := by
  cases u with
  | true =>
    simp only [side, cond_true] at h ⊢
    obtain ⟨i, h1, h2, h3⟩ := up_iff.1 h
    exact up_iff.2 ⟨i, h1, h2, by rw [Nat.testBit_or, h3]; rfl⟩
  | false =>
    simp only [side, cond_false] at h ⊢
    obtain ⟨i, h1, h2, h3⟩ := dn_iff.1 h
    exact dn_iff.2 ⟨i, h1, h2, by rw [Nat.testBit_or, h3]; rfl⟩
theorem press_mid {c : Cn} {r : Rd} (hc : c.Ok) (h : Mid c r) {P : Nat} (hP : Fl c P) : Mid c (pressR r P) := by
  have hf : r.F < 6 := by have := h.f; have := hc.h5; omega
  have hoff : ∀ i, (off P r.F).testBit i = true → P.testBit i = true ∧ i ≠ r.F := fun i hi => by
    have h6 := bit_lt (off_lt hP.lt) hi
    rw [off_bit r.F hf P hP.lt i h6, Bool.and_eq_true] at hi
    exact ⟨hi.1, by simpa using hi.2⟩
  refine ⟨h.f, ?_, fun i hi => ?_, h.d, h.d0, fun e => ⟨(h.d1 e).1, side_or (h.d1 e).2⟩, fun e => ⟨(h.d2 e).1, (h.d2 e).2.1, ?_⟩⟩
  · show r.W ||| _ < 64
    split
    · exact or_lt h.w6 (off_lt hP.lt)
    · exact or_lt h.w6 hP.lt
  · have hi : (r.W ||| (if r.doing = 2 then off P r.F else P)).testBit i = true := hi
    rw [Nat.testBit_or, Bool.or_eq_true] at hi
    rcases hi with hi | hi
    · exact h.w i hi
    · split at hi
      · exact hP.b i (hoff i hi).1
      · exact hP.b i hi
  · show (r.W ||| (if r.doing = 2 then off P r.F else P)).testBit r.F = false
    have e : r.doing = 2 := e
    rw [if_pos e, Nat.testBit_or, (h.d2 e).2.2, off_bit r.F hf P hP.lt r.F hf]
    simp
theorem begin_ok {c : Cn} {r : Rd} (hc : c.Ok) (h : Mid c r) : Ok c (beginR c.M c.S r) := by
  have hf : r.F < 6 := by have := h.f; have := hc.h5; omega
  have hm := hc.m1
  have hs := hc.s1
  unfold beginR
  by_cases h0 : r.doing = 0
  · rw [if_neg (by simpa using h0)]
    by_cases hw : r.W = 0
    · rw [if_pos hw]
      exact ⟨h.f, h.w6, h.w, h.d, fun e => ⟨h.d0 e, hw⟩, h.d1, h.d2⟩
    rw [if_neg hw]
    cases hb : (r.W.testBit r.F && (!r.stood || r.W == 2 ^ r.F)) with
    | true =>
      simp only [cond_true]
      refine ⟨h.f, off_lt h.w6, fun i hi => ?_, Nat.le_refl 2, fun e => (by cases e), fun e => (by cases e), fun _ => ⟨⟨hs, Nat.le_refl _⟩, rfl, ?_⟩⟩
      · have h6 := bit_lt (off_lt h.w6) hi
        have hi : (off r.W r.F).testBit i = true := hi
        rw [off_bit r.F hf r.W h.w6 i h6, Bool.and_eq_true] at hi
        exact h.w i hi.1
      · show (off r.W r.F).testBit r.F = false
        rw [off_bit r.F hf r.W h.w6 r.F hf]
        simp
    | false =>
      simp only [cond_false]
      refine ⟨h.f, h.w6, h.w, Nat.le_succ 1, fun e => (by cases e), fun _ => ⟨⟨hm, Nat.le_refl _⟩, ?_⟩, fun e => (by cases e)⟩
      show side (bif side r.up r.F r.W then r.up else !r.up) r.F r.W = true
      cases hsd : side r.up r.F r.W with
      | true => simp only [cond_true, hsd]
      | false =>
        simp only [cond_false]
        have hh : r.W.testBit r.F = true → r.W ≠ 2 ^ r.F := fun h1 h2 => by
          rw [h1, h2] at hb
          simp at hb
        have := sides r.F hf r.W h.w6 hw hh
        rw [Bool.or_eq_true] at this
        cases hu : r.up with
        | true =>
          simp only [side, hu, cond_true] at hsd
          rw [hsd] at this
          simp only [side, Bool.not_true, cond_false]
          simpa using this
        | false =>
          simp only [side, hu, cond_false] at hsd
          rw [hsd] at this
          simp only [side, Bool.not_false, cond_true]
          simpa using this
  · rw [if_pos h0]
    exact ⟨h.f, h.w6, h.w, h.d, fun e => absurd e h0, h.d1, h.d2⟩
theorem tick_ok {c : Cn} {r : Rd} (hc : c.Ok) (h : Ok c r) {P : Nat} (hP : Fl c P) : Ok c (tickR c.M c.S r P) := begin_ok hc (press_mid hc (end_mid hc h) hP)
theorem serv_lt {c : Cn} {r : Rd} (hc : c.Ok) (h : Ok c r) {P : Nat} (hP : Fl c P) : servR r P < 64 := by
  have hm := end_mid hc h
  have hf : (endR r).F < 6 := by have := hm.f; have := hc.h5; omega
  refine or_lt ?_ ?_
  · unfold servP
    split
    · exact Nat.lt_of_le_of_lt Nat.and_le_left hP.lt
    · decide
  · cases begS (pressR (endR r) P)
    · exact Nat.zero_lt_succ _
    · exact pow_lt hf
end
end Go.Proofs.Ytlphgonhenegoaa
