/-
  The car: it never leaves its floors, and a play never ends early.
-/
import Derived.Test.YtpillmoddoccfabH1
import Derived.Test.YtpillmoddoccfabSxMath
set_option linter.unusedVariables false
set_option linter.unusedSimpArgs false
set_option maxHeartbeats 0
set_option maxRecDepth 100000
namespace Go.Proofs.Ytpillmoddoccfab
namespace Ca
open Go.Sx
section
theorem ltF {a b : Nat} (h : b ≤ a) : decide ((a : Int) < (b : Int)) = false := by simp; omega
theorem ltT {a b : Nat} (h : a < b) : decide ((a : Int) < (b : Int)) = true := by simp; omega
theorem natF (a : Nat) : decide ((a : Int) < 0) = false := by simp

/-! ### Bits -/
theorem shl_eq {f : Nat} (h : f < 60) : w64 ((1 : Int) * (2 : Int) ^ min (Int.toNat (f : Int)) (IntKind.bits IntKind.i64)) = ((2 ^ f : Nat) : Int) := by
  have h1 : (2 : Nat) ^ f ≤ 2 ^ 60 := Nat.pow_le_pow_right (by omega) (by omega)
  have h2 : min (Int.toNat (f : Int)) (IntKind.bits IntKind.i64) = f := by show min f 64 = f; omega
  rw [h2, Int.one_mul, show ((2 : Int) ^ f) = ((2 ^ f : Nat) : Int) by push_cast; rfl]
  generalize (2 : Nat) ^ f = x at h1 ⊢
  exact w64_eq (by omega) (by omega)
theorem pow_lt {f : Nat} (h : f < 6) : 2 ^ f < 64 := by
  have : (2 : Nat) ^ f ≤ 2 ^ 5 := Nat.pow_le_pow_right (by omega) (by omega)
  omega
theorem or_lt {a b : Nat} (ha : a < 64) (hb : b < 64) : a ||| b < 64 := Nat.or_lt_two_pow (n := 6) ha hb
theorem bit_or {a f i : Nat} (h : (a ||| 2 ^ f).testBit i = true) : a.testBit i = true ∨ i = f := by
  rw [Nat.testBit_or, Bool.or_eq_true] at h
  rcases h with h | h
  · exact .inl h
  · rw [Nat.testBit_two_pow] at h
    simp at h
    exact .inr h.symm
theorem bit_lt {a i : Nat} (ha : a < 64) (h : a.testBit i = true) : i < 6 := by
  by_cases hi : i < 6
  · exact hi
  · have : a.testBit i = false := Nat.testBit_lt_two_pow (by have : 2 ^ 6 ≤ 2 ^ i := Nat.pow_le_pow_right (by omega) (by omega); omega)
    rw [this] at h; cases h

/-- A floor is wanted above, below, or here. -/
def up (F W : Nat) : Bool := (List.range 6).any fun i => decide (F < i) && W.testBit i
def dn (F W : Nat) : Bool := (List.range 6).any fun i => decide (i < F) && W.testBit i
theorem here_eq : ∀ F : Nat, F < 6 → ∀ W : Nat, W < 64 → (w64 (↑(BitVec.toNat (BitVec.ofInt (IntKind.bits IntKind.i64) (W : Int) &&& BitVec.ofInt (IntKind.bits IntKind.i64) ((2 ^ F : Nat) : Int))) : Int) != (0 : Int)) = W.testBit F := by decide +kernel
theorem up_eq : ∀ F : Nat, F < 6 → ∀ W : Nat, W < 64 → (w64 (↑(BitVec.toNat (BitVec.ofInt (IntKind.bits IntKind.i64) (W : Int) &&& BitVec.ofInt (IntKind.bits IntKind.i64) (-((2 ^ (F + 1) : Nat) : Int)))) : Int) == (0 : Int)) = !up F W := by decide +kernel
theorem dn_eq : ∀ F : Nat, F < 6 → ∀ W : Nat, W < 64 → (w64 (↑(BitVec.toNat (BitVec.ofInt (IntKind.bits IntKind.i64) (W : Int) &&& BitVec.ofInt (IntKind.bits IntKind.i64) (((2 ^ F - 1 : Nat) : Int)))) : Int) == (0 : Int)) = !dn F W := by decide +kernel
theorem sides : ∀ F : Nat, F < 6 → ∀ W : Nat, W < 64 → W ≠ 0 → (W.testBit F = true → W ≠ 2 ^ F) → (up F W || dn F W) = true := by decide +kernel
theorem off_lt : ∀ F : Nat, F < 6 → ∀ W : Nat, W < 64 → w64 (↑(BitVec.toNat (BitVec.ofInt (IntKind.bits IntKind.i64) (W : Int) &&& ~~~BitVec.ofInt (IntKind.bits IntKind.i64) ((2 ^ F : Nat) : Int))) : Int) = ((W - (bif W.testBit F then 2 ^ F else 0) : Nat) : Int) := by decide +kernel
theorem off_bit : ∀ F : Nat, F < 6 → ∀ W : Nat, W < 64 → ∀ i, i < 6 → (W - (bif W.testBit F then 2 ^ F else 0)).testBit i = (W.testBit i && !(i == F)) := by decide +kernel
theorem up_w : ∀ F : Nat, F < 6 → w64 (↑(BitVec.toNat (BitVec.ofInt (IntKind.bits IntKind.i64) (if IntKind.signed IntKind.i64 = true then (-1 : Int) else IntKind.max IntKind.i64) ^^^ BitVec.ofInt (IntKind.bits IntKind.i64) (w64 (↑(BitVec.toNat (BitVec.ofInt (IntKind.bits IntKind.i64) (w64 (((2 ^ F : Nat) : Int) - 1)) ||| BitVec.ofInt (IntKind.bits IntKind.i64) ((2 ^ F : Nat) : Int))) : Int)))) : Int) = -((2 ^ (F + 1) : Nat) : Int) := by decide +kernel
theorem dn_w : ∀ F : Nat, F < 6 → w64 (((2 ^ F : Nat) : Int) - 1) = ((2 ^ F - 1 : Nat) : Int) := by decide +kernel

theorem up_iff {F W : Nat} : up F W = true ↔ ∃ i, i < 6 ∧ F < i ∧ W.testBit i = true := by simp only [up, List.any_eq_true, List.mem_range, Bool.and_eq_true, decide_eq_true_eq]
theorem dn_iff {F W : Nat} : dn F W = true ↔ ∃ i, i < 6 ∧ i < F ∧ W.testBit i = true := by simp only [dn, List.any_eq_true, List.mem_range, Bool.and_eq_true, decide_eq_true_eq]

/-! ### Cars and rides that are valid -/
structure VC (c : api_Car) : Prop where
  lo : 0 ≤ c.Low
  hi : c.High ≤ 5
  s : c.Low ≤ c.Start ∧ c.Start ≤ c.High
  m : 1 ≤ c.Move ∧ c.Move ≤ 3
  p : 1 ≤ c.Stop ∧ c.Stop ≤ 4
def side (u : Bool) (F W : Nat) : Bool := bif u then up F W else dn F W
structure CI (c : api_Car) (r : api_Ride) (F W : Nat) : Prop where
  f : r.Floor = (F : Int)
  w : r.Wants = (W : Int)
  w6 : W < 64
  b : c.Low ≤ (F : Int) ∧ (F : Int) ≤ c.High
  i : ∀ i, W.testBit i = true → c.Low ≤ (i : Int) ∧ (i : Int) ≤ c.High
  d : r.Doing = 0 ∨ r.Doing = 1 ∨ r.Doing = 2
  m : r.Doing = 1 → side r.Up F W = true

theorem end_inv (N : Nat) {c : api_Car} (hc : VC c) {r : api_Ride} {F W : Nat} (h : CI c r F W) :
    ∃ (r' : api_Ride) (F' : Nat), CI c r' F' W ∧ ∀ {R : Type} (k : calls_cage → Option R), calls_cage_end N ⟨c, r⟩ k = k ⟨c, r'⟩ := by
  have hl := hc.lo
  have hh := hc.hi
  have hb := h.b
  have key : ∀ (r' : api_Ride) (F' : Nat), CI c r' F' W → (∀ {R : Type} (k : calls_cage → Option R), calls_cage_end_m N ⟨c, r⟩ k = k ⟨c, r'⟩) → _ := fun r' F' a b => (⟨r', F', a, fun {R} k => by rw [calls_cage_end_def]; exact b k⟩ : ∃ (r' : api_Ride) (F' : Nat), CI c r' F' W ∧ ∀ {R : Type} (k : calls_cage → Option R), calls_cage_end N ⟨c, r⟩ k = k ⟨c, r'⟩)
  by_cases c0 : r.Doing = 0
  · refine key r F h fun {R} k => ?_
    unfold calls_cage_end_m
    simp only [c0, BEq.rfl, cond_true]
  have e0 : (r.Doing == 0) = false := by simpa using c0
  by_cases c1 : w64 (r.Left - 1) > 0
  · refine key ⟨r.Floor, r.Up, r.Stood, r.Doing, w64 (r.Left - 1), r.Wants⟩ F ⟨h.f, h.w, h.w6, h.b, h.i, h.d, h.m⟩ fun {R} k => ?_
    unfold calls_cage_end_m
    simp only [e0, c1, decide_true, cond_true, cond_false]
  by_cases c2 : r.Doing = 1
  · have hm := h.m c2
    cases hu : r.Up with
    | true =>
      rw [hu] at hm
      obtain ⟨i, i1, i2, i3⟩ := up_iff.1 hm
      have hi := h.i i i3
      refine key ⟨((F + 1 : Nat) : Int), r.Up, false, 0, w64 (r.Left - 1), r.Wants⟩ (F + 1) ⟨rfl, h.w, h.w6, ⟨by omega, by omega⟩, h.i, .inl rfl, fun h => by cases h⟩ fun {R} k => ?_
      unfold calls_cage_end_m
      simp only [c1, c2, hu, h.f, w64_succ (show F < 1000000000000 by omega), decide_false, cond_true, cond_false, BEq.rfl, show ((1 : Int) == 0) = false from rfl]
    | false =>
      rw [hu] at hm
      obtain ⟨i, i1, i2, i3⟩ := dn_iff.1 hm
      have hi := h.i i i3
      have e1 : w64 ((F : Int) - 1) = ((F - 1 : Nat) : Int) := by rw [w64_eq (by omega) (by omega)]; omega
      refine key ⟨((F - 1 : Nat) : Int), r.Up, false, 0, w64 (r.Left - 1), r.Wants⟩ (F - 1) ⟨rfl, h.w, h.w6, ⟨by omega, by omega⟩, h.i, .inl rfl, fun h => by cases h⟩ fun {R} k => ?_
      unfold calls_cage_end_m
      simp only [c1, c2, hu, h.f, e1, decide_false, cond_true, cond_false, BEq.rfl, show ((1 : Int) == 0) = false from rfl]
  · have e2 : (r.Doing == 1) = false := by simpa using c2
    refine key ⟨r.Floor, r.Up, r.Stood, 0, w64 (r.Left - 1), r.Wants⟩ F ⟨h.f, h.w, h.w6, h.b, h.i, .inl rfl, fun h => by cases h⟩ fun {R} k => ?_
    unfold calls_cage_end_m
    simp only [e0, e2, c1, decide_false, cond_false]

theorem press_inv (N : Nat) {c : api_Car} (hc : VC c) {r : api_Ride} {F W : Nat} (h : CI c r F W) {g : Nat} (hg : c.Low ≤ (g : Int) ∧ (g : Int) ≤ c.High) :
    ∃ (v : Bool) (r' : api_Ride) (W' : Nat), CI c r' F W' ∧ ∀ {R : Type} (k : Bool → calls_cage → Option R), calls_cage_press N (g : Int) ⟨c, r⟩ k = k v ⟨c, r'⟩ := by
  have hl := hc.lo
  have hh := hc.hi
  have ho : w64 (↑(BitVec.toNat (BitVec.ofInt (IntKind.bits IntKind.i64) (W : Int) ||| BitVec.ofInt (IntKind.bits IntKind.i64) ((2 ^ g : Nat) : Int))) : Int) = ((W ||| 2 ^ g : Nat) : Int) :=
    or64 (by have := h.w6; omega) (by have := pow_lt (show g < 6 by omega); omega)
  have more : CI c ⟨r.Floor, r.Up, r.Stood, r.Doing, r.Left, ((W ||| 2 ^ g : Nat) : Int)⟩ F (W ||| 2 ^ g) := ⟨h.f, rfl, or_lt h.w6 (pow_lt (by omega)), h.b, fun i hi => by
    rcases bit_or hi with h1 | h1
    · exact h.i i h1
    · rw [h1]; exact hg, h.d, fun hd => by
    have := h.m hd
    show side r.Up F (W ||| 2 ^ g) = true
    cases hu : r.Up with
    | true =>
      rw [hu] at this
      obtain ⟨i, i1, i2, i3⟩ := up_iff.1 this
      exact up_iff.2 ⟨i, i1, i2, by rw [Nat.testBit_or, i3]; rfl⟩
    | false =>
      rw [hu] at this
      obtain ⟨i, i1, i2, i3⟩ := dn_iff.1 this
      exact dn_iff.2 ⟨i, i1, i2, by rw [Nat.testBit_or, i3]; rfl⟩⟩
  have body : ∀ {R : Type} (k : Bool → calls_cage → Option R), (bif decide ((g : Int) < (0 : Int)) then Option.none else
      k false (calls_cage.mk c (api_Ride.mk r.Floor r.Up r.Stood r.Doing r.Left (w64 (↑(BitVec.toNat (BitVec.ofInt (IntKind.bits IntKind.i64) r.Wants ||| BitVec.ofInt (IntKind.bits IntKind.i64) (w64 ((1 : Int) * (2 : Int) ^ min (Int.toNat (g : Int)) (IntKind.bits IntKind.i64))))) : Int))))) = k false ⟨c, ⟨r.Floor, r.Up, r.Stood, r.Doing, r.Left, ((W ||| 2 ^ g : Nat) : Int)⟩⟩ := fun {R} k => by
    rw [shl_eq (by omega), h.w, ho, natF]; rfl
  by_cases c2 : r.Doing = 2
  · by_cases c3 : (g : Int) = r.Floor
    · refine ⟨true, r, W, h, fun {R} k => ?_⟩
      rw [calls_cage_press_def]
      unfold calls_cage_press_m
      have e3 : ((g : Int) == r.Floor) = true := by simpa using c3
      simp only [c2, e3, BEq.rfl, cond_true]
    · refine ⟨false, _, _, more, fun {R} k => ?_⟩
      rw [calls_cage_press_def]
      unfold calls_cage_press_m
      have e2 : (r.Doing == 2) = true := by simpa using c2
      have e3 : ((g : Int) == r.Floor) = false := by simpa using c3
      simp only [e2, e3, cond_true, cond_false]
      exact body k
  · refine ⟨false, _, _, more, fun {R} k => ?_⟩
    rw [calls_cage_press_def]
    unfold calls_cage_press_m
    have e2 : (r.Doing == 2) = false := by simpa using c2
    simp only [e2, cond_false]
    exact body k

theorem ahead_eq (N : Nat) {c : api_Car} (hc : VC c) {r : api_Ride} {F W : Nat} (h : CI c r F W) {R : Type} (k : Int → Option R) : calls_cage_ahead N ⟨c, r⟩ k = k (bif r.Up then -((2 ^ (F + 1) : Nat) : Int) else ((2 ^ F - 1 : Nat) : Int)) := by
  have hh := hc.hi
  have hb := h.b
  rw [calls_cage_ahead_def]
  unfold calls_cage_ahead_m
  have hF : F < 6 := by omega
  cases hu : r.Up with
  | true => simp only [h.f, natF, cond_false, cond_true, shl_eq (show F < 60 by omega), up_w F hF]
  | false => simp only [h.f, natF, cond_false, shl_eq (show F < 60 by omega), dn_w F hF]

theorem begins_inv (N : Nat) {c : api_Car} (hc : VC c) {r : api_Ride} {F W : Nat} (h : CI c r F W) :
    ∃ (v : Bool) (r' : api_Ride) (W' : Nat), CI c r' F W' ∧ ∀ {R : Type} (k : Bool → calls_cage → Option R), calls_cage_begins N ⟨c, r⟩ k = k v ⟨c, r'⟩ := by
  have hl := hc.lo
  have hh := hc.hi
  have hb := h.b
  have hF : F < 6 := by omega
  have hW := h.w6
  by_cases c0 : r.Doing = 0
  rotate_left
  · refine ⟨false, r, W, h, fun {R} k => ?_⟩
    rw [calls_cage_begins_def]
    unfold calls_cage_begins_m
    have e0 : (r.Doing != 0) = true := by simpa using c0
    simp only [e0, cond_true]
  have e0 : (r.Doing != 0) = false := by simpa using c0
  by_cases c1 : W = 0
  · refine ⟨false, r, W, h, fun {R} k => ?_⟩
    rw [calls_cage_begins_def]
    unfold calls_cage_begins_m
    have e1 : (r.Wants == 0) = true := by rw [h.w, c1]; rfl
    simp only [e0, e1, cond_true, cond_false]
  have e1 : (r.Wants == 0) = false := by rw [h.w]; simp; omega
  have stands : CI c ⟨r.Floor, r.Up, true, 2, c.Stop, ((W - (bif W.testBit F then 2 ^ F else 0) : Nat) : Int)⟩ F (W - (bif W.testBit F then 2 ^ F else 0)) :=
    ⟨h.f, rfl, by omega, h.b, fun i hi => by
      have i6 := bit_lt (show W - (bif W.testBit F then 2 ^ F else 0) < 64 by omega) hi
      rw [off_bit F hF W hW i i6, Bool.and_eq_true] at hi
      exact h.i i hi.1, .inr (.inr rfl), fun h => by cases h⟩
  -- it goes on
  have go : (W.testBit F = true → W ≠ 2 ^ F) → ∃ (r' : api_Ride), CI c r' F W ∧ ∀ {R : Type} (k : Bool → calls_cage → Option R),
      calls_cage_ahead N ⟨c, r⟩ (fun r113 => bif w64 (↑(BitVec.toNat (BitVec.ofInt (IntKind.bits IntKind.i64) (W : Int) &&& BitVec.ofInt (IntKind.bits IntKind.i64) r113)) : Int) == (0 : Int) then
         k false (calls_cage.mk c (api_Ride.mk (F : Int) (!r.Up) r.Stood (1 : Int) c.Move (W : Int)))
        else k false (calls_cage.mk c (api_Ride.mk (F : Int) r.Up r.Stood (1 : Int) c.Move (W : Int)))) = k false ⟨c, r'⟩ := fun hne => by
    have hs := sides F hF W hW c1 hne
    by_cases hsd : side r.Up F W = true
    · refine ⟨⟨(F : Int), r.Up, r.Stood, 1, c.Move, (W : Int)⟩, ⟨rfl, rfl, hW, h.b, h.i, .inr (.inl rfl), fun _ => hsd⟩, fun {R} k => ?_⟩
      rw [ahead_eq N hc h]
      cases hu : r.Up with
      | true =>
        rw [hu] at hsd
        simp only [cond_true, up_eq F hF W hW, show up F W = true from hsd, Bool.not_true, cond_false]
      | false =>
        rw [hu] at hsd
        simp only [cond_false, dn_eq F hF W hW, show dn F W = true from hsd, Bool.not_true]
    · refine ⟨⟨(F : Int), !r.Up, r.Stood, 1, c.Move, (W : Int)⟩, ⟨rfl, rfl, hW, h.b, h.i, .inr (.inl rfl), fun _ => ?_⟩, fun {R} k => ?_⟩
      · show side (!r.Up) F W = true
        cases hu : r.Up with
        | true =>
          rw [hu] at hsd
          have : up F W = false := Bool.eq_false_iff.2 hsd
          rw [this, Bool.false_or] at hs
          exact hs
        | false =>
          rw [hu] at hsd
          have : dn F W = false := Bool.eq_false_iff.2 hsd
          rw [this, Bool.or_false] at hs
          exact hs
      · rw [ahead_eq N hc h]
        cases hu : r.Up with
        | true =>
          rw [hu] at hsd
          have : up F W = false := Bool.eq_false_iff.2 hsd
          simp only [cond_true, up_eq F hF W hW, this, Bool.not_false]
        | false =>
          rw [hu] at hsd
          have : dn F W = false := Bool.eq_false_iff.2 hsd
          simp only [cond_false, dn_eq F hF W hW, this, Bool.not_false, cond_true]
  have hpow : ∀ {R : Type} (k : Bool → calls_cage → Option R), calls_cage_begins N ⟨c, r⟩ k = (bif W.testBit F then bif !r.Stood then
       k true ⟨c, ⟨r.Floor, r.Up, true, 2, c.Stop, ((W - (bif W.testBit F then 2 ^ F else 0) : Nat) : Int)⟩⟩
      else bif ((W : Int) == ((2 ^ F : Nat) : Int)) then k true ⟨c, ⟨r.Floor, r.Up, true, 2, c.Stop, ((W - (bif W.testBit F then 2 ^ F else 0) : Nat) : Int)⟩⟩
       else calls_cage_ahead N ⟨c, r⟩ (fun r113 => bif w64 (↑(BitVec.toNat (BitVec.ofInt (IntKind.bits IntKind.i64) (W : Int) &&& BitVec.ofInt (IntKind.bits IntKind.i64) r113)) : Int) == (0 : Int) then
         k false (calls_cage.mk c (api_Ride.mk (F : Int) (!r.Up) r.Stood (1 : Int) c.Move (W : Int)))
        else k false (calls_cage.mk c (api_Ride.mk (F : Int) r.Up r.Stood (1 : Int) c.Move (W : Int))))
     else calls_cage_ahead N ⟨c, r⟩ (fun r113 => bif w64 (↑(BitVec.toNat (BitVec.ofInt (IntKind.bits IntKind.i64) (W : Int) &&& BitVec.ofInt (IntKind.bits IntKind.i64) r113)) : Int) == (0 : Int) then
         k false (calls_cage.mk c (api_Ride.mk (F : Int) (!r.Up) r.Stood (1 : Int) c.Move (W : Int)))
        else k false (calls_cage.mk c (api_Ride.mk (F : Int) r.Up r.Stood (1 : Int) c.Move (W : Int))))) := fun {R} k => by
    rw [calls_cage_begins_def]
    unfold calls_cage_begins_m
    simp only [e0, e1, cond_false]
    simp only [h.f, h.w, natF, cond_false, shl_eq (show F < 60 by omega), here_eq F hF W hW, off_lt F hF W hW]
  cases hbit : W.testBit F with
  | false =>
    obtain ⟨r', g1, g2⟩ := go (fun h => by rw [hbit] at h; cases h)
    exact ⟨false, r', W, g1, fun {R} k => by rw [hpow, hbit]; exact g2 k⟩
  | true =>
    rw [hbit] at stands
    cases hst : r.Stood with
    | false => exact ⟨true, _, _, stands, fun {R} k => by rw [hpow, hbit, hst]; rfl⟩
    | true =>
      by_cases c3 : W = 2 ^ F
      · have e3 : ((W : Int) == ((2 ^ F : Nat) : Int)) = true := by rw [c3]; simp
        exact ⟨true, _, _, stands, fun {R} k => by rw [hpow, hbit, hst, e3]; rfl⟩
      · have e3 : ((W : Int) == ((2 ^ F : Nat) : Int)) = false := by simp; exact_mod_cast c3
        obtain ⟨r', g1, g2⟩ := go (fun _ => c3)
        rw [hst] at g2
        exact ⟨false, r', W, g1, fun {R} k => by rw [hpow, hbit, hst, e3]; exact g2 k⟩

/-! ### A tick -/
theorem tick_l3 (N : Nat) {c : api_Car} (hc : VC c) {a : Arr Int} (ha : ∀ i, i < a.n → ∃ g : Nat, a.f i = (g : Int) ∧ c.Low ≤ (g : Int) ∧ (g : Int) ≤ c.High) (hn : a.n ≤ 1000) : ∀ (q i n : Nat) (s : Int) {r : api_Ride} {F W : Nat}, i + q = a.n → q < n → CI c r F W →
    ∃ (s' : Int) (r' : api_Ride) (W' : Nat), CI c r' F W' ∧ ∀ {R : Type} (k0 : Int → calls_cage → Option R), calls_cage_tick_l3 N n s a (a.n : Int) (i : Int) ⟨c, r⟩ k0 = k0 s' ⟨c, r'⟩ := by
  intro q
  induction q with
  | zero =>
    intro i n s r F W h1 h2 h
    obtain ⟨n, rfl⟩ : ∃ m, n = m + 1 := ⟨n - 1, by omega⟩
    refine ⟨s, r, W, h, fun {R} k0 => ?_⟩
    unfold calls_cage_tick_l3 calls_cage_tick_b3
    simp only [ltF (show a.n ≤ i by omega), cond_false]
  | succ q ih =>
    intro i n s r F W h1 h2 h
    obtain ⟨n, rfl⟩ : ∃ m, n = m + 1 := ⟨n - 1, by omega⟩
    obtain ⟨g, hg, hg1, hg2⟩ := ha i (by omega)
    obtain ⟨v, r1, W1, h3, h4⟩ := press_inv N hc h ⟨hg1, hg2⟩
    cases v with
    | true =>
      obtain ⟨s', r', W', h5, h6⟩ := ih (i + 1) n (w64 (↑(BitVec.toNat (BitVec.ofInt (IntKind.bits IntKind.i64) s ||| BitVec.ofInt (IntKind.bits IntKind.i64) (w64 ((1 : Int) * (2 : Int) ^ min (Int.toNat (g : Int)) (IntKind.bits IntKind.i64))))) : Int)) (by omega) (by omega) h3
      refine ⟨s', r', W', h5, fun {R} k0 => ?_⟩
      unfold calls_cage_tick_l3 calls_cage_tick_b3
      simp only [ltT (show i < a.n by omega), nat_nonneg, Bool.and_self, cond_true, Int.toNat_natCast (n := i), hg, h4, natF, cond_false, w64_succ (show i < 1000000000000 by omega)]
      exact h6 k0
    | false =>
      obtain ⟨s', r', W', h5, h6⟩ := ih (i + 1) n s (by omega) (by omega) h3
      refine ⟨s', r', W', h5, fun {R} k0 => ?_⟩
      unfold calls_cage_tick_l3 calls_cage_tick_b3
      simp only [ltT (show i < a.n by omega), nat_nonneg, Bool.and_self, cond_true, Int.toNat_natCast (n := i), hg, h4, cond_false, w64_succ (show i < 1000000000000 by omega)]
      exact h6 k0

theorem tick_inv {N : Nat} {c : api_Car} (hc : VC c) {a : Arr Int} (ha : ∀ i, i < a.n → ∃ g : Nat, a.f i = (g : Int) ∧ c.Low ≤ (g : Int) ∧ (g : Int) ≤ c.High) (hn : a.n ≤ 1000) (hN : 1000 < N) {r : api_Ride} {F W : Nat} (h : CI c r F W) :
    ∃ (s' : Int) (r' : api_Ride) (F' W' : Nat), CI c r' F' W' ∧ ∀ {R : Type} (k : Int → calls_cage → Option R), calls_cage_tick N a ⟨c, r⟩ k = k s' ⟨c, r'⟩ := by
  obtain ⟨r1, F1, h1, g1⟩ := end_inv N hc h
  obtain ⟨s2, r2, W2, h2, g2⟩ := tick_l3 N hc ha hn a.n 0 N 0 (by omega) (by omega) h1
  obtain ⟨v, r3, W3, h3, g3⟩ := begins_inv N hc h2
  have body : ∀ {R : Type} (k : Int → calls_cage → Option R), calls_cage_tick N a ⟨c, r⟩ k = (bif v then bif decide (r3.Floor < (0 : Int)) then Option.none else k (w64 (↑(BitVec.toNat (BitVec.ofInt (IntKind.bits IntKind.i64) s2 ||| BitVec.ofInt (IntKind.bits IntKind.i64) (w64 ((1 : Int) * (2 : Int) ^ min (Int.toNat r3.Floor) (IntKind.bits IntKind.i64))))) : Int)) ⟨c, r3⟩ else k s2 ⟨c, r3⟩) := fun {R} k => by
    rw [calls_cage_tick_def]
    unfold calls_cage_tick_m
    rw [g1]
    refine (g2 _).trans ?_
    rw [g3]
  cases v with
  | true =>
    refine ⟨w64 (↑(BitVec.toNat (BitVec.ofInt (IntKind.bits IntKind.i64) s2 ||| BitVec.ofInt (IntKind.bits IntKind.i64) (w64 ((1 : Int) * (2 : Int) ^ min (Int.toNat r3.Floor) (IntKind.bits IntKind.i64))))) : Int), r3, F1, W3, h3, fun {R} k => (body k).trans ?_⟩
    have : decide (r3.Floor < 0) = false := by rw [h3.f]; exact natF _
    simp only [cond_true, this, cond_false]
  | false => exact ⟨s2, r3, F1, W3, h3, fun {R} k => body k⟩

/-! ### Presses -/
structure PO (c : api_Car) (l : Arr api_Press) : Prop where
  n : l.n ≤ 200
  f : ∀ i, i < l.n → ∃ g : Nat, (l.f i).Floor = (g : Int) ∧ c.Low ≤ (g : Int) ∧ (g : Int) ≤ c.High

theorem play_l12 (N : Nat) {c : api_Car} (t T t0 : Int) (b : Bool) (rd : Arr api_Ride) (cg : calls_cage) : ∀ (q n : Nat) (l : Arr api_Press) (nb : Bool) (now : Arr Int), l.n ≤ q → q < n → PO c l → now.n + l.n ≤ 200 → (∀ i, i < now.n → ∃ g : Nat, now.f i = (g : Int) ∧ c.Low ≤ (g : Int) ∧ (g : Int) ≤ c.High) →
    ∃ (l' : Arr api_Press) (nb' : Bool) (now' : Arr Int), PO c l' ∧ now'.n ≤ 200 ∧ (∀ i, i < now'.n → ∃ g : Nat, now'.f i = (g : Int) ∧ c.Low ≤ (g : Int) ∧ (g : Int) ≤ c.High) ∧
      ∀ {R : Type} (k2 : Arr api_Press → Bool → Arr Int → Option R), calls_Play_l12 N n l t T t0 b rd cg nb now k2 = k2 l' nb' now' := by
  intro q
  induction q with
  | zero =>
    intro n l nb now h1 h2 h3 h4 h5
    obtain ⟨n, rfl⟩ : ∃ m, n = m + 1 := ⟨n - 1, by omega⟩
    refine ⟨l, nb, now, h3, by omega, h5, fun {R} k2 => ?_⟩
    unfold calls_Play_l12 calls_Play_b12
    have : decide ((l.n : Int) > 0) = false := by simp; omega
    simp only [this, cond_false]
  | succ q ih =>
    intro n l nb now h1 h2 h3 h4 h5
    obtain ⟨n, rfl⟩ : ∃ m, n = m + 1 := ⟨n - 1, by omega⟩
    by_cases c0 : l.n = 0
    · refine ⟨l, nb, now, h3, by omega, h5, fun {R} k2 => ?_⟩
      unfold calls_Play_l12 calls_Play_b12
      have : decide ((l.n : Int) > 0) = false := by simp; omega
      simp only [this, cond_false]
    have e0 : decide ((l.n : Int) > 0) = true := by simp; omega
    have e1 : decide ((0 : Int) < (l.n : Int)) = true := by simp; omega
    by_cases c1 : (l.f (Int.toNat 0)).At = t
    rotate_left
    · refine ⟨l, nb, now, h3, by omega, h5, fun {R} k2 => ?_⟩
      unfold calls_Play_l12 calls_Play_b12
      have : ((l.f (Int.toNat 0)).At == t) = false := by simpa using c1
      simp only [e0, e1, this, cond_true, cond_false]
    have e2 : ((l.f (Int.toNat 0)).At == t) = true := by simpa using c1
    have e3 : (decide ((1 : Int) ≤ (l.n : Int)) && decide ((l.n : Int) ≤ (l.n : Int))) = true := by simp; omega
    have hroom : room (now.n + 1) = true := room_of (by omega)
    have hn' : (lst api_PressC (Int.toNat (↑(Arr.n l) : Int) - Int.toNat (1 : Int)) fun (i j : Nat) ↦ Cod.cell api_PressC (Arr.f l) (Int.toNat (1 : Int) + i) j).n = l.n - 1 := by show Int.toNat (l.n : Int) - 1 = _; rw [Int.toNat_natCast]
    have hp : (lst intC (Arr.n now + (1 : Nat)) (catC (Arr.n now) (Cod.cell intC (Arr.f now)) (litC [SV.int IntKind.i64 (0 : Int)] [[SV.int IntKind.i64 (api_Press.Floor (Arr.f l (Int.toNat (0 : Int))))]]))).Is (now.n + 1) (fun i => if i = now.n then (l.f 0).Floor else now.f i) :=
      Arr.Is.push_int (a := now) (n := now.n) (g := fun i => if i = now.n then (l.f 0).Floor else now.f i) ⟨rfl, fun i hi => (if_neg (by omega)).symm⟩ (by simp)
    obtain ⟨l', nb', now', g1, g2, g3, g4⟩ := ih n (lst api_PressC (Int.toNat (↑(Arr.n l) : Int) - Int.toNat (1 : Int)) fun (i j : Nat) ↦ Cod.cell api_PressC (Arr.f l) (Int.toNat (1 : Int) + i) j) false
      (lst intC (Arr.n now + (1 : Nat)) (catC (Arr.n now) (Cod.cell intC (Arr.f now)) (litC [SV.int IntKind.i64 (0 : Int)] [[SV.int IntKind.i64 (api_Press.Floor (Arr.f l (Int.toNat (0 : Int))))]])))
      (by rw [hn']; omega) (by omega) ⟨by rw [hn']; have := h3.n; omega, fun i hi => h3.f (1 + i) (by rw [hn'] at hi; omega)⟩ (by rw [hn', hp.1]; omega) (fun i hi => by
        rw [hp.1] at hi
        rw [hp.2 i hi]
        by_cases e : i = now.n
        · rw [if_pos e]; exact h3.f 0 (by omega)
        · rw [if_neg e]; exact h5 i (by omega))
    refine ⟨l', nb', now', g1, g2, g3, fun {R} k2 => ?_⟩
    unfold calls_Play_l12 calls_Play_b12
    simp only [e0, e1, e2, e3, hroom, cond_true]
    exact g4 k2

theorem play_l9 {N : Nat} (hN : 2000 < N) {c : api_Car} (hc : VC c) (T : Nat) (hT : T ≤ 1000) : ∀ (q t n : Nat) (l : Arr api_Press) (b : Bool) (rd : Arr api_Ride) {r : api_Ride} {F W : Nat}, t + q = T → q < n → PO c l → CI c r F W → rd.n = t →
    ∃ (b' : Bool) (rd' : Arr api_Ride), rd'.n = T ∧ ∀ {R : Type} (k0 : Bool → Arr api_Ride → Option R), calls_Play_l9 N n l (T : Int) (t : Int) b rd ⟨c, r⟩ k0 = k0 b' rd' := by
  intro q
  induction q with
  | zero =>
    intro t n l b rd r F W h1 h2 h3 h4 h5
    obtain ⟨n, rfl⟩ : ∃ m, n = m + 1 := ⟨n - 1, by omega⟩
    refine ⟨b, rd, by omega, fun {R} k0 => ?_⟩
    unfold calls_Play_l9 calls_Play_b9
    simp only [ltF (show T ≤ t by omega), cond_false]
  | succ q ih =>
    intro t n l b rd r F W h1 h2 h3 h4 h5
    obtain ⟨n, rfl⟩ : ∃ m, n = m + 1 := ⟨n - 1, by omega⟩
    have hl := h3.n
    obtain ⟨l', nb', now', g1, g2, g3, g4⟩ := play_l12 N (c := c) (t : Int) (T : Int) (t : Int) b rd ⟨c, r⟩ l.n N l true (lst intC (0 : Nat) (zeroC [SV.int IntKind.i64 (0 : Int)])) (Nat.le_refl _) (by omega) h3 (by show 0 + l.n ≤ 200; omega) (fun i hi => absurd hi (Nat.not_lt_zero i))
    obtain ⟨s', r', F', W', g5, g6⟩ := tick_inv hc g3 (by omega) (by omega) h4 (N := N)
    obtain ⟨b', rd', g7, g8⟩ := ih (t + 1) n l' false (lst api_RideC (Arr.n rd + (1 : Nat)) (catC (Arr.n rd) (Cod.cell api_RideC (Arr.f rd)) (litC [SV.int IntKind.i64 (0 : Int), SV.bool false, SV.bool false, SV.int IntKind.i64 (0 : Int), SV.int IntKind.i64 (0 : Int), SV.int IntKind.i64 (0 : Int)] [[SV.int IntKind.i64 (api_Ride.Floor r'), SV.bool (api_Ride.Up r'), SV.bool (api_Ride.Stood r'), SV.int IntKind.i64 (api_Ride.Doing r'), SV.int IntKind.i64 (api_Ride.Left r'), SV.int IntKind.i64 (api_Ride.Wants r')]]))) (by omega) (by omega) g1 g5 (by show rd.n + 1 = t + 1; omega)
    refine ⟨b', rd', g7, fun {R} k0 => ?_⟩
    unfold calls_Play_l9 calls_Play_b9
    have hroom : room (rd.n + 1) = true := room_of (by omega)
    simp only [ltT (show t < T by omega), cond_true]
    refine (g4 _).trans ?_
    rw [g6]
    simp only [hroom, cond_true, w64_succ (show t < 1000000000000 by omega)]
    exact g8 k0

/-! ### The checks -/
section
variable {R : Type}
theorem from_eq (N : Nat) (n lo hi : Int) (k : Bool → Option R) : newelref07_from N n lo hi k = k (decide (lo ≤ n ∧ n ≤ hi)) := by
  rw [newelref07_from_def]
  unfold newelref07_from_m
  by_cases h : n ≥ lo
  · have : lo ≤ n := h
    simp only [h, decide_true, cond_true, this, true_and]
  · have : ¬ (lo ≤ n ∧ n ≤ hi) := fun g => h g.1
    rw [decide_eq_false this]
    simp only [h, decide_false, cond_false]
theorem in_eq (N : Nat) (n lo hi : Int) (k : Bool → Option R) : calls_within N n lo hi k = k (decide (lo ≤ n ∧ n ≤ hi)) := by
  rw [calls_within_def]
  unfold calls_within_m
  by_cases h : n ≥ lo
  · have : lo ≤ n := h
    simp only [h, decide_true, cond_true, this, true_and]
  · have : ¬ (lo ≤ n ∧ n ≤ hi) := fun g => h g.1
    rw [decide_eq_false this]
    simp only [h, decide_false, cond_false]

open Classical in
theorem refCar (N : Nat) (c : api_Car) (k : Int → Option R) : newelref07_CheckCar N c k = k (if VC c then 0 else 70) := by
  rw [newelref07_CheckCar_def]
  unfold newelref07_CheckCar_m
  simp only [from_eq]
  by_cases c1 : c.Low < 0
  · have : ¬ VC c := fun h => by have := h.lo; omega
    simp only [c1, this, decide_true, cond_true, if_false]
  by_cases c2 : c.Low ≤ c.Start ∧ c.Start ≤ c.High
  rotate_left
  · have : ¬ VC c := fun h => c2 h.s
    simp only [c1, c2, this, decide_false, Bool.not_false, cond_true, cond_false, if_false]
  by_cases c3 : c.High > 5
  · have : ¬ VC c := fun h => by have := h.hi; omega
    simp only [c1, c2, c3, this, and_self, decide_true, decide_false, Bool.not_true, cond_true, cond_false, if_false]
  by_cases c4 : 1 ≤ c.Move ∧ c.Move ≤ 3
  rotate_left
  · have : ¬ VC c := fun h => c4 h.m
    simp only [c1, c2, c3, c4, this, and_self, decide_true, decide_false, Bool.not_true, Bool.not_false, cond_true, cond_false, if_false]
  by_cases c5 : 1 ≤ c.Stop ∧ c.Stop ≤ 4
  rotate_left
  · have : ¬ VC c := fun h => c5 h.p
    simp only [c1, c2, c3, c4, c5, this, and_self, decide_true, decide_false, Bool.not_true, Bool.not_false, cond_true, cond_false, if_false]
  have : VC c := ⟨by omega, by omega, c2, c4, c5⟩
  simp only [c1, c2, c3, c4, c5, this, and_self, decide_true, decide_false, Bool.not_true, cond_true, cond_false, if_true]

theorem valid_eq (N : Nat) {c : api_Car} (h : VC c) (k : Bool → Option R) : calls_valid N c k = k true := by
  rw [calls_valid_def]
  unfold calls_valid_m
  have h1 : c.Low ≥ 0 := h.lo
  have h2 := h.hi
  simp only [in_eq, h.s, h1, h2, h.m, h.p, and_self, decide_true, cond_true]

/-- Presses in order, in time. -/
def prevA (l : Arr api_Press) : Nat → Int
  | 0 => 0
  | i + 1 => (l.f i).At
structure timeP (l : Arr api_Press) (i : Nat) : Prop where
  a : 0 ≤ (l.f i).At ∧ (l.f i).At ≤ 500
  b : prevA l i ≤ (l.f i).At
theorem isP_l2 (N : Nat) {l : Arr api_Press} (hn : l.n ≤ maxLen) (kr : Bool → Option R) (k0 : Unit → Option R) : ∀ (q i n : Nat), i + q = l.n → q < n → (∀ j, j < i → timeP l j) →
    (newelref07_isPresses_l2 N n l (i : Int) kr k0 = kr false) ∨ ((∀ j, j < l.n → timeP l j) ∧ newelref07_isPresses_l2 N n l (i : Int) kr k0 = k0 ()) := by
  have hm : maxLen = 9223372036854775807 := rfl
  intro q
  induction q with
  | zero =>
    intro i n h1 h2 h3
    obtain ⟨n, rfl⟩ : ∃ m, n = m + 1 := ⟨n - 1, by omega⟩
    refine .inr ⟨fun j hj => h3 j (by omega), ?_⟩
    unfold newelref07_isPresses_l2 newelref07_isPresses_b2
    simp only [ltF (show l.n ≤ i by omega), cond_false]
  | succ q ih =>
    intro i n h1 h2 h3
    obtain ⟨n, rfl⟩ : ∃ m, n = m + 1 := ⟨n - 1, by omega⟩
    unfold newelref07_isPresses_l2 newelref07_isPresses_b2
    simp only [ltT (show i < l.n by omega), nat_nonneg, Bool.and_self, cond_true, Int.toNat_natCast, from_eq, show w64 ((i : Int) + 1) = ((i + 1 : Nat) : Int) by rw [w64_eq (by omega) (by omega)]; rfl]
    by_cases c1 : 0 ≤ (l.f i).At ∧ (l.f i).At ≤ 500
    rotate_left
    · left; simp only [c1, decide_false, Bool.not_false, cond_true]
    simp only [c1, and_self, decide_true, Bool.not_true, cond_false]
    have go : prevA l i ≤ (l.f i).At → _ := fun hp => ih (i + 1) n (by omega) (by omega) (fun j hj => by
      by_cases e : j = i
      · subst e; exact ⟨c1, hp⟩
      · exact h3 j (by omega))
    by_cases c0 : (i : Int) > 0
    · have hi1 : w64 ((i : Int) - 1) = ((i - 1 : Nat) : Int) := by rw [w64_eq (by omega) (by omega)]; omega
      have hb : prevA l i = (l.f (i - 1)).At := by obtain ⟨j, rfl⟩ : ∃ j, i = j + 1 := ⟨i - 1, by omega⟩; rfl
      simp only [c0, decide_true, cond_true, hi1, nat_nonneg, ltT (show i - 1 < l.n by omega), Bool.and_self, Int.toNat_natCast]
      by_cases c6 : (l.f i).At < (l.f (i - 1)).At
      · left; simp only [c6, decide_true, cond_true]
      · simp only [c6, decide_false, cond_false]
        exact go (by omega)
    · have hi0 : i = 0 := by omega
      have hb : prevA l i = 0 := by subst hi0; rfl
      simp only [c0, decide_false, cond_false]
      exact go (by omega)

theorem refFloors_l6 (N : Nat) (c : api_Car) {l : Arr api_Press} (hn : l.n ≤ 200) (kr : Int → Option R) (k0 : Unit → Option R) : ∀ (q i n : Nat), i + q = l.n → q < n → (∀ j, j < i → c.Low ≤ (l.f j).Floor ∧ (l.f j).Floor ≤ c.High) →
    (newelref07_Check_l6 N n l (i : Int) c kr k0 = kr 71) ∨ ((∀ j, j < l.n → c.Low ≤ (l.f j).Floor ∧ (l.f j).Floor ≤ c.High) ∧ newelref07_Check_l6 N n l (i : Int) c kr k0 = k0 ()) := by
  intro q
  induction q with
  | zero =>
    intro i n h1 h2 h3
    obtain ⟨n, rfl⟩ : ∃ m, n = m + 1 := ⟨n - 1, by omega⟩
    refine .inr ⟨fun j hj => h3 j (by omega), ?_⟩
    unfold newelref07_Check_l6 newelref07_Check_b6
    simp only [ltF (show l.n ≤ i by omega), cond_false]
  | succ q ih =>
    intro i n h1 h2 h3
    obtain ⟨n, rfl⟩ : ∃ m, n = m + 1 := ⟨n - 1, by omega⟩
    unfold newelref07_Check_l6 newelref07_Check_b6
    simp only [ltT (show i < l.n by omega), nat_nonneg, Bool.and_self, cond_true, Int.toNat_natCast, from_eq, w64_succ (show i < 1000000000000 by omega)]
    by_cases c1 : c.Low ≤ (l.f i).Floor ∧ (l.f i).Floor ≤ c.High
    rotate_left
    · left; simp only [c1, decide_false, Bool.not_false, cond_true]
    simp only [c1, and_self, decide_true, Bool.not_true, cond_false]
    exact ih (i + 1) n (by omega) (by omega) (fun j hj => by
      by_cases e : j = i
      · subst e; exact c1
      · exact h3 j (by omega))

structure VL (c : api_Car) (l : Arr api_Press) : Prop where
  n : l.n ≤ 200
  t : ∀ j, j < l.n → timeP l j
  f : ∀ j, j < l.n → c.Low ≤ (l.f j).Floor ∧ (l.f j).Floor ≤ c.High
open Classical in
theorem refCheck {N : Nat} (hN : 300 ≤ N) (c : api_Car) {l : Arr api_Press} (hn : l.n < N) (hn2 : l.n ≤ maxLen) (k : Int → Option R) : (∃ v : Int, v ≠ 0 ∧ newelref07_Check N c l k = k v) ∨ ((VC c ∧ VL c l) ∧ newelref07_Check N c l k = k 0) := by
  rw [newelref07_Check_def]
  unfold newelref07_Check_m
  rw [refCar]
  by_cases hc : VC c
  rotate_left
  · left; exact ⟨70, by decide, by rw [if_neg hc]; rfl⟩
  have e0 : ((0 : Int) != 0) = false := rfl
  rw [if_pos hc]
  simp only [e0, cond_false]
  rw [newelref07_isPresses_def]
  unfold newelref07_isPresses_m
  rcases isP_l2 N hn2 (fun r11 => bif !r11 then k 71 else newelref07_Check_l6 N N l 0 c (fun r20 => k r20) (fun _ => k 0)) (fun _ => bif !(decide ((l.n : Int) ≤ 200)) then k 71 else newelref07_Check_l6 N N l 0 c (fun r20 => k r20) (fun _ => k 0)) l.n 0 N (by omega) hn (fun j hj => by omega) with h | ⟨h1, h2⟩
  · exact .inl ⟨71, by decide, h⟩
  by_cases hs : l.n ≤ 200
  rotate_left
  · refine .inl ⟨71, by decide, h2.trans ?_⟩
    have e1 : decide ((l.n : Int) ≤ 200) = false := by simp; omega
    simp only [e1, Bool.not_false, cond_true]
  have e1 : decide ((l.n : Int) ≤ 200) = true := by simp; omega
  · rcases refFloors_l6 N c hs (fun r20 => k r20) (fun _ => k 0) l.n 0 N (by omega) hn (fun j hj => by omega) with h | ⟨h3, h4⟩
    · refine .inl ⟨71, by decide, h2.trans ?_⟩
      simp only [e1, Bool.not_true, cond_false]
      exact h
    · refine .inr ⟨⟨hc, hs, h1, h3⟩, h2.trans ?_⟩
      simp only [e1, Bool.not_true, cond_false]
      exact h4

theorem timed_l3 (N : Nat) {l : Arr api_Press} (hn : l.n ≤ 200) (ht : ∀ j, j < l.n → timeP l j) (kr : Bool → Option R) (k0 : Unit → Option R) : ∀ (q i n : Nat), i + q = l.n → q < n →
    calls_timed_l3 N n l (prevA l i) l (l.n : Int) (i : Int) kr k0 = k0 () := by
  intro q
  induction q with
  | zero =>
    intro i n h1 h2
    obtain ⟨n, rfl⟩ : ∃ m, n = m + 1 := ⟨n - 1, by omega⟩
    unfold calls_timed_l3 calls_timed_b3
    simp only [ltF (show l.n ≤ i by omega), cond_false]
  | succ q ih =>
    intro i n h1 h2
    obtain ⟨n, rfl⟩ : ∃ m, n = m + 1 := ⟨n - 1, by omega⟩
    unfold calls_timed_l3 calls_timed_b3
    have h := ht i (by omega)
    simp only [ltT (show i < l.n by omega), nat_nonneg, Bool.and_self, cond_true, Int.toNat_natCast, in_eq, w64_succ (show i < 1000000000000 by omega), h.b, h.a, and_self, decide_true, Bool.not_true, cond_false]
    exact ih (i + 1) n (by omega) (by omega)
theorem floors_l6 (N : Nat) {c : api_Car} {l : Arr api_Press} (hl : VL c l) (kr : Int → Option R) (k0 : Unit → Option R) : ∀ (q i n : Nat), i + q = l.n → q < n →
    calls_Check_l6 N n l (l.n : Int) (i : Int) c kr k0 = k0 () := by
  have hn := hl.n
  intro q
  induction q with
  | zero =>
    intro i n h1 h2
    obtain ⟨n, rfl⟩ : ∃ m, n = m + 1 := ⟨n - 1, by omega⟩
    unfold calls_Check_l6 calls_Check_b6
    simp only [ltF (show l.n ≤ i by omega), cond_false]
  | succ q ih =>
    intro i n h1 h2
    obtain ⟨n, rfl⟩ : ∃ m, n = m + 1 := ⟨n - 1, by omega⟩
    unfold calls_Check_l6 calls_Check_b6
    have h := hl.f i (by omega)
    simp only [ltT (show i < l.n by omega), nat_nonneg, Bool.and_self, cond_true, Int.toNat_natCast, in_eq, w64_succ (show i < 1000000000000 by omega), h, and_self, decide_true, Bool.not_true, cond_false]
    exact ih (i + 1) n (by omega) (by omega)
theorem check_eq {N : Nat} (hN : 300 ≤ N) {c : api_Car} (hc : VC c) {l : Arr api_Press} (hl : VL c l) (k : Int → Option R) : calls_Check N c l k = k 0 := by
  have hn := hl.n
  rw [calls_Check_def]
  unfold calls_Check_m
  rw [valid_eq N hc]
  simp only [Bool.not_true, cond_false]
  rw [calls_timed_def]
  unfold calls_timed_m
  refine (timed_l3 N hn hl.t _ _ l.n 0 N (by omega) (by omega)).trans ?_
  have e1 : decide ((l.n : Int) ≤ 200) = true := by simp; omega
  simp only [e1, Bool.not_true, cond_false]
  exact floors_l6 N hl _ _ l.n 0 N (by omega) (by omega)
end

theorem play_ok {N : Nat} (hN : 3000 ≤ N) {c : api_Car} (hc : VC c) {l : Arr api_Press} (hl : VL c l) (T : Nat) (hT : T ≤ 1000) :
    ∃ (b : Bool) (rd : Arr api_Ride), rd.n = T ∧ ∀ {R : Type} (k : Int → Bool → Arr api_Ride → Option R), calls_Play N c l (T : Int) k = k 0 b rd := by
  have hlo := hc.lo
  have hs := hc.s
  have hh := hc.hi
  have hst : c.Start = ((c.Start.toNat : Nat) : Int) := by omega
  have h0 : CI c ⟨c.Start, true, false, 0, 0, 0⟩ c.Start.toNat 0 := ⟨hst, rfl, by omega, ⟨by omega, by omega⟩, fun i hi => by simp at hi, .inl rfl, fun h => by cases h⟩
  have hpo : PO c l := ⟨hl.n, fun i hi => by
    have := hl.f i hi
    exact ⟨(l.f i).Floor.toNat, by omega, by omega, by omega⟩⟩
  obtain ⟨b, rd, h1, h2⟩ := play_l9 (N := N) (by omega) hc T hT T 0 N l true (lst api_RideC (0 : Nat) (zeroC [SV.int IntKind.i64 (0 : Int), SV.bool false, SV.bool false, SV.int IntKind.i64 (0 : Int), SV.int IntKind.i64 (0 : Int), SV.int IntKind.i64 (0 : Int)])) (by omega) (by omega) hpo h0 rfl
  refine ⟨b, rd, h1, fun {R} k => ?_⟩
  rw [calls_Play_def]
  unfold calls_Play_m
  rw [check_eq (by omega) hc hl]
  have e0 : ((0 : Int) != 0) = false := rfl
  have e1 : decide ((0 : Int) ≤ (T : Int) ∧ (T : Int) ≤ 1000) = true := by simp; omega
  simp only [e0, cond_false, in_eq, e1, Bool.not_true]
  rw [calls_begin_def]
  unfold calls_begin_m
  exact h2 _
end
end Ca
end Go.Proofs.Ytpillmoddoccfab
