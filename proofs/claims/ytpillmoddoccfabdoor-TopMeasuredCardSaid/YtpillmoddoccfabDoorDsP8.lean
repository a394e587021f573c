/-
  Drive: brakes that are critical; the greatest speed; what is legal.
-/
import Derived.Test.YtpillmoddoccfabDoorDsP7
import Derived.Test.YtpillmoddoccfabDoorSxMath
set_option linter.unusedVariables false
set_option linter.unusedSimpArgs false
namespace Go.Proofs.YtpillmoddoccfabDoor
namespace Ds
open Go.Sx

section
variable {R : Type}

theorem least_rests {e : api_Escalator} {s : api_Stop} (h1 : VE e) (h2 : VS e s) (hr : pathV e s true (restS e s true) = 0) (most : Bool) : pathV e s most (restS e s most) = 0 := by
  cases most
  · exact (Soft.less (path_soft h2.s1 false) (path_soft h2.s1 true) (n := 100) (m := 100) (fun t _ _ _ _ => path_between (h2.ls h1) t) hr (rest_le e s true)).2.1
  · exact hr
theorem dist_zero {e : api_Escalator} {s : api_Stop} (h1 : VE e) (h2 : VS e s) : distV e s = if pathV e s true (restS e s true) = 0 then
    (⟨wayS (pathV e s false) (restS e s false), wayS (pathV e s true) (restS e s true)⟩, ⟨restS e s false, restS e s true⟩, 0) else (⟨0, 0⟩, ⟨0, 0⟩, 12) := by
  unfold distV
  rw [stopV_of h1 h2]
  simp
theorem hold_zero {e : api_Escalator} {s : api_Stop} (h1 : VE e) (h2 : VS e s) : holdsV e s = (decide (e.Pull * s.Loads.High ≤ e.Drag + gripE e s.Fail 20), 0) := by unfold holdsV; rw [stopV_of h1 h2]; simp
theorem back_zero {e : api_Escalator} {s : api_Stop} (h1 : VE e) (h2 : VS e s) : backV e s = if pathV e s false 100 < 0 then (0, 12) else (backS (pathV e s false) 100, 0) := by unfold backV; rw [stopV_of h1 h2]; simp

/-! ### One more brake that fails -/

/-- The stop with one more brake that fails. -/
def moreF (s : api_Stop) (i : Nat) : api_Stop := ⟨s.Speed, s.Loads, ((s.Fail.toNat ||| 2 ^ i : Nat) : Int)⟩

theorem or_eq {f : Int} (h0 : 0 ≤ f) (h1 : f < 8) {i : Nat} (hi : i < 3) : w64 (↑(BitVec.toNat (BitVec.ofInt (IntKind.bits IntKind.i64) f ||| BitVec.ofInt (IntKind.bits IntKind.i64) (w64 ((1 : Int) * (2 : Int) ^ min i (IntKind.bits IntKind.i64))))) : Int) = ((f.toNat ||| 2 ^ i : Nat) : Int) := by
  have e1 : w64 ((1 : Int) * (2 : Int) ^ min i (IntKind.bits IntKind.i64)) = ((2 ^ i : Nat) : Int) := by
    match i, hi with
    | 0, _ => rfl
    | 1, _ => rfl
    | 2, _ => rfl
  have e2 : f = ((f.toNat : Nat) : Int) := by omega
  rw [e1]
  conv => lhs; rw [e2]
  have hp : 2 ^ i ≤ 4 := by
    match i, hi with
    | 0, _ => decide
    | 1, _ => decide
    | 2, _ => decide
  exact or64 (by omega) (by omega)

theorem moreF_ok {e : api_Escalator} {s : api_Stop} (h1 : VE e) (h2 : VS e s) {i : Nat} (hi : i < e.Brakes.n) : VS e (moreF s i) := by
  refine ⟨h2.s1, h2.s2, h2.l1, h2.l2, h2.l3, ?_, ?_⟩
  · show (0 : Int) ≤ ((s.Fail.toNat ||| 2 ^ i : Nat) : Int); omega
  · show ((s.Fail.toNat ||| 2 ^ i : Nat) : Int) < 2 ^ e.Brakes.n
    have hf := h2.f2
    have h0 := h2.f1
    have a1 : s.Fail.toNat < 2 ^ e.Brakes.n := by
      have : ((2 ^ e.Brakes.n : Nat) : Int) = (2 : Int) ^ e.Brakes.n := by simp
      omega
    have a2 : 2 ^ i < 2 ^ e.Brakes.n := Nat.pow_lt_pow_right (by omega) hi
    have a3 := Nat.or_lt_two_pow a1 a2
    have : ((2 ^ e.Brakes.n : Nat) : Int) = (2 : Int) ^ e.Brakes.n := by simp
    omega

/-- Safe: it comes to rest within a way, runs back no farther, and holds. -/
def SafeP (e : api_Escalator) (s : api_Stop) (way back : Int) : Prop :=
  pathV e s true (restS e s true) = 0 ∧ wayS (pathV e s true) (restS e s true) ≤ way ∧ 0 ≤ pathV e s false 100 ∧ backS (pathV e s false) 100 ≤ back ∧ e.Pull * s.Loads.High ≤ e.Drag + gripE e s.Fail 20

open Classical in
noncomputable def safeB (e : api_Escalator) (s : api_Stop) (way back : Int) : Bool := decide (SafeP e s way back)
theorem safeB_iff {e : api_Escalator} {s : api_Stop} {way back : Int} : safeB e s way back = true ↔ SafeP e s way back := by unfold safeB; simp

def pushI (a : Arr Int) (v : Int) : Arr Int := lst intC (a.n + 1) (catC a.n (Cod.cell intC a.f) (litC [SV.int IntKind.i64 (0 : Int)] [[SV.int IntKind.i64 v]]))

/-- The brakes among the first ones that are critical. -/
noncomputable def critA (e : api_Escalator) (s : api_Stop) (way back : Int) : Nat → Bool × Arr Int
  | 0 => (true, lst intC 0 (zeroC [SV.int IntKind.i64 (0 : Int)]))
  | i + 1 => if (moreF s i).Fail ≠ s.Fail ∧ safeB e (moreF s i) way back = false then (false, pushI (critA e s way back i).2 (i : Int)) else critA e s way back i

theorem critA_le (e : api_Escalator) (s : api_Stop) (way back : Int) : ∀ i, (critA e s way back i).2.n ≤ i := by
  intro i
  induction i with
  | zero => simp [critA, lst]
  | succ i ih =>
    simp only [critA]
    split
    · simp only [pushI, lst]; omega
    · omega
theorem critA_none {e : api_Escalator} {s : api_Stop} {way back : Int} : ∀ {n : Nat}, (critA e s way back n).2.n = 0 → ∀ i, i < n → (moreF s i).Fail = s.Fail ∨ SafeP e (moreF s i) way back := by
  intro n
  induction n with
  | zero => intro _ i hi; omega
  | succ n ih =>
    intro h i hi
    simp only [critA] at h
    split at h
    · simp [pushI, lst] at h
    · rename_i hc
      by_cases e' : i = n
      · subst e'
        by_cases hf : (moreF s i).Fail = s.Fail
        · exact Or.inl hf
        · refine Or.inr (safeB_iff.1 ?_)
          cases hb : safeB e (moreF s i) way back
          · exact absurd ⟨hf, hb⟩ hc
          · rfl
      · exact ih h i (by omega)

noncomputable def critV (e : api_Escalator) (s : api_Stop) (way back : Int) : Int × Bool × Arr Int :=
  if stopV e s ≠ 0 then (stopV e s, true, lst intC 0 (zeroC [SV.int IntKind.i64 0])) else
  if (0 ≤ way ∧ way ≤ 10000000) ∧ (0 ≤ back ∧ back ≤ 10000000) then (0, critA e s way back e.Brakes.n) else (1, true, lst intC 0 (zeroC [SV.int IntKind.i64 0]))

end
end Ds
end Go.Proofs.YtpillmoddoccfabDoor
