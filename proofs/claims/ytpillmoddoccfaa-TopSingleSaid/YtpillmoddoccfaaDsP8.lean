/-
  Drive: brakes that are critical; the greatest speed; what is legal.
-/
import Derived.Test.YtpillmoddoccfaaDsP7
import Derived.Test.YtpillmoddoccfaaSxMath
set_option linter.unusedVariables false
set_option linter.unusedSimpArgs false
namespace Go.Proofs.Ytpillmoddoccfaa
namespace Ds
open Go.Sx

section
variable {R : Type}

theorem least_rests {e : api_Escalator} {s : api_Stop} (h1 : VE e) (h2 : VS e s) (hr : pathV e s true (restS e s true) = 0) (most : Bool) : pathV e s most (restS e s most) = 0 := by
  cases most
  · exact (Soft.less (path_soft h2.s1 false) (path_soft h2.s1 true) (n := 100) (m := 100) (fun t _ _ _ _ => path_between (h2.ls h1) t) hr (rest_le e s true)).2.1
  · exact hr
theorem dist_zero {e : api_Escalator} {s : api_Stop} (h1 : VE e) (h2 : VS e s) : distV e s = if pathV e s true (restS e s true) = 0 then
    (⟨wayS (pathV e s false) (restS e s false), wayS (pathV e s true) (restS e s true)⟩, ⟨restS e s false, restS e s true⟩, 0) else (⟨0, 0⟩, ⟨0, 0⟩, 12) := by
  unfold distV
  rw [stopV_of h1 h2]
  simp
theorem hold_zero {e : api_Escalator} {s : api_Stop} (h1 : VE e) (h2 : VS e s) : holdsV e s = (decide (e.Pull * s.Loads.High ≤ e.Drag + gripE e s.Fail 20), 0) := by unfold holdsV; rw [stopV_of h1 h2]; simp
theorem back_zero {e : api_Escalator} {s : api_Stop} (h1 : VE e) (h2 : VS e s) : backV e s = if pathV e s false 100 < 0 then (0, 12) else (backS (pathV e s false) 100, 0) := by unfold backV; rw [stopV_of h1 h2]; simp

/-! ### One more brake that fails -/

/-- The stop with one more brake that fails. -/
def moreF (s : api_Stop) (i : Nat) : api_Stop := ⟨s.Speed, s.Loads, ((s.Fail.toNat ||| 2 ^ i : Nat) : Int)⟩

theorem or_eq {f : Int} (h0 : 0 ≤ f) (h1 : f < 8) {i : Nat} (hi : i < 3) : w64 (↑(BitVec.toNat (BitVec.ofInt (IntKind.bits IntKind.i64) f ||| BitVec.ofInt (IntKind.bits IntKind.i64) (w64 ((1 : Int) * (2 : Int) ^ min i (IntKind.bits IntKind.i64))))) : Int) = ((f.toNat ||| 2 ^ i : Nat) : Int) := by
  have e1 : w64 ((1 : Int) * (2 : Int) ^ min i (IntKind.bits IntKind.i64)) = ((2 ^ i : Nat) : Int) := by
    match i, hi with
    | 0, _ => rfl
    | 1, _ => rfl
    | 2, _ => rfl
  have e2 : f = ((f.toNat : Nat) : Int) := by omega
  rw [e1]
  conv => lhs; rw [e2]
  have hp : 2 ^ i ≤ 4 := by
    match i, hi with
    | 0, _ => decide
    | 1, _ => decide
    | 2, _ => decide
  exact or64 (by omega) (by omega)

theorem moreF_ok {e : api_Escalator} {s : api_Stop} (h1 : VE e) (h2 : VS e s) {i : Nat} (hi : i < e.Brakes.n) : VS e (moreF s i) := by
  refine ⟨h2.s1, h2.s2, h2.l1, h2.l2, h2.l3, ?_, ?_⟩
  · show (0 : Int) ≤ ((s.Fail.toNat ||| 2 ^ i : Nat) : Int); omega
  · show ((s.Fail.toNat ||| 2 ^ i : Nat) : Int) < 2 ^ e.Brakes.n
    have hf := h2.f2
    have h0 := h2.f1
    have a1 : s.Fail.toNat < 2 ^ e.Brakes.n := by
      have : ((2 ^ e.Brakes.n : Nat) : Int) = (2 : Int) ^ e.Brakes.n := by simp
      omega
    have a2 : 2 ^ i < 2 ^ e.Brakes.n := Nat.pow_lt_pow_right (by omega) hi
    have a3 := Nat.or_lt_two_pow a1 a2
    have : ((2 ^ e.Brakes.n : Nat) : Int) = (2 : Int) ^ e.Brakes.n := by simp
    omega

/-- Safe: it comes to rest within a way, runs back no farther, and holds. -/
def SafeP (e : api_Escalator) (s : api_Stop) (way back : Int) : Prop :=
  pathV e s true (restS e s true) = 0 ∧ wayS (pathV e s true) (restS e s true) ≤ way ∧ 0 ≤ pathV e s false 100 ∧ backS (pathV e s false) 100 ≤ back ∧ e.Pull * s.Loads.High ≤ e.Drag + gripE e s.Fail 20

open Classical in
noncomputable def safeB (e : api_Escalator) (s : api_Stop) (way back : Int) : Bool := decide (SafeP e s way back)
theorem safeB_iff {e : api_Escalator} {s : api_Stop} {way back : Int} : safeB e s way back = true ↔ SafeP e s way back := by unfold safeB; simp

def pushI (a : Arr Int) (v : Int) : Arr Int := lst intC (a.n + 1) (catC a.n (Cod.cell intC a.f) (litC [SV.int IntKind.i64 (0 : Int)] [[SV.int IntKind.i64 v]]))

/-- The brakes among the first ones that are critical. -/
noncomputable def critA (e : api_Escalator) (s : api_Stop) (way back : Int) : Nat → Bool × Arr Int
  | 0 => (true, lst intC 0 (zeroC [SV.int IntKind.i64 (0 : Int)]))
  | i + 1 => if (moreF s i).Fail ≠ s.Fail ∧ safeB e (moreF s i) way back = false then (false, pushI (critA e s way back i).2 (i : Int)) else critA e s way back i

theorem critA_le (e : api_Escalator) (s : api_Stop) (way back : Int) : ∀ i, (critA e s way back i).2.n ≤ i := by
  intro i
  induction i with
  | zero => simp [critA, lst]
  | succ i ih =>
    simp only [critA]
    split
    · simp only [pushI, lst]; omega
    · omega
theorem critA_none {e : api_Escalator} {s : api_Stop} {way back : Int} : ∀ {n : Nat}, (critA e s way back n).2.n = 0 → ∀ i, i < n → (moreF s i).Fail = s.Fail ∨ SafeP e (moreF s i) way back := by
  intro n
  induction n with
  | zero => intro _ i hi; omega
  | succ n ih =>
    intro h i hi
    simp only [critA] at h
    split at h
    · simp [pushI, lst] at h
    · rename_i hc
      by_cases e' : i = n
      · subst e'
        by_cases hf : (moreF s i).Fail = s.Fail
        · exact Or.inl hf
        · refine Or.inr (safeB_iff.1 ?_)
          cases hb : safeB e (moreF s i) way back
          · exact absurd ⟨hf, hb⟩ hc
          · rfl
      · exact ih h i (by omega)

theorem Critical_l8_eq {N : Nat} (hN : 2000 ≤ N) {e : api_Escalator} {s : api_Stop} (h1 : VE e) (h2 : VS e s) (way back : Int) (k0 : Bool → Arr Int → Option R) : ∀ (n i : Nat), i ≤ e.Brakes.n → e.Brakes.n < n + i →
    drive_Critical_l8 N n way back (e.Brakes.n : Int) (i : Int) e s (critA e s way back i).1 (critA e s way back i).2 k0 = k0 (critA e s way back e.Brakes.n).1 (critA e s way back e.Brakes.n).2 := by
  have hn := h1.n
  have hf := (h2.ls h1).f2
  have hf1 := h2.f1
  intro n
  induction n with
  | zero => intro i h1 h2; omega
  | succ n ih =>
    intro i hi1 hi2
    unfold drive_Critical_l8 drive_Critical_b8
    by_cases hi : i < e.Brakes.n
    · have e1 : decide ((i : Int) < (e.Brakes.n : Int)) = true := by simpa using hi
      have e2 : decide ((i : Int) < 0) = false := by simp
      simp only [e1, e2, cond_true, cond_false, Int.toNat_natCast, w64_succ (show i < 1000000000000 by omega), or_eq hf1 hf (show i < 3 by omega)]
      have hr : room ((critA e s way back i).2.n + 1) = true := room_of (by have := critA_le e s way back i; omega)
      have hx := moreF_ok h1 h2 hi
      obtain ⟨b, hb, hk⟩ := run_eq (N := N) (by omega) (hx.ls h1) hx.s1 hx.s2 true
      have hih := ih (i + 1) (by omega) (by omega)
      show (bif (moreF s i).Fail == s.Fail then _ else drive_run N e (moreF s i) true _) = _
      rw [hk]
      by_cases hc : (moreF s i).Fail = s.Fail
      · have hc' : ((moreF s i).Fail == s.Fail) = true := by simpa using hc
        simp only [hc', cond_true]
        simp only [critA, hc, ne_eq, not_true, false_and, if_false] at hih
        exact hih
      · have hc' : ((moreF s i).Fail == s.Fail) = false := by simpa using hc
        simp only [hc', cond_false]
        show drive_Back N e (moreF s i) _ = _
        rw [Back_eq (by omega)]
        show drive_Holds N e (moreF s i) _ = _
        rw [Holds_eq (by omega), hold_zero h1 hx, back_zero h1 hx]
        simp only [hr, cond_true]
        cases hs : safeB e (moreF s i) way back
        · simp only [critA, hc, ne_eq, not_false_eq_true, hs, and_self, if_true] at hih
          have hn : ¬ SafeP e (moreF s i) way back := fun h => by rw [safeB_iff.2 h] at hs; cases hs
          by_cases a1 : pathV e (moreF s i) true (restS e (moreF s i) true) = 0
          · have a1' : (pathV e (moreF s i) true (restS e (moreF s i) true) == 0) = true := by simpa using a1
            simp only [a1', Bool.not_true, cond_false]
            by_cases a2 : wayS (pathV e (moreF s i) true) (restS e (moreF s i) true) > way
            · simp only [a2, decide_true, cond_true]; exact hih
            · simp only [a2, decide_false, cond_false]
              by_cases a3 : pathV e (moreF s i) false 100 < 0
              · rw [if_pos a3]; exact hih
              · rw [if_neg a3]
                simp only [bne_self_eq_false, cond_false]
                by_cases a4 : backS (pathV e (moreF s i) false) 100 > back
                · simp only [a4, decide_true, cond_true]; exact hih
                · have a5 : ¬ (e.Pull * (moreF s i).Loads.High ≤ e.Drag + gripE e (moreF s i).Fail 20) := fun h => hn ⟨a1, by omega, by omega, by omega, h⟩
                  simp only [a4, a5, decide_false, cond_false, Bool.not_false, cond_true]; exact hih
          · have a1' : (pathV e (moreF s i) true (restS e (moreF s i) true) == 0) = false := by simpa using a1
            simp only [a1', Bool.not_false, cond_true]; exact hih
        · simp only [critA, hc, ne_eq, not_false_eq_true, hs, Bool.true_eq_false, and_false, if_false] at hih
          obtain ⟨a1, a2, a3, a4, a5⟩ := safeB_iff.1 hs
          have a1' : (pathV e (moreF s i) true (restS e (moreF s i) true) == 0) = true := by simpa using a1
          have b2 : ¬ (wayS (pathV e (moreF s i) true) (restS e (moreF s i) true) > way) := by omega
          have b4 : ¬ (backS (pathV e (moreF s i) false) 100 > back) := by omega
          rw [if_neg (show ¬ (pathV e (moreF s i) false 100 < 0) by omega)]
          simp only [a1', b2, b4, a5, Bool.not_true, decide_true, decide_false, cond_false, bne_self_eq_false]
          exact hih
    · have e1 : decide ((i : Int) < (e.Brakes.n : Int)) = false := by simpa using hi
      have : i = e.Brakes.n := by omega
      rw [this] at e1 ⊢
      simp only [e1, cond_false]

noncomputable def critV (e : api_Escalator) (s : api_Stop) (way back : Int) : Int × Bool × Arr Int :=
  if stopV e s ≠ 0 then (stopV e s, true, lst intC 0 (zeroC [SV.int IntKind.i64 0])) else
  if (0 ≤ way ∧ way ≤ 10000000) ∧ (0 ≤ back ∧ back ≤ 10000000) then (0, critA e s way back e.Brakes.n) else (1, true, lst intC 0 (zeroC [SV.int IntKind.i64 0]))

theorem Critical_eq {N : Nat} (hN : 2000 ≤ N) (e : api_Escalator) (s : api_Stop) (way back : Int) (k : Int → Bool → Arr Int → Option R) : drive_Critical N e s way back k = k (critV e s way back).1 (critV e s way back).2.1 (critV e s way back).2.2 := by
  rw [drive_Critical_def]
  unfold drive_Critical_m critV
  rw [checkStop_eq (by omega)]
  by_cases h0 : stopV e s = 0
  · obtain ⟨h1, h2⟩ := stopV_zero h0
    have hn := h1.n
    simp only [h0, bne_self_eq_false, cond_false, ne_eq, not_true, if_false, to_eq, in_eq]
    have hl := Critical_l8_eq hN h1 h2 way back (fun r380 r381 => k 0 r380 r381) N 0 (by omega) (by omega)
    by_cases a : 0 ≤ way ∧ way ≤ 10000000
    · by_cases b : 0 ≤ back ∧ back ≤ 10000000
      · simp only [a, b, and_self, decide_true, Bool.not_true, cond_false, if_true]
        exact hl
      · simp only [a, b, and_self, and_false, decide_true, decide_false, Bool.not_true, Bool.not_false, cond_false, cond_true, if_false]
    · simp only [a, false_and, decide_false, Bool.not_false, cond_true, if_false]
  · have : (stopV e s != 0) = true := by simpa using h0
    simp only [this, cond_true, ne_eq, h0, not_false_eq_true, if_true]

end
end Ds
end Go.Proofs.Ytpillmoddoccfaa
