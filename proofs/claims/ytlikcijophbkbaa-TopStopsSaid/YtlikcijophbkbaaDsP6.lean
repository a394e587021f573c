import Derived.Test.YtlikcijophbkbaaDsP5
import Derived.Test.YtlikcijophbkbaaSxMath
set_option linter.unusedVariables false
set_option linter.unusedSimpArgs false
namespace Go.Proofs.Ytlikcijophbkbaa
namespace Ds
open Go.Sx
section
variable {R : Type}
def Hist (lo hi : Int) (a : Arr Int) (i : Nat) : Prop := ∀ j, i ≤ j → j < a.n → lo ≤ a.f j ∧ a.f j ≤ hi
theorem Hist.step {lo hi : Int} {a : Arr Int} {i : Nat} (h : lo ≤ a.f i ∧ a.f i ≤ hi) : Hist lo hi a i ↔ Hist lo hi a (i + 1) := by
  constructor
  · intro h1 j h2 h3; exact h1 j (by omega) h3
  · intro h1 j h2 h3
    by_cases e : j = i
    · subst e; exact h
    · exact h1 j (by omega) h3
open Classical in
theorem IndexFunc_l2_eq (N : Nat) {a : Arr Int} (ha : a.n ≤ 1000) (s : api_Stop) (kr : Int → Option R) (k0 : Unit → Option R) (x : Option R) (hkr : ∀ j : Nat, kr j = x) : ∀ (n i : Nat), i ≤ a.n → a.n < n + i →
    slices_IndexFunc___int_int__v3_l2 N n a (a.n : Int) (i : Int) s kr k0 = if Hist s.Loads.Low s.Loads.High a i then k0 () else x := by
  intro n
  induction n with
  | zero => intro i h1 h2; omega
  | succ n ih =>
    intro i h1 h2
    unfold slices_IndexFunc___int_int__v3_l2 slices_IndexFunc___int_int__v3_b2
    by_cases hi' : i < a.n
    · have e1 : decide ((i : Int) < (a.n : Int)) = true := by simpa using hi'
      simp only [e1, nat_nonneg, Bool.and_self, cond_true, Int.toNat_natCast, drive_Play_1_def, w64_succ (show i < 1000000000000 by omega)]
      unfold drive_Play_1_m
      simp only [in_eq]
      by_cases hb : s.Loads.Low ≤ a.f i ∧ a.f i ≤ s.Loads.High
      · simp only [hb, and_self, decide_true, Bool.not_true, cond_false]
        rw [ih (i + 1) (by omega) (by omega)]
        simp only [Hist.step hb]
      · simp only [hb, decide_false, Bool.not_false, cond_true]
        rw [if_neg (fun h => hb (h i (Nat.le_refl _) hi'))]
        exact hkr i
    · have e1 : decide ((i : Int) < (a.n : Int)) = false := by simpa using hi'
      simp only [e1, cond_false]
      rw [if_pos]
      intro j h3 h4
      omega
open Classical in
theorem Contains_eq {N : Nat} (hN : 2000 ≤ N) {a : Arr Int} (ha : a.n ≤ 1000) (s : api_Stop) (k : Bool → Option R) : slices_ContainsFunc___int_int__v3 N a s k = k (decide (¬ Hist s.Loads.Low s.Loads.High a 0)) := by
  rw [slices_ContainsFunc___int_int__v3_def]
  unfold slices_ContainsFunc___int_int__v3_m
  rw [slices_IndexFunc___int_int__v3_def]
  unfold slices_IndexFunc___int_int__v3_m
  have := IndexFunc_l2_eq N ha s (fun r319 => k (decide (r319 ≥ (0 : Int)))) (fun (_ : Unit) => k (decide ((-1 : Int) ≥ (0 : Int)))) (k true) (fun j => by simp) N 0 (by omega) (by omega)
  refine Eq.trans this ?_
  by_cases h : Hist s.Loads.Low s.Loads.High a 0
  · rw [if_pos h]; simp [h]
  · rw [if_neg h]; simp [h]
open Classical in
noncomputable def histV (s : api_Stop) (a : Arr Int) : Bool := decide (Hist s.Loads.Low s.Loads.High a 0 ∧ a.n ≤ 100)
open Classical in
theorem histV_iff {s : api_Stop} {a : Arr Int} : histV s a = true ↔ Hist s.Loads.Low s.Loads.High a 0 ∧ a.n ≤ 100 := by unfold histV; exact decide_eq_true_iff (p := _)
def playV (e : api_Escalator) (s : api_Stop) (l : Nat → Int) : Nat → Int
  | 0 => s.Speed
  | t + 1 => tickS e (playV e s l t) (l t) (gripE e s.Fail (t : Int))
structure HistOk (e : api_Escalator) (s : api_Stop) (a : Arr Int) : Prop where
  ve : VE e
  vs : VS e s
  h : Hist s.Loads.Low s.Loads.High a 0
  n : a.n ≤ 100
theorem play_abs {e : api_Escalator} {s : api_Stop} {a : Arr Int} (h : HistOk e s a) : ∀ t : Nat, t ≤ a.n → -(1000 + t * 10000000) ≤ playV e s a.f t ∧ playV e s a.f t ≤ 1000 + t * 10000000 := by
  intro t
  induction t with
  | zero => intro _; have := h.vs.s1; have := h.vs.s2; simp only [playV]; omega
  | succ t ih =>
    intro ht
    have := ih (by omega)
    have hn := h.n
    have hl := h.h t (by omega) (by omega)
    have := tick_abs ((h.vs.ls h.ve).tick (t := (t : Int)) (v := playV e s a.f t) (by omega) (by omega) hl.1 hl.2) (B := 1000 + t * 10000000) (by omega) (by omega) (by omega)
    simp only [playV]
    omega
theorem play_B {e : api_Escalator} {s : api_Stop} {a : Arr Int} (h : HistOk e s a) : ∀ t : Nat, t ≤ a.n → -10000000000 ≤ playV e s a.f t ∧ playV e s a.f t ≤ 10000000000 := fun t ht => by
  have := play_abs h t ht
  have := h.n
  omega
theorem Play_l9_eq {N : Nat} (hN : 10 ≤ N) {e : api_Escalator} {s : api_Stop} {a : Arr Int} (h : HistOk e s a) : ∀ (r t n : Nat), t + r = a.n → r < n → ∀ (nl : Bool) (b : Arr Int), b.Is t (fun i => playV e s a.f (i + 1)) →
    ∃ (l : Bool) (b' : Arr Int), b'.Is a.n (fun i => playV e s a.f (i + 1)) ∧ ∀ {R : Type} (k0 : Bool → Arr Int → Option R),
      drive_Play_l9 N n a (a.n : Int) (t : Int) ⟨e, s, playV e s a.f t, t⟩ nl b k0 = k0 l b' := by
  intro r
  have hn := h.n
  induction r with
  | zero =>
    intro t n ht hn' nl b hb
    obtain ⟨n, rfl⟩ : ∃ m, n = m + 1 := ⟨n - 1, by omega⟩
    have : t = a.n := by omega
    subst this
    refine ⟨nl, b, hb, fun k0 => ?_⟩
    unfold drive_Play_l9 drive_Play_b9
    simp only [Int.lt_irrefl, decide_false, cond_false]
  | succ r ih =>
    intro t n ht hn' nl b hb
    obtain ⟨n, rfl⟩ : ∃ m, n = m + 1 := ⟨n - 1, by omega⟩
    have hp := play_B h t (by omega)
    have hl := h.h t (by omega) (by omega)
    have hb2 := hb.push_int (z := [SV.int IntKind.i64 (0 : Int)]) (v := playV e s a.f (t + 1)) rfl
    obtain ⟨l, b', h3, h4⟩ := ih (t + 1) n (by omega) (by omega) false _ hb2
    refine ⟨l, b', h3, fun k0 => ?_⟩
    unfold drive_Play_l9 drive_Play_b9
    have e1 : decide ((t : Int) < (a.n : Int)) = true := by simp; omega
    simp only [e1, nat_nonneg, Bool.and_self, cond_true, Int.toNat_natCast, w64_succ (show t < 1000000000000 by omega)]
    rw [with_eq hN (m := ⟨e, s, playV e s a.f t, t⟩) (h.vs.ls h.ve) hl.1 hl.2 hp.1 hp.2 (by show (0 : Int) ≤ t; omega) (by show (t : Int) ≤ 1000; omega)]
    have r1 : room (b.n + 1) = true := room_of (by rw [hb.len]; omega)
    simp only [r1, cond_true]
    rw [← h4 k0]
    have e1 : ((t : Int) + 1) = ((t + 1 : Nat) : Int) := by simp
    rw [e1]
    rfl
noncomputable def playE (e : api_Escalator) (s : api_Stop) (a : Arr Int) : Int := if stopV e s ≠ 0 then stopV e s else if histV s a then 0 else 1
theorem playE_zero {e : api_Escalator} {s : api_Stop} {a : Arr Int} (h : playE e s a = 0) : HistOk e s a := by
  unfold playE at h
  split at h
  · rename_i h1; exact absurd h h1
  · rename_i h1
    have h1 : stopV e s = 0 := by simpa using h1
    obtain ⟨h2, h3⟩ := stopV_zero h1
    split at h
    · rename_i h4
      have h5 := histV_iff.1 h4
      exact ⟨h2, h3, h5.1, h5.2⟩
    · omega
theorem playE_of {e : api_Escalator} {s : api_Stop} {a : Arr Int} (h : HistOk e s a) : playE e s a = 0 := by
  unfold playE
  rw [stopV_of h.ve h.vs]
  have : histV s a = true := histV_iff.2 ⟨h.h, h.n⟩
  simp [this]
theorem Play_eq {N : Nat} (hN : 2000 ≤ N) (e : api_Escalator) (s : api_Stop) (a : Arr Int) :
    ∃ (l : Bool) (b : Arr Int), b.Is (if playE e s a = 0 then a.n else 0) (fun i => playV e s a.f (i + 1)) ∧ ∀ {R : Type} (k : Int → Bool → Arr Int → Option R), drive_Play N e s a k = k (playE e s a) l b := by
  by_cases h0 : playE e s a = 0
  · have h := playE_zero h0
    obtain ⟨l, b, hb, hk⟩ := Play_l9_eq (N := N) (by omega) h a.n 0 N (by omega) (by have := h.n; omega) true (lst intC 0 (zeroC [SV.int IntKind.i64 0])) Arr.Is.zero
    refine ⟨l, b, by rw [if_pos h0]; exact hb, fun k => ?_⟩
    rw [drive_Play_def, h0]
    unfold drive_Play_m
    have hn := h.n
    have e2 : decide ((a.n : Int) > 100) = false := by simp; omega
    rw [checkStop_eq (by omega), stopV_of h.ve h.vs]
    simp only [bne_self_eq_false, cond_false, e2, Contains_eq (show 2000 ≤ N by omega) (show a.n ≤ 1000 by omega), h.h, not_true, decide_false]
    exact hk (fun r330 r331 => k 0 r330 r331)
  · refine ⟨true, lst intC 0 (zeroC [SV.int IntKind.i64 0]), by rw [if_neg h0]; exact Arr.Is.zero, fun k => ?_⟩
    rw [drive_Play_def]
    unfold drive_Play_m
    rw [checkStop_eq (by omega)]
    by_cases hs : stopV e s = 0
    · rw [hs]
      simp only [bne_self_eq_false, cond_false]
      have hp : playE e s a = 1 := by
        unfold playE at h0 ⊢
        rw [hs] at h0 ⊢
        simp only [ne_eq, not_true, if_false] at h0 ⊢
        split at h0
        · exact absurd rfl h0
        · rename_i h1; rw [if_neg h1]
      rw [hp]
      by_cases hn : (a.n : Int) > 100
      · simp only [hn, decide_true, cond_true]
      · simp only [hn, decide_false, cond_false, Contains_eq (show 2000 ≤ N by omega) (show a.n ≤ 1000 by omega)]
        by_cases hh : Hist s.Loads.Low s.Loads.High a 0
        · exfalso
          apply h0
          obtain ⟨h2, h3⟩ := stopV_zero hs
          exact playE_of ⟨h2, h3, hh, by omega⟩
        · simp only [hh, not_false_eq_true, decide_true, cond_true]
    · have : (stopV e s != 0) = true := by simpa using hs
      have hp : playE e s a = stopV e s := by unfold playE; rw [if_pos hs]
      simp only [this, cond_true, hp]
end
end Ds
end Go.Proofs.Ytlikcijophbkbaa
