/-
  Lift: doors.
-/
import Derived.Test.YtpillmoddoccfabLiP5
import Derived.Test.YtpillmoddoccfabSxMath
set_option linter.unusedVariables false
set_option linter.unusedSimpArgs false
namespace Go.Proofs.Ytpillmoddoccfab
namespace Li
open Go.Sx

/-! ### A door: how far it is open, what it does (0 opens, 1 waits, 2 closes), how long it waits -/
def dHold (T a : Int) : Int × Int × Int := (a, (if T = 0 then 2 else 1), T)
def dBrk (W T : Int) (b : Bool) (s : Int × Int × Int) : Int × Int × Int := if b = true ∧ s.2.1 ≠ 0 then (if s.1 < W then (s.1, 0, s.2.2) else dHold T s.1) else s
def dMv (W T : Int) (s : Int × Int × Int) : Int × Int × Int :=
  if s.2.1 = 0 then (if s.1 + 1 = W then dHold T (s.1 + 1) else (s.1 + 1, 0, s.2.2))
  else if s.2.1 = 1 then (s.1, (if s.2.2 - 1 = 0 then 2 else 1), s.2.2 - 1) else (s.1 - 1, 2, s.2.2)
def dStep (W T : Int) (b : Bool) (s : Int × Int × Int) : Int × Int × Int := dMv W T (dBrk W T b s)
def DV (W T : Int) (s : Int × Int × Int) : Prop :=
  (s.2.1 = 0 ∧ 0 ≤ s.1 ∧ s.1 < W) ∨ (s.2.1 = 1 ∧ s.1 = W ∧ 1 ≤ s.2.2 ∧ s.2.2 ≤ T) ∨ (s.2.1 = 2 ∧ 0 ≤ s.1 ∧ s.1 ≤ W)
/-- How many ticks are left, if there is no break. -/
def dPot (W T : Int) (s : Int × Int × Int) : Int := if s.2.1 = 0 then 2 * W - s.1 + T else if s.2.1 = 1 then s.2.2 + W else s.1

theorem dMv_ok {W T : Int} (hW : 1 ≤ W) (hT : 0 ≤ T) {s : Int × Int × Int} (h : DV W T s) (hp : s.2.1 = 2 → 1 ≤ s.1) : DV W T (dMv W T s) ∧ dPot W T (dMv W T s) = dPot W T s - 1 := by
  obtain ⟨a, p, l⟩ := s
  unfold DV at h
  simp only at h hp
  rcases h with ⟨h1, h2, h3⟩ | ⟨h1, h2, h3, h4⟩ | ⟨h1, h2, h3⟩
  · subst h1
    unfold dMv
    simp only [if_true]
    by_cases hw : a + 1 = W
    · rw [if_pos hw]
      unfold dHold DV dPot
      by_cases ht : T = 0
      · simp [ht]; omega
      · simp [ht]; omega
    · rw [if_neg hw]
      unfold DV dPot
      simp
      omega
  · subst h1
    unfold dMv
    simp only [show ¬ ((1 : Int) = 0) by omega, if_false, if_true]
    unfold DV dPot
    by_cases hl : l - 1 = 0
    · simp [hl]; omega
    · simp [hl]; omega
  · subst h1
    have := hp rfl
    unfold dMv
    simp only [show ¬ ((2 : Int) = 0) by omega, show ¬ ((2 : Int) = 1) by omega, if_false]
    unfold DV dPot
    simp
    omega

theorem dBrk_ok {W T : Int} (hW : 1 ≤ W) (hT : 0 ≤ T) {b : Bool} {s : Int × Int × Int} (h : DV W T s) (hp : s.2.1 = 2 → 1 ≤ s.1) :
    DV W T (dBrk W T b s) ∧ ((dBrk W T b s).2.1 = 2 → 1 ≤ (dBrk W T b s).1) ∧ dPot W T (dBrk W T b s) ≤ dPot W T s + (if b = true then 2 * (W - 1) + T else 0) := by
  unfold dBrk
  by_cases hb : b = true ∧ s.2.1 ≠ 0
  · rw [if_pos hb, if_pos hb.1]
    obtain ⟨hb1, hb2⟩ := hb
    obtain ⟨a, p, l⟩ := s
    simp only at hb2 hp
    by_cases hw : a < W
    · simp only [hw, if_true]
      unfold DV at h ⊢
      unfold dPot
      simp only at h ⊢
      rcases h with ⟨h1, h2, h3⟩ | ⟨h1, h2, h3, h4⟩ | ⟨h1, h2, h3⟩
      · omega
      · omega
      · subst h1
        have := hp rfl
        simp
        omega
    · simp only [hw, if_false]
      unfold DV at h ⊢
      unfold dPot dHold
      simp only at h ⊢
      rcases h with ⟨h1, h2, h3⟩ | ⟨h1, h2, h3, h4⟩ | ⟨h1, h2, h3⟩
      · omega
      · subst h1
        by_cases ht : T = 0
        · omega
        · simp [ht]; omega
      · subst h1
        by_cases ht : T = 0
        · simp [ht]; omega
        · simp [ht]; omega
  · rw [if_neg hb]
    refine ⟨h, hp, ?_⟩
    split <;> omega

/-! ### Breaks -/

/-- Somebody stands in the door. -/
def isBr (br : Arr Int) (t : Int) : Prop := ∃ j, j < br.n ∧ br.f j = t
/-- So many of the first breaks come in a tick or later. -/
def cntB (br : Nat → Int) (t : Int) : Nat → Int
  | 0 => 0
  | n + 1 => cntB br t n + (if t ≤ br n then 1 else 0)
def upB (br : Arr Int) : Prop := ∀ i j, i < j → j < br.n → br.f i < br.f j

theorem cntB_bounds (br : Nat → Int) (t : Int) : ∀ n : Nat, 0 ≤ cntB br t n ∧ cntB br t n ≤ n
  | 0 => by simp [cntB]
  | n + 1 => by
    have := cntB_bounds br t n
    simp only [cntB]
    split <;> omega

theorem cntB_all {br : Nat → Int} {t : Int} : ∀ n : Nat, (∀ j, j < n → t ≤ br j) → cntB br t n = n
  | 0, _ => rfl
  | n + 1, h => by
    simp only [cntB]
    rw [cntB_all n (fun j hj => h j (by omega)), if_pos (h n (by omega))]
    omega

/-- With no break in a tick the number stays. -/
theorem cntB_no {br : Nat → Int} {t : Int} : ∀ n : Nat, (∀ j, j < n → br j ≠ t) → cntB br (t + 1) n = cntB br t n
  | 0, _ => rfl
  | n + 1, h => by
    simp only [cntB]
    rw [cntB_no n (fun j hj => h j (by omega))]
    have := h n (by omega)
    split <;> split <;> omega

theorem cntB_yes {br : Nat → Int} {t : Int} : ∀ n : Nat, (∀ i j, i < j → j < n → br i < br j) → (∃ j, j < n ∧ br j = t) → cntB br (t + 1) n = cntB br t n - 1
  | 0, _, h => by obtain ⟨j, hj, _⟩ := h; omega
  | n + 1, hu, h => by
    simp only [cntB]
    obtain ⟨j, hj, e⟩ := h
    by_cases hjn : j = n
    · subst hjn
      rw [cntB_no j (fun i hi => by have := hu i j hi (by omega); omega)]
      split <;> split <;> omega
    · have h1 := hu j n (by omega) (by omega)
      rw [cntB_yes n (fun i j h1 h2 => hu i j h1 (by omega)) ⟨j, by omega, e⟩]
      split <;> split <;> omega

open Classical in
theorem cntB_step {br : Arr Int} (hu : upB br) (t : Int) : cntB br.f (t + 1) br.n = cntB br.f t br.n - (if isBr br t then 1 else 0) := by
  by_cases h : isBr br t
  · rw [if_pos h]; exact cntB_yes br.n hu h
  · rw [if_neg h, cntB_no br.n (fun j hj e => h ⟨j, hj, e⟩)]; omega

/-! ### A door tick by tick -/
open Classical in
noncomputable def dSt (W T : Int) (br : Arr Int) : Nat → Int × Int × Int
  | 0 => (0, 0, 0)
  | t + 1 => dStep W T (decide (isBr br (t : Int))) (dSt W T br t)

def stepS (W T : Int) : Int := 2 * (W - 1) + T
/-- A bound of the ticks that are left. -/
noncomputable def phi (W T : Int) (br : Arr Int) (t : Nat) : Int := dPot W T (dSt W T br t) + cntB br.f (t : Int) br.n * stepS W T

theorem dSt_ok {W T : Int} (hW : 1 ≤ W) (hT : 0 ≤ T) {br : Arr Int} (hu : upB br) {t : Nat} (h : DV W T (dSt W T br t)) (hp : (dSt W T br t).2.1 = 2 → 1 ≤ (dSt W T br t).1) :
    DV W T (dSt W T br (t + 1)) ∧ phi W T br (t + 1) ≤ phi W T br t - 1 := by
  classical
  obtain ⟨b1, b2, b3⟩ := dBrk_ok hW hT (b := decide (isBr br (t : Int))) h hp
  obtain ⟨m1, m2⟩ := dMv_ok hW hT b1 b2
  refine ⟨m1, ?_⟩
  unfold phi
  have e1 : dSt W T br (t + 1) = dMv W T (dBrk W T (decide (isBr br (t : Int))) (dSt W T br t)) := rfl
  have e2 := cntB_step hu (t : Int)
  have e3 : ((t + 1 : Nat) : Int) = (t : Int) + 1 := by omega
  rw [e1, e3, e2, m2]
  by_cases hb : isBr br (t : Int)
  · simp only [hb, decide_true, if_true] at b3 ⊢
    rw [Int.sub_mul, Int.one_mul]
    unfold stepS
    omega
  · simp only [hb, decide_false, if_false] at b3 ⊢
    simp at b3 ⊢
    omega

theorem pot_pos {W T : Int} (hW : 1 ≤ W) (hT : 0 ≤ T) {s : Int × Int × Int} (h : DV W T s) : 0 ≤ dPot W T s ∧ (dPot W T s = 0 → s.1 = 0) ∧ (s.1 = 0 → s.2.1 = 2 ∨ s.2.1 = 0) ∧ 0 ≤ s.1 ∧ s.1 ≤ W := by
  obtain ⟨a, p, l⟩ := s
  unfold DV at h
  unfold dPot
  simp only at h ⊢
  rcases h with ⟨h1, h2, h3⟩ | ⟨h1, h2, h3, h4⟩ | ⟨h1, h2, h3⟩ <;> subst h1 <;> simp <;> omega

theorem dSt_run {W T : Int} (hW : 1 ≤ W) (hT : 0 ≤ T) {br : Arr Int} (hu : upB br) : ∀ t : Nat, (∀ j, 1 ≤ j → j < t → 0 < (dSt W T br j).1) → DV W T (dSt W T br t) ∧ phi W T br t ≤ phi W T br 0 - t := by
  intro t
  induction t with
  | zero => intro _; exact ⟨.inl ⟨rfl, Int.le_refl 0, by show (0 : Int) < W; omega⟩, by simp⟩
  | succ t ih =>
    intro h
    obtain ⟨h1, h2⟩ := ih (fun j h3 h4 => h j h3 (by omega))
    have hp : (dSt W T br t).2.1 = 2 → 1 ≤ (dSt W T br t).1 := by
      intro h3
      cases t with
      | zero => have e : (dSt W T br 0).2.1 = 0 := rfl; omega
      | succ t => exact h (t + 1) (by omega) (by omega)
    obtain ⟨m1, m2⟩ := dSt_ok hW hT hu h1 hp
    exact ⟨m1, by omega⟩

/-- The number of ticks in which the door is open, the last one included. -/
structure DN (W T : Int) (br : Arr Int) (n : Nat) : Prop where
  pos : 1 ≤ n
  zero : (dSt W T br n).1 = 0
  before : ∀ j, 1 ≤ j → j < n → 0 < (dSt W T br j).1

noncomputable def dFind (W T : Int) (br : Arr Int) : Nat → Nat → Nat
  | 0, t => t
  | r + 1, t => if (dSt W T br t).1 ≤ 0 then t else dFind W T br r (t + 1)

theorem phi0 {W T : Int} (br : Arr Int) : phi W T br 0 = 2 * W + T + cntB br.f 0 br.n * stepS W T := by
  unfold phi
  have : dPot W T (dSt W T br 0) = 2 * W + T := by show 2 * W - 0 + T = _; omega
  rw [this]; rfl

theorem dn_ex {W T : Int} (hW : 1 ≤ W) (hT : 0 ≤ T) {br : Arr Int} (hu : upB br) : ∃ n, DN W T br n ∧ (n : Int) ≤ phi W T br 0 := by
  have key : ∀ r t : Nat, 1 ≤ t → phi W T br 0 ≤ (t : Int) + r → (∀ j, 1 ≤ j → j < t → 0 < (dSt W T br j).1) → DN W T br (dFind W T br r t) := by
    intro r
    induction r with
    | zero =>
      intro t h1 h2 h3
      obtain ⟨h4, h5⟩ := dSt_run hW hT hu t h3
      have h6 := pot_pos hW hT h4
      have h7 := cntB_bounds br.f (t : Int) br.n
      have h8 : 0 ≤ cntB br.f (t : Int) br.n * stepS W T := Int.mul_nonneg h7.1 (by unfold stepS; omega)
      refine ⟨h1, h6.2.1 ?_, h3⟩
      unfold phi at h5 h2
      omega
    | succ r ih =>
      intro t h1 h2 h3
      obtain ⟨h4, h5⟩ := dSt_run hW hT hu t h3
      have h6 := pot_pos hW hT h4
      simp only [dFind]
      split
      · exact ⟨h1, by omega, h3⟩
      · refine ih (t + 1) (by omega) (by omega) fun j j1 j2 => ?_
        by_cases e : j = t
        · subst e; omega
        · exact h3 j j1 (by omega)
  have h0 : 0 ≤ phi W T br 0 := by
    rw [phi0]
    have h7 := cntB_bounds br.f 0 br.n
    have h8 : 0 ≤ cntB br.f 0 br.n * stepS W T := Int.mul_nonneg h7.1 (by unfold stepS; omega)
    omega
  have h := key (phi W T br 0).toNat 1 (by omega) (by omega) (fun j j1 j2 => by omega)
  refine ⟨_, h, ?_⟩
  obtain ⟨h4, h5⟩ := dSt_run hW hT hu _ h.before
  have h6 := pot_pos hW hT h4
  have h7 := cntB_bounds br.f (dFind W T br (phi W T br 0).toNat 1 : Int) br.n
  have h8 : 0 ≤ cntB br.f (dFind W T br (phi W T br 0).toNat 1 : Int) br.n * stepS W T := Int.mul_nonneg h7.1 (by unfold stepS; omega)
  have h9 : 0 ≤ phi W T br (dFind W T br (phi W T br 0).toNat 1) := by
    show 0 ≤ dPot W T (dSt W T br (dFind W T br (phi W T br 0).toNat 1)) + _
    omega
  omega

theorem dn_unique {W T : Int} {br : Arr Int} {m n : Nat} (h1 : DN W T br m) (h2 : DN W T br n) : m = n := by
  rcases Nat.lt_trichotomy m n with h | h | h
  · have := h2.before m h1.pos h; have := h1.zero; omega
  · exact h
  · have := h1.before n h2.pos h; have := h2.zero; omega

end Li
end Go.Proofs.Ytpillmoddoccfab
