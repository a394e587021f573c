/-
  Several texts in one.
-/
import Derived.Test.YtpillmoddoccfabLiQ1
import Derived.Test.YtpillmoddoccfabSxMath
set_option linter.unusedVariables false
set_option linter.unusedSimpArgs false
namespace Go.Proofs.Ytpillmoddoccfab
namespace Li
open Go.Sx
def dHold (T a : Int) : Int × Int × Int := (a, (if T = 0 then 2 else 1), T)
def dBrk (W T : Int) (b : Bool) (s : Int × Int × Int) : Int × Int × Int := if b = true ∧ s.2.1 ≠ 0 then (if s.1 < W then (s.1, 0, s.2.2) else dHold T s.1) else s
def dMv (W T : Int) (s : Int × Int × Int) : Int × Int × Int :=
  if s.2.1 = 0 then (if s.1 + 1 = W then dHold T (s.1 + 1) else (s.1 + 1, 0, s.2.2))
  else if s.2.1 = 1 then (s.1, (if s.2.2 - 1 = 0 then 2 else 1), s.2.2 - 1) else (s.1 - 1, 2, s.2.2)
def dStep (W T : Int) (b : Bool) (s : Int × Int × Int) : Int × Int × Int := dMv W T (dBrk W T b s)
def DV (W T : Int) (s : Int × Int × Int) : Prop :=
  (s.2.1 = 0 ∧ 0 ≤ s.1 ∧ s.1 < W) ∨ (s.2.1 = 1 ∧ s.1 = W ∧ 1 ≤ s.2.2 ∧ s.2.2 ≤ T) ∨ (s.2.1 = 2 ∧ 0 ≤ s.1 ∧ s.1 ≤ W)
def dPot (W T : Int) (s : Int × Int × Int) : Int := if s.2.1 = 0 then 2 * W - s.1 + T else if s.2.1 = 1 then s.2.2 + W else s.1
theorem dMv_ok {W T : Int} (hW : 1 ≤ W) (hT : 0 ≤ T) {s : Int × Int × Int} (h : DV W T s) (hp : s.2.1 = 2 → 1 ≤ s.1) : DV W T (dMv W T s) ∧ dPot W T (dMv W T s) = dPot W T s - 1 := by
  obtain ⟨a, p, l⟩ := s
  unfold DV at h
  simp only at h hp
  rcases h with ⟨h1, h2, h3⟩ | ⟨h1, h2, h3, h4⟩ | ⟨h1, h2, h3⟩
  · subst h1
    unfold dMv
    simp only [if_true]
    by_cases hw : a + 1 = W
    · rw [if_pos hw]
      unfold dHold DV dPot
      by_cases ht : T = 0
      · simp [ht]; omega
      · simp [ht]; omega
    · rw [if_neg hw]
      unfold DV dPot
      simp
      omega
  · subst h1
    unfold dMv
    simp only [show ¬ ((1 : Int) = 0) by omega, if_false, if_true]
    unfold DV dPot
    by_cases hl : l - 1 = 0
    · simp [hl]; omega
    · simp [hl]; omega
  · subst h1
    have := hp rfl
    unfold dMv
    simp only [show ¬ ((2 : Int) = 0) by omega, show ¬ ((2 : Int) = 1) by omega, if_false]
    unfold DV dPot
    simp
    omega
theorem dBrk_ok {W T : Int} (hW : 1 ≤ W) (hT : 0 ≤ T) {b : Bool} {s : Int × Int × Int} (h : DV W T s) (hp : s.2.1 = 2 → 1 ≤ s.1) :
    DV W T (dBrk W T b s) ∧ ((dBrk W T b s).2.1 = 2 → 1 ≤ (dBrk W T b s).1) ∧ dPot W T (dBrk W T b s) ≤ dPot W T s + (if b = true then 2 * (W - 1) + T else 0) := by
  unfold dBrk
  by_cases hb : b = true ∧ s.2.1 ≠ 0
  · rw [if_pos hb, if_pos hb.1]
    obtain ⟨hb1, hb2⟩ := hb
    obtain ⟨a, p, l⟩ := s
    simp only at hb2 hp
    by_cases hw : a < W
    · simp only [hw, if_true]
      unfold DV at h ⊢
      unfold dPot
      simp only at h ⊢
      rcases h with ⟨h1, h2, h3⟩ | ⟨h1, h2, h3, h4⟩ | ⟨h1, h2, h3⟩
      · omega
      · omega
      · subst h1
        have := hp rfl
        simp
        omega
    · simp only [hw, if_false]
      unfold DV at h ⊢
      unfold dPot dHold
      simp only at h ⊢
      rcases h with ⟨h1, h2, h3⟩ | ⟨h1, h2, h3, h4⟩ | ⟨h1, h2, h3⟩
      · omega
      · subst h1
        by_cases ht : T = 0
        · omega
        · simp [ht]; omega
      · subst h1
        by_cases ht : T = 0
        · simp [ht]; omega
        · simp [ht]; omega
  · rw [if_neg hb]
    refine ⟨h, hp, ?_⟩
    split <;> omega
def isBr (br : Arr Int) (t : Int) : Prop := ∃ j, j < br.n ∧ br.f j = t
def cntB (br : Nat → Int) (t : Int) : Nat → Int
  | 0 => 0
  | n + 1 => cntB br t n + (if t ≤ br n then 1 else 0)
def upB (br : Arr Int) : Prop := ∀ i j, i < j → j < br.n → br.f i < br.f j
theorem cntB_bounds (br : Nat → Int) (t : Int) : ∀ n : Nat, 0 ≤ cntB br t n ∧ cntB br t n ≤ n
  | 0 => by simp [cntB]
  | n + 1 => by
    have := cntB_bounds br t n
    simp only [cntB]
    split <;> omega
theorem cntB_no {br : Nat → Int} {t : Int} : ∀ n : Nat, (∀ j, j < n → br j ≠ t) → cntB br (t + 1) n = cntB br t n
  | 0, _ => rfl
  | n + 1, h => by
    simp only [cntB]
    rw [cntB_no n (fun j hj => h j (by omega))]
    have := h n (by omega)
    split <;> split <;> omega
theorem cntB_yes {br : Nat → Int} {t : Int} : ∀ n : Nat, (∀ i j, i < j → j < n → br i < br j) → (∃ j, j < n ∧ br j = t) → cntB br (t + 1) n = cntB br t n - 1
  | 0, _, h => by obtain ⟨j, hj, _⟩ := h; omega
  | n + 1, hu, h => by
    simp only [cntB]
    obtain ⟨j, hj, e⟩ := h
    by_cases hjn : j = n
    · subst hjn
      rw [cntB_no j (fun i hi => by have := hu i j hi (by omega); omega)]
      split <;> split <;> omega
    · have h1 := hu j n (by omega) (by omega)
      rw [cntB_yes n (fun i j h1 h2 => hu i j h1 (by omega)) ⟨j, by omega, e⟩]
      split <;> split <;> omega
open Classical in
theorem cntB_step {br : Arr Int} (hu : upB br) (t : Int) : cntB br.f (t + 1) br.n = cntB br.f t br.n - (if isBr br t then 1 else 0) := by
  by_cases h : isBr br t
  · rw [if_pos h]; exact cntB_yes br.n hu h
  · rw [if_neg h, cntB_no br.n (fun j hj e => h ⟨j, hj, e⟩)]; omega
open Classical in
noncomputable def dSt (W T : Int) (br : Arr Int) : Nat → Int × Int × Int
  | 0 => (0, 0, 0)
  | t + 1 => dStep W T (decide (isBr br (t : Int))) (dSt W T br t)
def stepS (W T : Int) : Int := 2 * (W - 1) + T
noncomputable def phi (W T : Int) (br : Arr Int) (t : Nat) : Int := dPot W T (dSt W T br t) + cntB br.f (t : Int) br.n * stepS W T
theorem dSt_ok {W T : Int} (hW : 1 ≤ W) (hT : 0 ≤ T) {br : Arr Int} (hu : upB br) {t : Nat} (h : DV W T (dSt W T br t)) (hp : (dSt W T br t).2.1 = 2 → 1 ≤ (dSt W T br t).1) :
    DV W T (dSt W T br (t + 1)) ∧ phi W T br (t + 1) ≤ phi W T br t - 1 := by
  classical
  obtain ⟨b1, b2, b3⟩ := dBrk_ok hW hT (b := decide (isBr br (t : Int))) h hp
  obtain ⟨m1, m2⟩ := dMv_ok hW hT b1 b2
  refine ⟨m1, ?_⟩
  unfold phi
  have e1 : dSt W T br (t + 1) = dMv W T (dBrk W T (decide (isBr br (t : Int))) (dSt W T br t)) := rfl
  have e2 := cntB_step hu (t : Int)
  have e3 : ((t + 1 : Nat) : Int) = (t : Int) + 1 := by omega
  rw [e1, e3, e2, m2]
  by_cases hb : isBr br (t : Int)
  · simp only [hb, decide_true, if_true] at b3 ⊢
    rw [Int.sub_mul, Int.one_mul]
    unfold stepS
    omega
  · simp only [hb, decide_false, if_false] at b3 ⊢
    simp at b3 ⊢
    omega
theorem pot_pos {W T : Int} (hW : 1 ≤ W) (hT : 0 ≤ T) {s : Int × Int × Int} (h : DV W T s) : 0 ≤ dPot W T s ∧ (dPot W T s = 0 → s.1 = 0) ∧ (s.1 = 0 → s.2.1 = 2 ∨ s.2.1 = 0) ∧ 0 ≤ s.1 ∧ s.1 ≤ W := by
  obtain ⟨a, p, l⟩ := s
  unfold DV at h
  unfold dPot
  simp only at h ⊢
  rcases h with ⟨h1, h2, h3⟩ | ⟨h1, h2, h3, h4⟩ | ⟨h1, h2, h3⟩ <;> subst h1 <;> simp <;> omega
theorem dSt_run {W T : Int} (hW : 1 ≤ W) (hT : 0 ≤ T) {br : Arr Int} (hu : upB br) : ∀ t : Nat, (∀ j, 1 ≤ j → j < t → 0 < (dSt W T br j).1) → DV W T (dSt W T br t) ∧ phi W T br t ≤ phi W T br 0 - t := by
  intro t
  induction t with
  | zero => intro _; exact ⟨.inl ⟨rfl, Int.le_refl 0, by show (0 : Int) < W; omega⟩, by simp⟩
  | succ t ih =>
    intro h
    obtain ⟨h1, h2⟩ := ih (fun j h3 h4 => h j h3 (by omega))
    have hp : (dSt W T br t).2.1 = 2 → 1 ≤ (dSt W T br t).1 := by
      intro h3
      cases t with
      | zero => have e : (dSt W T br 0).2.1 = 0 := rfl; omega
      | succ t => exact h (t + 1) (by omega) (by omega)
    obtain ⟨m1, m2⟩ := dSt_ok hW hT hu h1 hp
    exact ⟨m1, by omega⟩
structure DN (W T : Int) (br : Arr Int) (n : Nat) : Prop where
  pos : 1 ≤ n
  zero : (dSt W T br n).1 = 0
  before : ∀ j, 1 ≤ j → j < n → 0 < (dSt W T br j).1
noncomputable def dFind (W T : Int) (br : Arr Int) : Nat → Nat → Nat
  | 0, t => t
  | r + 1, t => if (dSt W T br t).1 ≤ 0 then t else dFind W T br r (t + 1)
theorem phi0 {W T : Int} (br : Arr Int) : phi W T br 0 = 2 * W + T + cntB br.f 0 br.n * stepS W T := by
  unfold phi
  have : dPot W T (dSt W T br 0) = 2 * W + T := by show 2 * W - 0 + T = _; omega
  rw [this]; rfl
theorem dn_ex {W T : Int} (hW : 1 ≤ W) (hT : 0 ≤ T) {br : Arr Int} (hu : upB br) : ∃ n, DN W T br n ∧ (n : Int) ≤ phi W T br 0 := by
  have key : ∀ r t : Nat, 1 ≤ t → phi W T br 0 ≤ (t : Int) + r → (∀ j, 1 ≤ j → j < t → 0 < (dSt W T br j).1) → DN W T br (dFind W T br r t) := by
    intro r
    induction r with
    | zero =>
      intro t h1 h2 h3
      obtain ⟨h4, h5⟩ := dSt_run hW hT hu t h3
      have h6 := pot_pos hW hT h4
      have h7 := cntB_bounds br.f (t : Int) br.n
      have h8 : 0 ≤ cntB br.f (t : Int) br.n * stepS W T := Int.mul_nonneg h7.1 (by unfold stepS; omega)
      refine ⟨h1, h6.2.1 ?_, h3⟩
      unfold phi at h5 h2
      omega
    | succ r ih =>
      intro t h1 h2 h3
      obtain ⟨h4, h5⟩ := dSt_run hW hT hu t h3
      have h6 := pot_pos hW hT h4
      simp only [dFind]
      split
      · exact ⟨h1, by omega, h3⟩
      · refine ih (t + 1) (by omega) (by omega) fun j j1 j2 => ?_
        by_cases e : j = t
        · subst e; omega
        · exact h3 j j1 (by omega)
  have h0 : 0 ≤ phi W T br 0 := by
    rw [phi0]
    have h7 := cntB_bounds br.f 0 br.n
    have h8 : 0 ≤ cntB br.f 0 br.n * stepS W T := Int.mul_nonneg h7.1 (by unfold stepS; omega)
    omega
  have h := key (phi W T br 0).toNat 1 (by omega) (by omega) (fun j j1 j2 => by omega)
  refine ⟨_, h, ?_⟩
  obtain ⟨h4, h5⟩ := dSt_run hW hT hu _ h.before
  have h6 := pot_pos hW hT h4
  have h7 := cntB_bounds br.f (dFind W T br (phi W T br 0).toNat 1 : Int) br.n
  have h8 : 0 ≤ cntB br.f (dFind W T br (phi W T br 0).toNat 1 : Int) br.n * stepS W T := Int.mul_nonneg h7.1 (by unfold stepS; omega)
  have h9 : 0 ≤ phi W T br (dFind W T br (phi W T br 0).toNat 1) := by
    show 0 ≤ dPot W T (dSt W T br (dFind W T br (phi W T br 0).toNat 1)) + _
    omega
  omega
theorem dn_unique {W T : Int} {br : Arr Int} {m n : Nat} (h1 : DN W T br m) (h2 : DN W T br n) : m = n := by
  rcases Nat.lt_trichotomy m n with h | h | h
  · have := h2.before m h1.pos h; have := h1.zero; omega
  · exact h
  · have := h1.before n h2.pos h; have := h2.zero; omega
end Li
end Go.Proofs.Ytpillmoddoccfab
set_option linter.unusedVariables false
set_option linter.unusedSimpArgs false
namespace Go.Proofs.Ytpillmoddoccfab
namespace Li
open Go.Sx
section
variable {R : Type}
def leafOf (d : api_Door) (s : Int × Int × Int) : lift_leaf := lift_leaf.mk d s.1 s.2.1 s.2.2
theorem hold_eq (N : Nat) (d : api_Door) (a p l : Int) (k : lift_leaf → Option R) : lift_leaf_hold N (lift_leaf.mk d a p l) k = k (leafOf d (dHold d.Wait a)) := by
  rw [lift_leaf_hold_def]
  unfold lift_leaf_hold_m
  unfold leafOf dHold
  by_cases h : d.Wait = 0
  · simp [h]
  · have : (d.Wait == 0) = false := by simpa using h
    simp only [this, cond_false, h, if_false]
theorem tick_eq (N : Nat) {d : api_Door} (hd : VD d) {s : Int × Int × Int} (h : DV d.Wide d.Wait s) (b : Bool) (k : lift_leaf → Option R) : lift_leaf_tick N b (leafOf d s) k = k (leafOf d (dStep d.Wide d.Wait b s)) := by
  obtain ⟨w1, w2, t1, t2⟩ := id hd
  obtain ⟨a, p, l⟩ := s
  have z0 : ((0 : Int) != 0) = false := rfl
  have z1 : ((1 : Int) != 0) = true := rfl
  have z2 : ((2 : Int) != 0) = true := rfl
  have y0 : ((0 : Int) == 0) = true := rfl
  have y1 : ((1 : Int) == 0) = false := rfl
  have y2 : ((2 : Int) == 0) = false := rfl
  have y3 : ((2 : Int) == 1) = false := rfl
  have y4 : ((1 : Int) == 1) = true := rfl
  have y5 : ((2 : Int) == 2) = true := rfl
  have n1 : ¬ ((1 : Int) = 0) := by omega
  have n2 : ¬ ((2 : Int) = 0) := by omega
  have n3 : ¬ ((2 : Int) = 1) := by omega
  rw [lift_leaf_tick_def]
  unfold lift_leaf_tick_m
  unfold DV at h
  simp only [leafOf] at h ⊢
  rcases h with ⟨h1, h2, h3⟩ | ⟨h1, h2, h3, h4⟩ | ⟨h1, h2, h3⟩
  · subst h1
    have e : w64 (a + 1) = a + 1 := w64_eq (by omega) (by omega)
    have hb : dBrk d.Wide d.Wait b (a, 0, l) = (a, 0, l) := by unfold dBrk; rw [if_neg (fun h => h.2 rfl)]
    unfold dStep
    rw [hb]
    unfold dMv
    simp only [z0, y0, cond_true, cond_false, e, hold_eq, leafOf, if_true, Bool.cond_self]
    by_cases hw : a + 1 = d.Wide
    · have : (a + 1 == d.Wide) = true := by simpa using hw
      rw [if_pos hw]; simp only [this, cond_true]
    · have : (a + 1 == d.Wide) = false := by simpa using hw
      rw [if_neg hw]; simp only [this, cond_false]
  · subst h1
    have hs : dMv d.Wide d.Wait (a, 1, l) = (a, (if l - 1 = 0 then 2 else 1), l - 1) := by unfold dMv; simp only [n1, if_false, if_true]
    have e : w64 (l - 1) = l - 1 := w64_eq (by omega) (by omega)
    have plain : (bif l - 1 == 0 then k (lift_leaf.mk d a 2 (l - 1)) else k (lift_leaf.mk d a 1 (l - 1))) = k (lift_leaf.mk d a (if l - 1 = 0 then 2 else 1) (l - 1)) := by
      by_cases hl : l - 1 = 0
      · have : (l - 1 == 0) = true := by simpa using hl
        rw [if_pos hl]; simp only [this, cond_true]
      · have : (l - 1 == 0) = false := by simpa using hl
        rw [if_neg hl]; simp only [this, cond_false]
    cases b with
    | false =>
      have hb : dBrk d.Wide d.Wait false (a, 1, l) = (a, 1, l) := rfl
      unfold dStep
      rw [hb, hs]
      simp only [cond_false, y1, y4, cond_true, e, plain]
    | true =>
      have hb : dBrk d.Wide d.Wait true (a, 1, l) = dHold d.Wait a := by unfold dBrk; rw [if_pos ⟨rfl, n1⟩, if_neg (by simp only; omega)]
      have ha : ¬ a < d.Wide := by omega
      have et : w64 (d.Wait - 1) = d.Wait - 1 := w64_eq (by omega) (by omega)
      unfold dStep
      rw [hb]
      have ht : ¬ d.Wait = 0 := by omega
      unfold dHold
      simp only [ht, if_false]
      simp only [cond_true, z1, ha, decide_false, cond_false, hold_eq, leafOf, dHold, ht, if_false, y1, y4, et]
      unfold dMv
      simp only [n1, if_false, if_true]
      by_cases hl : d.Wait - 1 = 0
      · have : (d.Wait - 1 == 0) = true := by simpa using hl
        rw [if_pos hl]; simp only [this, cond_true]
      · have : (d.Wait - 1 == 0) = false := by simpa using hl
        rw [if_neg hl]; simp only [this, cond_false]
  · subst h1
    have e : w64 (a - 1) = a - 1 := w64_eq (by omega) (by omega)
    have e1 : w64 (a + 1) = a + 1 := w64_eq (by omega) (by omega)
    cases b with
    | false =>
      have hb : dBrk d.Wide d.Wait false (a, 2, l) = (a, 2, l) := rfl
      unfold dStep
      rw [hb]
      unfold dMv
      simp only [cond_false, y2, y3, y5, cond_true, e, n2, n3, if_false]
    | true =>
      unfold dStep dBrk
      simp only [true_and, n2, ne_eq, not_false_eq_true, if_true]
      by_cases ha : a < d.Wide
      · simp only [ha, if_true, decide_true, cond_true, z2, e1]
        unfold dMv
        simp only [if_true, hold_eq, leafOf]
        by_cases hw : a + 1 = d.Wide
        · have : (a + 1 == d.Wide) = true := by simpa using hw
          rw [if_pos hw]; simp only [this, cond_true]
        · have : (a + 1 == d.Wide) = false := by simpa using hw
          rw [if_neg hw]; simp only [this, cond_false]
      · simp only [ha, if_false, decide_false, cond_false, cond_true, z2, hold_eq, leafOf, dHold]
        by_cases ht : d.Wait = 0
        · simp only [ht, if_true, y2, y3, y5, cond_false, cond_true, e]
          unfold dMv
          simp only [n2, n3, if_false]
        · have et : w64 (d.Wait - 1) = d.Wait - 1 := w64_eq (by omega) (by omega)
          simp only [ht, if_false, y1, y4, cond_false, cond_true, et]
          unfold dMv
          simp only [n1, if_false, if_true]
          by_cases hl : d.Wait - 1 = 0
          · have : (d.Wait - 1 == 0) = true := by simpa using hl
            rw [if_pos hl]; simp only [this, cond_true]
          · have : (d.Wait - 1 == 0) = false := by simpa using hl
            rw [if_neg hl]; simp only [this, cond_false]
open Classical in
theorem cont_l2_eq (N : Nat) {br : Arr Int} (hn : br.n ≤ 1000000) (t : Int) (kr : Int → Option R) (k0 : Unit → Option R) (key : Bool → Option R) (hkr : ∀ i : Nat, kr (i : Int) = key true) (hk0 : k0 () = key false) : ∀ (r i n : Nat), i + r = br.n → r < n →
    slices_Index___int_int__l2 N n br t (br.n : Int) (i : Int) kr k0 = key (decide (∃ j, i ≤ j ∧ j < br.n ∧ br.f j = t)) := by
  intro r
  induction r with
  | zero =>
    intro i n h1 h2
    obtain ⟨n, rfl⟩ : ∃ m, n = m + 1 := ⟨n - 1, by omega⟩
    unfold slices_Index___int_int__l2 slices_Index___int_int__b2
    have e1 : decide ((i : Int) < (br.n : Int)) = false := by simp; omega
    have e2 : decide (∃ j, i ≤ j ∧ j < br.n ∧ br.f j = t) = false := decide_eq_false (fun ⟨j, h3, h4, _⟩ => by omega)
    simp only [e1, cond_false, hk0, e2]
  | succ r ih =>
    intro i n h1 h2
    obtain ⟨n, rfl⟩ : ∃ m, n = m + 1 := ⟨n - 1, by omega⟩
    unfold slices_Index___int_int__l2 slices_Index___int_int__b2
    have e1 : decide ((i : Int) < (br.n : Int)) = true := by simp; omega
    simp only [e1, nat_nonneg, Bool.and_self, cond_true, Int.toNat_natCast, w64_succ (show i < 1000000000000 by omega)]
    by_cases hd : br.f i = t
    · have e2 : decide (∃ j, i ≤ j ∧ j < br.n ∧ br.f j = t) = true := decide_eq_true ⟨i, Nat.le_refl _, by omega, hd⟩
      have e3 : (t == br.f i) = true := by simpa using hd.symm
      simp only [e3, cond_true, hkr, e2]
    · have e3 : (t == br.f i) = false := by simpa using fun h => hd h.symm
      have e2 : decide (∃ j, i ≤ j ∧ j < br.n ∧ br.f j = t) = decide (∃ j, i + 1 ≤ j ∧ j < br.n ∧ br.f j = t) := by
        rw [decide_eq_decide]
        constructor
        · rintro ⟨j, h3, h4, h5⟩
          refine ⟨j, ?_, h4, h5⟩
          rcases Nat.lt_or_ge i j with h | h
          · exact h
          · have : j = i := by omega
            subst this; exact absurd h5 hd
        · rintro ⟨j, h3, h4, h5⟩; exact ⟨j, by omega, h4, h5⟩
      simp only [e3, cond_false, e2]
      exact ih (i + 1) n (by omega) (by omega)
open Classical in
theorem Contains_eq {N : Nat} {br : Arr Int} (hn : br.n ≤ 1000000) (hN : br.n < N) (t : Int) (k : Bool → Option R) : slices_Contains___int_int_ N br t k = k (decide (isBr br t)) := by
  rw [slices_Contains___int_int__def]
  unfold slices_Contains___int_int__m
  rw [slices_Index___int_int__def]
  unfold slices_Index___int_int__m
  refine Eq.trans (cont_l2_eq N hn t _ _ k (fun i => ?_) ?_ br.n 0 N (by omega) hN) ?_
  · have : decide ((i : Int) ≥ 0) = true := by simp
    simp only [this]
  · rfl
  · have : (∃ j, 0 ≤ j ∧ j < br.n ∧ br.f j = t) ↔ isBr br t := ⟨fun ⟨j, _, h1, h2⟩ => ⟨j, h1, h2⟩, fun ⟨j, h1, h2⟩ => ⟨j, Nat.zero_le _, h1, h2⟩⟩
    rw [decide_eq_decide.2 this]
end
end Li
end Go.Proofs.Ytpillmoddoccfab
set_option linter.unusedVariables false
set_option linter.unusedSimpArgs false
namespace Go.Proofs.Ytpillmoddoccfab
namespace Li
open Go.Sx
def emI : Arr Int := lst intC 0 (zeroC [SV.int IntKind.i64 0])
def pB (br : Arr Int) : Nat → Int
  | 0 => -1
  | i + 1 => br.f i
def bG (br : Arr Int) (i : Nat) : Prop := ∀ j, i ≤ j → j < br.n → pB br j + 1 ≤ br.f j ∧ br.f j ≤ 100000
def brP (br : Arr Int) : Prop := bG br 0 ∧ (br.n : Int) ≤ 20
theorem bG_step {br : Arr Int} {i : Nat} (h : pB br i + 1 ≤ br.f i ∧ br.f i ≤ 100000) : bG br i ↔ bG br (i + 1) := by
  constructor
  · intro g j h1 h2; exact g j (by omega) h2
  · intro g j h1 h2
    by_cases e : j = i
    · subst e; exact h
    · exact g j (by omega) h2
theorem bG_up {br : Arr Int} (h : bG br 0) : upB br := by
  intro i j hij hj
  induction j with
  | zero => omega
  | succ j ih =>
    have h1 := (h (j + 1) (by omega) hj).1
    have e : pB br (j + 1) = br.f j := rfl
    by_cases e2 : i = j
    · subst e2; omega
    · have := ih (by omega) (by omega); omega
section
variable {R : Type}
open Classical in
theorem Doors_l7_eq (N : Nat) (d : api_Door) {br : Arr Int} (hn : br.n ≤ 1000000) (kr : Int → Bool → Arr Int → Option R) (k0 : Unit → Option R) : ∀ (r i n : Nat), i + r = br.n → r < n → -1 ≤ pB br i → pB br i ≤ 100000 →
    lift_Doors_l7 N n br br (br.n : Int) (i : Int) d kr k0 = if bG br i then k0 () else kr 1 true emI := by
  intro r
  induction r with
  | zero =>
    intro i n h1 h2 h3 h4
    obtain ⟨n, rfl⟩ : ∃ m, n = m + 1 := ⟨n - 1, by omega⟩
    unfold lift_Doors_l7 lift_Doors_b7
    have e1 : decide ((i : Int) < (br.n : Int)) = false := by simp; omega
    have g : bG br i := fun j h5 h6 => by omega
    rw [if_pos g]
    simp only [e1, cond_false]
  | succ r ih =>
    intro i n h1 h2 h3 h4
    obtain ⟨n, rfl⟩ : ∃ m, n = m + 1 := ⟨n - 1, by omega⟩
    unfold lift_Doors_l7 lift_Doors_b7
    have e1 : decide ((i : Int) < (br.n : Int)) = true := by simp; omega
    simp only [e1, nat_nonneg, Bool.and_self, cond_true, Int.toNat_natCast, w64_succ (show i < 1000000000000 by omega), between_eq]
    by_cases hb : 0 ≤ br.f i ∧ br.f i ≤ 100000
    · simp only [hb, and_self, decide_true, Bool.not_true, cond_false]
      cases i with
      | zero =>
        have e2 : decide (((0 : Nat) : Int) > 0) = false := rfl
        have e : pB br 0 = -1 := rfl
        simp only [e2, cond_false]
        have := ih 1 n (by omega) (by omega) (by show -1 ≤ br.f 0; omega) (by show br.f 0 ≤ 100000; omega)
        rw [this]
        simp only [bG_step (br := br) (i := 0) ⟨by omega, hb.2⟩]
      | succ i =>
        have e2 : decide (((i + 1 : Nat) : Int) > 0) = true := by rw [decide_eq_true_eq]; omega
        have e3 : w64 (((i + 1 : Nat) : Int) - 1) = (i : Int) := by rw [w64_eq (by omega) (by omega)]; omega
        have e4 : decide ((i : Int) < (br.n : Int)) = true := by simp; omega
        have e : pB br (i + 1) = br.f i := rfl
        simp only [e2, cond_true, e3, nat_nonneg, e4, Bool.and_self, Int.toNat_natCast]
        by_cases hc : br.f (i + 1) ≤ br.f i
        · simp only [hc, decide_true, cond_true]
          rw [if_neg (fun g => by have := (g (i + 1) (Nat.le_refl _) (by omega)).1; omega)]
          rfl
        · simp only [hc, decide_false, cond_false]
          have := ih (i + 1 + 1) n (by omega) (by omega) (by show -1 ≤ br.f (i + 1); omega) (by show br.f (i + 1) ≤ 100000; omega)
          rw [this]
          simp only [bG_step (br := br) (i := i + 1) ⟨by omega, hb.2⟩]
    · simp only [hb, decide_false, Bool.not_false, cond_true]
      rw [if_neg (fun g => by have := g i (Nat.le_refl _) (by omega); omega)]
      rfl
open Classical in
theorem Breaks_l3_eq (N : Nat) {br : Arr Int} (hn : br.n ≤ 9223372036854775807) (kr : Bool → Option R) (k0 : Unit → Option R) : ∀ (r i n : Nat), i + r = br.n → r < n → -1 ≤ pB br i → pB br i ≤ 100000 →
    newelref05_Breaks_l3 N n br (pB br i) (i : Int) kr k0 = if bG br i then k0 () else kr false := by
  intro r
  induction r with
  | zero =>
    intro i n h1 h2 h3 h4
    obtain ⟨n, rfl⟩ : ∃ m, n = m + 1 := ⟨n - 1, by omega⟩
    unfold newelref05_Breaks_l3 newelref05_Breaks_b3
    have e1 : decide ((i : Int) < (br.n : Int)) = false := by simp; omega
    have g : bG br i := fun j h5 h6 => by omega
    rw [if_pos g]
    simp only [e1, cond_false]
  | succ r ih =>
    intro i n h1 h2 h3 h4
    obtain ⟨n, rfl⟩ : ∃ m, n = m + 1 := ⟨n - 1, by omega⟩
    unfold newelref05_Breaks_l3 newelref05_Breaks_b3
    have e1 : decide ((i : Int) < (br.n : Int)) = true := by simp; omega
    simp only [e1, nat_nonneg, Bool.and_self, cond_true, Int.toNat_natCast, (show w64 ((i : Int) + 1) = ((i + 1 : Nat) : Int) by rw [w64_eq (by omega) (by omega)]; simp), within_eq]
    rw [w64_eq (n := pB br i + 1) (by omega) (by omega)]
    by_cases hb : pB br i + 1 ≤ br.f i ∧ br.f i ≤ 100000
    · simp only [hb, and_self, decide_true, Bool.not_true, cond_false]
      have := ih (i + 1) n (by omega) (by omega) (by show -1 ≤ br.f i; omega) (by show br.f i ≤ 100000; omega)
      rw [show pB br (i + 1) = br.f i from rfl] at this
      rw [this]
      simp only [bG_step hb]
    · simp only [hb, decide_false, Bool.not_false, cond_true]
      rw [if_neg (fun g => hb (g i (Nat.le_refl _) (by omega)))]
open Classical in
theorem Breaks_eq {N : Nat} {br : Arr Int} (hn : br.n ≤ 9223372036854775807) (hN : br.n < N) (k : Bool → Option R) : newelref05_Breaks N br k = k (decide (brP br)) := by
  rw [newelref05_Breaks_def]
  unfold newelref05_Breaks_m
  have := Breaks_l3_eq N hn (fun r663 => k r663) (fun (_ : Unit) => k (decide ((br.n : Int) ≤ 20))) br.n 0 N (by omega) hN (Int.le_refl _) (by show (-1 : Int) ≤ 100000; omega)
  refine Eq.trans this ?_
  unfold brP
  by_cases h : bG br 0
  · rw [if_pos h]
    by_cases h2 : (br.n : Int) ≤ 20 <;> simp [h, h2]
  · rw [if_neg h]; simp [h]
theorem Doors_l15_eq {N : Nat} {d : api_Door} (hd : VD d) {br : Arr Int} (hu : upB br) (hn : br.n ≤ 1000) (hN : 1000 < N) {m : Nat} (hm : DN d.Wide d.Wait br m) (hm2 : m ≤ 100000) : ∀ (r t n : Nat) (b : Bool) (a : Arr Int), t + r = m → r < n → a.Is t (fun i => (dSt d.Wide d.Wait br (i + 1)).1) →
    ∃ (b' : Bool) (a' : Arr Int), a'.Is m (fun i => (dSt d.Wide d.Wait br (i + 1)).1) ∧ ∀ {R : Type} (k : Bool → Arr Int → Option R), lift_Doors_l15 N n br (t : Int) (leafOf d (dSt d.Wide d.Wait br t)) b a k = k b' a' := by
  have hpos := hm.pos
  intro r
  induction r with
  | zero =>
    intro t n b a h1 h2 ha
    obtain ⟨n, rfl⟩ : ∃ m, n = m + 1 := ⟨n - 1, by omega⟩
    have : t = m := by omega
    subst this
    refine ⟨b, a, ha, fun k => ?_⟩
    unfold lift_Doors_l15 lift_Doors_b15
    have e1 : ((t : Int) == 0) = false := by simp; omega
    have e2 : decide (lift_leaf.f_at (leafOf d (dSt d.Wide d.Wait br t)) > 0) = false := by
      show decide ((dSt d.Wide d.Wait br t).1 > 0) = false
      rw [hm.zero]; rfl
    simp only [e1, e2, cond_false]
  | succ r ih =>
    intro t n b a h1 h2 ha
    obtain ⟨n, rfl⟩ : ∃ m, n = m + 1 := ⟨n - 1, by omega⟩
    obtain ⟨h3, _⟩ := dSt_run hd.w1 hd.t1 hu t (fun j j1 j2 => hm.before j j1 (by omega))
    have ha' := ha.push_int (z := [SV.int IntKind.i64 0]) (v := (dSt d.Wide d.Wait br (t + 1)).1) rfl
    obtain ⟨b', a', h4, h5⟩ := ih (t + 1) n false _ (by omega) (by omega) ha'
    refine ⟨b', a', h4, fun {R} k => ?_⟩
    unfold lift_Doors_l15 lift_Doors_b15
    have hr : room (a.n + 1) = true := room_of (by rw [ha.len]; omega)
    have key : slices_Contains___int_int_ N br (t : Int) (fun r691 => lift_leaf_tick N r691 (leafOf d (dSt d.Wide d.Wait br t)) (fun r700 =>
        bif room (Arr.n a + (1 : Nat)) then lift_Doors_l15 N n br (w64 ((t : Int) + 1)) r700 false (lst intC (Arr.n a + (1 : Nat)) (catC (Arr.n a) (Cod.cell intC (Arr.f a)) (litC [SV.int IntKind.i64 (0 : Int)] [[SV.int IntKind.i64 (lift_leaf.f_at r700)]]))) k
        else Option.none)) = k b' a' := by
      rw [Contains_eq (by omega) (by omega), tick_eq N hd h3]
      simp only [hr, cond_true, w64_succ (show t < 1000000000000 by omega)]
      exact h5 k
    cases t with
    | zero => exact key
    | succ t =>
      have e1 : (((t + 1 : Nat) : Int) == 0) = false := by simp; omega
      have e2 : decide (lift_leaf.f_at (leafOf d (dSt d.Wide d.Wait br (t + 1))) > 0) = true := by
        rw [decide_eq_true_eq]
        exact hm.before (t + 1) (by omega) (by omega)
      simp only [e1, e2, cond_false, cond_true]
      exact key
end
open Classical in
noncomputable def doorsE (d : api_Door) (br : Arr Int) : Int := if VD d then if brP br then 0 else 1 else 51
open Classical in
noncomputable def doorsN (d : api_Door) (br : Arr Int) : Nat := if h : doorsE d br = 0 ∧ ∃ n, DN d.Wide d.Wait br n then Classical.choose h.2 else 0
noncomputable def doorsF (d : api_Door) (br : Arr Int) : Nat → Int := fun i => (dSt d.Wide d.Wait br (i + 1)).1
theorem doorsE_zero {d : api_Door} {br : Arr Int} : doorsE d br = 0 ↔ VD d ∧ brP br := by
  unfold doorsE
  by_cases h : VD d <;> by_cases h2 : brP br <;> simp [h, h2]
theorem doors_all {d : api_Door} {br : Arr Int} (h : VD d) (hb : brP br) : DN d.Wide d.Wait br (doorsN d br) ∧ (doorsN d br : Int) ≤ dwellS d br.n ∧ (doorsN d br : Int) ≤ 7000 := by
  obtain ⟨n, h1, h2⟩ := dn_ex h.w1 h.t1 (bG_up hb.1)
  have e := doorsE_zero.2 ⟨h, hb⟩
  have h3 : DN d.Wide d.Wait br (doorsN d br) := by
    unfold doorsN
    rw [dif_pos ⟨e, n, h1⟩]
    exact Classical.choose_spec (⟨n, h1⟩ : ∃ n, DN d.Wide d.Wait br n)
  have h4 := dn_unique h1 h3
  subst h4
  refine ⟨h1, ?_⟩
  rw [phi0] at h2
  have h5 := cntB_bounds br.f 0 br.n
  have h6 := hb.2
  obtain ⟨w1, w2, t1, t2⟩ := id h
  have e1 : stepS d.Wide d.Wait = 2 * d.Wide + d.Wait - 2 := by unfold stepS; omega
  have h7 : cntB br.f 0 br.n * stepS d.Wide d.Wait ≤ (br.n : Int) * stepS d.Wide d.Wait := Int.mul_le_mul_of_nonneg_right h5.2 (by omega)
  have h8 := dwell_bounds h (n := (br.n : Int)) (by omega) h6
  rw [e1] at h2 h7
  unfold dwellS
  omega
theorem Doors_eq {N : Nat} (hN : 10000 ≤ N) (d : api_Door) (br : Arr Int) (hn : br.n ≤ 1000000) (hNn : br.n < N) :
    ∃ (b : Bool) (a : Arr Int), a.Is (doorsN d br) (doorsF d br) ∧ ∀ {R : Type} (k : Int → Bool → Arr Int → Option R), lift_Doors N d br k = k (doorsE d br) b a := by
  classical
  by_cases h : VD d
  rotate_left
  · have e : doorsE d br = 51 := by unfold doorsE; rw [if_neg h]
    refine ⟨true, emI, by unfold doorsN; rw [dif_neg (fun hh => by omega)]; exact Arr.Is.zero, fun k => ?_⟩
    rw [lift_Doors_def]
    unfold lift_Doors_m
    rw [checkDoor_eq, doorV_ne h, e]
    rfl
  by_cases hb : brP br
  · have e := doorsE_zero.2 ⟨h, hb⟩
    obtain ⟨h1, h2, h3⟩ := doors_all h hb
    have h4 := hb.2
    obtain ⟨b, a, h5, h6⟩ := Doors_l15_eq h (bG_up hb.1) (by omega) (show 1000 < N by omega) h1 (by omega) (doorsN d br) 0 N true emI (by omega) (by omega) Arr.Is.zero
    refine ⟨b, a, h5, fun {R} k => ?_⟩
    rw [lift_Doors_def]
    unfold lift_Doors_m
    rw [checkDoor_eq, doorV_pos h, e]
    have e2 : decide ((br.n : Int) > 20) = false := by simp; omega
    simp only [bne_self_eq_false, cond_false, e2]
    refine Eq.trans (Doors_l7_eq N d (by omega) _ _ br.n 0 N (by omega) (by omega) (Int.le_refl _) (by show (-1 : Int) ≤ 100000; omega)) ?_
    rw [if_pos hb.1]
    exact h6 (fun r q => k 0 r q)
  · have e : doorsE d br = 1 := by unfold doorsE; rw [if_pos h, if_neg hb]
    refine ⟨true, emI, by unfold doorsN; rw [dif_neg (fun hh => by omega)]; exact Arr.Is.zero, fun {R} k => ?_⟩
    rw [lift_Doors_def]
    unfold lift_Doors_m
    rw [checkDoor_eq, doorV_pos h, e]
    simp only [bne_self_eq_false, cond_false]
    by_cases h2 : (br.n : Int) > 20
    · simp only [h2, decide_true, cond_true]; rfl
    · simp only [h2, decide_false, cond_false]
      refine Eq.trans (Doors_l7_eq N d (by omega) _ _ br.n 0 N (by omega) (by omega) (Int.le_refl _) (by show (-1 : Int) ≤ 100000; omega)) ?_
      rw [if_neg (fun g => hb ⟨g, by omega⟩)]
end Li
end Go.Proofs.Ytpillmoddoccfab
