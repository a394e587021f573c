/-
  Lift: Doors of the program and of the document.
-/
import Derived.Test.YtpillmoddoccfabLiP11
import Derived.Test.YtpillmoddoccfabSxMath
set_option linter.unusedVariables false
set_option linter.unusedSimpArgs false
namespace Go.Proofs.Ytpillmoddoccfab
namespace Li
open Go.Sx
def emI : Arr Int := lst intC 0 (zeroC [SV.int IntKind.i64 0])
/-! ### Breaks that are right -/
def pB (br : Arr Int) : Nat → Int
  | 0 => -1
  | i + 1 => br.f i
def bG (br : Arr Int) (i : Nat) : Prop := ∀ j, i ≤ j → j < br.n → pB br j + 1 ≤ br.f j ∧ br.f j ≤ 100000
def brP (br : Arr Int) : Prop := bG br 0 ∧ (br.n : Int) ≤ 20

theorem bG_step {br : Arr Int} {i : Nat} (h : pB br i + 1 ≤ br.f i ∧ br.f i ≤ 100000) : bG br i ↔ bG br (i + 1) := by
  constructor
  · intro g j h1 h2; exact g j (by omega) h2
  · intro g j h1 h2
    by_cases e : j = i
    · subst e; exact h
    · exact g j (by omega) h2

theorem bG_up {br : Arr Int} (h : bG br 0) : upB br := by
  intro i j hij hj
  induction j with
  | zero => omega
  | succ j ih =>
    have h1 := (h (j + 1) (by omega) hj).1
    have e : pB br (j + 1) = br.f j := rfl
    by_cases e2 : i = j
    · subst e2; omega
    · have := ih (by omega) (by omega); omega
theorem bG_nonneg {br : Arr Int} (h : bG br 0) : ∀ j, j < br.n → 0 ≤ br.f j := by
  intro j
  induction j with
  | zero => intro hj; have := (h 0 (by omega) hj).1; have e : pB br 0 = -1 := rfl; omega
  | succ j ih =>
    intro hj
    have h1 := (h (j + 1) (by omega) hj).1
    have e : pB br (j + 1) = br.f j := rfl
    have := ih (by omega)
    omega

section
variable {R : Type}

open Classical in
theorem Doors_l7_eq (N : Nat) (d : api_Door) {br : Arr Int} (hn : br.n ≤ 1000000) (kr : Int → Bool → Arr Int → Option R) (k0 : Unit → Option R) : ∀ (r i n : Nat), i + r = br.n → r < n → -1 ≤ pB br i → pB br i ≤ 100000 →
    lift_Doors_l7 N n br br (br.n : Int) (i : Int) d kr k0 = if bG br i then k0 () else kr 1 true emI := by
  intro r
  induction r with
  | zero =>
    intro i n h1 h2 h3 h4
    obtain ⟨n, rfl⟩ : ∃ m, n = m + 1 := ⟨n - 1, by omega⟩
    unfold lift_Doors_l7 lift_Doors_b7
    have e1 : decide ((i : Int) < (br.n : Int)) = false := by simp; omega
    have g : bG br i := fun j h5 h6 => by omega
    rw [if_pos g]
    simp only [e1, cond_false]
  | succ r ih =>
    intro i n h1 h2 h3 h4
    obtain ⟨n, rfl⟩ : ∃ m, n = m + 1 := ⟨n - 1, by omega⟩
    unfold lift_Doors_l7 lift_Doors_b7
    have e1 : decide ((i : Int) < (br.n : Int)) = true := by simp; omega
    simp only [e1, nat_nonneg, Bool.and_self, cond_true, Int.toNat_natCast, w64_succ (show i < 1000000000000 by omega), between_eq]
    by_cases hb : 0 ≤ br.f i ∧ br.f i ≤ 100000
    · simp only [hb, and_self, decide_true, Bool.not_true, cond_false]
      cases i with
      | zero =>
        have e2 : decide (((0 : Nat) : Int) > 0) = false := rfl
        have e : pB br 0 = -1 := rfl
        simp only [e2, cond_false]
        have := ih 1 n (by omega) (by omega) (by show -1 ≤ br.f 0; omega) (by show br.f 0 ≤ 100000; omega)
        rw [this]
        simp only [bG_step (br := br) (i := 0) ⟨by omega, hb.2⟩]
      | succ i =>
        have e2 : decide (((i + 1 : Nat) : Int) > 0) = true := by rw [decide_eq_true_eq]; omega
        have e3 : w64 (((i + 1 : Nat) : Int) - 1) = (i : Int) := by rw [w64_eq (by omega) (by omega)]; omega
        have e4 : decide ((i : Int) < (br.n : Int)) = true := by simp; omega
        have e : pB br (i + 1) = br.f i := rfl
        simp only [e2, cond_true, e3, nat_nonneg, e4, Bool.and_self, Int.toNat_natCast]
        by_cases hc : br.f (i + 1) ≤ br.f i
        · simp only [hc, decide_true, cond_true]
          rw [if_neg (fun g => by have := (g (i + 1) (Nat.le_refl _) (by omega)).1; omega)]
          rfl
        · simp only [hc, decide_false, cond_false]
          have := ih (i + 1 + 1) n (by omega) (by omega) (by show -1 ≤ br.f (i + 1); omega) (by show br.f (i + 1) ≤ 100000; omega)
          rw [this]
          simp only [bG_step (br := br) (i := i + 1) ⟨by omega, hb.2⟩]
    · simp only [hb, decide_false, Bool.not_false, cond_true]
      rw [if_neg (fun g => by have := g i (Nat.le_refl _) (by omega); omega)]
      rfl

open Classical in
theorem Breaks_l3_eq (N : Nat) {br : Arr Int} (hn : br.n ≤ 9223372036854775807) (kr : Bool → Option R) (k0 : Unit → Option R) : ∀ (r i n : Nat), i + r = br.n → r < n → -1 ≤ pB br i → pB br i ≤ 100000 →
    newelref05_Breaks_l3 N n br (pB br i) (i : Int) kr k0 = if bG br i then k0 () else kr false := by
  intro r
  induction r with
  | zero =>
    intro i n h1 h2 h3 h4
    obtain ⟨n, rfl⟩ : ∃ m, n = m + 1 := ⟨n - 1, by omega⟩
    unfold newelref05_Breaks_l3 newelref05_Breaks_b3
    have e1 : decide ((i : Int) < (br.n : Int)) = false := by simp; omega
    have g : bG br i := fun j h5 h6 => by omega
    rw [if_pos g]
    simp only [e1, cond_false]
  | succ r ih =>
    intro i n h1 h2 h3 h4
    obtain ⟨n, rfl⟩ : ∃ m, n = m + 1 := ⟨n - 1, by omega⟩
    unfold newelref05_Breaks_l3 newelref05_Breaks_b3
    have e1 : decide ((i : Int) < (br.n : Int)) = true := by simp; omega
    simp only [e1, nat_nonneg, Bool.and_self, cond_true, Int.toNat_natCast, (show w64 ((i : Int) + 1) = ((i + 1 : Nat) : Int) by rw [w64_eq (by omega) (by omega)]; simp), within_eq]
    rw [w64_eq (n := pB br i + 1) (by omega) (by omega)]
    by_cases hb : pB br i + 1 ≤ br.f i ∧ br.f i ≤ 100000
    · simp only [hb, and_self, decide_true, Bool.not_true, cond_false]
      have := ih (i + 1) n (by omega) (by omega) (by show -1 ≤ br.f i; omega) (by show br.f i ≤ 100000; omega)
      rw [show pB br (i + 1) = br.f i from rfl] at this
      rw [this]
      simp only [bG_step hb]
    · simp only [hb, decide_false, Bool.not_false, cond_true]
      rw [if_neg (fun g => hb (g i (Nat.le_refl _) (by omega)))]

open Classical in
theorem Breaks_eq {N : Nat} {br : Arr Int} (hn : br.n ≤ 9223372036854775807) (hN : br.n < N) (k : Bool → Option R) : newelref05_Breaks N br k = k (decide (brP br)) := by
  rw [newelref05_Breaks_def]
  unfold newelref05_Breaks_m
  have := Breaks_l3_eq N hn (fun r663 => k r663) (fun (_ : Unit) => k (decide ((br.n : Int) ≤ 20))) br.n 0 N (by omega) hN (Int.le_refl _) (by show (-1 : Int) ≤ 100000; omega)
  refine Eq.trans this ?_
  unfold brP
  by_cases h : bG br 0
  · rw [if_pos h]
    by_cases h2 : (br.n : Int) ≤ 20 <;> simp [h, h2]
  · rw [if_neg h]; simp [h]

/-! ### The ticks -/

theorem Doors_l15_eq {N : Nat} {d : api_Door} (hd : VD d) {br : Arr Int} (hu : upB br) (hn : br.n ≤ 1000) (hN : 1000 < N) {m : Nat} (hm : DN d.Wide d.Wait br m) (hm2 : m ≤ 100000) : ∀ (r t n : Nat) (b : Bool) (a : Arr Int), t + r = m → r < n → a.Is t (fun i => (dSt d.Wide d.Wait br (i + 1)).1) →
    ∃ (b' : Bool) (a' : Arr Int), a'.Is m (fun i => (dSt d.Wide d.Wait br (i + 1)).1) ∧ ∀ {R : Type} (k : Bool → Arr Int → Option R), lift_Doors_l15 N n br (t : Int) (leafOf d (dSt d.Wide d.Wait br t)) b a k = k b' a' := by
  have hpos := hm.pos
  intro r
  induction r with
  | zero =>
    intro t n b a h1 h2 ha
    obtain ⟨n, rfl⟩ : ∃ m, n = m + 1 := ⟨n - 1, by omega⟩
    have : t = m := by omega
    subst this
    refine ⟨b, a, ha, fun k => ?_⟩
    unfold lift_Doors_l15 lift_Doors_b15
    have e1 : ((t : Int) == 0) = false := by simp; omega
    have e2 : decide (lift_leaf.f_at (leafOf d (dSt d.Wide d.Wait br t)) > 0) = false := by
      show decide ((dSt d.Wide d.Wait br t).1 > 0) = false
      rw [hm.zero]; rfl
    simp only [e1, e2, cond_false]
  | succ r ih =>
    intro t n b a h1 h2 ha
    obtain ⟨n, rfl⟩ : ∃ m, n = m + 1 := ⟨n - 1, by omega⟩
    obtain ⟨h3, _⟩ := dSt_run hd.w1 hd.t1 hu t (fun j j1 j2 => hm.before j j1 (by omega))
    have ha' := ha.push_int (z := [SV.int IntKind.i64 0]) (v := (dSt d.Wide d.Wait br (t + 1)).1) rfl
    obtain ⟨b', a', h4, h5⟩ := ih (t + 1) n false _ (by omega) (by omega) ha'
    refine ⟨b', a', h4, fun {R} k => ?_⟩
    unfold lift_Doors_l15 lift_Doors_b15
    have hr : room (a.n + 1) = true := room_of (by rw [ha.len]; omega)
    have key : slices_Contains___int_int_ N br (t : Int) (fun r691 => lift_leaf_tick N r691 (leafOf d (dSt d.Wide d.Wait br t)) (fun r700 =>
        bif room (Arr.n a + (1 : Nat)) then lift_Doors_l15 N n br (w64 ((t : Int) + 1)) r700 false (lst intC (Arr.n a + (1 : Nat)) (catC (Arr.n a) (Cod.cell intC (Arr.f a)) (litC [SV.int IntKind.i64 (0 : Int)] [[SV.int IntKind.i64 (lift_leaf.f_at r700)]]))) k
        else Option.none)) = k b' a' := by
      rw [Contains_eq (by omega) (by omega), tick_eq N hd h3]
      simp only [hr, cond_true, w64_succ (show t < 1000000000000 by omega)]
      exact h5 k
    cases t with
    | zero => exact key
    | succ t =>
      have e1 : (((t + 1 : Nat) : Int) == 0) = false := by simp; omega
      have e2 : decide (lift_leaf.f_at (leafOf d (dSt d.Wide d.Wait br (t + 1))) > 0) = true := by
        rw [decide_eq_true_eq]
        exact hm.before (t + 1) (by omega) (by omega)
      simp only [e1, e2, cond_false, cond_true]
      exact key

/-- How the document tells what a door does. -/
def dRel (s : Int × Int × Int) (ph lf : Int) : Prop :=
  (s.2.1 = 0 ∧ ph = 0) ∨ (s.2.1 = 1 ∧ ph = 1 ∧ lf = s.2.2) ∨ (s.2.1 = 2 ∧ (ph = 2 ∨ (ph = 1 ∧ lf = 0)))

end

/-! ### Doors -/
open Classical in
noncomputable def doorsE (d : api_Door) (br : Arr Int) : Int := if VD d then if brP br then 0 else 1 else 51
open Classical in
noncomputable def doorsN (d : api_Door) (br : Arr Int) : Nat := if h : doorsE d br = 0 ∧ ∃ n, DN d.Wide d.Wait br n then Classical.choose h.2 else 0
noncomputable def doorsF (d : api_Door) (br : Arr Int) : Nat → Int := fun i => (dSt d.Wide d.Wait br (i + 1)).1

theorem doorsE_zero {d : api_Door} {br : Arr Int} : doorsE d br = 0 ↔ VD d ∧ brP br := by
  unfold doorsE
  by_cases h : VD d <;> by_cases h2 : brP br <;> simp [h, h2]

theorem doors_all {d : api_Door} {br : Arr Int} (h : VD d) (hb : brP br) : DN d.Wide d.Wait br (doorsN d br) ∧ (doorsN d br : Int) ≤ dwellS d br.n ∧ (doorsN d br : Int) ≤ 7000 := by
  obtain ⟨n, h1, h2⟩ := dn_ex h.w1 h.t1 (bG_up hb.1)
  have e := doorsE_zero.2 ⟨h, hb⟩
  have h3 : DN d.Wide d.Wait br (doorsN d br) := by
    unfold doorsN
    rw [dif_pos ⟨e, n, h1⟩]
    exact Classical.choose_spec (⟨n, h1⟩ : ∃ n, DN d.Wide d.Wait br n)
  have h4 := dn_unique h1 h3
  subst h4
  refine ⟨h1, ?_⟩
  rw [phi0] at h2
  have h5 := cntB_bounds br.f 0 br.n
  have h6 := hb.2
  obtain ⟨w1, w2, t1, t2⟩ := id h
  have e1 : stepS d.Wide d.Wait = 2 * d.Wide + d.Wait - 2 := by unfold stepS; omega
  have h7 : cntB br.f 0 br.n * stepS d.Wide d.Wait ≤ (br.n : Int) * stepS d.Wide d.Wait := Int.mul_le_mul_of_nonneg_right h5.2 (by omega)
  have h8 := dwell_bounds h (n := (br.n : Int)) (by omega) h6
  rw [e1] at h2 h7
  unfold dwellS
  omega

theorem Doors_eq {N : Nat} (hN : 10000 ≤ N) (d : api_Door) (br : Arr Int) (hn : br.n ≤ 1000000) (hNn : br.n < N) :
    ∃ (b : Bool) (a : Arr Int), a.Is (doorsN d br) (doorsF d br) ∧ ∀ {R : Type} (k : Int → Bool → Arr Int → Option R), lift_Doors N d br k = k (doorsE d br) b a := by
  classical
  by_cases h : VD d
  rotate_left
  · have e : doorsE d br = 51 := by unfold doorsE; rw [if_neg h]
    refine ⟨true, emI, by unfold doorsN; rw [dif_neg (fun hh => by omega)]; exact Arr.Is.zero, fun k => ?_⟩
    rw [lift_Doors_def]
    unfold lift_Doors_m
    rw [checkDoor_eq, doorV_ne h, e]
    rfl
  by_cases hb : brP br
  · have e := doorsE_zero.2 ⟨h, hb⟩
    obtain ⟨h1, h2, h3⟩ := doors_all h hb
    have h4 := hb.2
    obtain ⟨b, a, h5, h6⟩ := Doors_l15_eq h (bG_up hb.1) (by omega) (show 1000 < N by omega) h1 (by omega) (doorsN d br) 0 N true emI (by omega) (by omega) Arr.Is.zero
    refine ⟨b, a, h5, fun {R} k => ?_⟩
    rw [lift_Doors_def]
    unfold lift_Doors_m
    rw [checkDoor_eq, doorV_pos h, e]
    have e2 : decide ((br.n : Int) > 20) = false := by simp; omega
    simp only [bne_self_eq_false, cond_false, e2]
    refine Eq.trans (Doors_l7_eq N d (by omega) _ _ br.n 0 N (by omega) (by omega) (Int.le_refl _) (by show (-1 : Int) ≤ 100000; omega)) ?_
    rw [if_pos hb.1]
    exact h6 (fun r q => k 0 r q)
  · have e : doorsE d br = 1 := by unfold doorsE; rw [if_pos h, if_neg hb]
    refine ⟨true, emI, by unfold doorsN; rw [dif_neg (fun hh => by omega)]; exact Arr.Is.zero, fun {R} k => ?_⟩
    rw [lift_Doors_def]
    unfold lift_Doors_m
    rw [checkDoor_eq, doorV_pos h, e]
    simp only [bne_self_eq_false, cond_false]
    by_cases h2 : (br.n : Int) > 20
    · simp only [h2, decide_true, cond_true]; rfl
    · simp only [h2, decide_false, cond_false]
      refine Eq.trans (Doors_l7_eq N d (by omega) _ _ br.n 0 N (by omega) (by omega) (Int.le_refl _) (by show (-1 : Int) ≤ 100000; omega)) ?_
      rw [if_neg (fun g => hb ⟨g, by omega⟩)]

end Li
end Go.Proofs.Ytpillmoddoccfab
