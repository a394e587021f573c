/-
  Lift: Doors of the program and of the document.
-/
import Derived.Test.YtceeaimmelaenaaP11
set_option linter.unusedVariables false
set_option linter.unusedSimpArgs false
namespace Go.Proofs.Ytceeaimmelaenaa
open Go.Sx

/-! ### Breaks that are right -/
def pB (br : Arr Int) : Nat → Int
  | 0 => -1
  | i + 1 => br.f i
def bG (br : Arr Int) (i : Nat) : Prop := ∀ j, i ≤ j → j < br.n → pB br j + 1 ≤ br.f j ∧ br.f j ≤ 100000
def brP (br : Arr Int) : Prop := bG br 0 ∧ (br.n : Int) ≤ 20

theorem bG_step {br : Arr Int} {i : Nat} (h : pB br i + 1 ≤ br.f i ∧ br.f i ≤ 100000) : bG br i ↔ bG br (i + 1) := by
  constructor
  · intro g j h1 h2; exact g j (by omega) h2
  · intro g j h1 h2
    by_cases e : j = i
    · subst e; exact h
    · exact g j (by omega) h2

theorem bG_up {br : Arr Int} (h : bG br 0) : upB br := by
  intro i j hij hj
  induction j with
  | zero => omega
  | succ j ih =>
    have h1 := (h (j + 1) (by omega) hj).1
    have e : pB br (j + 1) = br.f j := rfl
    by_cases e2 : i = j
    · subst e2; omega
    · have := ih (by omega) (by omega); omega
theorem bG_nonneg {br : Arr Int} (h : bG br 0) : ∀ j, j < br.n → 0 ≤ br.f j := by
  intro j
  induction j with
  | zero => intro hj; have := (h 0 (by omega) hj).1; have e : pB br 0 = -1 := rfl; omega
  | succ j ih =>
    intro hj
    have h1 := (h (j + 1) (by omega) hj).1
    have e : pB br (j + 1) = br.f j := rfl
    have := ih (by omega)
    omega

section
variable {R : Type}

open Classical in
theorem Doors_l7_eq (N : Nat) (d : api_Door) {br : Arr Int} (hn : br.n ≤ 1000000) (kr : Int → Bool → Arr Int → Option R) (k0 : Unit → Option R) : ∀ (r i n : Nat), i + r = br.n → r < n → -1 ≤ pB br i → pB br i ≤ 100000 →
    lift_Doors_l7 N n br br (br.n : Int) (i : Int) d kr k0 = if bG br i then k0 () else kr 1 true emI := by
  intro r
  induction r with
  | zero =>
    intro i n h1 h2 h3 h4
    obtain ⟨n, rfl⟩ : ∃ m, n = m + 1 := ⟨n - 1, by omega⟩
    unfold lift_Doors_l7 lift_Doors_b7
    have e1 : decide ((i : Int) < (br.n : Int)) = false := by simp; omega
    have g : bG br i := fun j h5 h6 => by omega
    rw [if_pos g]
    simp only [e1, cond_false]
  | succ r ih =>
    intro i n h1 h2 h3 h4
    obtain ⟨n, rfl⟩ : ∃ m, n = m + 1 := ⟨n - 1, by omega⟩
    unfold lift_Doors_l7 lift_Doors_b7
    have e1 : decide ((i : Int) < (br.n : Int)) = true := by simp; omega
    simp only [e1, nat_nonneg, Bool.and_self, cond_true, Int.toNat_natCast, w64_succ (show i < 1000000000000 by omega), between_eq]
    by_cases hb : 0 ≤ br.f i ∧ br.f i ≤ 100000
    · simp only [hb, and_self, decide_true, Bool.not_true, cond_false]
      cases i with
      | zero =>
        have e2 : decide (((0 : Nat) : Int) > 0) = false := rfl
        have e : pB br 0 = -1 := rfl
        simp only [e2, cond_false]
        have := ih 1 n (by omega) (by omega) (by show -1 ≤ br.f 0; omega) (by show br.f 0 ≤ 100000; omega)
        rw [this]
        simp only [bG_step (br := br) (i := 0) ⟨by omega, hb.2⟩]
      | succ i =>
        have e2 : decide (((i + 1 : Nat) : Int) > 0) = true := by rw [decide_eq_true_eq]; omega
        have e3 : w64 (((i + 1 : Nat) : Int) - 1) = (i : Int) := by rw [w64_eq (by omega) (by omega)]; omega
        have e4 : decide ((i : Int) < (br.n : Int)) = true := by simp; omega
        have e : pB br (i + 1) = br.f i := rfl
        simp only [e2, cond_true, e3, nat_nonneg, e4, Bool.and_self, Int.toNat_natCast]
        by_cases hc : br.f (i + 1) ≤ br.f i
        · simp only [hc, decide_true, cond_true]
          rw [if_neg (fun g => by have := (g (i + 1) (Nat.le_refl _) (by omega)).1; omega)]
          rfl
        · simp only [hc, decide_false, cond_false]
          have := ih (i + 1 + 1) n (by omega) (by omega) (by show -1 ≤ br.f (i + 1); omega) (by show br.f (i + 1) ≤ 100000; omega)
          rw [this]
          simp only [bG_step (br := br) (i := i + 1) ⟨by omega, hb.2⟩]
    · simp only [hb, decide_false, Bool.not_false, cond_true]
      rw [if_neg (fun g => by have := g i (Nat.le_refl _) (by omega); omega)]
      rfl

open Classical in
theorem Breaks_l3_eq (N : Nat) {br : Arr Int} (hn : br.n ≤ 1000000) (kr : Bool → Option R) (k0 : Unit → Option R) : ∀ (r i n : Nat), i + r = br.n → r < n → -1 ≤ pB br i → pB br i ≤ 100000 →
    newelref05_Breaks_l3 N n br (pB br i) (i : Int) kr k0 = if bG br i then k0 () else kr false := by
  intro r
  induction r with
  | zero =>
    intro i n h1 h2 h3 h4
    obtain ⟨n, rfl⟩ : ∃ m, n = m + 1 := ⟨n - 1, by omega⟩
    unfold newelref05_Breaks_l3 newelref05_Breaks_b3
    have e1 : decide ((i : Int) < (br.n : Int)) = false := by simp; omega
    have g : bG br i := fun j h5 h6 => by omega
    rw [if_pos g]
    simp only [e1, cond_false]
  | succ r ih =>
    intro i n h1 h2 h3 h4
    obtain ⟨n, rfl⟩ : ∃ m, n = m + 1 := ⟨n - 1, by omega⟩
    unfold newelref05_Breaks_l3 newelref05_Breaks_b3
    have e1 : decide ((i : Int) < (br.n : Int)) = true := by simp; omega
    simp only [e1, nat_nonneg, Bool.and_self, cond_true, Int.toNat_natCast, w64_succ (show i < 1000000000000 by omega), within_eq]
    rw [w64_eq (n := pB br i + 1) (by omega) (by omega)]
    by_cases hb : pB br i + 1 ≤ br.f i ∧ br.f i ≤ 100000
    · simp only [hb, and_self, decide_true, Bool.not_true, cond_false]
      have := ih (i + 1) n (by omega) (by omega) (by show -1 ≤ br.f i; omega) (by show br.f i ≤ 100000; omega)
      rw [show pB br (i + 1) = br.f i from rfl] at this
      rw [this]
      simp only [bG_step hb]
    · simp only [hb, decide_false, Bool.not_false, cond_true]
      rw [if_neg (fun g => hb (g i (Nat.le_refl _) (by omega)))]

open Classical in
theorem Breaks_eq {N : Nat} {br : Arr Int} (hn : br.n ≤ 1000000) (hN : br.n < N) (k : Bool → Option R) : newelref05_Breaks N br k = k (decide (brP br)) := by
  rw [newelref05_Breaks_def]
  unfold newelref05_Breaks_m
  have := Breaks_l3_eq N hn (fun r663 => k r663) (fun (_ : Unit) => k (decide ((br.n : Int) ≤ 20))) br.n 0 N (by omega) hN (Int.le_refl _) (by show (-1 : Int) ≤ 100000; omega)
  refine Eq.trans this ?_
  unfold brP
  by_cases h : bG br 0
  · rw [if_pos h]
    by_cases h2 : (br.n : Int) ≤ 20 <;> simp [h, h2]
  · rw [if_neg h]; simp [h]

/-! ### The ticks -/

theorem Doors_l15_eq {N : Nat} {d : api_Door} (hd : VD d) {br : Arr Int} (hu : upB br) (hn : br.n ≤ 1000) (hN : 1000 < N) {m : Nat} (hm : DN d.Wide d.Wait br m) (hm2 : m ≤ 100000) : ∀ (r t n : Nat) (b : Bool) (a : Arr Int), t + r = m → r < n → a.Is t (fun i => (dSt d.Wide d.Wait br (i + 1)).1) →
    ∃ (b' : Bool) (a' : Arr Int), a'.Is m (fun i => (dSt d.Wide d.Wait br (i + 1)).1) ∧ ∀ {R : Type} (k : Bool → Arr Int → Option R), lift_Doors_l15 N n br (t : Int) (leafOf d (dSt d.Wide d.Wait br t)) b a k = k b' a' := by
  have hpos := hm.pos
  intro r
  induction r with
  | zero =>
    intro t n b a h1 h2 ha
    obtain ⟨n, rfl⟩ : ∃ m, n = m + 1 := ⟨n - 1, by omega⟩
    have : t = m := by omega
    subst this
    refine ⟨b, a, ha, fun k => ?_⟩
    unfold lift_Doors_l15 lift_Doors_b15
    have e1 : ((t : Int) == 0) = false := by simp; omega
    have e2 : decide (lift_leaf.f_at (leafOf d (dSt d.Wide d.Wait br t)) > 0) = false := by
      show decide ((dSt d.Wide d.Wait br t).1 > 0) = false
      rw [hm.zero]; rfl
    simp only [e1, e2, cond_false]
  | succ r ih =>
    intro t n b a h1 h2 ha
    obtain ⟨n, rfl⟩ : ∃ m, n = m + 1 := ⟨n - 1, by omega⟩
    obtain ⟨h3, _⟩ := dSt_run hd.w1 hd.t1 hu t (fun j j1 j2 => hm.before j j1 (by omega))
    have ha' := ha.push_int (z := [SV.int IntKind.i64 0]) (v := (dSt d.Wide d.Wait br (t + 1)).1) rfl
    obtain ⟨b', a', h4, h5⟩ := ih (t + 1) n false _ (by omega) (by omega) ha'
    refine ⟨b', a', h4, fun {R} k => ?_⟩
    unfold lift_Doors_l15 lift_Doors_b15
    have hr : room (a.n + 1) = true := room_of (by rw [ha.len]; omega)
    have key : slices_Contains___int_int_ N br (t : Int) (fun r691 => lift_leaf_tick N r691 (leafOf d (dSt d.Wide d.Wait br t)) (fun r700 =>
        bif room (Arr.n a + (1 : Nat)) then lift_Doors_l15 N n br (w64 ((t : Int) + 1)) r700 false (lst intC (Arr.n a + (1 : Nat)) (catC (Arr.n a) (Cod.cell intC (Arr.f a)) (litC [SV.int IntKind.i64 (0 : Int)] [[SV.int IntKind.i64 (lift_leaf.f_at r700)]]))) k
        else Option.none)) = k b' a' := by
      rw [Contains_eq (by omega) (by omega), tick_eq N hd h3]
      simp only [hr, cond_true, w64_succ (show t < 1000000000000 by omega)]
      exact h5 k
    cases t with
    | zero => exact key
    | succ t =>
      have e1 : (((t + 1 : Nat) : Int) == 0) = false := by simp; omega
      have e2 : decide (lift_leaf.f_at (leafOf d (dSt d.Wide d.Wait br (t + 1))) > 0) = true := by
        rw [decide_eq_true_eq]
        exact hm.before (t + 1) (by omega) (by omega)
      simp only [e1, e2, cond_false, cond_true]
      exact key

/-- How the document tells what a door does. -/
def dRel (s : Int × Int × Int) (ph lf : Int) : Prop :=
  (s.2.1 = 0 ∧ ph = 0) ∨ (s.2.1 = 1 ∧ ph = 1 ∧ lf = s.2.2) ∨ (s.2.1 = 2 ∧ (ph = 2 ∨ (ph = 1 ∧ lf = 0)))

end

open Classical in
theorem ref_b9 {N : Nat} {d : api_Door} (hd : VD d) {br : Arr Int} (hn : br.n ≤ 1000) (hN : 1000 < N) {s : Int × Int × Int} (h : DV d.Wide d.Wait s) {ph lf : Int} (hr : dRel s ph lf) (t : Int) (b : Bool) (a : Arr Int) (ha : a.n ≤ 1000000) :
    ∃ lf' ph', dRel (dStep d.Wide d.Wait (decide (isBr br t)) s) ph' lf' ∧ ∀ {R : Type} (rc : Arr Int → Int → Int → Int → Int → api_Door → Bool → Arr Int → Option R) (kr : Int → Bool → Arr Int → Option R),
      newelref05_Doors_b9 N rc br s.1 lf ph t d b a kr = bif (dStep d.Wide d.Wait (decide (isBr br t)) s).1 == 0 then kr 0 false (pushI a (dStep d.Wide d.Wait (decide (isBr br t)) s).1)
        else rc br (dStep d.Wide d.Wait (decide (isBr br t)) s).1 lf' ph' (w64 (t + 1)) d false (pushI a (dStep d.Wide d.Wait (decide (isBr br t)) s).1) := by
  obtain ⟨w1, w2, t1, t2⟩ := id hd
  obtain ⟨x, p, l⟩ := s
  have hroom : room (a.n + 1) = true := room_of (by omega)
  have z0 : ((0 : Int) != 0) = false := rfl
  have z1 : ((1 : Int) != 0) = true := rfl
  have z2 : ((2 : Int) != 0) = true := rfl
  have y0 : ((0 : Int) == 0) = true := rfl
  have y6 : ((0 : Int) == 1) = false := rfl
  have y1 : ((1 : Int) == 0) = false := rfl
  have y2 : ((2 : Int) == 0) = false := rfl
  have y3 : ((2 : Int) == 1) = false := rfl
  have y4 : ((1 : Int) == 1) = true := rfl
  have y5 : ((2 : Int) == 2) = true := rfl
  have n1 : ¬ ((1 : Int) = 0) := by omega
  have n2 : ¬ ((2 : Int) = 0) := by omega
  have n3 : ¬ ((2 : Int) = 1) := by omega
  generalize hbb : decide (isBr br t) = bb
  unfold DV at h
  unfold dRel at hr
  simp only at h hr
  rcases h with ⟨h1, h2, h3⟩ | ⟨h1, h2, h3, h4⟩ | ⟨h1, h2, h3⟩
  · -- opens
    subst h1
    have hp : ph = 0 := by omega
    subst hp
    have e : w64 (x + 1) = x + 1 := w64_eq (by omega) (by omega)
    have hs : dStep d.Wide d.Wait bb (x, 0, l) = if x + 1 = d.Wide then dHold d.Wait (x + 1) else (x + 1, 0, l) := by
      unfold dStep
      rw [show dBrk d.Wide d.Wait bb (x, 0, l) = (x, 0, l) by unfold dBrk; rw [if_neg (fun h => h.2 rfl)]]
      unfold dMv
      simp only [if_true]
    rw [hs]
    have hx : (x + 1 == 0) = false := by simp; omega
    by_cases hw : x + 1 = d.Wide
    · have hw' : (x + 1 == d.Wide) = true := by simpa using hw
      rw [if_pos hw]
      refine ⟨d.Wait, 1, ?_, fun rc kr => ?_⟩
      · unfold dRel dHold
        by_cases ht : d.Wait = 0 <;> simp [ht]
      · unfold newelref05_Doors_b9
        simp only [z0, y0, y6, cond_true, cond_false, e, hw', hroom, hx]
        have : (dHold d.Wait (x + 1)).1 = x + 1 := rfl
        rw [this]
        simp only [hx, cond_false]
        rfl
    · have hw' : (x + 1 == d.Wide) = false := by simpa using hw
      rw [if_neg hw]
      refine ⟨lf, 0, ?_, fun rc kr => ?_⟩
      · unfold dRel; simp
      · unfold newelref05_Doors_b9
        simp only [z0, y0, y6, cond_true, cond_false, e, hw', hroom, hx]
        rfl
  · -- waits
    subst h1
    have hp : ph = 1 ∧ lf = l := by omega
    obtain ⟨rfl, rfl⟩ := hp
    cases bb with
    | false =>
      have hs : dStep d.Wide d.Wait false (x, 1, lf) = (x, (if lf - 1 = 0 then 2 else 1), lf - 1) := by
        unfold dStep
        rw [show dBrk d.Wide d.Wait false (x, 1, lf) = (x, 1, lf) from rfl]
        unfold dMv
        simp only [n1, if_false, if_true]
      rw [hs]
      have e : w64 (lf - 1) = lf - 1 := w64_eq (by omega) (by omega)
      have hl : (lf == 0) = false := by simp; omega
      have hx : (x == 0) = false := by simp; omega
      refine ⟨lf - 1, 1, ?_, fun rc kr => ?_⟩
      · unfold dRel
        by_cases hc : lf - 1 = 0
        · simp [hc]
        · simp [hc]
      · unfold newelref05_Doors_b9
        simp only [z1, cond_true, broken_eq (N := N) (br := br) (by omega) (by omega), hbb, cond_false, y4, hl, y1, hroom, hx, e]
        rfl
    | true =>
      have hs : dStep d.Wide d.Wait true (x, 1, lf) = (x, (if d.Wait - 1 = 0 then 2 else 1), d.Wait - 1) := by
        unfold dStep
        have : dBrk d.Wide d.Wait true (x, 1, lf) = (x, 1, d.Wait) := by
          unfold dBrk
          rw [if_pos ⟨rfl, n1⟩, if_neg (by simp only; omega)]
          unfold dHold
          rw [if_neg (by omega)]
        rw [this]
        unfold dMv
        simp only [n1, if_false, if_true]
      rw [hs]
      have e : w64 (d.Wait - 1) = d.Wait - 1 := w64_eq (by omega) (by omega)
      have hx : (x == 0) = false := by simp; omega
      have hxw : (x == d.Wide) = true := by simpa using h2
      have ht : (d.Wait == 0) = false := by simp; omega
      refine ⟨d.Wait - 1, 1, ?_, fun rc kr => ?_⟩
      · unfold dRel
        by_cases hc : d.Wait - 1 = 0
        · simp [hc]
        · simp [hc]
      · unfold newelref05_Doors_b9
        simp only [z1, cond_true, broken_eq (N := N) (br := br) (by omega) (by omega), hbb, hxw, ht, cond_false, hroom, hx, e]
        rfl
  · -- closes
    subst h1
    have hp : ph = 2 ∨ (ph = 1 ∧ lf = 0) := by omega
    have e : w64 (x - 1) = x - 1 := w64_eq (by omega) (by omega)
    have e1 : w64 (x + 1) = x + 1 := w64_eq (by omega) (by omega)
    have hz : (ph != 0) = true := by rcases hp with h | h <;> simp <;> omega
    cases bb with
    | false =>
      have hs : dStep d.Wide d.Wait false (x, 2, l) = (x - 1, 2, l) := by
        unfold dStep
        rw [show dBrk d.Wide d.Wait false (x, 2, l) = (x, 2, l) from rfl]
        unfold dMv
        simp only [n2, n3, if_false]
      rw [hs]
      refine ⟨lf, 2, ?_, fun rc kr => ?_⟩
      · unfold dRel; simp
      · unfold newelref05_Doors_b9
        rcases hp with rfl | ⟨rfl, rfl⟩
        · simp only [z2, cond_true, broken_eq (N := N) (br := br) (by omega) (by omega), hbb, cond_false, y2, y3, y5, hroom, e]
          rfl
        · simp only [z1, cond_true, broken_eq (N := N) (br := br) (by omega) (by omega), hbb, cond_false, y4, y0, hroom, e]
          rfl
    | true =>
      by_cases hxw : x < d.Wide
      · have hs : dStep d.Wide d.Wait true (x, 2, l) = if x + 1 = d.Wide then dHold d.Wait (x + 1) else (x + 1, 0, l) := by
          unfold dStep
          have : dBrk d.Wide d.Wait true (x, 2, l) = (x, 0, l) := by
            unfold dBrk
            rw [if_pos ⟨rfl, n2⟩, if_pos (by simp only; omega)]
          rw [this]
          unfold dMv
          simp only [if_true]
        rw [hs]
        have hx : (x + 1 == 0) = false := by simp; omega
        have hxe : (x == d.Wide) = false := by simp; omega
        by_cases hw : x + 1 = d.Wide
        · have hw' : (x + 1 == d.Wide) = true := by simpa using hw
          rw [if_pos hw]
          refine ⟨d.Wait, 1, ?_, fun rc kr => ?_⟩
          · unfold dRel dHold
            by_cases ht : d.Wait = 0 <;> simp [ht]
          · unfold newelref05_Doors_b9
            simp only [hz, cond_true, broken_eq (N := N) (br := br) (by omega) (by omega), hbb, hxe, cond_false, e1, hw', hroom, hx]
            have : (dHold d.Wait (x + 1)).1 = x + 1 := rfl
            rw [this]
            simp only [hx, cond_false]
            rfl
        · have hw' : (x + 1 == d.Wide) = false := by simpa using hw
          rw [if_neg hw]
          refine ⟨lf, 0, ?_, fun rc kr => ?_⟩
          · unfold dRel; simp
          · unfold newelref05_Doors_b9
            simp only [hz, cond_true, broken_eq (N := N) (br := br) (by omega) (by omega), hbb, hxe, cond_false, e1, hw', hroom, hx]
            rfl
      · have hxe : (x == d.Wide) = true := by simp; omega
        by_cases ht : d.Wait = 0
        · have hs : dStep d.Wide d.Wait true (x, 2, l) = (x - 1, 2, d.Wait) := by
            unfold dStep
            have : dBrk d.Wide d.Wait true (x, 2, l) = (x, 2, d.Wait) := by
              unfold dBrk
              rw [if_pos ⟨rfl, n2⟩, if_neg (by simp only; omega)]
              unfold dHold
              rw [if_pos ht]
            rw [this]
            unfold dMv
            simp only [n2, n3, if_false]
          rw [hs]
          have ht' : (d.Wait == 0) = true := by simpa using ht
          refine ⟨d.Wait, 2, ?_, fun rc kr => ?_⟩
          · unfold dRel; simp
          · unfold newelref05_Doors_b9
            simp only [hz, cond_true, broken_eq (N := N) (br := br) (by omega) (by omega), hbb, hxe, ht', hroom, e]
            rfl
        · have hs : dStep d.Wide d.Wait true (x, 2, l) = (x, (if d.Wait - 1 = 0 then 2 else 1), d.Wait - 1) := by
            unfold dStep
            have : dBrk d.Wide d.Wait true (x, 2, l) = (x, 1, d.Wait) := by
              unfold dBrk
              rw [if_pos ⟨rfl, n2⟩, if_neg (by simp only; omega)]
              unfold dHold
              rw [if_neg ht]
            rw [this]
            unfold dMv
            simp only [n1, if_false, if_true]
          rw [hs]
          have et : w64 (d.Wait - 1) = d.Wait - 1 := w64_eq (by omega) (by omega)
          have ht' : (d.Wait == 0) = false := by simpa using ht
          have hx : (x == 0) = false := by simp; omega
          refine ⟨d.Wait - 1, 1, ?_, fun rc kr => ?_⟩
          · unfold dRel
            by_cases hc : d.Wait - 1 = 0
            · simp [hc]
            · simp [hc]
          · unfold newelref05_Doors_b9
            simp only [hz, cond_true, broken_eq (N := N) (br := br) (by omega) (by omega), hbb, hxe, ht', cond_false, hroom, hx, et]
            rfl

theorem refDoors_l9_eq {N : Nat} {d : api_Door} (hd : VD d) {br : Arr Int} (hu : upB br) (hn : br.n ≤ 1000) (hN : 1000 < N) {m : Nat} (hm : DN d.Wide d.Wait br m) (hm2 : m ≤ 100000) : ∀ (r t n : Nat) (b : Bool) (a : Arr Int) (ph lf : Int), t + 1 + r = m → r < n → dRel (dSt d.Wide d.Wait br t) ph lf → a.Is t (fun i => (dSt d.Wide d.Wait br (i + 1)).1) →
    ∃ (a' : Arr Int), a'.Is m (fun i => (dSt d.Wide d.Wait br (i + 1)).1) ∧ ∀ {R : Type} (k : Int → Bool → Arr Int → Option R), newelref05_Doors_l9 N n br (dSt d.Wide d.Wait br t).1 lf ph (t : Int) d b a k = k 0 false a' := by
  intro r
  induction r with
  | zero =>
    intro t n b a ph lf h1 h2 hr ha
    obtain ⟨n, rfl⟩ : ∃ m, n = m + 1 := ⟨n - 1, by omega⟩
    obtain ⟨h3, _⟩ := dSt_run hd.w1 hd.t1 hu t (fun j j1 j2 => hm.before j j1 (by omega))
    obtain ⟨lf', ph', h4, h5⟩ := ref_b9 hd hn hN h3 hr (t : Int) b a (by rw [ha.len]; omega)
    have ha' := ha.push_int (z := [SV.int IntKind.i64 0]) (v := (dSt d.Wide d.Wait br (t + 1)).1) rfl
    have e : t + 1 = m := by omega
    rw [e] at ha'
    refine ⟨_, ha', fun {R} k => ?_⟩
    unfold newelref05_Doors_l9
    rw [h5]
    have hz := hm.zero
    rw [← e] at hz ⊢
    change (dStep d.Wide d.Wait _ (dSt d.Wide d.Wait br t)).1 = 0 at hz
    show (bif (dStep d.Wide d.Wait _ (dSt d.Wide d.Wait br t)).1 == 0 then _ else _) = _
    simp only [hz]
    show k 0 false _ = k 0 false _
    congr 1
    show _ = pushI a (dStep d.Wide d.Wait _ (dSt d.Wide d.Wait br t)).1
    rw [hz]
  | succ r ih =>
    intro t n b a ph lf h1 h2 hr ha
    obtain ⟨n, rfl⟩ : ∃ m, n = m + 1 := ⟨n - 1, by omega⟩
    obtain ⟨h3, _⟩ := dSt_run hd.w1 hd.t1 hu t (fun j j1 j2 => hm.before j j1 (by omega))
    obtain ⟨lf', ph', h4, h5⟩ := ref_b9 hd hn hN h3 hr (t : Int) b a (by rw [ha.len]; omega)
    have ha' := ha.push_int (z := [SV.int IntKind.i64 0]) (v := (dSt d.Wide d.Wait br (t + 1)).1) rfl
    obtain ⟨a', h6, h7⟩ := ih (t + 1) n false _ ph' lf' (by omega) (by omega) h4 ha'
    refine ⟨a', h6, fun {R} k => ?_⟩
    unfold newelref05_Doors_l9
    rw [h5]
    have hb := hm.before (t + 1) (by omega) (by omega)
    have hz : ((dSt d.Wide d.Wait br (t + 1)).1 == 0) = false := by simp; omega
    refine Eq.trans (cond_neg hz _ _) ?_
    rw [w64_succ (show t < 1000000000000 by omega)]
    exact h7 k

/-! ### Doors -/
open Classical in
noncomputable def doorsE (d : api_Door) (br : Arr Int) : Int := if VD d then if brP br then 0 else 1 else 51
open Classical in
noncomputable def doorsN (d : api_Door) (br : Arr Int) : Nat := if h : doorsE d br = 0 ∧ ∃ n, DN d.Wide d.Wait br n then Classical.choose h.2 else 0
noncomputable def doorsF (d : api_Door) (br : Arr Int) : Nat → Int := fun i => (dSt d.Wide d.Wait br (i + 1)).1

theorem doorsE_zero {d : api_Door} {br : Arr Int} : doorsE d br = 0 ↔ VD d ∧ brP br := by
  unfold doorsE
  by_cases h : VD d <;> by_cases h2 : brP br <;> simp [h, h2]

theorem doors_all {d : api_Door} {br : Arr Int} (h : VD d) (hb : brP br) : DN d.Wide d.Wait br (doorsN d br) ∧ (doorsN d br : Int) ≤ dwellS d br.n ∧ (doorsN d br : Int) ≤ 7000 := by
  obtain ⟨n, h1, h2⟩ := dn_ex h.w1 h.t1 (bG_up hb.1)
  have e := doorsE_zero.2 ⟨h, hb⟩
  have h3 : DN d.Wide d.Wait br (doorsN d br) := by
    unfold doorsN
    rw [dif_pos ⟨e, n, h1⟩]
    exact Classical.choose_spec (⟨n, h1⟩ : ∃ n, DN d.Wide d.Wait br n)
  have h4 := dn_unique h1 h3
  subst h4
  refine ⟨h1, ?_⟩
  rw [phi0] at h2
  have h5 := cntB_bounds br.f 0 br.n
  have h6 := hb.2
  obtain ⟨w1, w2, t1, t2⟩ := id h
  have e1 : stepS d.Wide d.Wait = 2 * d.Wide + d.Wait - 2 := by unfold stepS; omega
  have h7 : cntB br.f 0 br.n * stepS d.Wide d.Wait ≤ (br.n : Int) * stepS d.Wide d.Wait := Int.mul_le_mul_of_nonneg_right h5.2 (by omega)
  have h8 := dwell_bounds h (n := (br.n : Int)) (by omega) h6
  rw [e1] at h2 h7
  unfold dwellS
  omega

theorem Doors_eq {N : Nat} (hN : 10000 ≤ N) (d : api_Door) (br : Arr Int) (hn : br.n ≤ 1000000) (hNn : br.n < N) :
    ∃ (b : Bool) (a : Arr Int), a.Is (doorsN d br) (doorsF d br) ∧ ∀ {R : Type} (k : Int → Bool → Arr Int → Option R), lift_Doors N d br k = k (doorsE d br) b a := by
  classical
  by_cases h : VD d
  rotate_left
  · have e : doorsE d br = 51 := by unfold doorsE; rw [if_neg h]
    refine ⟨true, emI, by unfold doorsN; rw [dif_neg (fun hh => by omega)]; exact Arr.Is.zero, fun k => ?_⟩
    rw [lift_Doors_def]
    unfold lift_Doors_m
    rw [checkDoor_eq, doorV_ne h, e]
    rfl
  by_cases hb : brP br
  · have e := doorsE_zero.2 ⟨h, hb⟩
    obtain ⟨h1, h2, h3⟩ := doors_all h hb
    have h4 := hb.2
    obtain ⟨b, a, h5, h6⟩ := Doors_l15_eq h (bG_up hb.1) (by omega) (show 1000 < N by omega) h1 (by omega) (doorsN d br) 0 N true emI (by omega) (by omega) Arr.Is.zero
    refine ⟨b, a, h5, fun {R} k => ?_⟩
    rw [lift_Doors_def]
    unfold lift_Doors_m
    rw [checkDoor_eq, doorV_pos h, e]
    have e2 : decide ((br.n : Int) > 20) = false := by simp; omega
    simp only [bne_self_eq_false, cond_false, e2]
    refine Eq.trans (Doors_l7_eq N d (by omega) _ _ br.n 0 N (by omega) (by omega) (Int.le_refl _) (by show (-1 : Int) ≤ 100000; omega)) ?_
    rw [if_pos hb.1]
    exact h6 (fun r q => k 0 r q)
  · have e : doorsE d br = 1 := by unfold doorsE; rw [if_pos h, if_neg hb]
    refine ⟨true, emI, by unfold doorsN; rw [dif_neg (fun hh => by omega)]; exact Arr.Is.zero, fun {R} k => ?_⟩
    rw [lift_Doors_def]
    unfold lift_Doors_m
    rw [checkDoor_eq, doorV_pos h, e]
    simp only [bne_self_eq_false, cond_false]
    by_cases h2 : (br.n : Int) > 20
    · simp only [h2, decide_true, cond_true]; rfl
    · simp only [h2, decide_false, cond_false]
      refine Eq.trans (Doors_l7_eq N d (by omega) _ _ br.n 0 N (by omega) (by omega) (Int.le_refl _) (by show (-1 : Int) ≤ 100000; omega)) ?_
      rw [if_neg (fun g => hb ⟨g, by omega⟩)]

theorem refDoors_eq {N : Nat} (hN : 10000 ≤ N) (d : api_Door) (br : Arr Int) (hn : br.n ≤ 1000000) (hNn : br.n < N) :
    ∃ (b : Bool) (a : Arr Int), a.Is (doorsN d br) (doorsF d br) ∧ ∀ {R : Type} (k : Int → Bool → Arr Int → Option R), newelref05_Doors N d br k = k (doorsE d br) b a := by
  classical
  by_cases h : VD d
  rotate_left
  · have e : doorsE d br = 51 := by unfold doorsE; rw [if_neg h]
    refine ⟨true, emI, by unfold doorsN; rw [dif_neg (fun hh => by omega)]; exact Arr.Is.zero, fun k => ?_⟩
    rw [newelref05_Doors_def]
    unfold newelref05_Doors_m
    rw [refCheckDoor_eq, doorV_ne h, e]
    rfl
  by_cases hb : brP br
  · have e := doorsE_zero.2 ⟨h, hb⟩
    obtain ⟨h1, h2, h3⟩ := doors_all h hb
    have h4 := hb.2
    have hp := h1.pos
    obtain ⟨a, h5, h6⟩ := refDoors_l9_eq h (bG_up hb.1) (by omega) (show 1000 < N by omega) h1 (by omega) (doorsN d br - 1) 0 N true emI 0 0 (by omega) (by omega) (.inl ⟨rfl, rfl⟩) Arr.Is.zero
    refine ⟨false, a, h5, fun {R} k => ?_⟩
    rw [newelref05_Doors_def]
    unfold newelref05_Doors_m
    rw [refCheckDoor_eq, doorV_pos h, e]
    simp only [bne_self_eq_false, cond_false, Breaks_eq hn hNn, hb, decide_true, Bool.not_true]
    exact h6 (fun s r q => k s r q)
  · have e : doorsE d br = 1 := by unfold doorsE; rw [if_pos h, if_neg hb]
    refine ⟨true, emI, by unfold doorsN; rw [dif_neg (fun hh => by omega)]; exact Arr.Is.zero, fun {R} k => ?_⟩
    rw [newelref05_Doors_def]
    unfold newelref05_Doors_m
    rw [refCheckDoor_eq, doorV_pos h, e]
    simp only [bne_self_eq_false, cond_false, Breaks_eq hn hNn, hb, decide_false, Bool.not_false, cond_true]
    rfl

end Go.Proofs.Ytceeaimmelaenaa
