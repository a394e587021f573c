/-
  Lift: the speeds of a trip; doors' ticks; Turn; the example.
-/
import Derived.Test.YtpillmoddoccfabLiP4
import Derived.Test.YtpillmoddoccfabSxMath
set_option linter.unusedVariables false
set_option linter.unusedSimpArgs false
namespace Go.Proofs.Ytpillmoddoccfab
namespace Li
open Go.Sx

theorem trip_l10_eq {N : Nat} (hN : 1001 ≤ N) {l : api_Lift} (h : SA l.Speed l.Accel) {way : Int} (hw : 0 ≤ way) {t : Nat} (ht : t ≤ 1000) (b : Bool) (a : Arr Int) {R : Type} (k : Int → Option R) : ∀ (m n : Nat), m ≤ 100 → m < n →
    lift_trip_l10 N n way (t : Int) (m : Int) l b a k = k (pick l.Accel way t m) := by
  intro m
  have hA := h.A1
  induction m with
  | zero =>
    intro n h1 h2
    obtain ⟨n, rfl⟩ : ∃ m, n = m + 1 := ⟨n - 1, by omega⟩
    unfold lift_trip_l10 lift_trip_b10
    rw [least_eq hN h (by omega) (by omega) ht, least_zero (by omega) (by omega)]
    have e : decide (w64 (((0 : Nat) : Int) + 0) > way) = false := by rw [w64_eq (by omega) (by omega)]; simp; omega
    simp only [e, cond_false, pick]
    rfl
  | succ m ih =>
    intro n h1 h2
    obtain ⟨n, rfl⟩ : ∃ m, n = m + 1 := ⟨n - 1, by omega⟩
    unfold lift_trip_l10 lift_trip_b10
    have hs := sum_l (A := l.Accel) (v := ((m + 1 : Nat) : Int)) (by omega) (by omega) ht
    rw [least_eq hN h (by omega) (by omega) ht, w64_eq (n := ((m + 1 : Nat) : Int) + _) (by omega) (by omega)]
    simp only [pick]
    by_cases hc : ((m + 1 : Nat) : Int) + leastS l.Accel ((m + 1 : Nat) : Int) t > way
    · have e : w64 (((m + 1 : Nat) : Int) - 1) = (m : Int) := by rw [w64_eq (by omega) (by omega)]; omega
      simp only [hc, decide_true, cond_true, if_true, e]
      exact ih n (by omega) (by omega)
    · simp only [hc, decide_false, cond_false, if_false]

theorem topV_w {S A v : Int} {t : Nat} (h : SA S A) (hv : 0 ≤ v) (hv2 : v ≤ 100) (ht : t ≤ 1000) :
    (if w64 (w64 ((t : Int) + 1) * A) < if w64 (v + A) < S then w64 (v + A) else S then w64 (w64 ((t : Int) + 1) * A) else if w64 (v + A) < S then w64 (v + A) else S) = ((topV S A v t).toNat : Int) := by
  obtain ⟨S1, S2, A1, A2⟩ := id h
  have hk := mul_range (a := (t : Int) + 1) (b := A) (A := 1001) (B := 100) (by omega) (by omega) (by omega) A2
  have := topV_nonneg S1 A1 hv t
  rw [w64_eq (n := (t : Int) + 1) (by omega) (by omega), w64_eq (n := ((t : Int) + 1) * A) (by omega) (by omega), w64_eq (n := v + A) (by omega) (by omega), ifmin]
  unfold topV at *
  omega

theorem trip_l7_eq {N : Nat} (hN : 1001 ≤ N) {l : api_Lift} (h : SA l.Speed l.Accel) {way : Int} {m : Nat} (hm : m ≤ 1000) (hc : Can l.Speed l.Accel 0 m way) : ∀ (r i n : Nat) (b : Bool) (a : Arr Int), i + r = m → r < n → a.Is i (tripE l.Speed l.Accel way m) →
    ∃ (b' : Bool) (a' : Arr Int), a'.Is m (tripE l.Speed l.Accel way m) ∧ ∀ {R : Type} (k : Bool → Arr Int → Option R),
    lift_trip_l7 N n (tripS l.Speed l.Accel way m i).1 (tripS l.Speed l.Accel way m i).2 ((m : Int) - 1 - i) l b a k = k b' a' := by
  intro r
  induction r with
  | zero =>
    intro i n b a h1 h2 ha
    obtain ⟨n, rfl⟩ : ∃ m, n = m + 1 := ⟨n - 1, by omega⟩
    have : i = m := by omega
    subst this
    refine ⟨b, a, ha, fun k => ?_⟩
    unfold lift_trip_l7 lift_trip_b7
    have e : decide ((i : Int) - 1 - i ≥ 0) = false := by simp; omega
    simp only [e, cond_false]
  | succ r ih =>
    intro i n b a h1 h2 ha
    obtain ⟨n, rfl⟩ : ∃ m, n = m + 1 := ⟨n - 1, by omega⟩
    have hn := trip_next hc (show i < m by omega)
    have hcan := trip_can hc i (by omega)
    have ha' := ha.push_int (z := [SV.int IntKind.i64 0]) (v := tripE l.Speed l.Accel way m i) rfl
    obtain ⟨b', a', h3, h4⟩ := ih (i + 1) n false _ (by omega) (by omega) ha'
    refine ⟨b', a', h3, fun k => ?_⟩
    unfold lift_trip_l7 lift_trip_b7
    have e0 : ((m : Int) - 1 - i) = ((m - 1 - i : Nat) : Int) := by omega
    have e : decide (((m - 1 - i : Nat) : Int) ≥ 0) = true := by simp
    have hv1 := hcan.v1
    have hv2 := hcan.v2
    have hS := h.S2
    have hwy : 0 ≤ (tripS l.Speed l.Accel way m i).1 := by have := least_nonneg l.Accel (tripS l.Speed l.Accel way m i).2 (m - i); have := hcan.lo; omega
    have htop : (topV l.Speed l.Accel (tripS l.Speed l.Accel way m i).2 (m - 1 - i)).toNat ≤ 100 := by unfold topV; omega
    rw [e0]
    simp only [e, cond_true, topV_w (t := m - 1 - i) h hv1 (show (tripS l.Speed l.Accel way m i).2 ≤ 100 by omega) (by omega)]
    rw [trip_l10_eq hN h hwy (by omega) b a _ _ N htop (by omega)]
    have hr : room (a.n + 1) = true := room_of (by rw [ha.len]; omega)
    simp only [hr, cond_true]
    have hx1 := hn.w1
    have hx2 := hn.w2
    have hx3 := hn.ok
    have hx4 := least_nonneg l.Accel (tripE l.Speed l.Accel way m i) (m - 1 - i)
    have hway : (tripS l.Speed l.Accel way m i).1 ≤ 100000 := by
      have := hcan.hi
      have := sum_m h hv1 (t := m - i) (k := m - i) (by omega) (by omega)
      unfold mostS at *
      omega
    have e5 : w64 ((tripS l.Speed l.Accel way m i).1 - tripE l.Speed l.Accel way m i) = (tripS l.Speed l.Accel way m (i + 1)).1 := by
      rw [w64_eq (by omega) (by omega)]; rfl
    have e6 : w64 (((m - 1 - i : Nat) : Int) - 1) = (m : Int) - 1 - ((i + 1 : Nat) : Int) := by
      rw [w64_eq (by omega) (by omega)]; omega
    show lift_trip_l7 N n (w64 ((tripS l.Speed l.Accel way m i).1 - tripE l.Speed l.Accel way m i)) (tripE l.Speed l.Accel way m i) (w64 (((m - 1 - i : Nat) : Int) - 1)) l false _ k = _
    rw [e5, e6]
    exact h4 k

theorem trip_eq {N : Nat} (hN : 1001 ≤ N) {l : api_Lift} (h : SA l.Speed l.Accel) {way : Int} (hw : 0 ≤ way) (hw2 : way ≤ 1000) :
    ∃ (b : Bool) (a : Arr Int), a.Is (ticksS l.Speed l.Accel way) (tripE l.Speed l.Accel way (ticksS l.Speed l.Accel way)) ∧ ∀ {R : Type} (k : Bool → Arr Int → Option R), lift_trip N l way k = k b a := by
  obtain ⟨t1, t2, t3⟩ := ticks_spec h.S1 h.A1 hw
  obtain ⟨b, a, h1, h2⟩ := trip_l7_eq hN h (m := ticksS l.Speed l.Accel way) (by omega) (can0 h.S1 h.S2 h.A1 h.A2 hw t2) (ticksS l.Speed l.Accel way) 0 N true (lst intC 0 (zeroC [SV.int IntKind.i64 0])) (by omega) (by omega) Arr.Is.zero
  refine ⟨b, a, h1, fun k => ?_⟩
  rw [lift_trip_def]
  unfold lift_trip_m
  have e := trip_l2_eq hN h (way := way) (R := _) (fun r563 => lift_trip_l7 N N way 0 (w64 (r563 - 1)) l true (lst intC 0 (zeroC [SV.int IntKind.i64 0])) (fun r587 r588 => k r587 r588)) way.toNat 0 N (by omega) (by omega) (by omega)
  refine Eq.trans e ?_
  have e2 : w64 (((ticksS l.Speed l.Accel way : Nat) : Int) - 1) = ((ticksS l.Speed l.Accel way : Nat) : Int) - 1 - ((0 : Nat) : Int) := by rw [w64_eq (by omega) (by omega)]; omega
  show lift_trip_l7 N N way 0 (w64 (((ticksS l.Speed l.Accel way : Nat) : Int) - 1)) l true _ _ = _
  rw [e2]
  exact h2 k

/-! ### Trip -/

def floorsP (l : api_Lift) (a b : Int) : Prop := (0 ≤ a ∧ a ≤ (l.Floors.n : Int) - 1) ∧ (0 ≤ b ∧ b ≤ (l.Floors.n : Int) - 1)
instance (l : api_Lift) (a b : Int) : Decidable (floorsP l a b) := by unfold floorsP; infer_instance
def wayS (l : api_Lift) (a b : Int) : Int := max (l.Floors.f a.toNat - l.Floors.f b.toNat) (l.Floors.f b.toNat - l.Floors.f a.toNat)

theorem way_bounds {l : api_Lift} (h : VL l) {a b : Int} (hp : floorsP l a b) : 0 ≤ wayS l a b ∧ wayS l a b ≤ 1000 := by
  obtain ⟨⟨a1, a2⟩, b1, b2⟩ := hp
  have h1 := h.floor (i := a.toNat) (by omega)
  have h2 := h.floor (i := b.toNat) (by omega)
  have := h.ft
  unfold wayS
  omega

section
variable {R : Type}

theorem distance_eq {N : Nat} {l : api_Lift} (h : VL l) (a b : Int) (k : Int → Bool → Option R) : lift_distance N l a b k = if floorsP l a b then k (wayS l a b) true else k 0 false := by
  rw [lift_distance_def]
  unfold lift_distance_m
  have n1 := h.n1
  have n2 := h.n2
  rw [w64_eq (n := (l.Floors.n : Int) - 1) (by omega) (by omega)]
  simp only [between_eq]
  unfold floorsP
  by_cases ha : 0 ≤ a ∧ a ≤ (l.Floors.n : Int) - 1
  · by_cases hb : 0 ≤ b ∧ b ≤ (l.Floors.n : Int) - 1
    · have f1 := h.floor (i := a.toNat) (by omega)
      have f2 := h.floor (i := b.toNat) (by omega)
      have f3 := h.ft
      have c1 : (decide (0 ≤ a) && decide (a < (l.Floors.n : Int))) = true := by simp; omega
      have c2 : (decide (0 ≤ b) && decide (b < (l.Floors.n : Int))) = true := by simp; omega
      simp only [ha, hb, and_self, decide_true, Bool.not_true, cond_false, if_true]
      rw [cond_pos (by simp; omega), cond_pos (by simp; omega), w64_eq (n := l.Floors.f a.toNat - _) (by omega) (by omega), w64_eq (by omega) (by omega)]
      congr 1
      unfold wayS
      omega
    · simp only [ha, hb, and_self, decide_true, Bool.not_true, cond_false, decide_false, Bool.not_false, cond_true, and_false, if_false]
  · simp only [ha, decide_false, Bool.not_false, cond_true, false_and, if_false]

theorem Floors_eq {N : Nat} {l : api_Lift} (h : VL l) (a b : Int) (k : Bool → Option R) : newelref05_Floors N l a b k = k (decide (floorsP l a b)) := by
  rw [newelref05_Floors_def]
  unfold newelref05_Floors_m
  have n1 := h.n1
  have n2 := h.n2
  rw [w64_eq (n := (l.Floors.n : Int) - 1) (by omega) (by omega)]
  simp only [within_eq]
  unfold floorsP
  by_cases ha : 0 ≤ a ∧ a ≤ (l.Floors.n : Int) - 1 <;> simp [ha]
end

open Classical in
noncomputable def tripErr (l : api_Lift) (a b : Int) : Int := if VL l then if floorsP l a b then 0 else 1 else 50
noncomputable def tripN (l : api_Lift) (a b : Int) : Nat := if tripErr l a b = 0 then ticksS l.Speed l.Accel (wayS l a b) else 0
def tripF (l : api_Lift) (a b : Int) : Nat → Int := tripE l.Speed l.Accel (wayS l a b) (ticksS l.Speed l.Accel (wayS l a b))

theorem tripErr_zero {l : api_Lift} {a b : Int} : tripErr l a b = 0 ↔ VL l ∧ floorsP l a b := by
  unfold tripErr
  by_cases h : VL l <;> by_cases h2 : floorsP l a b <;> simp [h, h2]

theorem Trip_eq {N : Nat} (hN : 1001 ≤ N) (l : api_Lift) (a b : Int) :
    ∃ (f : Bool) (c : Arr Int), c.Is (tripN l a b) (tripF l a b) ∧ ∀ {R : Type} (k : Int → Bool → Arr Int → Option R), lift_Trip N l a b k = k (tripErr l a b) f c := by
  by_cases h : VL l
  · by_cases hp : floorsP l a b
    · have he : tripErr l a b = 0 := tripErr_zero.2 ⟨h, hp⟩
      have hw := way_bounds h hp
      obtain ⟨f, c, h1, h2⟩ := trip_eq hN h.sa hw.1 hw.2
      refine ⟨f, c, by unfold tripN; rw [if_pos he]; exact h1, fun k => ?_⟩
      rw [lift_Trip_def]
      unfold lift_Trip_m
      rw [Check_eq (by omega), checkV_pos h, he]
      simp only [bne_self_eq_false, cond_false, distance_eq h, hp, if_true, Bool.not_true, h2]
    · have he : tripErr l a b = 1 := by unfold tripErr; rw [if_pos h, if_neg hp]
      refine ⟨true, lst intC 0 (zeroC [SV.int IntKind.i64 0]), by unfold tripN; rw [if_neg (by rw [he]; omega)]; exact Arr.Is.zero, fun k => ?_⟩
      rw [lift_Trip_def]
      unfold lift_Trip_m
      rw [Check_eq (by omega), checkV_pos h, he]
      simp only [bne_self_eq_false, cond_false, distance_eq h, hp, if_false, Bool.not_false, cond_true]
  · have he : tripErr l a b = 50 := by unfold tripErr; rw [if_neg h]
    refine ⟨true, lst intC 0 (zeroC [SV.int IntKind.i64 0]), by unfold tripN; rw [if_neg (by rw [he]; omega)]; exact Arr.Is.zero, fun k => ?_⟩
    rw [lift_Trip_def]
    unfold lift_Trip_m
    rw [Check_eq (by omega), checkV_ne h, he]
    rfl

section
variable {R : Type}
end

/-! ### Doors and Turn -/
section
variable {R : Type}

structure VD (d : api_Door) : Prop where
  w1 : 1 ≤ d.Wide
  w2 : d.Wide ≤ 50
  t1 : 0 ≤ d.Wait
  t2 : d.Wait ≤ 200
open Classical in
noncomputable def doorV (d : api_Door) : Int := if VD d then 0 else 51
theorem doorV_pos {d : api_Door} (h : VD d) : doorV d = 0 := by unfold doorV; rw [if_pos h]
theorem doorV_ne {d : api_Door} (h : ¬ VD d) : doorV d = 51 := by unfold doorV; rw [if_neg h]
theorem doorV_zero {d : api_Door} : doorV d = 0 ↔ VD d := by unfold doorV; split <;> simp [*]

theorem checkDoor_eq (N : Nat) (d : api_Door) (k : Int → Option R) : lift_checkDoor N d k = k (doorV d) := by
  rw [lift_checkDoor_def]
  unfold lift_checkDoor_m
  simp only [between_eq]
  by_cases h1 : 1 ≤ d.Wide ∧ d.Wide ≤ 50
  · by_cases h2 : 0 ≤ d.Wait ∧ d.Wait ≤ 200
    · simp only [h1, h2, and_self, decide_true, Bool.not_true, cond_false, doorV_pos ⟨h1.1, h1.2, h2.1, h2.2⟩]
    · rw [doorV_ne (fun h => h2 ⟨h.t1, h.t2⟩)]
      simp only [h1, h2, and_self, decide_true, Bool.not_true, cond_false, decide_false, Bool.not_false, cond_true]
  · rw [doorV_ne (fun h => h1 ⟨h.w1, h.w2⟩)]
    simp only [h1, decide_false, Bool.not_false, cond_true]
theorem refCheckDoor_eq (N : Nat) (d : api_Door) (k : Int → Option R) : newelref05_CheckDoor N d k = k (doorV d) := by
  rw [newelref05_CheckDoor_def]
  unfold newelref05_CheckDoor_m
  simp only [within_eq]
  by_cases h1 : 1 ≤ d.Wide ∧ d.Wide ≤ 50
  · by_cases h2 : 0 ≤ d.Wait ∧ d.Wait ≤ 200
    · simp only [h1, h2, and_self, decide_true, Bool.not_true, cond_false, doorV_pos ⟨h1.1, h1.2, h2.1, h2.2⟩]
    · rw [doorV_ne (fun h => h2 ⟨h.t1, h.t2⟩)]
      simp only [h1, h2, and_self, decide_true, Bool.not_true, cond_false, decide_false, Bool.not_false, cond_true]
  · rw [doorV_ne (fun h => h1 ⟨h.w1, h.w2⟩)]
    simp only [h1, decide_false, Bool.not_false, cond_true]

def dwellS (d : api_Door) (n : Int) : Int := 2 * d.Wide + d.Wait + n * (2 * d.Wide + d.Wait - 2)

theorem dwell_bounds {d : api_Door} (h : VD d) {n : Int} (h1 : 0 ≤ n) (h2 : n ≤ 20) : 0 ≤ n * (2 * d.Wide + d.Wait - 2) ∧ n * (2 * d.Wide + d.Wait - 2) ≤ 20 * 300 :=
  mul_range h1 h2 (by have := h.w1; have := h.t1; omega) (by have := h.w2; have := h.t2; omega)

theorem dwell_eq (N : Nat) {d : api_Door} (h : VD d) {n : Int} (h1 : 0 ≤ n) (h2 : n ≤ 20) (k : Int → Option R) : lift_dwell N d n k = k (dwellS d n) := by
  rw [lift_dwell_def]
  unfold lift_dwell_m
  obtain ⟨a, b, c, e⟩ := id h
  have := dwell_bounds h h1 h2
  rw [w64_eq (n := 2 * d.Wide) (by omega) (by omega), w64_eq (n := 2 * d.Wide + d.Wait) (by omega) (by omega), w64_eq (n := 2 * d.Wide + d.Wait - 2) (by omega) (by omega), w64_eq (n := n * _) (by omega) (by omega), w64_eq (by omega) (by omega)]
  rfl

open Classical in
noncomputable def dwellV (d : api_Door) (n : Int) : Int × Int := if VD d then if 0 ≤ n ∧ n ≤ 20 then (dwellS d n, 0) else (0, 1) else (0, 51)

theorem Dwell_eq (N : Nat) (d : api_Door) (n : Int) (k : Int → Int → Option R) : lift_Dwell N d n k = k (dwellV d n).1 (dwellV d n).2 := by
  rw [lift_Dwell_def]
  unfold lift_Dwell_m
  rw [checkDoor_eq]
  unfold dwellV
  by_cases h : VD d
  · simp only [doorV_pos h, bne_self_eq_false, cond_false, between_eq, h, if_true]
    by_cases hn : 0 ≤ n ∧ n ≤ 20
    · simp only [hn, and_self, decide_true, Bool.not_true, cond_false, if_true, dwell_eq N h hn.1 hn.2]
    · simp only [hn, decide_false, Bool.not_false, cond_true, if_false]
  · simp only [doorV_ne h, h, if_false]
    rfl
open Classical in
noncomputable def turnV (l : api_Lift) (d : api_Door) (a b n : Int) : Int × Int :=
  if VL l then if VD d then if floorsP l a b ∧ (0 ≤ n ∧ n ≤ 20) then (ticksS l.Speed l.Accel (wayS l a b) + dwellS d n, 0) else (0, 1) else (0, 51) else (0, 50)

theorem Turn_eq {N : Nat} (hN : 1001 ≤ N) (l : api_Lift) (d : api_Door) (a b n : Int) (k : Int → Int → Option R) : lift_Turn N l d a b n k = k (turnV l d a b n).1 (turnV l d a b n).2 := by
  rw [lift_Turn_def]
  unfold lift_Turn_m
  rw [Check_eq (by omega)]
  unfold turnV
  by_cases h : VL l
  · by_cases hd : VD d
    · simp only [checkV_pos h, bne_self_eq_false, cond_false, checkDoor_eq, doorV_pos hd, h, hd, if_true, distance_eq h]
      by_cases hp : floorsP l a b
      · simp only [hp, if_true, Bool.not_true, cond_false, between_eq, true_and]
        by_cases hn : 0 ≤ n ∧ n ≤ 20
        · have hw := way_bounds h hp
          obtain ⟨f, c, h1, h2⟩ := trip_eq hN h.sa hw.1 hw.2
          obtain ⟨t1, _⟩ := ticks_spec h.sa.S1 h.sa.A1 hw.1
          have hb := dwell_bounds hd hn.1 hn.2
          obtain ⟨x1, x2, x3, x4⟩ := id hd
          simp only [hn, and_self, decide_true, Bool.not_true, cond_false, if_true, h2, dwell_eq N hd hn.1 hn.2, h1.len]
          unfold dwellS
          rw [w64_eq (by omega) (by omega)]
        · simp only [hn, decide_false, Bool.not_false, cond_true, if_false]
      · simp only [hp, if_false, Bool.not_false, cond_true, false_and]
    · simp only [checkV_pos h, bne_self_eq_false, cond_false, checkDoor_eq, doorV_ne hd, h, hd, if_true, if_false]
      rfl
  · simp only [checkV_ne h, h, if_false]
    rfl

end
end Li
end Go.Proofs.Ytpillmoddoccfab
