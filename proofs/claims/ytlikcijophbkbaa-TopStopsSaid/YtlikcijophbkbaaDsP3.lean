import Derived.Test.YtlikcijophbkbaaDsP2
import Derived.Test.YtlikcijophbkbaaSxMath
set_option linter.unusedVariables false
set_option linter.unusedSimpArgs false
namespace Go.Proofs.Ytlikcijophbkbaa
namespace Ds
open Go.Sx
section
variable {R : Type}
theorem tick_abs {e : api_Escalator} {v load force B : Int} (h : TickOk e v load force) (hB : 0 ≤ B) (h1 : -B ≤ v) (h2 : v ≤ B) : -(B + 10000000) ≤ tickS e v load force ∧ tickS e v load force ≤ B + 10000000 := by
  obtain ⟨e1, e2, p1, p2, d1, d2, l1, l2, f1, f2, v1, v2⟩ := h
  have hg := gOf_bounds p1 p2 l1 l2
  have key : ∀ g : Int, g ≤ 10000000 → (g - (e.Drag + force)) / (e.Empty + load) ≤ 10000000 := by
    intro g h
    have : (g - (e.Drag + force)) / (e.Empty + load) < 10000001 := by
      rw [Int.ediv_lt_iff_lt_mul (by omega)]
      have : (10000001 : Int) * 1 ≤ 10000001 * (e.Empty + load) := Int.mul_le_mul_of_nonneg_left (by omega) (by omega)
      omega
    omega
  have k1 := key (gOf e load) (by omega)
  have k2 := key (-gOf e load) (by omega)
  unfold tickS
  split <;> omega
theorem edge_abs {e : api_Escalator} {s : api_Stop} (h : LS0 e s) (most : Bool) {v t B : Int} (hB : 0 ≤ B) (hB2 : B ≤ 10000000000) (h1 : -B ≤ v) (h2 : v ≤ B) : -(B + 10000000) ≤ edgeV e s most v t ∧ edgeV e s most v t ≤ B + 10000000 := by
  have hl := h.l2
  have a := tick_abs (h.tick (t := t) (by omega) (by omega) (Int.le_refl _) hl) hB h1 h2
  have b := tick_abs (h.tick (t := t) (by omega) (by omega) hl (Int.le_refl _)) hB h1 h2
  unfold edgeV
  split <;> omega
def pathV (e : api_Escalator) (s : api_Stop) (most : Bool) : Nat → Int
  | 0 => s.Speed
  | t + 1 => edgeV e s most (pathV e s most t) (t : Int)
def pathL (e : api_Escalator) (s : api_Stop) (most : Bool) (t : Nat) : Int := edgeL e s most (pathV e s most t) (t : Int)
theorem path_abs {e : api_Escalator} {s : api_Stop} (h : LS0 e s) (h1 : 0 ≤ s.Speed) (h2 : s.Speed ≤ 1000) (most : Bool) : ∀ t : Nat, t ≤ 100 → -(1000 + t * 10000000) ≤ pathV e s most t ∧ pathV e s most t ≤ 1000 + t * 10000000 := by
  intro t
  induction t with
  | zero => intro _; simp only [pathV]; omega
  | succ t ih =>
    intro ht
    have := ih (by omega)
    have := edge_abs h most (v := pathV e s most t) (t := (t : Int)) (B := 1000 + t * 10000000) (by omega) (by omega) (by omega) (by omega)
    simp only [pathV]
    omega
def stopF (v : Nat → Int) : Nat → Nat → Nat
  | 0, t => t
  | n + 1, t => if v t = 0 then t else stopF v n (t + 1)
def wayS (v : Nat → Int) : Nat → Int
  | 0 => 0
  | t + 1 => wayS v t + v (t + 1)
theorem way_abs {v : Nat → Int} {B : Int} (hB : 0 ≤ B) {n : Nat} (h : ∀ t, t ≤ n → -B ≤ v t ∧ v t ≤ B) : ∀ t, t ≤ n → -(t * B) ≤ wayS v t ∧ wayS v t ≤ t * B := by
  intro t
  induction t with
  | zero => intro _; simp [wayS]
  | succ t ih =>
    intro ht
    have h1 := ih (by omega)
    have h2 := h (t + 1) ht
    simp only [wayS]
    have : ((t + 1 : Nat) : Int) * B = t * B + B := by push_cast; rw [Int.add_mul]; omega
    omega
theorem stopF_spec (v : Nat → Int) : ∀ (n t : Nat), t ≤ stopF v n t ∧ stopF v n t ≤ t + n ∧ (∀ u, t ≤ u → u < stopF v n t → v u ≠ 0) ∧ (stopF v n t < t + n → v (stopF v n t) = 0) := by
  intro n
  induction n with
  | zero => intro t; simp only [stopF]; exact ⟨by omega, by omega, fun u h1 h2 => by omega, fun h => by omega⟩
  | succ n ih =>
    intro t
    simp only [stopF]
    split
    · rename_i h; exact ⟨by omega, by omega, fun u h1 h2 => by omega, fun _ => h⟩
    · rename_i h
      obtain ⟨h1, h2, h3, h4⟩ := ih (t + 1)
      refine ⟨by omega, by omega, fun u h5 h6 => ?_, fun h5 => h4 (by omega)⟩
      by_cases e : u = t
      · subst e; exact h
      · exact h3 u (by omega) h6
theorem stopF_unique {v : Nat → Int} {n t T : Nat} (h1 : t ≤ T) (h2 : T ≤ t + n) (h3 : ∀ u, t ≤ u → u < T → v u ≠ 0) (h4 : T < t + n → v T = 0) : stopF v n t = T := by
  obtain ⟨a1, a2, a3, a4⟩ := stopF_spec v n t
  rcases Nat.lt_trichotomy (stopF v n t) T with h | h | h
  · exact absurd (a4 (by omega)) (h3 _ a1 h)
  · exact h
  · exact absurd (h4 (by omega)) (a3 _ h1 h)
def restS (e : api_Escalator) (s : api_Stop) (most : Bool) : Nat := stopF (pathV e s most) 100 0
theorem run_l3_eq {N : Nat} (hN : 10 ≤ N) {e : api_Escalator} {s : api_Stop} (h : LS0 e s) (h1 : 0 ≤ s.Speed) (h2 : s.Speed ≤ 1000) (most : Bool) (x : Int) (y : Bool) (c : Bool) (d : Arr Int) : ∀ (r t n : Nat), t + r = 100 → r < n → ∀ (a : Arr Int), a.Is t (pathL e s most) →
    ∃ b : Arr Int, b.Is (stopF (pathV e s most) r t) (pathL e s most) ∧ ∀ {R : Type} (k0 : Int → Bool → Bool → Arr Int → Option R),
      drive_run_l3 N n most x y ⟨e, s, pathV e s most t, t⟩ (wayS (pathV e s most) t) (pathV e s most t == 0) c d (decide (t = 0)) a k0 =
        k0 (wayS (pathV e s most) (stopF (pathV e s most) r t)) (pathV e s most (stopF (pathV e s most) r t) == 0) (decide (stopF (pathV e s most) r t = 0)) b := by
  intro r
  induction r with
  | zero =>
    intro t n ht hn a ha
    obtain ⟨n, rfl⟩ : ∃ m, n = m + 1 := ⟨n - 1, by omega⟩
    refine ⟨a, ha, fun k0 => ?_⟩
    have : t = 100 := by omega
    subst this
    unfold drive_run_l3 drive_run_b3
    simp only [stopF]
    cases (pathV e s most 100 == 0) <;> rfl
  | succ r ih =>
    intro t n ht hn a ha
    obtain ⟨n, rfl⟩ : ∃ m, n = m + 1 := ⟨n - 1, by omega⟩
    by_cases hz : pathV e s most t = 0
    · refine ⟨a, by simp only [stopF, hz, if_true]; exact ha, fun k0 => ?_⟩
      unfold drive_run_l3 drive_run_b3
      have hz' : (pathV e s most t == 0) = true := by simpa using hz
      simp only [stopF, hz, if_true, BEq.rfl, Bool.not_true, cond_false]
    · have hz' : (pathV e s most t == 0) = false := by simpa using hz
      have hp := path_abs h h1 h2 most t (by omega)
      have hp2 := path_abs h h1 h2 most (t + 1) (by omega)
      have hw := way_abs (v := pathV e s most) (B := 1000 + 1000000000) (n := 100) (by omega) (fun u hu => by have := path_abs h h1 h2 most u hu; omega) t (by omega)
      have hpush := ha.push_int (z := [SV.int IntKind.i64 (0 : Int)]) (v := pathL e s most t) rfl
      obtain ⟨b, hb, hb2⟩ := ih (t + 1) n (by omega) (by omega) _ hpush
      refine ⟨b, by simp only [stopF, hz, if_false]; exact hb, fun k0 => ?_⟩
      unfold drive_run_l3 drive_run_b3
      have ht1 : decide ((t : Int) < 100) = true := by simp; omega
      simp only [hz', Bool.not_false, cond_true, ht1]
      rw [extreme_eq hN most (m := ⟨e, s, pathV e s most t, t⟩) h (by show -10000000000 ≤ pathV e s most t; omega) (by show pathV e s most t ≤ 10000000000; omega) (by show (0 : Int) ≤ t; omega) (by show (t : Int) ≤ 1000; omega)]
      have hroom : room (a.n + 1) = true := room_of (by rw [ha.len]; omega)
      simp only [hroom, cond_true]
      simp only [stopF, hz, if_false]
      have := hb2 k0
      simp only [show ¬ (t + 1 = 0) by omega, decide_false] at this
      rw [← this]
      show drive_run_l3 N n most x y ⟨e, s, pathV e s most (t + 1), (t : Int) + 1⟩ (w64 (wayS (pathV e s most) t + pathV e s most (t + 1))) _ c d false _ k0 = _
      rw [w64_eq (by omega) (by omega)]
      have e1 : ((t : Int) + 1) = ((t + 1 : Nat) : Int) := by simp
      rw [e1]
      rfl
theorem run_eq {N : Nat} (hN : 200 ≤ N) {e : api_Escalator} {s : api_Stop} (h : LS0 e s) (h1 : 0 ≤ s.Speed) (h2 : s.Speed ≤ 1000) (most : Bool) :
    ∃ b : Arr Int, b.Is (restS e s most) (pathL e s most) ∧ ∀ {R : Type} (k : Int → Bool → Bool → Arr Int → Option R),
      drive_run N e s most k = k (wayS (pathV e s most) (restS e s most)) (pathV e s most (restS e s most) == 0) (decide (restS e s most = 0)) b := by
  obtain ⟨b, hb, hk⟩ := run_l3_eq (N := N) (by omega) h h1 h2 most 0 false true (lst intC 0 (zeroC [SV.int IntKind.i64 0])) 100 0 N (by omega) (by omega) (lst intC 0 (zeroC [SV.int IntKind.i64 0])) Arr.Is.zero
  exact ⟨b, hb, fun k => by rw [drive_run_def]; exact hk (fun a b c d => k a b c d)⟩
theorem Rest_l4_eq (N : Nat) {v : Nat → Int} {m : Nat} (hm : m ≤ 1000) (hv : ∀ t, t ≤ m → -10000000000 ≤ v t ∧ v t ≤ 10000000000) {a : Arr Int} (ha : a.Is m (fun i => v (i + 1))) (kr : Int → Int → Bool → Option R) (k0 : Int → Option R) : ∀ (r i n : Nat), i + r = m → r < n →
    newelref01_Rest_l4 N n a (wayS v i) (i : Int) kr k0 = if v (stopF v r (i + 1)) = 0 ∧ i < m ∧ stopF v r (i + 1) ≤ m then kr (wayS v (stopF v r (i + 1))) (stopF v r (i + 1) : Nat) true else k0 (wayS v m) := by
  intro r
  induction r with
  | zero =>
    intro i n hi hn
    obtain ⟨n, rfl⟩ : ∃ m, n = m + 1 := ⟨n - 1, by omega⟩
    have : i = m := by omega
    subst this
    unfold newelref01_Rest_l4 newelref01_Rest_b4
    have : decide ((i : Int) < (a.n : Int)) = false := by rw [ha.len]; simp
    simp only [this, cond_false]
    rw [if_neg (by omega)]
  | succ r ih =>
    intro i n hi hn
    obtain ⟨n, rfl⟩ : ∃ m, n = m + 1 := ⟨n - 1, by omega⟩
    unfold newelref01_Rest_l4 newelref01_Rest_b4
    have e1 : decide ((i : Int) < (a.n : Int)) = true := by rw [ha.len]; simp; omega
    have hw := way_abs (v := v) (B := 10000000000) (n := m) (by omega) hv i (by omega)
    have hv1 := hv (i + 1) (by omega)
    have hmul : (i : Int) * 10000000000 ≤ 1000 * 10000000000 := by omega
    simp only [e1, nat_nonneg, Bool.and_self, cond_true, Int.toNat_natCast, ha.get i (by omega), w64_succ (show i < 1000000000000 by omega)]
    rw [w64_eq (n := wayS v i + v (i + 1)) (by omega) (by omega)]
    simp only [stopF]
    by_cases hz : v (i + 1) = 0
    · have hz' : (v (i + 1) == 0) = true := by simpa using hz
      simp only [hz', cond_true, hz, if_true]
      rw [if_pos ⟨trivial, by omega, by omega⟩]
      simp only [wayS, hz]
      rfl
    · have hz' : (v (i + 1) == 0) = false := by simpa using hz
      simp only [hz', cond_false, hz, if_false]
      have := ih (i + 1) n (by omega) (by omega)
      simp only [wayS] at this
      rw [this]
      have hs := stopF_spec v r (i + 1 + 1)
      by_cases hc : v (stopF v r (i + 1 + 1)) = 0 ∧ i + 1 < m ∧ stopF v r (i + 1 + 1) ≤ m
      · rw [if_pos hc, if_pos ⟨hc.1, by omega, hc.2.2⟩]
      · rw [if_neg hc, if_neg]
        intro h
        apply hc
        refine ⟨h.1, ?_, h.2.2⟩
        rcases Nat.lt_or_ge (i + 1) m with h6 | h6
        · exact h6
        · exfalso
          have : r = 0 := by omega
          subst this
          simp only [stopF] at h
          omega
theorem Rest_eq {N : Nat} (hN : 2000 ≤ N) {v : Nat → Int} {m : Nat} (hm : m ≤ 1000) (hv : ∀ t, t ≤ m → -10000000000 ≤ v t ∧ v t ≤ 10000000000) {a : Arr Int} (ha : a.Is m (fun i => v (i + 1))) (k : Int → Int → Bool → Option R) :
    newelref01_Rest N (v 0) a k = k (wayS v (stopF v m 0)) (stopF v m 0 : Nat) (v (stopF v m 0) == 0) := by
  rw [newelref01_Rest_def]
  unfold newelref01_Rest_m
  by_cases h0 : v 0 = 0
  · have h0' : (v 0 == 0) = true := by simpa using h0
    have : stopF v m 0 = 0 := by cases m <;> simp [stopF, h0]
    rw [this]
    simp only [h0', cond_true, wayS]
    rfl
  · have h0' : (v 0 == 0) = false := by simpa using h0
    simp only [h0', cond_false]
    have := Rest_l4_eq N hm hv ha (fun a b c => k a b c) (fun r => k r (a.n : Int) false) m 0 N (by omega) (by omega)
    simp only [wayS, Int.natCast_zero] at this
    rw [this]
    have hs := stopF_spec v m 0
    have hs1 := stopF_spec v m 1
    cases m with
    | zero =>
      rw [if_neg (fun h => absurd h.2.1 (Nat.lt_irrefl 0))]
      simp only [stopF, h0', wayS, ha.len]
    | succ m =>
      have e : stopF v (m + 1) 0 = stopF v m 1 := by simp only [stopF, h0, if_false]
      have hsm := stopF_spec v m 1
      by_cases hc : v (stopF v (m + 1) 1) = 0 ∧ 0 < m + 1 ∧ stopF v (m + 1) 1 ≤ m + 1
      · rw [if_pos hc]
        have : stopF v m 1 = stopF v (m + 1) 1 := by
          refine stopF_unique hs1.1 (by omega) (fun u h1 h2 => hs1.2.2.1 u h1 h2) (fun h => ?_)
          exact hc.1
        rw [e, this]
        have h2 : (v (stopF v (m + 1) 1) == 0) = true := by simpa using hc.1
        rw [h2]
      · rw [if_neg hc]
        have hlast : stopF v m 1 = m + 1 := by
          rcases Nat.lt_or_ge (stopF v m 1) (m + 1) with h | h
          · exfalso
            have h3 := hsm.2.2.2 (by omega)
            have : stopF v (m + 1) 1 = stopF v m 1 := stopF_unique hsm.1 (by omega) hsm.2.2.1 (fun _ => h3)
            rw [this] at hc
            exact hc ⟨h3, by omega, by omega⟩
          · omega
        have hne : v (m + 1) ≠ 0 := by
          intro h3
          have : stopF v (m + 1) 1 = m + 1 := by
            refine stopF_unique (by omega) (by omega) (fun u h1 h2 => hsm.2.2.1 u h1 (by omega)) (fun _ => h3)
          rw [this] at hc
          exact hc ⟨h3, by omega, by omega⟩
        rw [e, hlast, ha.len]
        have : (v (m + 1) == 0) = false := by simpa using hne
        rw [this]
open Classical in
noncomputable def distV (e : api_Escalator) (s : api_Stop) : api_Span × api_Span × Int :=
  if stopV e s ≠ 0 then (⟨0, 0⟩, ⟨0, 0⟩, stopV e s)
  else if pathV e s true (restS e s true) = 0 then
    (⟨wayS (pathV e s false) (restS e s false), wayS (pathV e s true) (restS e s true)⟩, ⟨restS e s false, restS e s true⟩, 0)
  else (⟨0, 0⟩, ⟨0, 0⟩, 12)
theorem stopV_zero {e : api_Escalator} {s : api_Stop} (h : stopV e s = 0) : VE e ∧ VS e s := by
  unfold stopV at h
  split at h
  · rename_i h1
    split at h
    · rename_i h2; exact ⟨h1, h2⟩
    · omega
  · omega
theorem stopV_of {e : api_Escalator} {s : api_Stop} (h : VE e) (h' : VS e s) : stopV e s = 0 := by unfold stopV; rw [if_pos h, if_pos h']
theorem Distance_eq {N : Nat} (hN : 200 ≤ N) (e : api_Escalator) (s : api_Stop) (k : api_Span → api_Span → Int → Option R) :
    drive_Distance N e s k = k (distV e s).1 (distV e s).2.1 (distV e s).2.2 := by
  rw [drive_Distance_def]
  unfold drive_Distance_m
  rw [checkStop_eq (by omega)]
  unfold distV
  by_cases h0 : stopV e s = 0
  · obtain ⟨h1, h2⟩ := stopV_zero h0
    obtain ⟨b1, hb1, hk1⟩ := run_eq hN (h2.ls h1) h2.s1 h2.s2 true
    obtain ⟨b2, hb2, hk2⟩ := run_eq hN (h2.ls h1) h2.s1 h2.s2 false
    have hne : (stopV e s != 0) = false := by simpa using h0
    simp only [hk1, hk2, h0, bne_self_eq_false, cond_false, ne_eq, not_true, if_false, hb1.len, hb2.len]
    by_cases hz : pathV e s true (restS e s true) = 0
    · have hz' : (pathV e s true (restS e s true) == 0) = true := by simpa using hz
      simp only [hz, BEq.rfl, Bool.not_true, cond_false, if_true]
    · have hz' : (pathV e s true (restS e s true) == 0) = false := by simpa using hz
      simp only [hz', Bool.not_false, cond_true, hz, if_false]
  · have hne : (stopV e s != 0) = true := by simpa using h0
    simp only [hne, cond_true, h0, ne_eq, not_false_eq_true, if_true]
end
end Ds
end Go.Proofs.Ytlikcijophbkbaa
