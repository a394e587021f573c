import Derived.Test.YtlikcijophbkbaaDsP6
import Derived.Test.YtlikcijophbkbaaSxMath
set_option linter.unusedVariables false
set_option linter.unusedSimpArgs false
namespace Go.Proofs.Ytlikcijophbkbaa
namespace Ds
open Go.Sx
theorem frac_mono {a F E L H : Int} (hL : 0 < E + L) (hH : 0 < E + H) (h : L ≤ H) (hs : 0 ≤ a * E + F) : (a * L - F) / (E + L) ≤ (a * H - F) / (E + H) := by
  refine div_cross hL hH ?_
  have key : (a * H - F) * (E + L) - (a * L - F) * (E + H) = (a * E + F) * (H - L) := by grind
  have := Int.mul_nonneg hs (show 0 ≤ H - L by omega)
  omega
theorem frac_anti {a F E L H : Int} (hL : 0 < E + L) (hH : 0 < E + H) (h : L ≤ H) (hs : a * E + F ≤ 0) : (a * H - F) / (E + H) ≤ (a * L - F) / (E + L) := by
  refine div_cross hH hL ?_
  have key : (a * L - F) * (E + H) - (a * H - F) * (E + L) = (-(a * E + F)) * (H - L) := by grind
  have := Int.mul_nonneg (show 0 ≤ -(a * E + F) by omega) (show 0 ≤ H - L by omega)
  omega
theorem frac_between {a F E l L H : Int} (h0 : 0 < E + l) (h1 : l ≤ L) (h2 : L ≤ H) :
    min ((a * l - F) / (E + l)) ((a * H - F) / (E + H)) ≤ (a * L - F) / (E + L) ∧ (a * L - F) / (E + L) ≤ max ((a * l - F) / (E + l)) ((a * H - F) / (E + H)) := by
  rcases Int.le_total 0 (a * E + F) with hs | hs
  · have := frac_mono (a := a) (F := F) h0 (by omega) h1 hs
    have := frac_mono (a := a) (F := F) (E := E) (L := L) (H := H) (by omega) (by omega) h2 hs
    omega
  · have := frac_anti (a := a) (F := F) h0 (by omega) h1 hs
    have := frac_anti (a := a) (F := F) (E := E) (L := L) (H := H) (by omega) (by omega) h2 hs
    omega
theorem tick_up {e : api_Escalator} {v load force : Int} (hu : e.Up = true) (hE : 0 < e.Empty + load) (hF : 0 ≤ e.Drag + force) (hP : 0 ≤ e.Pull * load) : tickS e v load force =
    if v ≤ 0 then -(max 0 (-v + (e.Pull * load - (e.Drag + force)) / (e.Empty + load))) else max 0 (v + ((-e.Pull) * load - (e.Drag + force)) / (e.Empty + load)) := by
  unfold tickS gOf
  simp only [hu, if_true]
  rw [Int.neg_mul]
  simp only [Int.neg_neg]
  by_cases h1 : v < 0
  · rw [if_pos (Or.inl h1), if_pos (by omega)]
  · by_cases h2 : v = 0
    · rw [if_pos (show v ≤ 0 by omega)]
      by_cases h3 : -(e.Pull * load) < 0
      · rw [if_pos (Or.inr ⟨h2, h3⟩)]
      · rw [if_neg (by omega)]
        have h4 : e.Pull * load = 0 := by omega
        rw [h4]
        have : (0 - (e.Drag + force)) / (e.Empty + load) < 1 := by rw [Int.ediv_lt_iff_lt_mul hE]; omega
        have : (-0 - (e.Drag + force)) / (e.Empty + load) < 1 := by rw [Int.ediv_lt_iff_lt_mul hE]; omega
        omega
    · rw [if_neg (by omega), if_neg (by omega)]
theorem tick_down {e : api_Escalator} {v load force : Int} (hu : e.Up = false) (hP : 0 ≤ e.Pull * load) : tickS e v load force =
    if v < 0 then -(max 0 (-v + ((-e.Pull) * load - (e.Drag + force)) / (e.Empty + load))) else max 0 (v + (e.Pull * load - (e.Drag + force)) / (e.Empty + load)) := by
  unfold tickS gOf
  simp only [hu, Bool.false_eq_true, if_false]
  rw [Int.neg_mul]
  by_cases h1 : v < 0
  · rw [if_pos (Or.inl h1), if_pos h1]
  · rw [if_neg (by omega), if_neg h1]
theorem tick_between {e : api_Escalator} {v l L H force : Int} (e1 : 1 ≤ e.Empty) (p1 : 0 ≤ e.Pull) (hF : 0 ≤ e.Drag + force) (h0 : 0 ≤ l) (h1 : l ≤ L) (h2 : L ≤ H) :
    min (tickS e v l force) (tickS e v H force) ≤ tickS e v L force ∧ tickS e v L force ≤ max (tickS e v l force) (tickS e v H force) := by
  have q1 := Int.mul_nonneg p1 h0
  have q2 := Int.mul_nonneg p1 (show 0 ≤ L by omega)
  have q3 := Int.mul_nonneg p1 (show 0 ≤ H by omega)
  have f1 := frac_between (a := e.Pull) (F := e.Drag + force) (E := e.Empty) (l := l) (L := L) (H := H) (by omega) h1 h2
  have f2 := frac_between (a := -e.Pull) (F := e.Drag + force) (E := e.Empty) (l := l) (L := L) (H := H) (by omega) h1 h2
  cases hu : e.Up
  · rw [tick_down hu q1, tick_down hu q2, tick_down hu q3]
    split <;> omega
  · rw [tick_up hu (by omega) hF q1, tick_up hu (by omega) hF q2, tick_up hu (by omega) hF q3]
    split <;> omega
theorem edge_bounds {e : api_Escalator} {s : api_Stop} (h : LS0 e s) {v t L : Int} (h1 : s.Loads.Low ≤ L) (h2 : L ≤ s.Loads.High) :
    edgeV e s false v t ≤ tickS e v L (gripE e s.Fail t) ∧ tickS e v L (gripE e s.Fail t) ≤ edgeV e s true v t := by
  have hg := gripE_bounds h.ve s.Fail t
  have hd := h.ve.d1
  have := tick_between (v := v) h.ve.e1 h.ve.p1 (show 0 ≤ e.Drag + gripE e s.Fail t by omega) h.l1 h1 h2
  unfold edgeV
  simp only [Bool.false_eq_true, if_false, if_true]
  omega
theorem edge_mono {e : api_Escalator} {s : api_Stop} (most : Bool) {v v' t : Int} (h : v ≤ v') : edgeV e s most v t ≤ edgeV e s most v' t := by
  have a := tick_mono (e := e) (load := s.Loads.Low) (force := gripE e s.Fail t) h
  have b := tick_mono (e := e) (load := s.Loads.High) (force := gripE e s.Fail t) h
  unfold edgeV
  split <;> omega
theorem play_between {e : api_Escalator} {s : api_Stop} {a : Arr Int} (h : HistOk e s a) : ∀ t, t ≤ a.n → pathV e s false t ≤ playV e s a.f t ∧ playV e s a.f t ≤ pathV e s true t := by
  intro t
  induction t with
  | zero => intro _; exact ⟨Int.le_refl _, Int.le_refl _⟩
  | succ t ih =>
    intro ht
    have h1 := ih (by omega)
    have hl := h.h t (by omega) (by omega)
    have hb := edge_bounds (h.vs.ls h.ve) (v := playV e s a.f t) (t := (t : Int)) hl.1 hl.2
    have m1 := edge_mono (e := e) (s := s) false (t := (t : Int)) h1.1
    have m2 := edge_mono (e := e) (s := s) true (t := (t : Int)) h1.2
    simp only [pathV, playV]
    omega
def Soft (v : Nat → Int) : Prop := 0 ≤ v 0 ∧ ∀ t, 0 < v t → 0 ≤ v (t + 1)
theorem tick_soft {e : api_Escalator} {v load force : Int} (h : 0 < v) : 0 ≤ tickS e v load force := by
  unfold tickS
  split <;> omega
theorem edge_soft {e : api_Escalator} {s : api_Stop} (most : Bool) {v t : Int} (h : 0 < v) : 0 ≤ edgeV e s most v t := by
  have a := tick_soft (e := e) (load := s.Loads.Low) (force := gripE e s.Fail t) h
  have b := tick_soft (e := e) (load := s.Loads.High) (force := gripE e s.Fail t) h
  unfold edgeV
  split <;> omega
theorem path_soft {e : api_Escalator} {s : api_Stop} (h : 0 ≤ s.Speed) (most : Bool) : Soft (pathV e s most) := ⟨h, fun t ht => edge_soft most ht⟩
theorem play_soft {e : api_Escalator} {s : api_Stop} (h : 0 ≤ s.Speed) (l : Nat → Int) : Soft (playV e s l) := ⟨h, fun t ht => tick_soft ht⟩
theorem Soft.pos {v : Nat → Int} (h : Soft v) {n : Nat} : ∀ t, t ≤ stopF v n 0 → 0 ≤ v t ∧ (t < stopF v n 0 → 0 < v t) := by
  have hs := stopF_spec v n 0
  intro t
  induction t with
  | zero => intro _; exact ⟨h.1, fun h2 => by have := hs.2.2.1 0 (by omega) h2; have := h.1; omega⟩
  | succ t ih =>
    intro ht
    have h1 := (ih (by omega)).2 (by omega)
    have h2 := h.2 t h1
    exact ⟨h2, fun h3 => by have := hs.2.2.1 (t + 1) (by omega) h3; omega⟩
theorem way_mono {v : Nat → Int} {n : Nat} (h : ∀ t, t ≤ n → 0 ≤ v t) : ∀ {a b : Nat}, a ≤ b → b ≤ n → wayS v a ≤ wayS v b := by
  intro a b hab
  induction b with
  | zero => intro _; have : a = 0 := by omega
            subst this; exact Int.le_refl _
  | succ b ih =>
    intro hb
    by_cases e : a = b + 1
    · subst e; exact Int.le_refl _
    · have h1 := ih (by omega) (by omega)
      have h2 := h (b + 1) hb
      simp only [wayS]; omega
theorem way_le {u v : Nat → Int} {n : Nat} (h : ∀ t, t ≤ n → u t ≤ v t) : ∀ t, t ≤ n → wayS u t ≤ wayS v t := by
  intro t
  induction t with
  | zero => intro _; exact Int.le_refl _
  | succ t ih => intro ht; have := ih (by omega); have := h (t + 1) ht; simp only [wayS]; omega
theorem Soft.less {u v : Nat → Int} (hu : Soft u) (hv : Soft v) {n m : Nat} (h : ∀ t, t ≤ n → t ≤ m → t ≤ stopF v m 0 → (∀ x, x < t → u x ≠ 0) → u t ≤ v t) (hr : v (stopF v m 0) = 0) (hnm : stopF v m 0 ≤ n) :
    stopF u n 0 ≤ stopF v m 0 ∧ u (stopF u n 0) = 0 ∧ wayS u (stopF u n 0) ≤ wayS v (stopF v m 0) := by
  have su := stopF_spec u n 0
  have sv := stopF_spec v m 0
  have hle : stopF u n 0 ≤ stopF v m 0 := by
    rcases Nat.lt_or_ge (stopF v m 0) (stopF u n 0) with hlt | hge
    · exfalso
      have h1 := h (stopF v m 0) (by omega) (by omega) (Nat.le_refl _) (fun x hx => su.2.2.1 x (by omega) (by omega))
      have h2 := (hu.pos (n := n) (stopF v m 0) (by omega)).2 hlt
      omega
    · exact hge
  have hz : u (stopF u n 0) = 0 := by
    rcases Nat.lt_or_ge (stopF u n 0) n with hlt | hge
    · exact su.2.2.2 (by omega)
    · have e : stopF u n 0 = stopF v m 0 := by omega
      have h1 := h (stopF u n 0) (by omega) (by omega) hle (fun x hx => su.2.2.1 x (by omega) hx)
      have h2 := (hu.pos (n := n) (stopF u n 0) (Nat.le_refl _)).1
      rw [e] at h1 h2 ⊢
      omega
  refine ⟨hle, hz, ?_⟩
  have h1 : wayS u (stopF u n 0) ≤ wayS v (stopF u n 0) := way_le (n := stopF u n 0) (fun t ht => h t (by omega) (by omega) (by omega) (fun x hx => su.2.2.1 x (by omega) (by omega))) _ (Nat.le_refl _)
  have h2 : wayS v (stopF u n 0) ≤ wayS v (stopF v m 0) := way_mono (n := stopF v m 0) (fun t ht => (hv.pos (n := m) t ht).1) hle (Nat.le_refl _)
  omega
end Ds
end Go.Proofs.Ytlikcijophbkbaa
