/-
  Drive: the greatest speed; what is legal.
-/
import Derived.Test.YtpillmoddoccfaaDrP7
import Derived.Test.YtpillmoddoccfaaSxMath
set_option linter.unusedVariables false
set_option linter.unusedSimpArgs false
namespace Go.Proofs.Ytpillmoddoccfaa
namespace Dr
open Go.Sx

section
variable {R : Type}

/-- The stop from another speed. -/
def fromV (s : api_Stop) (v : Int) : api_Stop := ⟨v, s.Loads, s.Fail⟩
theorem fromV_ok {e : api_Escalator} {s : api_Stop} (h : VS e s) {v : Int} (h1 : 0 ≤ v) (h2 : v ≤ 1000) : VS e (fromV s v) := ⟨h1, h2, h.l1, h.l2, h.l3, h.f1, h.f2⟩

/-- From a speed each history ends within a limit. -/
def okF (e : api_Escalator) (s : api_Stop) (limit v : Int) : Prop := pathV e (fromV s v) true (restS e (fromV s v) true) = 0 ∧ wayS (pathV e (fromV s v) true) (restS e (fromV s v) true) ≤ limit

theorem okF_mono {e : api_Escalator} {s : api_Stop} {limit v v' : Int} (h0 : 0 ≤ v) (h : v ≤ v') (hk : okF e s limit v') : okF e s limit v := by
  have hp : ∀ t, pathV e (fromV s v) true t ≤ pathV e (fromV s v') true t := by
    intro t
    induction t with
    | zero => exact h
    | succ t ih => exact edge_mono (e := e) (s := s) true ih
  have := Soft.less (path_soft (e := e) (s := fromV s v) h0 true) (path_soft (e := e) (s := fromV s v') (by show 0 ≤ v'; omega) true) (n := 100) (m := 100) (fun t _ _ _ _ => hp t) hk.1 (rest_le e (fromV s v') true)
  have h2 := hk.2
  unfold okF restS
  exact ⟨this.2.1, by have := this.2.2; unfold restS at h2; omega⟩
theorem okF_zero {e : api_Escalator} {s : api_Stop} {limit : Int} (h : 0 ≤ limit) : okF e s limit 0 := by
  have hr : restS e (fromV s 0) true = 0 := by unfold restS; rfl
  unfold okF
  rw [hr]
  exact ⟨rfl, h⟩

theorem bound_ex {P : Int → Prop} (h0 : P 0) (hm : ∀ v v' : Int, 0 ≤ v → v ≤ v' → P v' → P v) : ∀ n : Nat, ∃ c : Int, 0 ≤ c ∧ c ≤ n ∧ ∀ v : Int, 0 ≤ v → v ≤ n → (P v ↔ v ≤ c) := by
  intro n
  induction n with
  | zero => exact ⟨0, by omega, by omega, fun v h1 h2 => by have : v = 0 := by omega
                                                            subst this; simp [h0]⟩
  | succ n ih =>
    obtain ⟨c, c1, c2, hc⟩ := ih
    by_cases hp : P ((n : Int) + 1)
    · exact ⟨(n : Int) + 1, by omega, by omega, fun v h1 h2 => ⟨fun _ => by omega, fun h => hm v _ h1 h hp⟩⟩
    · refine ⟨c, c1, by omega, fun v h1 h2 => ?_⟩
      by_cases e : v = (n : Int) + 1
      · subst e
        exact ⟨fun h => absurd h hp, fun h => by omega⟩
      · exact hc v h1 (by omega)

open Classical in
/-- The greatest speed from which each history ends within a limit. -/
noncomputable def fastC (e : api_Escalator) (s : api_Stop) (limit : Int) : Int :=
  if h : ∃ c : Int, 0 ≤ c ∧ c ≤ 1000 ∧ ∀ v : Int, 0 ≤ v → v ≤ 1000 → (okF e s limit v ↔ v ≤ c) then Classical.choose h else 0
theorem fastC_spec {e : api_Escalator} {s : api_Stop} {limit : Int} (h : 0 ≤ limit) : 0 ≤ fastC e s limit ∧ fastC e s limit ≤ 1000 ∧ ∀ v : Int, 0 ≤ v → v ≤ 1000 → (okF e s limit v ↔ v ≤ fastC e s limit) := by
  have hex : ∃ c : Int, 0 ≤ c ∧ c ≤ 1000 ∧ ∀ v : Int, 0 ≤ v → v ≤ 1000 → (okF e s limit v ↔ v ≤ c) := bound_ex (okF_zero h) (fun v v' h1 h2 h3 => okF_mono h1 h2 h3) 1000
  unfold fastC
  rw [dif_pos hex]
  exact Classical.choose_spec hex

theorem Fastest_l7_eq {N : Nat} (hN : 200 ≤ N) {e : api_Escalator} {s : api_Stop} (h1 : VE e) (h2 : VS e s) {limit : Int} (hl : 0 ≤ limit) (k0 : Int → Option R) : ∀ (n : Nat) (low high : Int) (s' : api_Stop), s'.Loads = s.Loads → s'.Fail = s.Fail → 0 ≤ low → low ≤ high → high ≤ 1000 → low ≤ fastC e s limit → fastC e s limit ≤ high → (high - low).toNat < 2 ^ n →
    drive_Fastest_l7 N (n + 1) limit low high e s' k0 = k0 (fastC e s limit) := by
  obtain ⟨_, _, hc⟩ := fastC_spec (e := e) (s := s) hl
  intro n
  induction n with
  | zero =>
    intro low high s' hs1 hs2 a1 a2 a3 a4 a5 a6
    have : low = high := by omega
    subst this
    unfold drive_Fastest_l7 drive_Fastest_b7
    simp only [Int.lt_irrefl, decide_false, cond_false]
    congr 1; omega
  | succ n ih =>
    intro low high s' hs1 hs2 a1 a2 a3 a4 a5 a6
    unfold drive_Fastest_l7 drive_Fastest_b7
    by_cases hlt : low < high
    · have hw : w64 (Int.tdiv (w64 (w64 (low + high) + 1)) 2) = (low + high + 1) / 2 := by
        rw [w64_eq (n := low + high) (by omega) (by omega), w64_eq (n := low + high + 1) (by omega) (by omega), Int.tdiv_eq_ediv_of_nonneg (by omega), w64_eq (by omega) (by omega)]
      have hp : (2 : Nat) ^ (n + 1) = 2 * 2 ^ n := by rw [Nat.pow_succ]; omega
      simp only [hlt, decide_true, cond_true, hw, hs1, hs2]
      have hm := hc ((low + high + 1) / 2) (by omega) (by omega)
      have hv := fromV_ok h2 (v := (low + high + 1) / 2) (by omega) (by omega)
      obtain ⟨b, hb, hk⟩ := run_eq hN (hv.ls h1) hv.s1 hv.s2 true
      show drive_run N e (fromV s ((low + high + 1) / 2)) true _ = _
      rw [hk]
      rw [w64_eq (n := (low + high + 1) / 2 - 1) (by omega) (by omega)]
      by_cases hd : okF e s limit ((low + high + 1) / 2)
      · have h3 := hm.1 hd
        have d1 : (pathV e (fromV s ((low + high + 1) / 2)) true (restS e (fromV s ((low + high + 1) / 2)) true) == 0) = true := by simpa using hd.1
        have d2 := hd.2
        simp only [d1, d2, decide_true, cond_true]
        exact ih _ _ _ rfl rfl (by omega) (by omega) (by omega) (by omega) (by omega) (by omega)
      · have h3 : ¬ ((low + high + 1) / 2 ≤ fastC e s limit) := fun h => hd (hm.2 h)
        have key : ∀ (x y : Option R), x = y → (bif (pathV e (fromV s ((low + high + 1) / 2)) true (restS e (fromV s ((low + high + 1) / 2)) true) == 0) then (bif decide (wayS (pathV e (fromV s ((low + high + 1) / 2)) true) (restS e (fromV s ((low + high + 1) / 2)) true) ≤ limit) then drive_Fastest_l7 N (n + 1) limit ((low + high + 1) / 2) high e (fromV s ((low + high + 1) / 2)) k0 else x) else x) = y := by
          intro x y hxy
          by_cases d1 : pathV e (fromV s ((low + high + 1) / 2)) true (restS e (fromV s ((low + high + 1) / 2)) true) = 0
          · have d2 : ¬ (wayS (pathV e (fromV s ((low + high + 1) / 2)) true) (restS e (fromV s ((low + high + 1) / 2)) true) ≤ limit) := fun h => hd ⟨d1, h⟩
            simp [d1, d2, hxy]
          · have d1' : (pathV e (fromV s ((low + high + 1) / 2)) true (restS e (fromV s ((low + high + 1) / 2)) true) == 0) = false := by simpa using d1
            simp [d1', hxy]
        exact key _ _ (ih low ((low + high + 1) / 2 - 1) (fromV s ((low + high + 1) / 2)) rfl rfl (by omega) (by omega) (by omega) (by omega) (by omega) (by omega))
    · simp only [hlt, decide_false, cond_false]
      congr 1; omega

noncomputable def fastV (e : api_Escalator) (s : api_Stop) (limit : Int) : Int × Int :=
  if stopV e s ≠ 0 then (0, stopV e s) else if 0 ≤ limit ∧ limit ≤ 10000000 then (fastC e s limit, 0) else (0, 1)

theorem Fastest_eq {N : Nat} (hN : 2000 ≤ N) (e : api_Escalator) (s : api_Stop) (limit : Int) (k : Int → Int → Option R) : drive_Fastest N e s limit k = k (fastV e s limit).1 (fastV e s limit).2 := by
  rw [drive_Fastest_def]
  unfold drive_Fastest_m fastV
  rw [checkStop_eq (by omega)]
  by_cases h0 : stopV e s = 0
  · obtain ⟨h1, h2⟩ := stopV_zero h0
    simp only [h0, bne_self_eq_false, cond_false, ne_eq, not_true, if_false, to_eq, in_eq]
    by_cases a : 0 ≤ limit ∧ limit ≤ 10000000
    · simp only [a, and_self, decide_true, Bool.not_true, cond_false, if_true]
      obtain ⟨M, rfl⟩ : ∃ M, N = M + 12 := ⟨N - 12, by omega⟩
      obtain ⟨c1, c2, _⟩ := fastC_spec (e := e) (s := s) a.1
      refine Fastest_l7_eq (by omega) h1 h2 a.1 (fun r => k r 0) (M + 11) 0 1000 s rfl rfl (by omega) (by omega) (by omega) c1 c2 ?_
      have : (2 : Nat) ^ (M + 11) = 2 ^ M * 2048 := by rw [Nat.pow_add]
      have : 0 < (2 : Nat) ^ M := Nat.two_pow_pos M
      omega
    · simp only [a, decide_false, Bool.not_false, cond_true, if_false]
  · have : (stopV e s != 0) = true := by simpa using h0
    simp only [this, cond_true, ne_eq, h0, not_false_eq_true, if_true]

open Classical in
noncomputable def legalV (e : api_Escalator) (s : api_Stop) (l : api_Span) : Int × Bool × Int :=
  if stopV e s ≠ 0 then (0, false, stopV e s) else if 0 ≤ l.Low ∧ l.Low ≤ l.High ∧ l.High ≤ 10000000 then
    (if pathV e s true (restS e s true) ≠ 0 then (1, false, 0) else if wayS (pathV e s true) (restS e s true) > l.High then (2, false, 0)
     else if wayS (pathV e s false) (restS e s false) < l.Low then (3, false, 0) else if ¬ (e.Pull * s.Loads.High ≤ e.Drag + gripE e s.Fail 20) then (4, false, 0) else (0, true, 0))
  else (0, false, 1)

end
end Dr
end Go.Proofs.Ytpillmoddoccfaa
