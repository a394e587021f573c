/-
  Drive: the greatest speed; what is legal.
-/
import Derived.Test.YtpillmoddoccfabDoorDsP8
import Derived.Test.YtpillmoddoccfabDoorSxMath
set_option linter.unusedVariables false
set_option linter.unusedSimpArgs false
namespace Go.Proofs.YtpillmoddoccfabDoor
namespace Ds
open Go.Sx

section
variable {R : Type}

/-- The stop from another speed. -/
def fromV (s : api_Stop) (v : Int) : api_Stop := ⟨v, s.Loads, s.Fail⟩
theorem fromV_ok {e : api_Escalator} {s : api_Stop} (h : VS e s) {v : Int} (h1 : 0 ≤ v) (h2 : v ≤ 1000) : VS e (fromV s v) := ⟨h1, h2, h.l1, h.l2, h.l3, h.f1, h.f2⟩

/-- From a speed each history ends within a limit. -/
def okF (e : api_Escalator) (s : api_Stop) (limit v : Int) : Prop := pathV e (fromV s v) true (restS e (fromV s v) true) = 0 ∧ wayS (pathV e (fromV s v) true) (restS e (fromV s v) true) ≤ limit

theorem okF_mono {e : api_Escalator} {s : api_Stop} {limit v v' : Int} (h0 : 0 ≤ v) (h : v ≤ v') (hk : okF e s limit v') : okF e s limit v := by
  have hp : ∀ t, pathV e (fromV s v) true t ≤ pathV e (fromV s v') true t := by
    intro t
    induction t with
    | zero => exact h
    | succ t ih => exact edge_mono (e := e) (s := s) true ih
  have := Soft.less (path_soft (e := e) (s := fromV s v) h0 true) (path_soft (e := e) (s := fromV s v') (by show 0 ≤ v'; omega) true) (n := 100) (m := 100) (fun t _ _ _ _ => hp t) hk.1 (rest_le e (fromV s v') true)
  have h2 := hk.2
  unfold okF restS
  exact ⟨this.2.1, by have := this.2.2; unfold restS at h2; omega⟩
theorem okF_zero {e : api_Escalator} {s : api_Stop} {limit : Int} (h : 0 ≤ limit) : okF e s limit 0 := by
  have hr : restS e (fromV s 0) true = 0 := by unfold restS; rfl
  unfold okF
  rw [hr]
  exact ⟨rfl, h⟩

theorem bound_ex {P : Int → Prop} (h0 : P 0) (hm : ∀ v v' : Int, 0 ≤ v → v ≤ v' → P v' → P v) : ∀ n : Nat, ∃ c : Int, 0 ≤ c ∧ c ≤ n ∧ ∀ v : Int, 0 ≤ v → v ≤ n → (P v ↔ v ≤ c) := by
  intro n
  induction n with
  | zero => exact ⟨0, by omega, by omega, fun v h1 h2 => by have : v = 0 := by omega
                                                            subst this; simp [h0]⟩
  | succ n ih =>
    obtain ⟨c, c1, c2, hc⟩ := ih
    by_cases hp : P ((n : Int) + 1)
    · exact ⟨(n : Int) + 1, by omega, by omega, fun v h1 h2 => ⟨fun _ => by omega, fun h => hm v _ h1 h hp⟩⟩
    · refine ⟨c, c1, by omega, fun v h1 h2 => ?_⟩
      by_cases e : v = (n : Int) + 1
      · subst e
        exact ⟨fun h => absurd h hp, fun h => by omega⟩
      · exact hc v h1 (by omega)

open Classical in
/-- The greatest speed from which each history ends within a limit. -/
noncomputable def fastC (e : api_Escalator) (s : api_Stop) (limit : Int) : Int :=
  if h : ∃ c : Int, 0 ≤ c ∧ c ≤ 1000 ∧ ∀ v : Int, 0 ≤ v → v ≤ 1000 → (okF e s limit v ↔ v ≤ c) then Classical.choose h else 0
theorem fastC_spec {e : api_Escalator} {s : api_Stop} {limit : Int} (h : 0 ≤ limit) : 0 ≤ fastC e s limit ∧ fastC e s limit ≤ 1000 ∧ ∀ v : Int, 0 ≤ v → v ≤ 1000 → (okF e s limit v ↔ v ≤ fastC e s limit) := by
  have hex : ∃ c : Int, 0 ≤ c ∧ c ≤ 1000 ∧ ∀ v : Int, 0 ≤ v → v ≤ 1000 → (okF e s limit v ↔ v ≤ c) := bound_ex (okF_zero h) (fun v v' h1 h2 h3 => okF_mono h1 h2 h3) 1000
  unfold fastC
  rw [dif_pos hex]
  exact Classical.choose_spec hex

noncomputable def fastV (e : api_Escalator) (s : api_Stop) (limit : Int) : Int × Int :=
  if stopV e s ≠ 0 then (0, stopV e s) else if 0 ≤ limit ∧ limit ≤ 10000000 then (fastC e s limit, 0) else (0, 1)

open Classical in
noncomputable def legalV (e : api_Escalator) (s : api_Stop) (l : api_Span) : Int × Bool × Int :=
  if stopV e s ≠ 0 then (0, false, stopV e s) else if 0 ≤ l.Low ∧ l.Low ≤ l.High ∧ l.High ≤ 10000000 then
    (if pathV e s true (restS e s true) ≠ 0 then (1, false, 0) else if wayS (pathV e s true) (restS e s true) > l.High then (2, false, 0)
     else if wayS (pathV e s false) (restS e s false) < l.Low then (3, false, 0) else if ¬ (e.Pull * s.Loads.High ≤ e.Drag + gripE e s.Fail 20) then (4, false, 0) else (0, true, 0))
  else (0, false, 1)

end
end Ds
end Go.Proofs.YtpillmoddoccfabDoor
