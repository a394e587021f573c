import Derived.Test.YtckkodiefpdmhaaDoorTie
import Derived.Test.YtckkodiefpdmhaaDoorSxOpen
import Derived.ProofKit
import Derived.LaidMore
import Derived.OpenShut
import Derived.Stop.Joined
set_option linter.unusedVariables false
set_option maxRecDepth 100000
namespace Go.Proofs.YtckkodiefpdmhaaDoor
open Go.Sx Go.ChangeShapes Go.WideShapes Go.ChangeAt Go.RowKit
theorem Tryd.own : ownKnob Tryd.prog.godebug = none := by kernel_rfl
theorem gTurns : Tryd.prog.globalNamed "newel/shaft.turns" = some 0 := by kernel_rfl
theorem gSwaps : Tryd.prog.globalNamed "newel/shaft.swaps" = some 1 := by kernel_rfl
theorem tTurns : (Tryd.prog.globals[0]?).map (·.type) = some 110 := by kernel_rfl
theorem tSwaps : (Tryd.prog.globals[1]?).map (·.type) = some 112 := by kernel_rfl
theorem u110 : Tryd.prog.underlying 110 = some (.array 6 22) := by kernel_rfl
theorem u22 : Tryd.prog.underlying 22 = some (.array 3 3) := by kernel_rfl
theorem u112 : Tryd.prog.underlying 112 = some (.array 3 111) := by kernel_rfl
theorem u111 : Tryd.prog.underlying 111 = some (.array 2 3) := by kernel_rfl
theorem u3 : Tryd.prog.underlying 3 = some (.int .i64) := by kernel_rfl
theorem z110 : Tryd.prog.cellsOf 110 = 18 := by kernel_rfl
theorem z22 : Tryd.prog.cellsOf 22 = 3 := by kernel_rfl
theorem z112 : Tryd.prog.cellsOf 112 = 6 := by kernel_rfl
theorem z111 : Tryd.prog.cellsOf 111 = 2 := by kernel_rfl
theorem z3 : Tryd.prog.cellsOf 3 = 1 := by kernel_rfl
theorem cut_eq {α β : Type} (s : Nat) (F : β → List α) : ∀ (xs : List β) (cs : List α), cs.length = xs.length * s → (∀ i x, xs[i]? = some x → (cs.drop (i * s)).take s = F x) → cs = xs.flatMap F := by
  intro xs
  induction xs with
  | nil => intro cs h _; simpa using h
  | cons x xs ih =>
    intro cs h hx
    have h0 := hx 0 x rfl
    rw [Nat.zero_mul, List.drop_zero] at h0
    have hl : (cs.drop s).length = xs.length * s := by rw [List.length_drop, h, List.length_cons, Nat.add_mul, Nat.one_mul]; omega
    have := ih (cs.drop s) hl (fun i y hy => by
      rw [List.drop_drop, show s + i * s = (i + 1) * s by rw [Nat.add_mul, Nat.one_mul]; omega]
      exact hx (i + 1) y hy)
    rw [List.flatMap_cons, ← this, ← h0, List.take_append_drop]
def cut1 {H : Type} : DataW H → List Value
  | .lit (.int k n) => [.int k n]
  | _ => []
def cutN {H : Type} (F : DataW H → List Value) : DataW H → List Value
  | .agg ds => ds.flatMap F
  | _ => []
theorem cut_int {H : Type} {enc : TypeId × Value → H} {w : World} {m base : Nat} {spare : Nat → Bool} {held : Bool} {cs : List Value} {d : DataW H} {p : List MemPlace} (h : DataW.trod enc Tryd.prog w base spare held m 3 cs = some (d, p)) : cs = cut1 d := by
  obtain ⟨n, rfl, hx, _⟩ := DataW.trod_int u3 h
  injection hx with h1 h2
  subst h1
  rfl
theorem cut_arr {H : Type} {enc : TypeId × Value → H} {w : World} {base : Nat} {spare : Nat → Bool} {held : Bool} {t e n s : Nat} (ht : Tryd.prog.underlying t = some (.array n e)) (hs : Tryd.prog.cellsOf e = s) (hc : Tryd.prog.cellsOf t = n * s) {F : DataW H → List Value}
    (he : ∀ m cs d p, DataW.trod enc Tryd.prog w base spare held m e cs = some (d, p) → cs = F d) {m : Nat} {cs : List Value} {d : DataW H} {p : List MemPlace} (h : DataW.trod enc Tryd.prog w base spare held m t cs = some (d, p)) : cs = cutN F d := by
  obtain ⟨xs, m', rfl, hx, hl, hn, hel⟩ := DataW.trod_array ht h
  injection hx with h1 h2
  subst h1
  show cs = (xs.map (·.1)).flatMap F
  rw [List.flatMap_map]
  refine cut_eq s (fun x => F x.1) xs cs (by rw [hl, hc, hn]) (fun i x hx => ?_)
  have hi : i < n := by rw [← hn]; exact (List.getElem?_eq_some_iff.1 hx).1
  have := hel i hi
  rw [hs, hx] at this
  exact he m' _ x.1 x.2 this
theorem gls_of {w : World} {g : Nat} {cs : Array Value} (hv : ∀ i, w.cell? ⟨g, i, Option.none⟩ = cs[i]?) {L : List Int} (hc : cs.toList = L.map (Value.int .i64)) (h0 : L ≠ []) : DenG (old w) w (.eptr L.length (lget (L.map (SV.int .i64)))) (.pointer (some ⟨g, 0, Option.none⟩)) := by
  have hj : ∀ j, cs[j]? = (L[j]?).map (Value.int .i64) := fun j => by rw [← Array.getElem?_toList, hc, List.getElem?_map]
  refine .eptr _ _ _ (fun j => .int .i64 (L.getD j 0)) (fun _ => ?_) (fun j hl => ?_) (fun j hl => ?_)
  · have : 0 < L.length := List.length_pos_iff.2 h0
    have h1 := hv 0
    rw [hj 0, List.getElem?_eq_getElem this] at h1
    exact block_lt h1
  · have : Addr.add ⟨g, 0, Option.none⟩ j = ⟨g, j, Option.none⟩ := by
      unfold Addr.add
      by_cases h : j = 0
      · rw [if_pos h, h]
      · rw [if_neg h]; simp
    rw [this, hv j, hj j, List.getElem?_eq_getElem hl]
    simp [List.getD_eq_getElem?_getD, List.getElem?_eq_getElem hl]
  · have e : lget (L.map (SV.int .i64)) j = .int .i64 (L.getD j 0) := by
      simp [lget, List.getD_eq_getElem?_getD, hl]
    rw [e]
    exact .int _ _
theorem nb {a b : Nat} (h : ¬ a = b) : Nat.beq a b = false := by
  cases e : Nat.beq a b with
  | false => rfl
  | true => exact absurd (Nat.eq_of_beq_eq_true e) h
def laidL : List (String × DataW Unit) := [("newel/shaft.turns", Rows.laid_newel_shaft_turns), ("newel/shaft.swaps", Rows.laid_newel_shaft_swaps)]
theorem door_met (os : Os) (args : Array Value) : laidMetH Tryd.prog laidL ((World.doorLaid Tryd.prog 28 os).forCall (fun _ _ => 0) ⟨#[], args, []⟩).memory :=
  laidMetH_of_parts3 (fuel := 8) (laidMet_of_run' 8 (by kernel_rfl) (by kernel_rfl)) (by kernel_rfl) (by kernel_rfl)
theorem gls_laid {W : World} (h : laidMetH Tryd.prog laidL W) : Gls (old W) W := by
  rw [MakeChecks.laidMetH_plain _ _ _ (by kernel_rfl)] at h
  obtain ⟨ps, ⟨g0, t0, cs0, f0, p0, q0, hg0, ht0, hv0, hd0, ⟨g1, t1, cs1, f1, p1, q1, hg1, ht1, hv1, hd1, _, _⟩, _⟩, _, _⟩ := h
  obtain rfl := Option.some.inj (gTurns.symm.trans hg0)
  obtain rfl := Option.some.inj (gSwaps.symm.trans hg1)
  obtain rfl := Option.some.inj (tTurns.symm.trans ht0)
  obtain rfl := Option.some.inj (tSwaps.symm.trans ht1)
  have a0 := cut_arr u110 z22 z110 (fun m cs d p h => cut_arr u22 z3 z22 (fun m cs d p h => cut_int h) h) hd0
  have a1 := cut_arr u112 z111 z112 (fun m cs d p h => cut_arr u111 z3 z111 (fun m cs d p h => cut_int h) h) hd1
  intro g cs hg
  unfold glob at hg
  by_cases h0 : g = 0
  · subst h0
    injection hg with hg
    subst hg
    exact gls_of (L := [0, 1, 2, 0, 2, 1, 1, 0, 2, 1, 2, 0, 2, 0, 1, 2, 1, 0]) (World.var?_cell hg0 hv0) a0 (by simp)
  · by_cases h1 : g = 1
    · subst h1
      injection hg with hg
      subst hg
      exact gls_of (L := [0, 1, 0, 2, 1, 2]) (World.var?_cell hg1 hv1) a1 (by simp)
    · rw [nb h0, nb h1] at hg
      cases hg
end Go.Proofs.YtckkodiefpdmhaaDoor
