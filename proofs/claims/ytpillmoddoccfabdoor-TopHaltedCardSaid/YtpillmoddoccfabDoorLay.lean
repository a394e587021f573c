import Derived.Test.YtpillmoddoccfabDoorTie
import Derived.Test.YtpillmoddoccfabDoorSxOpen
import Derived.ProofKit
import Derived.LaidMore
import Derived.OpenShut
import Derived.Stop.Joined
set_option linter.unusedVariables false
set_option maxRecDepth 100000
namespace Go.Proofs.YtpillmoddoccfabDoor
open Go.Sx Go.ChangeShapes Go.WideShapes Go.ChangeAt Go.RowKit
theorem Tryd.own : ownKnob Tryd.prog.godebug = none := by kernel_rfl
theorem gWords : Tryd.prog.globalNamed "newel/newelref04.words" = some 0 := by kernel_rfl
theorem tWords : (Tryd.prog.globals[0]?).map (·.type) = some 54 := by kernel_rfl
theorem u54 : Tryd.prog.underlying 54 = some (.slice 9) := by kernel_rfl
theorem u9 : Tryd.prog.underlying 9 = some .string := by kernel_rfl
theorem z9 : Tryd.prog.cellsOf 9 = 1 := by kernel_rfl
def wordL : List ByteArray := [⟨#[97, 110, 121]⟩, ⟨#[116, 111]⟩, ⟨#[122, 101, 114, 111]⟩, ⟨#[109, 111, 114, 101]⟩, ⟨#[108, 101, 115, 115]⟩, ⟨#[105, 102]⟩, ⟨#[121, 101, 115]⟩, ⟨#[110, 111]⟩]
theorem nb {a b : Nat} (h : ¬ a = b) : Nat.beq a b = false := by
  cases e : Nat.beq a b with
  | false => rfl
  | true => exact absurd (Nat.eq_of_beq_eq_true e) h
def laidL : List (String × DataW Unit) := [("newel/newelref04.words", Rows.laid_newel_newelref04_words)]
theorem door_met (os : Os) (args : Array Value) : laidMetH Tryd.prog laidL ((World.doorLaid Tryd.prog 24 os).forCall (fun _ _ => 0) ⟨#[], args, []⟩).memory :=
  laidMetH_of_parts3 (fuel := 8) (laidMet_of_run' 8 (by kernel_rfl) (by kernel_rfl)) (by kernel_rfl) (by kernel_rfl)
theorem laid_words : (Rows.laid_newel_newelref04_words : DataW Unit) = .slice (wordL.map fun s => .lit (.string s.data.toList)) [] := rfl
theorem word_den (i : Nat) (hi : i < 8) : ∃ s, wordL[i]? = some s ∧ litC [SV.str ByteArray.empty] [[.str ⟨#[97, 110, 121]⟩], [.str ⟨#[116, 111]⟩], [.str ⟨#[122, 101, 114, 111]⟩], [.str ⟨#[109, 111, 114, 101]⟩], [.str ⟨#[108, 101, 115, 115]⟩], [.str ⟨#[105, 102]⟩], [.str ⟨#[121, 101, 115]⟩], [.str ⟨#[110, 111]⟩]] i 0 = .str s := by
  match i, hi with
  | 0, _ => exact ⟨_, rfl, rfl⟩
  | 1, _ => exact ⟨_, rfl, rfl⟩
  | 2, _ => exact ⟨_, rfl, rfl⟩
  | 3, _ => exact ⟨_, rfl, rfl⟩
  | 4, _ => exact ⟨_, rfl, rfl⟩
  | 5, _ => exact ⟨_, rfl, rfl⟩
  | 6, _ => exact ⟨_, rfl, rfl⟩
  | 7, _ => exact ⟨_, rfl, rfl⟩
theorem gls_laid {W : World} (h : laidMetH Tryd.prog laidL W) : Gls (old W) W := by
  rw [MakeChecks.laidMetH_plain _ _ _ (by kernel_rfl)] at h
  obtain ⟨ps, ⟨g0, t0, cs0, f0, p0, q0, hg0, ht0, hv0, hd0, _, _⟩, _, _⟩ := h
  obtain rfl := Option.some.inj (gWords.symm.trans hg0)
  obtain rfl := Option.some.inj (tWords.symm.trans ht0)
  rw [laid_words] at hd0
  obtain ⟨a, cap, hcs, hcap, hel⟩ := open_row u54 z9 hd0
  have h8 : (wordL.map fun s => (DataW.lit (.string s.data.toList) : DataW Unit)).length = 8 := rfl
  rw [h8] at hcs hcap
  have hcell : ∀ i s, wordL[i]? = some s → W.cell? (a.add i) = some (.string s) := fun i s hs => by
    obtain ⟨v, n, q, h1, h2⟩ := hel i (.lit (.string s.data.toList)) (by rw [List.getElem?_map, hs]; rfl)
    obtain ⟨s', e1, e2, _⟩ := DataW.trod_string u9 h2
    have e1 : v = .string s' := by simpa using e1
    have e3 : s.data.toList = s'.data.toList := by
      have := congrArg Prod.fst e2
      simpa using this
    have e4 : s = s' := by
      obtain ⟨⟨l⟩⟩ := s
      obtain ⟨⟨l'⟩⟩ := s'
      simp at e3
      rw [e3]
    rw [h1, e1, e4]
  have hv := World.var?_cell hg0 hv0
  intro g cs hg
  unfold glob at hg
  by_cases h0 : g = 0
  · subst h0
    injection hg with hg
    subst hg
    have hblk : old W a.block := by
      have := hcell 0 _ rfl
      have e := block_lt this
      rw [add_block] at e
      exact e
    refine .eptr _ _ _ (fun _ => .slice (some a) 8 cap) (fun _ => ?_) (fun j hj => ?_) (fun j hj => ?_)
    · have h1 := hv 0
      have : cs0[0]? = some (.slice (some a) 8 cap) := by rw [← Array.getElem?_toList, hcs]; rfl
      rw [this] at h1
      exact block_lt h1
    · have hj : j = 0 := by simp at hj; omega
      subst hj
      have h1 := hv 0
      have : cs0[0]? = some (.slice (some a) 8 cap) := by rw [← Array.getElem?_toList, hcs]; rfl
      rw [this] at h1
      rw [add_zero]
      exact h1
    · have hj : j = 0 := by simp at hj; omega
      subst hj
      refine .sl _ 1 8 _ (some a) cap (fun i _ => .string (wordL.getD i ByteArray.empty)) hcap (fun i j hi hj => ?_) (fun _ => ⟨a, rfl, hblk⟩) (fun ad he i j hi hj => ?_) (fun i j hi hj => ?_)
      · have : j = 0 := by omega
        subst this
        obtain ⟨s, _, e⟩ := word_den i hi
        rw [e]; rfl
      · injection he with he
        subst he
        have : j = 0 := by omega
        subst this
        obtain ⟨s, hs, _⟩ := word_den i hi
        rw [Nat.mul_one, Nat.add_zero, hcell i s hs, List.getD_eq_getElem?_getD, hs]; rfl
      · have : j = 0 := by omega
        subst this
        obtain ⟨s, hs, e⟩ := word_den i hi
        rw [e, List.getD_eq_getElem?_getD, hs]
        exact .str s
  · rw [nb h0] at hg
    cases hg
end Go.Proofs.YtpillmoddoccfabDoor
