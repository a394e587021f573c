/-
  No cell of these rows narrows 'for every input' (looked for: loops, veiled, ifaces, maps, wideKeys, modest, calm, conditions, laid).
  DERIVED. THE GIVEN ROWS OF THIS SEAT. 5 by the template 'for every input the law returns true; each argument reads behind the call as it read before'; 0 by the template 'total and deterministic' (their statements: YtpillmoddoccfabTotals.lean).
  GIVEN WITH THE SEED: the statements are not yours to turn. If you find one false, say at which input.
  Laid BY PROGRAM, IN A SANDBOX (cutbox-rows.mjs): the forced cells as the released guide's own fill.sh prints them over the translation a28afa8bb39337e6… (all of the seat's roots in one cut). By AI agents, Wed Nov 11 2026. No macro, syntax, notation, axiom, sorry.
-/
import Derived.Test.YtpillmoddoccfabChecked
import GoSem.Claim
import GoSem.ClaimJoined
import GoSem.ClaimMapViews
import Derived.JoinedTies
import Derived.KernelRfl
namespace Go.Proofs.Ytpillmoddoccfab
/- THE CELL 'sum', in the pinned program and in every row, IS THE sha256 OF THE DUMP (.gsa) THAT YtpillmoddoccfabProg.lean LOADS. Nothing in Lean hashes anything: it is a label: what it is worth is what the hold of that sum in a sandbox is worth. -/
noncomputable def Try.pinned : Pinned := { name := "ytpillmoddoccfab", sum := "a28afa8bb39337e69549eb1d8516daaab4184d4dadbece71048b2f8c48887763", checked := Try.checked }
namespace Rows
def none {H : Type} : Left H := { results := [], args := [] }

/-- 'neweltop.TopTour': WHATEVER THE INPUT: true; the input reads as it did. -/
def topTourSpec : ChangeSpec := { name := "topTour", fn := fun _ => fun
  | [d1, d2, d3] => { results := [.lit (.bool true)], args := [d1, d2, d3] }
  | _ => none }
def topTourRow : OpenClaim := { program := "ytpillmoddoccfab", sum := "a28afa8bb39337e69549eb1d8516daaab4184d4dadbece71048b2f8c48887763", func := "newel/neweltop.TopTour", spec := "topTour", unfollowed := true, recurses := true, apart := false }
def TopTourSaid : Prop := topTourRow.holds Try.pinned (OpenSpec.ofChange topTourSpec)

/-- ITS FALSE NEIGHBOUR: 'it returns false'. Refute it at one input. -/
def topTourWrong : ChangeSpec := { name := "topTour", fn := fun _ => fun
  | [d1, d2, d3] => { results := [.lit (.bool false)], args := [d1, d2, d3] }
  | _ => none }
def TopTourWrongFalsely : Prop := topTourRow.holds Try.pinned (OpenSpec.ofChange topTourWrong)

/-- 'neweltop.TopDetour': WHATEVER THE INPUT: true; the input reads as it did. -/
def topDetourSpec : ChangeSpec := { name := "topDetour", fn := fun _ => fun
  | [d1, d2, d3] => { results := [.lit (.bool true)], args := [d1, d2, d3] }
  | _ => none }
def topDetourRow : OpenClaim := { program := "ytpillmoddoccfab", sum := "a28afa8bb39337e69549eb1d8516daaab4184d4dadbece71048b2f8c48887763", func := "newel/neweltop.TopDetour", spec := "topDetour", unfollowed := true, recurses := true, apart := false }
def TopDetourSaid : Prop := topDetourRow.holds Try.pinned (OpenSpec.ofChange topDetourSpec)

/-- ITS FALSE NEIGHBOUR: 'it returns false'. Refute it at one input. -/
def topDetourWrong : ChangeSpec := { name := "topDetour", fn := fun _ => fun
  | [d1, d2, d3] => { results := [.lit (.bool false)], args := [d1, d2, d3] }
  | _ => none }
def TopDetourWrongFalsely : Prop := topDetourRow.holds Try.pinned (OpenSpec.ofChange topDetourWrong)

/-- 'neweltop.TopCarries': WHATEVER THE INPUT: true; the input reads as it did. -/
def topCarriesSpec : ChangeSpec := { name := "topCarries", fn := fun _ => fun
  | [d1, d2, d3] => { results := [.lit (.bool true)], args := [d1, d2, d3] }
  | _ => none }
def topCarriesRow : OpenClaim := { program := "ytpillmoddoccfab", sum := "a28afa8bb39337e69549eb1d8516daaab4184d4dadbece71048b2f8c48887763", func := "newel/neweltop.TopCarries", spec := "topCarries", unfollowed := true, recurses := true, apart := false }
def TopCarriesSaid : Prop := topCarriesRow.holds Try.pinned (OpenSpec.ofChange topCarriesSpec)

/-- ITS FALSE NEIGHBOUR: 'it returns false'. Refute it at one input. -/
def topCarriesWrong : ChangeSpec := { name := "topCarries", fn := fun _ => fun
  | [d1, d2, d3] => { results := [.lit (.bool false)], args := [d1, d2, d3] }
  | _ => none }
def TopCarriesWrongFalsely : Prop := topCarriesRow.holds Try.pinned (OpenSpec.ofChange topCarriesWrong)

/-- 'neweltop.TopRoped': WHATEVER THE INPUT: true; the input reads as it did. -/
def topRopedSpec : ChangeSpec := { name := "topRoped", fn := fun _ => fun
  | [d1, d2, d3] => { results := [.lit (.bool true)], args := [d1, d2, d3] }
  | _ => none }
def topRopedRow : OpenClaim := { program := "ytpillmoddoccfab", sum := "a28afa8bb39337e69549eb1d8516daaab4184d4dadbece71048b2f8c48887763", func := "newel/neweltop.TopRoped", spec := "topRoped", unfollowed := true, recurses := true, apart := false }
def TopRopedSaid : Prop := topRopedRow.holds Try.pinned (OpenSpec.ofChange topRopedSpec)

/-- ITS FALSE NEIGHBOUR: 'it returns false'. Refute it at one input. -/
def topRopedWrong : ChangeSpec := { name := "topRoped", fn := fun _ => fun
  | [d1, d2, d3] => { results := [.lit (.bool false)], args := [d1, d2, d3] }
  | _ => none }
def TopRopedWrongFalsely : Prop := topRopedRow.holds Try.pinned (OpenSpec.ofChange topRopedWrong)

/-- 'neweltop.TopRidden': WHATEVER THE INPUT: true; the input reads as it did. -/
def topRiddenSpec : ChangeSpec := { name := "topRidden", fn := fun _ => fun
  | [d1, d2, d3] => { results := [.lit (.bool true)], args := [d1, d2, d3] }
  | _ => none }
def topRiddenRow : OpenClaim := { program := "ytpillmoddoccfab", sum := "a28afa8bb39337e69549eb1d8516daaab4184d4dadbece71048b2f8c48887763", func := "newel/neweltop.TopRidden", spec := "topRidden", unfollowed := true, recurses := true, apart := false }
def TopRiddenSaid : Prop := topRiddenRow.holds Try.pinned (OpenSpec.ofChange topRiddenSpec)

/-- ITS FALSE NEIGHBOUR: 'it returns false'. Refute it at one input. -/
def topRiddenWrong : ChangeSpec := { name := "topRidden", fn := fun _ => fun
  | [d1, d2, d3] => { results := [.lit (.bool false)], args := [d1, d2, d3] }
  | _ => none }
def TopRiddenWrongFalsely : Prop := topRiddenRow.holds Try.pinned (OpenSpec.ofChange topRiddenWrong)

/- THE SECOND FORM. 'bulk': how many values and letters a reading holds, each counted each time it is reached (what is shared counts as often as it is met; a slice's spare places count too). A statement '..UptoSaid' is the law's where the arguments, and the package variables that the reading takes, are together of bulk at most 1048576: NARROWER than '..Said'. Prove '..Said' where nothing that the law and all that it calls make is longer than what came in: it says more and counts as full. Else prove '..UptoSaid'. A law counts once. -/
mutual
def uptoBulk {H : Type} : DataW H → Nat
  | .lit (.string bytes) => bytes.length + 1
  | .lit _ => 1
  | .nil => 1
  | .ptr d => uptoBulk d + 1
  | .slice elems spare => uptoBulkAll elems + uptoBulkAll spare + 1
  | .agg parts => uptoBulkAll parts + 1
  | .iface _ d => uptoBulk d + 1
  | .map entries => uptoBulkEntries entries + 1
  | .held _ => 1
def uptoBulkAll {H : Type} : List (DataW H) → Nat
  | [] => 0
  | d :: r => uptoBulk d + uptoBulkAll r
def uptoBulkEntries {H : Type} : List (Lit × DataW H) → Nat
  | [] => 0
  | x :: r => uptoBulkEntry x + uptoBulkEntries r
def uptoBulkEntry {H : Type} : Lit × DataW H → Nat
  | (.string bytes, d) => bytes.length + uptoBulk d + 1
  | (_, d) => uptoBulk d + 1
 end
def uptoSmall : (H : Type) → List (DataW H) → Bool := fun _ ds => decide (uptoBulkAll ds ≤ 1048576)
def OpenSpec.upto (s : _root_.Go.ChangeSpec) : _root_.Go.OpenSpec := { _root_.Go.OpenSpec.ofChange s with cond := some uptoSmall }

/-- 'neweltop.TopTour', WHERE WHAT IT READS IS OF BULK AT MOST 1048576: true; the input reads as it did. -/
def topTourUptoRow : OpenClaim := { program := "ytpillmoddoccfab", sum := "a28afa8bb39337e69549eb1d8516daaab4184d4dadbece71048b2f8c48887763", func := "newel/neweltop.TopTour", spec := "topTour", unfollowed := true, recurses := true, apart := false, narrowed := true }
def TopTourUptoSaid : Prop := topTourUptoRow.holds Try.pinned (OpenSpec.upto topTourSpec)

/-- 'neweltop.TopDetour', WHERE WHAT IT READS IS OF BULK AT MOST 1048576: true; the input reads as it did. -/
def topDetourUptoRow : OpenClaim := { program := "ytpillmoddoccfab", sum := "a28afa8bb39337e69549eb1d8516daaab4184d4dadbece71048b2f8c48887763", func := "newel/neweltop.TopDetour", spec := "topDetour", unfollowed := true, recurses := true, apart := false, narrowed := true }
def TopDetourUptoSaid : Prop := topDetourUptoRow.holds Try.pinned (OpenSpec.upto topDetourSpec)

/-- 'neweltop.TopCarries', WHERE WHAT IT READS IS OF BULK AT MOST 1048576: true; the input reads as it did. -/
def topCarriesUptoRow : OpenClaim := { program := "ytpillmoddoccfab", sum := "a28afa8bb39337e69549eb1d8516daaab4184d4dadbece71048b2f8c48887763", func := "newel/neweltop.TopCarries", spec := "topCarries", unfollowed := true, recurses := true, apart := false, narrowed := true }
def TopCarriesUptoSaid : Prop := topCarriesUptoRow.holds Try.pinned (OpenSpec.upto topCarriesSpec)

/-- 'neweltop.TopRoped', WHERE WHAT IT READS IS OF BULK AT MOST 1048576: true; the input reads as it did. -/
def topRopedUptoRow : OpenClaim := { program := "ytpillmoddoccfab", sum := "a28afa8bb39337e69549eb1d8516daaab4184d4dadbece71048b2f8c48887763", func := "newel/neweltop.TopRoped", spec := "topRoped", unfollowed := true, recurses := true, apart := false, narrowed := true }
def TopRopedUptoSaid : Prop := topRopedUptoRow.holds Try.pinned (OpenSpec.upto topRopedSpec)

/-- 'neweltop.TopRidden', WHERE WHAT IT READS IS OF BULK AT MOST 1048576: true; the input reads as it did. -/
def topRiddenUptoRow : OpenClaim := { program := "ytpillmoddoccfab", sum := "a28afa8bb39337e69549eb1d8516daaab4184d4dadbece71048b2f8c48887763", func := "newel/neweltop.TopRidden", spec := "topRidden", unfollowed := true, recurses := true, apart := false, narrowed := true }
def TopRiddenUptoSaid : Prop := topRiddenUptoRow.holds Try.pinned (OpenSpec.upto topRiddenSpec)

end Rows
end Go.Proofs.Ytpillmoddoccfab
