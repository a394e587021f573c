/-
  NARROWER THAN 'FOR EVERY INPUT', by the rows' own cells (each row's printed sentence says how): ShaftCarries: laid · ShaftSmaller: laid · ShaftTighter: laid · ShaftShort: laid · ShaftBest: laid · ShaftNever: laid · ShaftMoves: laid · ShaftEdges: laid · ShaftFree: laid · ShaftLargest: laid · ShaftPlans: laid · ShaftLeast: laid.
  DERIVED. THE GIVEN ROWS OF THIS SEAT. 12 by the template 'for every input the law returns true; each argument reads behind the call as it read before'; 0 by the template 'total and deterministic' (their statements: YtckkodiefpdmhaaDoorTotals.lean).
  GIVEN WITH THE SEED: the statements are not yours to turn. If you find one false, say at which input.
  Laid BY PROGRAM, IN A SANDBOX (cutbox-rows.mjs): the forced cells as the released guide's own fill.sh prints them over the translation 4d9ba8815d96fda3… (all of the seat's roots in one cut). By AI agents, Wed Nov 11 2026. No macro, syntax, notation, axiom, sorry.
-/
import Derived.Test.YtckkodiefpdmhaaDoorChecked
import GoSem.Claim
import GoSem.ClaimJoined
import GoSem.ClaimMapViews
import Derived.JoinedTies
import Derived.KernelRfl
namespace Go.Proofs.YtckkodiefpdmhaaDoor
/- THE CELL 'sum', in the pinned program and in every row, IS THE sha256 OF THE DUMP (.gsa) THAT YtckkodiefpdmhaaDoorProg.lean LOADS. Nothing in Lean hashes anything: it is a label: what it is worth is what the hold of that sum in a sandbox is worth. -/
noncomputable def Tryd.pinned : Pinned := { name := "ytckkodiefpdmhaadoor", sum := "4d9ba8815d96fda30763fabb2113d5ae83030c6cedbc5b5cc5cdaadea294ddc1", checked := Tryd.checked }
namespace Rows
def none {H : Type} : Left H := { results := [], args := [] }

/- WHAT THE LISTED PACKAGE-LEVEL VARIABLES READ AS WHEN THE CALL BEGINS. Each datum BY PROGRAM (the guide's laid-datum.mjs) off the statement by which the dump's own 'gosem.cut.vars' lays the variable. In a bare row this is a premise. The card (YtckkodiefpdmhaaDoorCards.lean) ties it to the program's text. -/
def laid_newel_shaft_turns {H : Type} : DataW H := .agg [.agg [.lit (.int .i64 0), .lit (.int .i64 1), .lit (.int .i64 2)], .agg [.lit (.int .i64 0), .lit (.int .i64 2), .lit (.int .i64 1)], .agg [.lit (.int .i64 1), .lit (.int .i64 0), .lit (.int .i64 2)], .agg [.lit (.int .i64 1), .lit (.int .i64 2), .lit (.int .i64 0)], .agg [.lit (.int .i64 2), .lit (.int .i64 0), .lit (.int .i64 1)], .agg [.lit (.int .i64 2), .lit (.int .i64 1), .lit (.int .i64 0)]]
def laid_newel_shaft_swaps {H : Type} : DataW H := .agg [.agg [.lit (.int .i64 0), .lit (.int .i64 1)], .agg [.lit (.int .i64 0), .lit (.int .i64 2)], .agg [.lit (.int .i64 1), .lit (.int .i64 2)]]

/-- 'newellaw09.ShaftCarries': WHATEVER THE INPUT: true; the input reads as it did. -/
def shaftCarriesSpec : ChangeSpec := { name := "shaftCarries", fn := fun _ => fun
  | [d1, d2, d3] => { results := [.lit (.bool true)], args := [d1, d2, d3] }
  | _ => none }
def shaftCarriesRow : OpenClaim := { program := "ytckkodiefpdmhaadoor", sum := "4d9ba8815d96fda30763fabb2113d5ae83030c6cedbc5b5cc5cdaadea294ddc1", func := "newel/newellaw09.ShaftCarries", spec := "shaftCarries", unfollowed := true, recurses := true, named := ["newel/shaft.turns", "newel/shaft.swaps"], plainKeys := false, apart := false, laid := [("newel/shaft.turns", laid_newel_shaft_turns), ("newel/shaft.swaps", laid_newel_shaft_swaps)] }
def ShaftCarriesSaid : Prop := shaftCarriesRow.holds Tryd.pinned (OpenSpec.ofChange shaftCarriesSpec)

/-- ITS FALSE NEIGHBOUR: 'it returns false'. Refute it at one input. -/
def shaftCarriesWrong : ChangeSpec := { name := "shaftCarries", fn := fun _ => fun
  | [d1, d2, d3] => { results := [.lit (.bool false)], args := [d1, d2, d3] }
  | _ => none }
def ShaftCarriesWrongFalsely : Prop := shaftCarriesRow.holds Tryd.pinned (OpenSpec.ofChange shaftCarriesWrong)

/-- 'newellaw09.ShaftSmaller': WHATEVER THE INPUT: true; the input reads as it did. -/
def shaftSmallerSpec : ChangeSpec := { name := "shaftSmaller", fn := fun _ => fun
  | [d1, d2, d3] => { results := [.lit (.bool true)], args := [d1, d2, d3] }
  | _ => none }
def shaftSmallerRow : OpenClaim := { program := "ytckkodiefpdmhaadoor", sum := "4d9ba8815d96fda30763fabb2113d5ae83030c6cedbc5b5cc5cdaadea294ddc1", func := "newel/newellaw09.ShaftSmaller", spec := "shaftSmaller", unfollowed := true, recurses := true, named := ["newel/shaft.turns", "newel/shaft.swaps"], plainKeys := false, apart := false, laid := [("newel/shaft.turns", laid_newel_shaft_turns), ("newel/shaft.swaps", laid_newel_shaft_swaps)] }
def ShaftSmallerSaid : Prop := shaftSmallerRow.holds Tryd.pinned (OpenSpec.ofChange shaftSmallerSpec)

/-- ITS FALSE NEIGHBOUR: 'it returns false'. Refute it at one input. -/
def shaftSmallerWrong : ChangeSpec := { name := "shaftSmaller", fn := fun _ => fun
  | [d1, d2, d3] => { results := [.lit (.bool false)], args := [d1, d2, d3] }
  | _ => none }
def ShaftSmallerWrongFalsely : Prop := shaftSmallerRow.holds Tryd.pinned (OpenSpec.ofChange shaftSmallerWrong)

/-- 'newellaw09.ShaftTighter': WHATEVER THE INPUT: true; the input reads as it did. -/
def shaftTighterSpec : ChangeSpec := { name := "shaftTighter", fn := fun _ => fun
  | [d1, d2] => { results := [.lit (.bool true)], args := [d1, d2] }
  | _ => none }
def shaftTighterRow : OpenClaim := { program := "ytckkodiefpdmhaadoor", sum := "4d9ba8815d96fda30763fabb2113d5ae83030c6cedbc5b5cc5cdaadea294ddc1", func := "newel/newellaw09.ShaftTighter", spec := "shaftTighter", unfollowed := true, recurses := true, named := ["newel/shaft.turns", "newel/shaft.swaps"], plainKeys := false, apart := false, laid := [("newel/shaft.turns", laid_newel_shaft_turns), ("newel/shaft.swaps", laid_newel_shaft_swaps)] }
def ShaftTighterSaid : Prop := shaftTighterRow.holds Tryd.pinned (OpenSpec.ofChange shaftTighterSpec)

/-- ITS FALSE NEIGHBOUR: 'it returns false'. Refute it at one input. -/
def shaftTighterWrong : ChangeSpec := { name := "shaftTighter", fn := fun _ => fun
  | [d1, d2] => { results := [.lit (.bool false)], args := [d1, d2] }
  | _ => none }
def ShaftTighterWrongFalsely : Prop := shaftTighterRow.holds Tryd.pinned (OpenSpec.ofChange shaftTighterWrong)

/-- 'newellaw09.ShaftShort': WHATEVER THE INPUT: true; the input reads as it did. -/
def shaftShortSpec : ChangeSpec := { name := "shaftShort", fn := fun _ => fun
  | [d1, d2, d3] => { results := [.lit (.bool true)], args := [d1, d2, d3] }
  | _ => none }
def shaftShortRow : OpenClaim := { program := "ytckkodiefpdmhaadoor", sum := "4d9ba8815d96fda30763fabb2113d5ae83030c6cedbc5b5cc5cdaadea294ddc1", func := "newel/newellaw09.ShaftShort", spec := "shaftShort", unfollowed := true, recurses := true, named := ["newel/shaft.turns", "newel/shaft.swaps"], plainKeys := false, apart := false, laid := [("newel/shaft.turns", laid_newel_shaft_turns), ("newel/shaft.swaps", laid_newel_shaft_swaps)] }
def ShaftShortSaid : Prop := shaftShortRow.holds Tryd.pinned (OpenSpec.ofChange shaftShortSpec)

/-- ITS FALSE NEIGHBOUR: 'it returns false'. Refute it at one input. -/
def shaftShortWrong : ChangeSpec := { name := "shaftShort", fn := fun _ => fun
  | [d1, d2, d3] => { results := [.lit (.bool false)], args := [d1, d2, d3] }
  | _ => none }
def ShaftShortWrongFalsely : Prop := shaftShortRow.holds Tryd.pinned (OpenSpec.ofChange shaftShortWrong)

/-- 'newellaw09.ShaftBest': WHATEVER THE INPUT: true; the input reads as it did. -/
def shaftBestSpec : ChangeSpec := { name := "shaftBest", fn := fun _ => fun
  | [d] => { results := [.lit (.bool true)], args := [d] }
  | _ => none }
def shaftBestRow : OpenClaim := { program := "ytckkodiefpdmhaadoor", sum := "4d9ba8815d96fda30763fabb2113d5ae83030c6cedbc5b5cc5cdaadea294ddc1", func := "newel/newellaw09.ShaftBest", spec := "shaftBest", unfollowed := true, recurses := true, named := ["newel/shaft.turns", "newel/shaft.swaps"], plainKeys := false, apart := false, laid := [("newel/shaft.turns", laid_newel_shaft_turns), ("newel/shaft.swaps", laid_newel_shaft_swaps)] }
def ShaftBestSaid : Prop := shaftBestRow.holds Tryd.pinned (OpenSpec.ofChange shaftBestSpec)

/-- ITS FALSE NEIGHBOUR: 'it returns false'. Refute it at one input. -/
def shaftBestWrong : ChangeSpec := { name := "shaftBest", fn := fun _ => fun
  | [d] => { results := [.lit (.bool false)], args := [d] }
  | _ => none }
def ShaftBestWrongFalsely : Prop := shaftBestRow.holds Tryd.pinned (OpenSpec.ofChange shaftBestWrong)

/-- 'newellaw09.ShaftNever': WHATEVER THE INPUT: true; the input reads as it did. -/
def shaftNeverSpec : ChangeSpec := { name := "shaftNever", fn := fun _ => fun
  | [d1, d2] => { results := [.lit (.bool true)], args := [d1, d2] }
  | _ => none }
def shaftNeverRow : OpenClaim := { program := "ytckkodiefpdmhaadoor", sum := "4d9ba8815d96fda30763fabb2113d5ae83030c6cedbc5b5cc5cdaadea294ddc1", func := "newel/newellaw09.ShaftNever", spec := "shaftNever", unfollowed := true, recurses := true, named := ["newel/shaft.turns", "newel/shaft.swaps"], plainKeys := false, apart := false, laid := [("newel/shaft.turns", laid_newel_shaft_turns), ("newel/shaft.swaps", laid_newel_shaft_swaps)] }
def ShaftNeverSaid : Prop := shaftNeverRow.holds Tryd.pinned (OpenSpec.ofChange shaftNeverSpec)

/-- ITS FALSE NEIGHBOUR: 'it returns false'. Refute it at one input. -/
def shaftNeverWrong : ChangeSpec := { name := "shaftNever", fn := fun _ => fun
  | [d1, d2] => { results := [.lit (.bool false)], args := [d1, d2] }
  | _ => none }
def ShaftNeverWrongFalsely : Prop := shaftNeverRow.holds Tryd.pinned (OpenSpec.ofChange shaftNeverWrong)

/-- 'newellaw09.ShaftMoves': WHATEVER THE INPUT: true; the input reads as it did. -/
def shaftMovesSpec : ChangeSpec := { name := "shaftMoves", fn := fun _ => fun
  | [d1, d2] => { results := [.lit (.bool true)], args := [d1, d2] }
  | _ => none }
def shaftMovesRow : OpenClaim := { program := "ytckkodiefpdmhaadoor", sum := "4d9ba8815d96fda30763fabb2113d5ae83030c6cedbc5b5cc5cdaadea294ddc1", func := "newel/newellaw09.ShaftMoves", spec := "shaftMoves", unfollowed := true, recurses := true, named := ["newel/shaft.turns", "newel/shaft.swaps"], plainKeys := false, apart := false, laid := [("newel/shaft.turns", laid_newel_shaft_turns), ("newel/shaft.swaps", laid_newel_shaft_swaps)] }
def ShaftMovesSaid : Prop := shaftMovesRow.holds Tryd.pinned (OpenSpec.ofChange shaftMovesSpec)

/-- ITS FALSE NEIGHBOUR: 'it returns false'. Refute it at one input. -/
def shaftMovesWrong : ChangeSpec := { name := "shaftMoves", fn := fun _ => fun
  | [d1, d2] => { results := [.lit (.bool false)], args := [d1, d2] }
  | _ => none }
def ShaftMovesWrongFalsely : Prop := shaftMovesRow.holds Tryd.pinned (OpenSpec.ofChange shaftMovesWrong)

/-- 'newellaw09.ShaftEdges': WHATEVER THE INPUT: true; the input reads as it did. -/
def shaftEdgesSpec : ChangeSpec := { name := "shaftEdges", fn := fun _ => fun
  | [d1, d2, d3] => { results := [.lit (.bool true)], args := [d1, d2, d3] }
  | _ => none }
def shaftEdgesRow : OpenClaim := { program := "ytckkodiefpdmhaadoor", sum := "4d9ba8815d96fda30763fabb2113d5ae83030c6cedbc5b5cc5cdaadea294ddc1", func := "newel/newellaw09.ShaftEdges", spec := "shaftEdges", unfollowed := true, recurses := true, named := ["newel/shaft.turns", "newel/shaft.swaps"], plainKeys := false, apart := false, laid := [("newel/shaft.turns", laid_newel_shaft_turns), ("newel/shaft.swaps", laid_newel_shaft_swaps)] }
def ShaftEdgesSaid : Prop := shaftEdgesRow.holds Tryd.pinned (OpenSpec.ofChange shaftEdgesSpec)

/-- ITS FALSE NEIGHBOUR: 'it returns false'. Refute it at one input. -/
def shaftEdgesWrong : ChangeSpec := { name := "shaftEdges", fn := fun _ => fun
  | [d1, d2, d3] => { results := [.lit (.bool false)], args := [d1, d2, d3] }
  | _ => none }
def ShaftEdgesWrongFalsely : Prop := shaftEdgesRow.holds Tryd.pinned (OpenSpec.ofChange shaftEdgesWrong)

/-- 'newellaw09.ShaftFree': WHATEVER THE INPUT: true; the input reads as it did. -/
def shaftFreeSpec : ChangeSpec := { name := "shaftFree", fn := fun _ => fun
  | [d1, d2, d3] => { results := [.lit (.bool true)], args := [d1, d2, d3] }
  | _ => none }
def shaftFreeRow : OpenClaim := { program := "ytckkodiefpdmhaadoor", sum := "4d9ba8815d96fda30763fabb2113d5ae83030c6cedbc5b5cc5cdaadea294ddc1", func := "newel/newellaw09.ShaftFree", spec := "shaftFree", unfollowed := true, recurses := true, named := ["newel/shaft.turns", "newel/shaft.swaps"], plainKeys := false, apart := false, laid := [("newel/shaft.turns", laid_newel_shaft_turns), ("newel/shaft.swaps", laid_newel_shaft_swaps)] }
def ShaftFreeSaid : Prop := shaftFreeRow.holds Tryd.pinned (OpenSpec.ofChange shaftFreeSpec)

/-- ITS FALSE NEIGHBOUR: 'it returns false'. Refute it at one input. -/
def shaftFreeWrong : ChangeSpec := { name := "shaftFree", fn := fun _ => fun
  | [d1, d2, d3] => { results := [.lit (.bool false)], args := [d1, d2, d3] }
  | _ => none }
def ShaftFreeWrongFalsely : Prop := shaftFreeRow.holds Tryd.pinned (OpenSpec.ofChange shaftFreeWrong)

/-- 'newellaw09.ShaftLargest': WHATEVER THE INPUT: true; the input reads as it did. -/
def shaftLargestSpec : ChangeSpec := { name := "shaftLargest", fn := fun _ => fun
  | [d1, d2, d3] => { results := [.lit (.bool true)], args := [d1, d2, d3] }
  | _ => none }
def shaftLargestRow : OpenClaim := { program := "ytckkodiefpdmhaadoor", sum := "4d9ba8815d96fda30763fabb2113d5ae83030c6cedbc5b5cc5cdaadea294ddc1", func := "newel/newellaw09.ShaftLargest", spec := "shaftLargest", unfollowed := true, recurses := true, named := ["newel/shaft.turns", "newel/shaft.swaps"], plainKeys := false, apart := false, laid := [("newel/shaft.turns", laid_newel_shaft_turns), ("newel/shaft.swaps", laid_newel_shaft_swaps)] }
def ShaftLargestSaid : Prop := shaftLargestRow.holds Tryd.pinned (OpenSpec.ofChange shaftLargestSpec)

/-- ITS FALSE NEIGHBOUR: 'it returns false'. Refute it at one input. -/
def shaftLargestWrong : ChangeSpec := { name := "shaftLargest", fn := fun _ => fun
  | [d1, d2, d3] => { results := [.lit (.bool false)], args := [d1, d2, d3] }
  | _ => none }
def ShaftLargestWrongFalsely : Prop := shaftLargestRow.holds Tryd.pinned (OpenSpec.ofChange shaftLargestWrong)

/-- 'newellaw09.ShaftPlans': WHATEVER THE INPUT: true; the input reads as it did. -/
def shaftPlansSpec : ChangeSpec := { name := "shaftPlans", fn := fun _ => fun
  | [d1, d2, d3] => { results := [.lit (.bool true)], args := [d1, d2, d3] }
  | _ => none }
def shaftPlansRow : OpenClaim := { program := "ytckkodiefpdmhaadoor", sum := "4d9ba8815d96fda30763fabb2113d5ae83030c6cedbc5b5cc5cdaadea294ddc1", func := "newel/newellaw09.ShaftPlans", spec := "shaftPlans", unfollowed := true, recurses := true, named := ["newel/shaft.turns", "newel/shaft.swaps"], plainKeys := false, apart := false, laid := [("newel/shaft.turns", laid_newel_shaft_turns), ("newel/shaft.swaps", laid_newel_shaft_swaps)] }
def ShaftPlansSaid : Prop := shaftPlansRow.holds Tryd.pinned (OpenSpec.ofChange shaftPlansSpec)

/-- ITS FALSE NEIGHBOUR: 'it returns false'. Refute it at one input. -/
def shaftPlansWrong : ChangeSpec := { name := "shaftPlans", fn := fun _ => fun
  | [d1, d2, d3] => { results := [.lit (.bool false)], args := [d1, d2, d3] }
  | _ => none }
def ShaftPlansWrongFalsely : Prop := shaftPlansRow.holds Tryd.pinned (OpenSpec.ofChange shaftPlansWrong)

/-- 'newellaw09.ShaftLeast': WHATEVER THE INPUT: true; the input reads as it did. -/
def shaftLeastSpec : ChangeSpec := { name := "shaftLeast", fn := fun _ => fun
  | [d1, d2] => { results := [.lit (.bool true)], args := [d1, d2] }
  | _ => none }
def shaftLeastRow : OpenClaim := { program := "ytckkodiefpdmhaadoor", sum := "4d9ba8815d96fda30763fabb2113d5ae83030c6cedbc5b5cc5cdaadea294ddc1", func := "newel/newellaw09.ShaftLeast", spec := "shaftLeast", unfollowed := true, recurses := true, named := ["newel/shaft.turns", "newel/shaft.swaps"], plainKeys := false, apart := false, laid := [("newel/shaft.turns", laid_newel_shaft_turns), ("newel/shaft.swaps", laid_newel_shaft_swaps)] }
def ShaftLeastSaid : Prop := shaftLeastRow.holds Tryd.pinned (OpenSpec.ofChange shaftLeastSpec)

/-- ITS FALSE NEIGHBOUR: 'it returns false'. Refute it at one input. -/
def shaftLeastWrong : ChangeSpec := { name := "shaftLeast", fn := fun _ => fun
  | [d1, d2] => { results := [.lit (.bool false)], args := [d1, d2] }
  | _ => none }
def ShaftLeastWrongFalsely : Prop := shaftLeastRow.holds Tryd.pinned (OpenSpec.ofChange shaftLeastWrong)

/- THE SECOND FORM. 'bulk': how many values and letters a reading holds, each counted each time it is reached (what is shared counts as often as it is met; a slice's spare places count too). A statement '..UptoSaid' is the law's where the arguments, and the package variables that the reading takes, are together of bulk at most 1048576: NARROWER than '..Said'. Prove '..Said' where nothing that the law and all that it calls make is longer than what came in: it says more and counts as full. Else prove '..UptoSaid'. A law counts once. -/
mutual
def uptoBulk {H : Type} : DataW H → Nat
  | .lit (.string bytes) => bytes.length + 1
  | .lit _ => 1
  | .nil => 1
  | .ptr d => uptoBulk d + 1
  | .slice elems spare => uptoBulkAll elems + uptoBulkAll spare + 1
  | .agg parts => uptoBulkAll parts + 1
  | .iface _ d => uptoBulk d + 1
  | .map entries => uptoBulkEntries entries + 1
  | .held _ => 1
def uptoBulkAll {H : Type} : List (DataW H) → Nat
  | [] => 0
  | d :: r => uptoBulk d + uptoBulkAll r
def uptoBulkEntries {H : Type} : List (Lit × DataW H) → Nat
  | [] => 0
  | x :: r => uptoBulkEntry x + uptoBulkEntries r
def uptoBulkEntry {H : Type} : Lit × DataW H → Nat
  | (.string bytes, d) => bytes.length + uptoBulk d + 1
  | (_, d) => uptoBulk d + 1
 end
def uptoSmall : (H : Type) → List (DataW H) → Bool := fun _ ds => decide (uptoBulkAll ds ≤ 1048576)
def OpenSpec.upto (s : _root_.Go.ChangeSpec) : _root_.Go.OpenSpec := { _root_.Go.OpenSpec.ofChange s with cond := some uptoSmall }

/-- 'newellaw09.ShaftCarries', WHERE WHAT IT READS IS OF BULK AT MOST 1048576: true; the input reads as it did. -/
def shaftCarriesUptoRow : OpenClaim := { program := "ytckkodiefpdmhaadoor", sum := "4d9ba8815d96fda30763fabb2113d5ae83030c6cedbc5b5cc5cdaadea294ddc1", func := "newel/newellaw09.ShaftCarries", spec := "shaftCarries", unfollowed := true, recurses := true, named := ["newel/shaft.turns", "newel/shaft.swaps"], plainKeys := false, apart := false, laid := [("newel/shaft.turns", laid_newel_shaft_turns), ("newel/shaft.swaps", laid_newel_shaft_swaps)], narrowed := true }
def ShaftCarriesUptoSaid : Prop := shaftCarriesUptoRow.holds Tryd.pinned (OpenSpec.upto shaftCarriesSpec)

/-- 'newellaw09.ShaftSmaller', WHERE WHAT IT READS IS OF BULK AT MOST 1048576: true; the input reads as it did. -/
def shaftSmallerUptoRow : OpenClaim := { program := "ytckkodiefpdmhaadoor", sum := "4d9ba8815d96fda30763fabb2113d5ae83030c6cedbc5b5cc5cdaadea294ddc1", func := "newel/newellaw09.ShaftSmaller", spec := "shaftSmaller", unfollowed := true, recurses := true, named := ["newel/shaft.turns", "newel/shaft.swaps"], plainKeys := false, apart := false, laid := [("newel/shaft.turns", laid_newel_shaft_turns), ("newel/shaft.swaps", laid_newel_shaft_swaps)], narrowed := true }
def ShaftSmallerUptoSaid : Prop := shaftSmallerUptoRow.holds Tryd.pinned (OpenSpec.upto shaftSmallerSpec)

/-- 'newellaw09.ShaftTighter', WHERE WHAT IT READS IS OF BULK AT MOST 1048576: true; the input reads as it did. -/
def shaftTighterUptoRow : OpenClaim := { program := "ytckkodiefpdmhaadoor", sum := "4d9ba8815d96fda30763fabb2113d5ae83030c6cedbc5b5cc5cdaadea294ddc1", func := "newel/newellaw09.ShaftTighter", spec := "shaftTighter", unfollowed := true, recurses := true, named := ["newel/shaft.turns", "newel/shaft.swaps"], plainKeys := false, apart := false, laid := [("newel/shaft.turns", laid_newel_shaft_turns), ("newel/shaft.swaps", laid_newel_shaft_swaps)], narrowed := true }
def ShaftTighterUptoSaid : Prop := shaftTighterUptoRow.holds Tryd.pinned (OpenSpec.upto shaftTighterSpec)

/-- 'newellaw09.ShaftShort', WHERE WHAT IT READS IS OF BULK AT MOST 1048576: true; the input reads as it did. -/
def shaftShortUptoRow : OpenClaim := { program := "ytckkodiefpdmhaadoor", sum := "4d9ba8815d96fda30763fabb2113d5ae83030c6cedbc5b5cc5cdaadea294ddc1", func := "newel/newellaw09.ShaftShort", spec := "shaftShort", unfollowed := true, recurses := true, named := ["newel/shaft.turns", "newel/shaft.swaps"], plainKeys := false, apart := false, laid := [("newel/shaft.turns", laid_newel_shaft_turns), ("newel/shaft.swaps", laid_newel_shaft_swaps)], narrowed := true }
def ShaftShortUptoSaid : Prop := shaftShortUptoRow.holds Tryd.pinned (OpenSpec.upto shaftShortSpec)

/-- 'newellaw09.ShaftBest', WHERE WHAT IT READS IS OF BULK AT MOST 1048576: true; the input reads as it did. -/
def shaftBestUptoRow : OpenClaim := { program := "ytckkodiefpdmhaadoor", sum := "4d9ba8815d96fda30763fabb2113d5ae83030c6cedbc5b5cc5cdaadea294ddc1", func := "newel/newellaw09.ShaftBest", spec := "shaftBest", unfollowed := true, recurses := true, named := ["newel/shaft.turns", "newel/shaft.swaps"], plainKeys := false, apart := false, laid := [("newel/shaft.turns", laid_newel_shaft_turns), ("newel/shaft.swaps", laid_newel_shaft_swaps)], narrowed := true }
def ShaftBestUptoSaid : Prop := shaftBestUptoRow.holds Tryd.pinned (OpenSpec.upto shaftBestSpec)

/-- 'newellaw09.ShaftNever', WHERE WHAT IT READS IS OF BULK AT MOST 1048576: true; the input reads as it did. -/
def shaftNeverUptoRow : OpenClaim := { program := "ytckkodiefpdmhaadoor", sum := "4d9ba8815d96fda30763fabb2113d5ae83030c6cedbc5b5cc5cdaadea294ddc1", func := "newel/newellaw09.ShaftNever", spec := "shaftNever", unfollowed := true, recurses := true, named := ["newel/shaft.turns", "newel/shaft.swaps"], plainKeys := false, apart := false, laid := [("newel/shaft.turns", laid_newel_shaft_turns), ("newel/shaft.swaps", laid_newel_shaft_swaps)], narrowed := true }
def ShaftNeverUptoSaid : Prop := shaftNeverUptoRow.holds Tryd.pinned (OpenSpec.upto shaftNeverSpec)

/-- 'newellaw09.ShaftMoves', WHERE WHAT IT READS IS OF BULK AT MOST 1048576: true; the input reads as it did. -/
def shaftMovesUptoRow : OpenClaim := { program := "ytckkodiefpdmhaadoor", sum := "4d9ba8815d96fda30763fabb2113d5ae83030c6cedbc5b5cc5cdaadea294ddc1", func := "newel/newellaw09.ShaftMoves", spec := "shaftMoves", unfollowed := true, recurses := true, named := ["newel/shaft.turns", "newel/shaft.swaps"], plainKeys := false, apart := false, laid := [("newel/shaft.turns", laid_newel_shaft_turns), ("newel/shaft.swaps", laid_newel_shaft_swaps)], narrowed := true }
def ShaftMovesUptoSaid : Prop := shaftMovesUptoRow.holds Tryd.pinned (OpenSpec.upto shaftMovesSpec)

/-- 'newellaw09.ShaftEdges', WHERE WHAT IT READS IS OF BULK AT MOST 1048576: true; the input reads as it did. -/
def shaftEdgesUptoRow : OpenClaim := { program := "ytckkodiefpdmhaadoor", sum := "4d9ba8815d96fda30763fabb2113d5ae83030c6cedbc5b5cc5cdaadea294ddc1", func := "newel/newellaw09.ShaftEdges", spec := "shaftEdges", unfollowed := true, recurses := true, named := ["newel/shaft.turns", "newel/shaft.swaps"], plainKeys := false, apart := false, laid := [("newel/shaft.turns", laid_newel_shaft_turns), ("newel/shaft.swaps", laid_newel_shaft_swaps)], narrowed := true }
def ShaftEdgesUptoSaid : Prop := shaftEdgesUptoRow.holds Tryd.pinned (OpenSpec.upto shaftEdgesSpec)

/-- 'newellaw09.ShaftFree', WHERE WHAT IT READS IS OF BULK AT MOST 1048576: true; the input reads as it did. -/
def shaftFreeUptoRow : OpenClaim := { program := "ytckkodiefpdmhaadoor", sum := "4d9ba8815d96fda30763fabb2113d5ae83030c6cedbc5b5cc5cdaadea294ddc1", func := "newel/newellaw09.ShaftFree", spec := "shaftFree", unfollowed := true, recurses := true, named := ["newel/shaft.turns", "newel/shaft.swaps"], plainKeys := false, apart := false, laid := [("newel/shaft.turns", laid_newel_shaft_turns), ("newel/shaft.swaps", laid_newel_shaft_swaps)], narrowed := true }
def ShaftFreeUptoSaid : Prop := shaftFreeUptoRow.holds Tryd.pinned (OpenSpec.upto shaftFreeSpec)

/-- 'newellaw09.ShaftLargest', WHERE WHAT IT READS IS OF BULK AT MOST 1048576: true; the input reads as it did. -/
def shaftLargestUptoRow : OpenClaim := { program := "ytckkodiefpdmhaadoor", sum := "4d9ba8815d96fda30763fabb2113d5ae83030c6cedbc5b5cc5cdaadea294ddc1", func := "newel/newellaw09.ShaftLargest", spec := "shaftLargest", unfollowed := true, recurses := true, named := ["newel/shaft.turns", "newel/shaft.swaps"], plainKeys := false, apart := false, laid := [("newel/shaft.turns", laid_newel_shaft_turns), ("newel/shaft.swaps", laid_newel_shaft_swaps)], narrowed := true }
def ShaftLargestUptoSaid : Prop := shaftLargestUptoRow.holds Tryd.pinned (OpenSpec.upto shaftLargestSpec)

/-- 'newellaw09.ShaftPlans', WHERE WHAT IT READS IS OF BULK AT MOST 1048576: true; the input reads as it did. -/
def shaftPlansUptoRow : OpenClaim := { program := "ytckkodiefpdmhaadoor", sum := "4d9ba8815d96fda30763fabb2113d5ae83030c6cedbc5b5cc5cdaadea294ddc1", func := "newel/newellaw09.ShaftPlans", spec := "shaftPlans", unfollowed := true, recurses := true, named := ["newel/shaft.turns", "newel/shaft.swaps"], plainKeys := false, apart := false, laid := [("newel/shaft.turns", laid_newel_shaft_turns), ("newel/shaft.swaps", laid_newel_shaft_swaps)], narrowed := true }
def ShaftPlansUptoSaid : Prop := shaftPlansUptoRow.holds Tryd.pinned (OpenSpec.upto shaftPlansSpec)

/-- 'newellaw09.ShaftLeast', WHERE WHAT IT READS IS OF BULK AT MOST 1048576: true; the input reads as it did. -/
def shaftLeastUptoRow : OpenClaim := { program := "ytckkodiefpdmhaadoor", sum := "4d9ba8815d96fda30763fabb2113d5ae83030c6cedbc5b5cc5cdaadea294ddc1", func := "newel/newellaw09.ShaftLeast", spec := "shaftLeast", unfollowed := true, recurses := true, named := ["newel/shaft.turns", "newel/shaft.swaps"], plainKeys := false, apart := false, laid := [("newel/shaft.turns", laid_newel_shaft_turns), ("newel/shaft.swaps", laid_newel_shaft_swaps)], narrowed := true }
def ShaftLeastUptoSaid : Prop := shaftLeastUptoRow.holds Tryd.pinned (OpenSpec.upto shaftLeastSpec)

end Rows
end Go.Proofs.YtckkodiefpdmhaaDoor
