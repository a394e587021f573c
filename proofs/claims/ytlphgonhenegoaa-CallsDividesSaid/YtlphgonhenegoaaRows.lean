/-
  No cell of these rows narrows 'for every input' (looked for: loops, veiled, ifaces, maps, wideKeys, modest, calm, conditions, laid).
  DERIVED. THE GIVEN ROWS OF THIS SEAT. 10 by the template 'for every input the law returns true; each argument reads behind the call as it read before'; 0 by the template 'total and deterministic' (their statements: YtlphgonhenegoaaTotals.lean).
  GIVEN WITH THE SEED: the statements are not yours to turn. If you find one false, say at which input.
  Laid BY PROGRAM, IN A SANDBOX (cutbox-rows.mjs): the forced cells as the released guide's own fill.sh prints them over the translation 284101a4df2dd550… (all of the seat's roots in one cut). By AI agents, Wed Nov 11 2026. No macro, syntax, notation, axiom, sorry.
-/
import Derived.Test.YtlphgonhenegoaaChecked
import GoSem.Claim
import GoSem.ClaimJoined
import GoSem.ClaimMapViews
import Derived.JoinedTies
import Derived.KernelRfl
namespace Go.Proofs.Ytlphgonhenegoaa
/- THE CELL 'sum', in the pinned program and in every row, IS THE sha256 OF THE DUMP (.gsa) THAT YtlphgonhenegoaaProg.lean LOADS. Nothing in Lean hashes anything: it is a label: what it is worth is what the hold of that sum in a sandbox is worth. -/
noncomputable def Try.pinned : Pinned := { name := "ytlphgonhenegoaa", sum := "284101a4df2dd550cd653e569111c00775c47f3ca400c3eb2703050499a83fc6", checked := Try.checked }
namespace Rows
def none {H : Type} : Left H := { results := [], args := [] }

/-- 'newellaw07.CallsSweep': WHATEVER THE INPUT: true; the input reads as it did. -/
def callsSweepSpec : ChangeSpec := { name := "callsSweep", fn := fun _ => fun
  | [d1, d2] => { results := [.lit (.bool true)], args := [d1, d2] }
  | _ => none }
def callsSweepRow : OpenClaim := { program := "ytlphgonhenegoaa", sum := "284101a4df2dd550cd653e569111c00775c47f3ca400c3eb2703050499a83fc6", func := "newel/newellaw07.CallsSweep", spec := "callsSweep", unfollowed := true, recurses := true, apart := false }
def CallsSweepSaid : Prop := callsSweepRow.holds Try.pinned (OpenSpec.ofChange callsSweepSpec)

/-- ITS FALSE NEIGHBOUR: 'it returns false'. Refute it at one input. -/
def callsSweepWrong : ChangeSpec := { name := "callsSweep", fn := fun _ => fun
  | [d1, d2] => { results := [.lit (.bool false)], args := [d1, d2] }
  | _ => none }
def CallsSweepWrongFalsely : Prop := callsSweepRow.holds Try.pinned (OpenSpec.ofChange callsSweepWrong)

/-- 'newellaw07.CallsPlays': WHATEVER THE INPUT: true; the input reads as it did. -/
def callsPlaysSpec : ChangeSpec := { name := "callsPlays", fn := fun _ => fun
  | [d1, d2, d3] => { results := [.lit (.bool true)], args := [d1, d2, d3] }
  | _ => none }
def callsPlaysRow : OpenClaim := { program := "ytlphgonhenegoaa", sum := "284101a4df2dd550cd653e569111c00775c47f3ca400c3eb2703050499a83fc6", func := "newel/newellaw07.CallsPlays", spec := "callsPlays", unfollowed := true, recurses := true, apart := false }
def CallsPlaysSaid : Prop := callsPlaysRow.holds Try.pinned (OpenSpec.ofChange callsPlaysSpec)

/-- ITS FALSE NEIGHBOUR: 'it returns false'. Refute it at one input. -/
def callsPlaysWrong : ChangeSpec := { name := "callsPlays", fn := fun _ => fun
  | [d1, d2, d3] => { results := [.lit (.bool false)], args := [d1, d2, d3] }
  | _ => none }
def CallsPlaysWrongFalsely : Prop := callsPlaysRow.holds Try.pinned (OpenSpec.ofChange callsPlaysWrong)

/-- 'newellaw07.CallsLater': WHATEVER THE INPUT: true; the input reads as it did. -/
def callsLaterSpec : ChangeSpec := { name := "callsLater", fn := fun _ => fun
  | [d1, d2, d3] => { results := [.lit (.bool true)], args := [d1, d2, d3] }
  | _ => none }
def callsLaterRow : OpenClaim := { program := "ytlphgonhenegoaa", sum := "284101a4df2dd550cd653e569111c00775c47f3ca400c3eb2703050499a83fc6", func := "newel/newellaw07.CallsLater", spec := "callsLater", unfollowed := true, recurses := true, apart := false }
def CallsLaterSaid : Prop := callsLaterRow.holds Try.pinned (OpenSpec.ofChange callsLaterSpec)

/-- ITS FALSE NEIGHBOUR: 'it returns false'. Refute it at one input. -/
def callsLaterWrong : ChangeSpec := { name := "callsLater", fn := fun _ => fun
  | [d1, d2, d3] => { results := [.lit (.bool false)], args := [d1, d2, d3] }
  | _ => none }
def CallsLaterWrongFalsely : Prop := callsLaterRow.holds Try.pinned (OpenSpec.ofChange callsLaterWrong)

/-- 'newellaw07.CallsProves': WHATEVER THE INPUT: true; the input reads as it did. -/
def callsProvesSpec : ChangeSpec := { name := "callsProves", fn := fun _ => fun
  | [d1, d2] => { results := [.lit (.bool true)], args := [d1, d2] }
  | _ => none }
def callsProvesRow : OpenClaim := { program := "ytlphgonhenegoaa", sum := "284101a4df2dd550cd653e569111c00775c47f3ca400c3eb2703050499a83fc6", func := "newel/newellaw07.CallsProves", spec := "callsProves", unfollowed := true, recurses := true, apart := false }
def CallsProvesSaid : Prop := callsProvesRow.holds Try.pinned (OpenSpec.ofChange callsProvesSpec)

/-- ITS FALSE NEIGHBOUR: 'it returns false'. Refute it at one input. -/
def callsProvesWrong : ChangeSpec := { name := "callsProves", fn := fun _ => fun
  | [d1, d2] => { results := [.lit (.bool false)], args := [d1, d2] }
  | _ => none }
def CallsProvesWrongFalsely : Prop := callsProvesRow.holds Try.pinned (OpenSpec.ofChange callsProvesWrong)

/-- 'newellaw07.CallsServed': WHATEVER THE INPUT: true; the input reads as it did. -/
def callsServedSpec : ChangeSpec := { name := "callsServed", fn := fun _ => fun
  | [d1, d2, d3] => { results := [.lit (.bool true)], args := [d1, d2, d3] }
  | _ => none }
def callsServedRow : OpenClaim := { program := "ytlphgonhenegoaa", sum := "284101a4df2dd550cd653e569111c00775c47f3ca400c3eb2703050499a83fc6", func := "newel/newellaw07.CallsServed", spec := "callsServed", unfollowed := true, recurses := true, apart := false }
def CallsServedSaid : Prop := callsServedRow.holds Try.pinned (OpenSpec.ofChange callsServedSpec)

/-- ITS FALSE NEIGHBOUR: 'it returns false'. Refute it at one input. -/
def callsServedWrong : ChangeSpec := { name := "callsServed", fn := fun _ => fun
  | [d1, d2, d3] => { results := [.lit (.bool false)], args := [d1, d2, d3] }
  | _ => none }
def CallsServedWrongFalsely : Prop := callsServedRow.holds Try.pinned (OpenSpec.ofChange callsServedWrong)

/-- 'newellaw07.CallsBounds': WHATEVER THE INPUT: true; the input reads as it did. -/
def callsBoundsSpec : ChangeSpec := { name := "callsBounds", fn := fun _ => fun
  | [d1, d2, d3] => { results := [.lit (.bool true)], args := [d1, d2, d3] }
  | _ => none }
def callsBoundsRow : OpenClaim := { program := "ytlphgonhenegoaa", sum := "284101a4df2dd550cd653e569111c00775c47f3ca400c3eb2703050499a83fc6", func := "newel/newellaw07.CallsBounds", spec := "callsBounds", unfollowed := true, recurses := true, apart := false }
def CallsBoundsSaid : Prop := callsBoundsRow.holds Try.pinned (OpenSpec.ofChange callsBoundsSpec)

/-- ITS FALSE NEIGHBOUR: 'it returns false'. Refute it at one input. -/
def callsBoundsWrong : ChangeSpec := { name := "callsBounds", fn := fun _ => fun
  | [d1, d2, d3] => { results := [.lit (.bool false)], args := [d1, d2, d3] }
  | _ => none }
def CallsBoundsWrongFalsely : Prop := callsBoundsRow.holds Try.pinned (OpenSpec.ofChange callsBoundsWrong)

/-- 'newellaw07.CallsKeeps': WHATEVER THE INPUT: true; the input reads as it did. -/
def callsKeepsSpec : ChangeSpec := { name := "callsKeeps", fn := fun _ => fun
  | [d1, d2, d3] => { results := [.lit (.bool true)], args := [d1, d2, d3] }
  | _ => none }
def callsKeepsRow : OpenClaim := { program := "ytlphgonhenegoaa", sum := "284101a4df2dd550cd653e569111c00775c47f3ca400c3eb2703050499a83fc6", func := "newel/newellaw07.CallsKeeps", spec := "callsKeeps", unfollowed := true, recurses := true, apart := false }
def CallsKeepsSaid : Prop := callsKeepsRow.holds Try.pinned (OpenSpec.ofChange callsKeepsSpec)

/-- ITS FALSE NEIGHBOUR: 'it returns false'. Refute it at one input. -/
def callsKeepsWrong : ChangeSpec := { name := "callsKeeps", fn := fun _ => fun
  | [d1, d2, d3] => { results := [.lit (.bool false)], args := [d1, d2, d3] }
  | _ => none }
def CallsKeepsWrongFalsely : Prop := callsKeepsRow.holds Try.pinned (OpenSpec.ofChange callsKeepsWrong)

/-- 'newellaw07.CallsDivides': WHATEVER THE INPUT: true; the input reads as it did. -/
def callsDividesSpec : ChangeSpec := { name := "callsDivides", fn := fun _ => fun
  | [d1, d2] => { results := [.lit (.bool true)], args := [d1, d2] }
  | _ => none }
def callsDividesRow : OpenClaim := { program := "ytlphgonhenegoaa", sum := "284101a4df2dd550cd653e569111c00775c47f3ca400c3eb2703050499a83fc6", func := "newel/newellaw07.CallsDivides", spec := "callsDivides", unfollowed := true, recurses := true, apart := false }
def CallsDividesSaid : Prop := callsDividesRow.holds Try.pinned (OpenSpec.ofChange callsDividesSpec)

/-- ITS FALSE NEIGHBOUR: 'it returns false'. Refute it at one input. -/
def callsDividesWrong : ChangeSpec := { name := "callsDivides", fn := fun _ => fun
  | [d1, d2] => { results := [.lit (.bool false)], args := [d1, d2] }
  | _ => none }
def CallsDividesWrongFalsely : Prop := callsDividesRow.holds Try.pinned (OpenSpec.ofChange callsDividesWrong)

/-- 'newellaw07.CallsShares': WHATEVER THE INPUT: true; the input reads as it did. -/
def callsSharesSpec : ChangeSpec := { name := "callsShares", fn := fun _ => fun
  | [d1, d2, d3] => { results := [.lit (.bool true)], args := [d1, d2, d3] }
  | _ => none }
def callsSharesRow : OpenClaim := { program := "ytlphgonhenegoaa", sum := "284101a4df2dd550cd653e569111c00775c47f3ca400c3eb2703050499a83fc6", func := "newel/newellaw07.CallsShares", spec := "callsShares", unfollowed := true, recurses := true, apart := false }
def CallsSharesSaid : Prop := callsSharesRow.holds Try.pinned (OpenSpec.ofChange callsSharesSpec)

/-- ITS FALSE NEIGHBOUR: 'it returns false'. Refute it at one input. -/
def callsSharesWrong : ChangeSpec := { name := "callsShares", fn := fun _ => fun
  | [d1, d2, d3] => { results := [.lit (.bool false)], args := [d1, d2, d3] }
  | _ => none }
def CallsSharesWrongFalsely : Prop := callsSharesRow.holds Try.pinned (OpenSpec.ofChange callsSharesWrong)

/-- 'newellaw07.CallsFair': WHATEVER THE INPUT: true; the input reads as it did. -/
def callsFairSpec : ChangeSpec := { name := "callsFair", fn := fun _ => fun
  | [d1, d2, d3] => { results := [.lit (.bool true)], args := [d1, d2, d3] }
  | _ => none }
def callsFairRow : OpenClaim := { program := "ytlphgonhenegoaa", sum := "284101a4df2dd550cd653e569111c00775c47f3ca400c3eb2703050499a83fc6", func := "newel/newellaw07.CallsFair", spec := "callsFair", unfollowed := true, recurses := true, apart := false }
def CallsFairSaid : Prop := callsFairRow.holds Try.pinned (OpenSpec.ofChange callsFairSpec)

/-- ITS FALSE NEIGHBOUR: 'it returns false'. Refute it at one input. -/
def callsFairWrong : ChangeSpec := { name := "callsFair", fn := fun _ => fun
  | [d1, d2, d3] => { results := [.lit (.bool false)], args := [d1, d2, d3] }
  | _ => none }
def CallsFairWrongFalsely : Prop := callsFairRow.holds Try.pinned (OpenSpec.ofChange callsFairWrong)

/- THE SECOND FORM. 'bulk': how many values and letters a reading holds, each counted each time it is reached (what is shared counts as often as it is met; a slice's spare places count too). A statement '..UptoSaid' is the law's where the arguments, and the package variables that the reading takes, are together of bulk at most 1048576: NARROWER than '..Said'. Prove '..Said' where nothing that the law and all that it calls make is longer than what came in: it says more and counts as full. Else prove '..UptoSaid'. A law counts once. -/
mutual
def uptoBulk {H : Type} : DataW H → Nat
  | .lit (.string bytes) => bytes.length + 1
  | .lit _ => 1
  | .nil => 1
  | .ptr d => uptoBulk d + 1
  | .slice elems spare => uptoBulkAll elems + uptoBulkAll spare + 1
  | .agg parts => uptoBulkAll parts + 1
  | .iface _ d => uptoBulk d + 1
  | .map entries => uptoBulkEntries entries + 1
  | .held _ => 1
def uptoBulkAll {H : Type} : List (DataW H) → Nat
  | [] => 0
  | d :: r => uptoBulk d + uptoBulkAll r
def uptoBulkEntries {H : Type} : List (Lit × DataW H) → Nat
  | [] => 0
  | x :: r => uptoBulkEntry x + uptoBulkEntries r
def uptoBulkEntry {H : Type} : Lit × DataW H → Nat
  | (.string bytes, d) => bytes.length + uptoBulk d + 1
  | (_, d) => uptoBulk d + 1
 end
def uptoSmall : (H : Type) → List (DataW H) → Bool := fun _ ds => decide (uptoBulkAll ds ≤ 1048576)
def OpenSpec.upto (s : _root_.Go.ChangeSpec) : _root_.Go.OpenSpec := { _root_.Go.OpenSpec.ofChange s with cond := some uptoSmall }

/-- 'newellaw07.CallsSweep', WHERE WHAT IT READS IS OF BULK AT MOST 1048576: true; the input reads as it did. -/
def callsSweepUptoRow : OpenClaim := { program := "ytlphgonhenegoaa", sum := "284101a4df2dd550cd653e569111c00775c47f3ca400c3eb2703050499a83fc6", func := "newel/newellaw07.CallsSweep", spec := "callsSweep", unfollowed := true, recurses := true, apart := false, narrowed := true }
def CallsSweepUptoSaid : Prop := callsSweepUptoRow.holds Try.pinned (OpenSpec.upto callsSweepSpec)

/-- 'newellaw07.CallsPlays', WHERE WHAT IT READS IS OF BULK AT MOST 1048576: true; the input reads as it did. -/
def callsPlaysUptoRow : OpenClaim := { program := "ytlphgonhenegoaa", sum := "284101a4df2dd550cd653e569111c00775c47f3ca400c3eb2703050499a83fc6", func := "newel/newellaw07.CallsPlays", spec := "callsPlays", unfollowed := true, recurses := true, apart := false, narrowed := true }
def CallsPlaysUptoSaid : Prop := callsPlaysUptoRow.holds Try.pinned (OpenSpec.upto callsPlaysSpec)

/-- 'newellaw07.CallsLater', WHERE WHAT IT READS IS OF BULK AT MOST 1048576: true; the input reads as it did. -/
def callsLaterUptoRow : OpenClaim := { program := "ytlphgonhenegoaa", sum := "284101a4df2dd550cd653e569111c00775c47f3ca400c3eb2703050499a83fc6", func := "newel/newellaw07.CallsLater", spec := "callsLater", unfollowed := true, recurses := true, apart := false, narrowed := true }
def CallsLaterUptoSaid : Prop := callsLaterUptoRow.holds Try.pinned (OpenSpec.upto callsLaterSpec)

/-- 'newellaw07.CallsProves', WHERE WHAT IT READS IS OF BULK AT MOST 1048576: true; the input reads as it did. -/
def callsProvesUptoRow : OpenClaim := { program := "ytlphgonhenegoaa", sum := "284101a4df2dd550cd653e569111c00775c47f3ca400c3eb2703050499a83fc6", func := "newel/newellaw07.CallsProves", spec := "callsProves", unfollowed := true, recurses := true, apart := false, narrowed := true }
def CallsProvesUptoSaid : Prop := callsProvesUptoRow.holds Try.pinned (OpenSpec.upto callsProvesSpec)

/-- 'newellaw07.CallsServed', WHERE WHAT IT READS IS OF BULK AT MOST 1048576: true; the input reads as it did. -/
def callsServedUptoRow : OpenClaim := { program := "ytlphgonhenegoaa", sum := "284101a4df2dd550cd653e569111c00775c47f3ca400c3eb2703050499a83fc6", func := "newel/newellaw07.CallsServed", spec := "callsServed", unfollowed := true, recurses := true, apart := false, narrowed := true }
def CallsServedUptoSaid : Prop := callsServedUptoRow.holds Try.pinned (OpenSpec.upto callsServedSpec)

/-- 'newellaw07.CallsBounds', WHERE WHAT IT READS IS OF BULK AT MOST 1048576: true; the input reads as it did. -/
def callsBoundsUptoRow : OpenClaim := { program := "ytlphgonhenegoaa", sum := "284101a4df2dd550cd653e569111c00775c47f3ca400c3eb2703050499a83fc6", func := "newel/newellaw07.CallsBounds", spec := "callsBounds", unfollowed := true, recurses := true, apart := false, narrowed := true }
def CallsBoundsUptoSaid : Prop := callsBoundsUptoRow.holds Try.pinned (OpenSpec.upto callsBoundsSpec)

/-- 'newellaw07.CallsKeeps', WHERE WHAT IT READS IS OF BULK AT MOST 1048576: true; the input reads as it did. -/
def callsKeepsUptoRow : OpenClaim := { program := "ytlphgonhenegoaa", sum := "284101a4df2dd550cd653e569111c00775c47f3ca400c3eb2703050499a83fc6", func := "newel/newellaw07.CallsKeeps", spec := "callsKeeps", unfollowed := true, recurses := true, apart := false, narrowed := true }
def CallsKeepsUptoSaid : Prop := callsKeepsUptoRow.holds Try.pinned (OpenSpec.upto callsKeepsSpec)

/-- 'newellaw07.CallsDivides', WHERE WHAT IT READS IS OF BULK AT MOST 1048576: true; the input reads as it did. -/
def callsDividesUptoRow : OpenClaim := { program := "ytlphgonhenegoaa", sum := "284101a4df2dd550cd653e569111c00775c47f3ca400c3eb2703050499a83fc6", func := "newel/newellaw07.CallsDivides", spec := "callsDivides", unfollowed := true, recurses := true, apart := false, narrowed := true }
def CallsDividesUptoSaid : Prop := callsDividesUptoRow.holds Try.pinned (OpenSpec.upto callsDividesSpec)

/-- 'newellaw07.CallsShares', WHERE WHAT IT READS IS OF BULK AT MOST 1048576: true; the input reads as it did. -/
def callsSharesUptoRow : OpenClaim := { program := "ytlphgonhenegoaa", sum := "284101a4df2dd550cd653e569111c00775c47f3ca400c3eb2703050499a83fc6", func := "newel/newellaw07.CallsShares", spec := "callsShares", unfollowed := true, recurses := true, apart := false, narrowed := true }
def CallsSharesUptoSaid : Prop := callsSharesUptoRow.holds Try.pinned (OpenSpec.upto callsSharesSpec)

/-- 'newellaw07.CallsFair', WHERE WHAT IT READS IS OF BULK AT MOST 1048576: true; the input reads as it did. -/
def callsFairUptoRow : OpenClaim := { program := "ytlphgonhenegoaa", sum := "284101a4df2dd550cd653e569111c00775c47f3ca400c3eb2703050499a83fc6", func := "newel/newellaw07.CallsFair", spec := "callsFair", unfollowed := true, recurses := true, apart := false, narrowed := true }
def CallsFairUptoSaid : Prop := callsFairUptoRow.holds Try.pinned (OpenSpec.upto callsFairSpec)

end Rows
end Go.Proofs.Ytlphgonhenegoaa
