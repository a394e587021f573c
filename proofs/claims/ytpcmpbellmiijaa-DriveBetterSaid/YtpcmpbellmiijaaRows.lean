/-
  No cell of these rows narrows 'for every input' (looked for: loops, veiled, ifaces, maps, wideKeys, modest, calm, conditions, laid).
  DERIVED. THE GIVEN ROWS OF THIS SEAT. 12 by the template 'for every input the law returns true; each argument reads behind the call as it read before'; 0 by the template 'total and deterministic' (their statements: YtpcmpbellmiijaaTotals.lean).
  GIVEN WITH THE SEED: the statements are not yours to turn. If you find one false, say at which input.
  Laid BY PROGRAM, IN A SANDBOX (cutbox-rows.mjs): the forced cells as the released guide's own fill.sh prints them over the translation 8af66ae084684e51… (all of the seat's roots in one cut). By AI agents, Wed Nov 11 2026. No macro, syntax, notation, axiom, sorry.
-/
import Derived.Test.YtpcmpbellmiijaaChecked
import GoSem.Claim
import GoSem.ClaimJoined
import GoSem.ClaimMapViews
import Derived.JoinedTies
import Derived.KernelRfl
namespace Go.Proofs.Ytpcmpbellmiijaa
/- THE CELL 'sum', in the pinned program and in every row, IS THE sha256 OF THE DUMP (.gsa) THAT YtpcmpbellmiijaaProg.lean LOADS. Nothing in Lean hashes anything: it is a label: what it is worth is what the hold of that sum in a sandbox is worth. -/
noncomputable def Try.pinned : Pinned := { name := "ytpcmpbellmiijaa", sum := "8af66ae084684e51712c7e83490e2ba3a2702573b0e7d2628c855a65bf612654", checked := Try.checked }
namespace Rows
def none {H : Type} : Left H := { results := [], args := [] }

/-- 'newellaw01.DriveBetter': WHATEVER THE INPUT: true; the input reads as it did. -/
def driveBetterSpec : ChangeSpec := { name := "driveBetter", fn := fun _ => fun
  | [d1, d2, d3] => { results := [.lit (.bool true)], args := [d1, d2, d3] }
  | _ => none }
def driveBetterRow : OpenClaim := { program := "ytpcmpbellmiijaa", sum := "8af66ae084684e51712c7e83490e2ba3a2702573b0e7d2628c855a65bf612654", func := "newel/newellaw01.DriveBetter", spec := "driveBetter", unfollowed := true, recurses := true, apart := false }
def DriveBetterSaid : Prop := driveBetterRow.holds Try.pinned (OpenSpec.ofChange driveBetterSpec)

/-- ITS FALSE NEIGHBOUR: 'it returns false'. Refute it at one input. -/
def driveBetterWrong : ChangeSpec := { name := "driveBetter", fn := fun _ => fun
  | [d1, d2, d3] => { results := [.lit (.bool false)], args := [d1, d2, d3] }
  | _ => none }
def DriveBetterWrongFalsely : Prop := driveBetterRow.holds Try.pinned (OpenSpec.ofChange driveBetterWrong)

/-- 'newellaw01.DriveDistances': WHATEVER THE INPUT: true; the input reads as it did. -/
def driveDistancesSpec : ChangeSpec := { name := "driveDistances", fn := fun _ => fun
  | [d1, d2] => { results := [.lit (.bool true)], args := [d1, d2] }
  | _ => none }
def driveDistancesRow : OpenClaim := { program := "ytpcmpbellmiijaa", sum := "8af66ae084684e51712c7e83490e2ba3a2702573b0e7d2628c855a65bf612654", func := "newel/newellaw01.DriveDistances", spec := "driveDistances", unfollowed := true, recurses := true, apart := false }
def DriveDistancesSaid : Prop := driveDistancesRow.holds Try.pinned (OpenSpec.ofChange driveDistancesSpec)

/-- ITS FALSE NEIGHBOUR: 'it returns false'. Refute it at one input. -/
def driveDistancesWrong : ChangeSpec := { name := "driveDistances", fn := fun _ => fun
  | [d1, d2] => { results := [.lit (.bool false)], args := [d1, d2] }
  | _ => none }
def DriveDistancesWrongFalsely : Prop := driveDistancesRow.holds Try.pinned (OpenSpec.ofChange driveDistancesWrong)

/-- 'newellaw01.DriveBacks': WHATEVER THE INPUT: true; the input reads as it did. -/
def driveBacksSpec : ChangeSpec := { name := "driveBacks", fn := fun _ => fun
  | [d1, d2] => { results := [.lit (.bool true)], args := [d1, d2] }
  | _ => none }
def driveBacksRow : OpenClaim := { program := "ytpcmpbellmiijaa", sum := "8af66ae084684e51712c7e83490e2ba3a2702573b0e7d2628c855a65bf612654", func := "newel/newellaw01.DriveBacks", spec := "driveBacks", unfollowed := true, recurses := true, apart := false }
def DriveBacksSaid : Prop := driveBacksRow.holds Try.pinned (OpenSpec.ofChange driveBacksSpec)

/-- ITS FALSE NEIGHBOUR: 'it returns false'. Refute it at one input. -/
def driveBacksWrong : ChangeSpec := { name := "driveBacks", fn := fun _ => fun
  | [d1, d2] => { results := [.lit (.bool false)], args := [d1, d2] }
  | _ => none }
def DriveBacksWrongFalsely : Prop := driveBacksRow.holds Try.pinned (OpenSpec.ofChange driveBacksWrong)

/-- 'newellaw01.DriveOrder': WHATEVER THE INPUT: true; the input reads as it did. -/
def driveOrderSpec : ChangeSpec := { name := "driveOrder", fn := fun _ => fun
  | [d1, d2, d3] => { results := [.lit (.bool true)], args := [d1, d2, d3] }
  | _ => none }
def driveOrderRow : OpenClaim := { program := "ytpcmpbellmiijaa", sum := "8af66ae084684e51712c7e83490e2ba3a2702573b0e7d2628c855a65bf612654", func := "newel/newellaw01.DriveOrder", spec := "driveOrder", unfollowed := true, recurses := true, apart := false }
def DriveOrderSaid : Prop := driveOrderRow.holds Try.pinned (OpenSpec.ofChange driveOrderSpec)

/-- ITS FALSE NEIGHBOUR: 'it returns false'. Refute it at one input. -/
def driveOrderWrong : ChangeSpec := { name := "driveOrder", fn := fun _ => fun
  | [d1, d2, d3] => { results := [.lit (.bool false)], args := [d1, d2, d3] }
  | _ => none }
def DriveOrderWrongFalsely : Prop := driveOrderRow.holds Try.pinned (OpenSpec.ofChange driveOrderWrong)

/-- 'newellaw01.DriveFast': WHATEVER THE INPUT: true; the input reads as it did. -/
def driveFastSpec : ChangeSpec := { name := "driveFast", fn := fun _ => fun
  | [d1, d2, d3] => { results := [.lit (.bool true)], args := [d1, d2, d3] }
  | _ => none }
def driveFastRow : OpenClaim := { program := "ytpcmpbellmiijaa", sum := "8af66ae084684e51712c7e83490e2ba3a2702573b0e7d2628c855a65bf612654", func := "newel/newellaw01.DriveFast", spec := "driveFast", unfollowed := true, recurses := true, apart := false }
def DriveFastSaid : Prop := driveFastRow.holds Try.pinned (OpenSpec.ofChange driveFastSpec)

/-- ITS FALSE NEIGHBOUR: 'it returns false'. Refute it at one input. -/
def driveFastWrong : ChangeSpec := { name := "driveFast", fn := fun _ => fun
  | [d1, d2, d3] => { results := [.lit (.bool false)], args := [d1, d2, d3] }
  | _ => none }
def DriveFastWrongFalsely : Prop := driveFastRow.holds Try.pinned (OpenSpec.ofChange driveFastWrong)

/-- 'newellaw01.DrivePlays': WHATEVER THE INPUT: true; the input reads as it did. -/
def drivePlaysSpec : ChangeSpec := { name := "drivePlays", fn := fun _ => fun
  | [d1, d2, d3] => { results := [.lit (.bool true)], args := [d1, d2, d3] }
  | _ => none }
def drivePlaysRow : OpenClaim := { program := "ytpcmpbellmiijaa", sum := "8af66ae084684e51712c7e83490e2ba3a2702573b0e7d2628c855a65bf612654", func := "newel/newellaw01.DrivePlays", spec := "drivePlays", unfollowed := true, recurses := true, apart := false }
def DrivePlaysSaid : Prop := drivePlaysRow.holds Try.pinned (OpenSpec.ofChange drivePlaysSpec)

/-- ITS FALSE NEIGHBOUR: 'it returns false'. Refute it at one input. -/
def drivePlaysWrong : ChangeSpec := { name := "drivePlays", fn := fun _ => fun
  | [d1, d2, d3] => { results := [.lit (.bool false)], args := [d1, d2, d3] }
  | _ => none }
def DrivePlaysWrongFalsely : Prop := drivePlaysRow.holds Try.pinned (OpenSpec.ofChange drivePlaysWrong)

/-- 'newellaw01.DriveFails': WHATEVER THE INPUT: true; the input reads as it did. -/
def driveFailsSpec : ChangeSpec := { name := "driveFails", fn := fun _ => fun
  | [d1, d2, d3] => { results := [.lit (.bool true)], args := [d1, d2, d3] }
  | _ => none }
def driveFailsRow : OpenClaim := { program := "ytpcmpbellmiijaa", sum := "8af66ae084684e51712c7e83490e2ba3a2702573b0e7d2628c855a65bf612654", func := "newel/newellaw01.DriveFails", spec := "driveFails", unfollowed := true, recurses := true, apart := false }
def DriveFailsSaid : Prop := driveFailsRow.holds Try.pinned (OpenSpec.ofChange driveFailsSpec)

/-- ITS FALSE NEIGHBOUR: 'it returns false'. Refute it at one input. -/
def driveFailsWrong : ChangeSpec := { name := "driveFails", fn := fun _ => fun
  | [d1, d2, d3] => { results := [.lit (.bool false)], args := [d1, d2, d3] }
  | _ => none }
def DriveFailsWrongFalsely : Prop := driveFailsRow.holds Try.pinned (OpenSpec.ofChange driveFailsWrong)

/-- 'newellaw01.DriveWithin': WHATEVER THE INPUT: true; the input reads as it did. -/
def driveWithinSpec : ChangeSpec := { name := "driveWithin", fn := fun _ => fun
  | [d1, d2, d3] => { results := [.lit (.bool true)], args := [d1, d2, d3] }
  | _ => none }
def driveWithinRow : OpenClaim := { program := "ytpcmpbellmiijaa", sum := "8af66ae084684e51712c7e83490e2ba3a2702573b0e7d2628c855a65bf612654", func := "newel/newellaw01.DriveWithin", spec := "driveWithin", unfollowed := true, recurses := true, apart := false }
def DriveWithinSaid : Prop := driveWithinRow.holds Try.pinned (OpenSpec.ofChange driveWithinSpec)

/-- ITS FALSE NEIGHBOUR: 'it returns false'. Refute it at one input. -/
def driveWithinWrong : ChangeSpec := { name := "driveWithin", fn := fun _ => fun
  | [d1, d2, d3] => { results := [.lit (.bool false)], args := [d1, d2, d3] }
  | _ => none }
def DriveWithinWrongFalsely : Prop := driveWithinRow.holds Try.pinned (OpenSpec.ofChange driveWithinWrong)

/-- 'newellaw01.DriveChecks': WHATEVER THE INPUT: true; the input reads as it did. -/
def driveChecksSpec : ChangeSpec := { name := "driveChecks", fn := fun _ => fun
  | [d1, d2] => { results := [.lit (.bool true)], args := [d1, d2] }
  | _ => none }
def driveChecksRow : OpenClaim := { program := "ytpcmpbellmiijaa", sum := "8af66ae084684e51712c7e83490e2ba3a2702573b0e7d2628c855a65bf612654", func := "newel/newellaw01.DriveChecks", spec := "driveChecks", unfollowed := true, recurses := true, apart := false }
def DriveChecksSaid : Prop := driveChecksRow.holds Try.pinned (OpenSpec.ofChange driveChecksSpec)

/-- ITS FALSE NEIGHBOUR: 'it returns false'. Refute it at one input. -/
def driveChecksWrong : ChangeSpec := { name := "driveChecks", fn := fun _ => fun
  | [d1, d2] => { results := [.lit (.bool false)], args := [d1, d2] }
  | _ => none }
def DriveChecksWrongFalsely : Prop := driveChecksRow.holds Try.pinned (OpenSpec.ofChange driveChecksWrong)

/-- 'newellaw01.DriveNoBack': WHATEVER THE INPUT: true; the input reads as it did. -/
def driveNoBackSpec : ChangeSpec := { name := "driveNoBack", fn := fun _ => fun
  | [d1, d2, d3] => { results := [.lit (.bool true)], args := [d1, d2, d3] }
  | _ => none }
def driveNoBackRow : OpenClaim := { program := "ytpcmpbellmiijaa", sum := "8af66ae084684e51712c7e83490e2ba3a2702573b0e7d2628c855a65bf612654", func := "newel/newellaw01.DriveNoBack", spec := "driveNoBack", unfollowed := true, recurses := true, apart := false }
def DriveNoBackSaid : Prop := driveNoBackRow.holds Try.pinned (OpenSpec.ofChange driveNoBackSpec)

/-- ITS FALSE NEIGHBOUR: 'it returns false'. Refute it at one input. -/
def driveNoBackWrong : ChangeSpec := { name := "driveNoBack", fn := fun _ => fun
  | [d1, d2, d3] => { results := [.lit (.bool false)], args := [d1, d2, d3] }
  | _ => none }
def DriveNoBackWrongFalsely : Prop := driveNoBackRow.holds Try.pinned (OpenSpec.ofChange driveNoBackWrong)

/-- 'newellaw01.DriveLimits': WHATEVER THE INPUT: true; the input reads as it did. -/
def driveLimitsSpec : ChangeSpec := { name := "driveLimits", fn := fun _ => fun
  | [d1, d2, d3] => { results := [.lit (.bool true)], args := [d1, d2, d3] }
  | _ => none }
def driveLimitsRow : OpenClaim := { program := "ytpcmpbellmiijaa", sum := "8af66ae084684e51712c7e83490e2ba3a2702573b0e7d2628c855a65bf612654", func := "newel/newellaw01.DriveLimits", spec := "driveLimits", unfollowed := true, recurses := true, apart := false }
def DriveLimitsSaid : Prop := driveLimitsRow.holds Try.pinned (OpenSpec.ofChange driveLimitsSpec)

/-- ITS FALSE NEIGHBOUR: 'it returns false'. Refute it at one input. -/
def driveLimitsWrong : ChangeSpec := { name := "driveLimits", fn := fun _ => fun
  | [d1, d2, d3] => { results := [.lit (.bool false)], args := [d1, d2, d3] }
  | _ => none }
def DriveLimitsWrongFalsely : Prop := driveLimitsRow.holds Try.pinned (OpenSpec.ofChange driveLimitsWrong)

/-- 'newellaw01.DriveSingle': WHATEVER THE INPUT: true; the input reads as it did. -/
def driveSingleSpec : ChangeSpec := { name := "driveSingle", fn := fun _ => fun
  | [d1, d2, d3] => { results := [.lit (.bool true)], args := [d1, d2, d3] }
  | _ => none }
def driveSingleRow : OpenClaim := { program := "ytpcmpbellmiijaa", sum := "8af66ae084684e51712c7e83490e2ba3a2702573b0e7d2628c855a65bf612654", func := "newel/newellaw01.DriveSingle", spec := "driveSingle", unfollowed := true, recurses := true, apart := false }
def DriveSingleSaid : Prop := driveSingleRow.holds Try.pinned (OpenSpec.ofChange driveSingleSpec)

/-- ITS FALSE NEIGHBOUR: 'it returns false'. Refute it at one input. -/
def driveSingleWrong : ChangeSpec := { name := "driveSingle", fn := fun _ => fun
  | [d1, d2, d3] => { results := [.lit (.bool false)], args := [d1, d2, d3] }
  | _ => none }
def DriveSingleWrongFalsely : Prop := driveSingleRow.holds Try.pinned (OpenSpec.ofChange driveSingleWrong)

/- THE SECOND FORM. 'bulk': how many values and letters a reading holds, each counted each time it is reached (what is shared counts as often as it is met; a slice's spare places count too). A statement '..UptoSaid' is the law's where the arguments, and the package variables that the reading takes, are together of bulk at most 1048576: NARROWER than '..Said'. Prove '..Said' where nothing that the law and all that it calls make is longer than what came in: it says more and counts as full. Else prove '..UptoSaid'. A law counts once. -/
mutual
def uptoBulk {H : Type} : DataW H → Nat
  | .lit (.string bytes) => bytes.length + 1
  | .lit _ => 1
  | .nil => 1
  | .ptr d => uptoBulk d + 1
  | .slice elems spare => uptoBulkAll elems + uptoBulkAll spare + 1
  | .agg parts => uptoBulkAll parts + 1
  | .iface _ d => uptoBulk d + 1
  | .map entries => uptoBulkEntries entries + 1
  | .held _ => 1
def uptoBulkAll {H : Type} : List (DataW H) → Nat
  | [] => 0
  | d :: r => uptoBulk d + uptoBulkAll r
def uptoBulkEntries {H : Type} : List (Lit × DataW H) → Nat
  | [] => 0
  | x :: r => uptoBulkEntry x + uptoBulkEntries r
def uptoBulkEntry {H : Type} : Lit × DataW H → Nat
  | (.string bytes, d) => bytes.length + uptoBulk d + 1
  | (_, d) => uptoBulk d + 1
 end
def uptoSmall : (H : Type) → List (DataW H) → Bool := fun _ ds => decide (uptoBulkAll ds ≤ 1048576)
def OpenSpec.upto (s : _root_.Go.ChangeSpec) : _root_.Go.OpenSpec := { _root_.Go.OpenSpec.ofChange s with cond := some uptoSmall }

/-- 'newellaw01.DriveBetter', WHERE WHAT IT READS IS OF BULK AT MOST 1048576: true; the input reads as it did. -/
def driveBetterUptoRow : OpenClaim := { program := "ytpcmpbellmiijaa", sum := "8af66ae084684e51712c7e83490e2ba3a2702573b0e7d2628c855a65bf612654", func := "newel/newellaw01.DriveBetter", spec := "driveBetter", unfollowed := true, recurses := true, apart := false, narrowed := true }
def DriveBetterUptoSaid : Prop := driveBetterUptoRow.holds Try.pinned (OpenSpec.upto driveBetterSpec)

/-- 'newellaw01.DriveDistances', WHERE WHAT IT READS IS OF BULK AT MOST 1048576: true; the input reads as it did. -/
def driveDistancesUptoRow : OpenClaim := { program := "ytpcmpbellmiijaa", sum := "8af66ae084684e51712c7e83490e2ba3a2702573b0e7d2628c855a65bf612654", func := "newel/newellaw01.DriveDistances", spec := "driveDistances", unfollowed := true, recurses := true, apart := false, narrowed := true }
def DriveDistancesUptoSaid : Prop := driveDistancesUptoRow.holds Try.pinned (OpenSpec.upto driveDistancesSpec)

/-- 'newellaw01.DriveBacks', WHERE WHAT IT READS IS OF BULK AT MOST 1048576: true; the input reads as it did. -/
def driveBacksUptoRow : OpenClaim := { program := "ytpcmpbellmiijaa", sum := "8af66ae084684e51712c7e83490e2ba3a2702573b0e7d2628c855a65bf612654", func := "newel/newellaw01.DriveBacks", spec := "driveBacks", unfollowed := true, recurses := true, apart := false, narrowed := true }
def DriveBacksUptoSaid : Prop := driveBacksUptoRow.holds Try.pinned (OpenSpec.upto driveBacksSpec)

/-- 'newellaw01.DriveOrder', WHERE WHAT IT READS IS OF BULK AT MOST 1048576: true; the input reads as it did. -/
def driveOrderUptoRow : OpenClaim := { program := "ytpcmpbellmiijaa", sum := "8af66ae084684e51712c7e83490e2ba3a2702573b0e7d2628c855a65bf612654", func := "newel/newellaw01.DriveOrder", spec := "driveOrder", unfollowed := true, recurses := true, apart := false, narrowed := true }
def DriveOrderUptoSaid : Prop := driveOrderUptoRow.holds Try.pinned (OpenSpec.upto driveOrderSpec)

/-- 'newellaw01.DriveFast', WHERE WHAT IT READS IS OF BULK AT MOST 1048576: true; the input reads as it did. -/
def driveFastUptoRow : OpenClaim := { program := "ytpcmpbellmiijaa", sum := "8af66ae084684e51712c7e83490e2ba3a2702573b0e7d2628c855a65bf612654", func := "newel/newellaw01.DriveFast", spec := "driveFast", unfollowed := true, recurses := true, apart := false, narrowed := true }
def DriveFastUptoSaid : Prop := driveFastUptoRow.holds Try.pinned (OpenSpec.upto driveFastSpec)

/-- 'newellaw01.DrivePlays', WHERE WHAT IT READS IS OF BULK AT MOST 1048576: true; the input reads as it did. -/
def drivePlaysUptoRow : OpenClaim := { program := "ytpcmpbellmiijaa", sum := "8af66ae084684e51712c7e83490e2ba3a2702573b0e7d2628c855a65bf612654", func := "newel/newellaw01.DrivePlays", spec := "drivePlays", unfollowed := true, recurses := true, apart := false, narrowed := true }
def DrivePlaysUptoSaid : Prop := drivePlaysUptoRow.holds Try.pinned (OpenSpec.upto drivePlaysSpec)

/-- 'newellaw01.DriveFails', WHERE WHAT IT READS IS OF BULK AT MOST 1048576: true; the input reads as it did. -/
def driveFailsUptoRow : OpenClaim := { program := "ytpcmpbellmiijaa", sum := "8af66ae084684e51712c7e83490e2ba3a2702573b0e7d2628c855a65bf612654", func := "newel/newellaw01.DriveFails", spec := "driveFails", unfollowed := true, recurses := true, apart := false, narrowed := true }
def DriveFailsUptoSaid : Prop := driveFailsUptoRow.holds Try.pinned (OpenSpec.upto driveFailsSpec)

/-- 'newellaw01.DriveWithin', WHERE WHAT IT READS IS OF BULK AT MOST 1048576: true; the input reads as it did. -/
def driveWithinUptoRow : OpenClaim := { program := "ytpcmpbellmiijaa", sum := "8af66ae084684e51712c7e83490e2ba3a2702573b0e7d2628c855a65bf612654", func := "newel/newellaw01.DriveWithin", spec := "driveWithin", unfollowed := true, recurses := true, apart := false, narrowed := true }
def DriveWithinUptoSaid : Prop := driveWithinUptoRow.holds Try.pinned (OpenSpec.upto driveWithinSpec)

/-- 'newellaw01.DriveChecks', WHERE WHAT IT READS IS OF BULK AT MOST 1048576: true; the input reads as it did. -/
def driveChecksUptoRow : OpenClaim := { program := "ytpcmpbellmiijaa", sum := "8af66ae084684e51712c7e83490e2ba3a2702573b0e7d2628c855a65bf612654", func := "newel/newellaw01.DriveChecks", spec := "driveChecks", unfollowed := true, recurses := true, apart := false, narrowed := true }
def DriveChecksUptoSaid : Prop := driveChecksUptoRow.holds Try.pinned (OpenSpec.upto driveChecksSpec)

/-- 'newellaw01.DriveNoBack', WHERE WHAT IT READS IS OF BULK AT MOST 1048576: true; the input reads as it did. -/
def driveNoBackUptoRow : OpenClaim := { program := "ytpcmpbellmiijaa", sum := "8af66ae084684e51712c7e83490e2ba3a2702573b0e7d2628c855a65bf612654", func := "newel/newellaw01.DriveNoBack", spec := "driveNoBack", unfollowed := true, recurses := true, apart := false, narrowed := true }
def DriveNoBackUptoSaid : Prop := driveNoBackUptoRow.holds Try.pinned (OpenSpec.upto driveNoBackSpec)

/-- 'newellaw01.DriveLimits', WHERE WHAT IT READS IS OF BULK AT MOST 1048576: true; the input reads as it did. -/
def driveLimitsUptoRow : OpenClaim := { program := "ytpcmpbellmiijaa", sum := "8af66ae084684e51712c7e83490e2ba3a2702573b0e7d2628c855a65bf612654", func := "newel/newellaw01.DriveLimits", spec := "driveLimits", unfollowed := true, recurses := true, apart := false, narrowed := true }
def DriveLimitsUptoSaid : Prop := driveLimitsUptoRow.holds Try.pinned (OpenSpec.upto driveLimitsSpec)

/-- 'newellaw01.DriveSingle', WHERE WHAT IT READS IS OF BULK AT MOST 1048576: true; the input reads as it did. -/
def driveSingleUptoRow : OpenClaim := { program := "ytpcmpbellmiijaa", sum := "8af66ae084684e51712c7e83490e2ba3a2702573b0e7d2628c855a65bf612654", func := "newel/newellaw01.DriveSingle", spec := "driveSingle", unfollowed := true, recurses := true, apart := false, narrowed := true }
def DriveSingleUptoSaid : Prop := driveSingleUptoRow.holds Try.pinned (OpenSpec.upto driveSingleSpec)

end Rows
end Go.Proofs.Ytpcmpbellmiijaa
