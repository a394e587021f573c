/-
  No cell of these rows narrows 'for every input' (looked for: loops, veiled, ifaces, maps, wideKeys, modest, calm, conditions, laid).
  DERIVED. THE GIVEN ROWS OF THIS SEAT. 9 by the template 'for every input the law returns true; each argument reads behind the call as it read before'; 0 by the template 'total and deterministic' (their statements: YtfaefhegfcidpaaTotals.lean).
  GIVEN WITH THE SEED: the statements are not yours to turn. If you find one false, say at which input.
  Laid BY PROGRAM, IN A SANDBOX (cutbox-rows.mjs): the forced cells as the released guide's own fill.sh prints them over the translation 73b86df67ac421dd… (all of the seat's roots in one cut). By AI agents, Wed Nov 11 2026. No macro, syntax, notation, axiom, sorry.
-/
import Derived.Test.YtfaefhegfcidpaaChecked
import GoSem.Claim
import GoSem.ClaimJoined
import GoSem.ClaimMapViews
import Derived.JoinedTies
import Derived.KernelRfl
namespace Go.Proofs.Ytfaefhegfcidpaa
/- THE CELL 'sum', in the pinned program and in every row, IS THE sha256 OF THE DUMP (.gsa) THAT YtfaefhegfcidpaaProg.lean LOADS. Nothing in Lean hashes anything: it is a label: what it is worth is what the hold of that sum in a sandbox is worth. -/
noncomputable def Try.pinned : Pinned := { name := "ytfaefhegfcidpaa", sum := "73b86df67ac421dd247d5977f4ce021501b69c8ac9ebd907b725f626001f58ee", checked := Try.checked }
namespace Rows
def none {H : Type} : Left H := { results := [], args := [] }

/-- 'newellaw11.EnergyBest': WHATEVER THE INPUT: true; the input reads as it did. -/
def energyBestSpec : ChangeSpec := { name := "energyBest", fn := fun _ => fun
  | [d1, d2] => { results := [.lit (.bool true)], args := [d1, d2] }
  | _ => none }
def energyBestRow : OpenClaim := { program := "ytfaefhegfcidpaa", sum := "73b86df67ac421dd247d5977f4ce021501b69c8ac9ebd907b725f626001f58ee", func := "newel/newellaw11.EnergyBest", spec := "energyBest", recurses := true, apart := false }
def EnergyBestSaid : Prop := energyBestRow.holds Try.pinned (OpenSpec.ofChange energyBestSpec)

/-- ITS FALSE NEIGHBOUR: 'it returns false'. Refute it at one input. -/
def energyBestWrong : ChangeSpec := { name := "energyBest", fn := fun _ => fun
  | [d1, d2] => { results := [.lit (.bool false)], args := [d1, d2] }
  | _ => none }
def EnergyBestWrongFalsely : Prop := energyBestRow.holds Try.pinned (OpenSpec.ofChange energyBestWrong)

/-- 'newellaw11.EnergyMore': WHATEVER THE INPUT: true; the input reads as it did. -/
def energyMoreSpec : ChangeSpec := { name := "energyMore", fn := fun _ => fun
  | [d1, d2] => { results := [.lit (.bool true)], args := [d1, d2] }
  | _ => none }
def energyMoreRow : OpenClaim := { program := "ytfaefhegfcidpaa", sum := "73b86df67ac421dd247d5977f4ce021501b69c8ac9ebd907b725f626001f58ee", func := "newel/newellaw11.EnergyMore", spec := "energyMore", recurses := true, apart := false }
def EnergyMoreSaid : Prop := energyMoreRow.holds Try.pinned (OpenSpec.ofChange energyMoreSpec)

/-- ITS FALSE NEIGHBOUR: 'it returns false'. Refute it at one input. -/
def energyMoreWrong : ChangeSpec := { name := "energyMore", fn := fun _ => fun
  | [d1, d2] => { results := [.lit (.bool false)], args := [d1, d2] }
  | _ => none }
def EnergyMoreWrongFalsely : Prop := energyMoreRow.holds Try.pinned (OpenSpec.ofChange energyMoreWrong)

/-- 'newellaw11.EnergySlow': WHATEVER THE INPUT: true; the input reads as it did. -/
def energySlowSpec : ChangeSpec := { name := "energySlow", fn := fun _ => fun
  | [d1, d2] => { results := [.lit (.bool true)], args := [d1, d2] }
  | _ => none }
def energySlowRow : OpenClaim := { program := "ytfaefhegfcidpaa", sum := "73b86df67ac421dd247d5977f4ce021501b69c8ac9ebd907b725f626001f58ee", func := "newel/newellaw11.EnergySlow", spec := "energySlow", recurses := true, apart := false }
def EnergySlowSaid : Prop := energySlowRow.holds Try.pinned (OpenSpec.ofChange energySlowSpec)

/-- ITS FALSE NEIGHBOUR: 'it returns false'. Refute it at one input. -/
def energySlowWrong : ChangeSpec := { name := "energySlow", fn := fun _ => fun
  | [d1, d2] => { results := [.lit (.bool false)], args := [d1, d2] }
  | _ => none }
def EnergySlowWrongFalsely : Prop := energySlowRow.holds Try.pinned (OpenSpec.ofChange energySlowWrong)

/-- 'newellaw11.EnergyPowers': WHATEVER THE INPUT: true; the input reads as it did. -/
def energyPowersSpec : ChangeSpec := { name := "energyPowers", fn := fun _ => fun
  | [d1, d2, d3] => { results := [.lit (.bool true)], args := [d1, d2, d3] }
  | _ => none }
def energyPowersRow : OpenClaim := { program := "ytfaefhegfcidpaa", sum := "73b86df67ac421dd247d5977f4ce021501b69c8ac9ebd907b725f626001f58ee", func := "newel/newellaw11.EnergyPowers", spec := "energyPowers", recurses := true, apart := false }
def EnergyPowersSaid : Prop := energyPowersRow.holds Try.pinned (OpenSpec.ofChange energyPowersSpec)

/-- ITS FALSE NEIGHBOUR: 'it returns false'. Refute it at one input. -/
def energyPowersWrong : ChangeSpec := { name := "energyPowers", fn := fun _ => fun
  | [d1, d2, d3] => { results := [.lit (.bool false)], args := [d1, d2, d3] }
  | _ => none }
def EnergyPowersWrongFalsely : Prop := energyPowersRow.holds Try.pinned (OpenSpec.ofChange energyPowersWrong)

/-- 'newellaw11.EnergyBills': WHATEVER THE INPUT: true; the input reads as it did. -/
def energyBillsSpec : ChangeSpec := { name := "energyBills", fn := fun _ => fun
  | [d1, d2, d3] => { results := [.lit (.bool true)], args := [d1, d2, d3] }
  | _ => none }
def energyBillsRow : OpenClaim := { program := "ytfaefhegfcidpaa", sum := "73b86df67ac421dd247d5977f4ce021501b69c8ac9ebd907b725f626001f58ee", func := "newel/newellaw11.EnergyBills", spec := "energyBills", unfollowed := true, recurses := true, apart := false }
def EnergyBillsSaid : Prop := energyBillsRow.holds Try.pinned (OpenSpec.ofChange energyBillsSpec)

/-- ITS FALSE NEIGHBOUR: 'it returns false'. Refute it at one input. -/
def energyBillsWrong : ChangeSpec := { name := "energyBills", fn := fun _ => fun
  | [d1, d2, d3] => { results := [.lit (.bool false)], args := [d1, d2, d3] }
  | _ => none }
def EnergyBillsWrongFalsely : Prop := energyBillsRow.holds Try.pinned (OpenSpec.ofChange energyBillsWrong)

/-- 'newellaw11.EnergyWithin': WHATEVER THE INPUT: true; the input reads as it did. -/
def energyWithinSpec : ChangeSpec := { name := "energyWithin", fn := fun _ => fun
  | [d1, d2, d3] => { results := [.lit (.bool true)], args := [d1, d2, d3] }
  | _ => none }
def energyWithinRow : OpenClaim := { program := "ytfaefhegfcidpaa", sum := "73b86df67ac421dd247d5977f4ce021501b69c8ac9ebd907b725f626001f58ee", func := "newel/newellaw11.EnergyWithin", spec := "energyWithin", unfollowed := true, recurses := true, apart := false }
def EnergyWithinSaid : Prop := energyWithinRow.holds Try.pinned (OpenSpec.ofChange energyWithinSpec)

/-- ITS FALSE NEIGHBOUR: 'it returns false'. Refute it at one input. -/
def energyWithinWrong : ChangeSpec := { name := "energyWithin", fn := fun _ => fun
  | [d1, d2, d3] => { results := [.lit (.bool false)], args := [d1, d2, d3] }
  | _ => none }
def EnergyWithinWrongFalsely : Prop := energyWithinRow.holds Try.pinned (OpenSpec.ofChange energyWithinWrong)

/-- 'newellaw11.EnergyLeast': WHATEVER THE INPUT: true; the input reads as it did. -/
def energyLeastSpec : ChangeSpec := { name := "energyLeast", fn := fun _ => fun
  | [d1, d2, d3] => { results := [.lit (.bool true)], args := [d1, d2, d3] }
  | _ => none }
def energyLeastRow : OpenClaim := { program := "ytfaefhegfcidpaa", sum := "73b86df67ac421dd247d5977f4ce021501b69c8ac9ebd907b725f626001f58ee", func := "newel/newellaw11.EnergyLeast", spec := "energyLeast", unfollowed := true, recurses := true, apart := false }
def EnergyLeastSaid : Prop := energyLeastRow.holds Try.pinned (OpenSpec.ofChange energyLeastSpec)

/-- ITS FALSE NEIGHBOUR: 'it returns false'. Refute it at one input. -/
def energyLeastWrong : ChangeSpec := { name := "energyLeast", fn := fun _ => fun
  | [d1, d2, d3] => { results := [.lit (.bool false)], args := [d1, d2, d3] }
  | _ => none }
def EnergyLeastWrongFalsely : Prop := energyLeastRow.holds Try.pinned (OpenSpec.ofChange energyLeastWrong)

/-- 'newellaw11.EnergyMeters': WHATEVER THE INPUT: true; the input reads as it did. -/
def energyMetersSpec : ChangeSpec := { name := "energyMeters", fn := fun _ => fun
  | [d1, d2, d3] => { results := [.lit (.bool true)], args := [d1, d2, d3] }
  | _ => none }
def energyMetersRow : OpenClaim := { program := "ytfaefhegfcidpaa", sum := "73b86df67ac421dd247d5977f4ce021501b69c8ac9ebd907b725f626001f58ee", func := "newel/newellaw11.EnergyMeters", spec := "energyMeters", unfollowed := true, recurses := true, apart := false }
def EnergyMetersSaid : Prop := energyMetersRow.holds Try.pinned (OpenSpec.ofChange energyMetersSpec)

/-- ITS FALSE NEIGHBOUR: 'it returns false'. Refute it at one input. -/
def energyMetersWrong : ChangeSpec := { name := "energyMeters", fn := fun _ => fun
  | [d1, d2, d3] => { results := [.lit (.bool false)], args := [d1, d2, d3] }
  | _ => none }
def EnergyMetersWrongFalsely : Prop := energyMetersRow.holds Try.pinned (OpenSpec.ofChange energyMetersWrong)

/-- 'newellaw11.EnergyHonest': WHATEVER THE INPUT: true; the input reads as it did. -/
def energyHonestSpec : ChangeSpec := { name := "energyHonest", fn := fun _ => fun
  | [d1, d2, d3] => { results := [.lit (.bool true)], args := [d1, d2, d3] }
  | _ => none }
def energyHonestRow : OpenClaim := { program := "ytfaefhegfcidpaa", sum := "73b86df67ac421dd247d5977f4ce021501b69c8ac9ebd907b725f626001f58ee", func := "newel/newellaw11.EnergyHonest", spec := "energyHonest", unfollowed := true, recurses := true, apart := false }
def EnergyHonestSaid : Prop := energyHonestRow.holds Try.pinned (OpenSpec.ofChange energyHonestSpec)

/-- ITS FALSE NEIGHBOUR: 'it returns false'. Refute it at one input. -/
def energyHonestWrong : ChangeSpec := { name := "energyHonest", fn := fun _ => fun
  | [d1, d2, d3] => { results := [.lit (.bool false)], args := [d1, d2, d3] }
  | _ => none }
def EnergyHonestWrongFalsely : Prop := energyHonestRow.holds Try.pinned (OpenSpec.ofChange energyHonestWrong)

/- THE SECOND FORM. 'bulk': how many values and letters a reading holds, each counted each time it is reached (what is shared counts as often as it is met; a slice's spare places count too). A statement '..UptoSaid' is the law's where the arguments, and the package variables that the reading takes, are together of bulk at most 1048576: NARROWER than '..Said'. Prove '..Said' where nothing that the law and all that it calls make is longer than what came in: it says more and counts as full. Else prove '..UptoSaid'. A law counts once. -/
mutual
def uptoBulk {H : Type} : DataW H → Nat
  | .lit (.string bytes) => bytes.length + 1
  | .lit _ => 1
  | .nil => 1
  | .ptr d => uptoBulk d + 1
  | .slice elems spare => uptoBulkAll elems + uptoBulkAll spare + 1
  | .agg parts => uptoBulkAll parts + 1
  | .iface _ d => uptoBulk d + 1
  | .map entries => uptoBulkEntries entries + 1
  | .held _ => 1
def uptoBulkAll {H : Type} : List (DataW H) → Nat
  | [] => 0
  | d :: r => uptoBulk d + uptoBulkAll r
def uptoBulkEntries {H : Type} : List (Lit × DataW H) → Nat
  | [] => 0
  | x :: r => uptoBulkEntry x + uptoBulkEntries r
def uptoBulkEntry {H : Type} : Lit × DataW H → Nat
  | (.string bytes, d) => bytes.length + uptoBulk d + 1
  | (_, d) => uptoBulk d + 1
 end
def uptoSmall : (H : Type) → List (DataW H) → Bool := fun _ ds => decide (uptoBulkAll ds ≤ 1048576)
def OpenSpec.upto (s : _root_.Go.ChangeSpec) : _root_.Go.OpenSpec := { _root_.Go.OpenSpec.ofChange s with cond := some uptoSmall }

/-- 'newellaw11.EnergyBest', WHERE WHAT IT READS IS OF BULK AT MOST 1048576: true; the input reads as it did. -/
def energyBestUptoRow : OpenClaim := { program := "ytfaefhegfcidpaa", sum := "73b86df67ac421dd247d5977f4ce021501b69c8ac9ebd907b725f626001f58ee", func := "newel/newellaw11.EnergyBest", spec := "energyBest", recurses := true, apart := false, narrowed := true }
def EnergyBestUptoSaid : Prop := energyBestUptoRow.holds Try.pinned (OpenSpec.upto energyBestSpec)

/-- 'newellaw11.EnergyMore', WHERE WHAT IT READS IS OF BULK AT MOST 1048576: true; the input reads as it did. -/
def energyMoreUptoRow : OpenClaim := { program := "ytfaefhegfcidpaa", sum := "73b86df67ac421dd247d5977f4ce021501b69c8ac9ebd907b725f626001f58ee", func := "newel/newellaw11.EnergyMore", spec := "energyMore", recurses := true, apart := false, narrowed := true }
def EnergyMoreUptoSaid : Prop := energyMoreUptoRow.holds Try.pinned (OpenSpec.upto energyMoreSpec)

/-- 'newellaw11.EnergySlow', WHERE WHAT IT READS IS OF BULK AT MOST 1048576: true; the input reads as it did. -/
def energySlowUptoRow : OpenClaim := { program := "ytfaefhegfcidpaa", sum := "73b86df67ac421dd247d5977f4ce021501b69c8ac9ebd907b725f626001f58ee", func := "newel/newellaw11.EnergySlow", spec := "energySlow", recurses := true, apart := false, narrowed := true }
def EnergySlowUptoSaid : Prop := energySlowUptoRow.holds Try.pinned (OpenSpec.upto energySlowSpec)

/-- 'newellaw11.EnergyPowers', WHERE WHAT IT READS IS OF BULK AT MOST 1048576: true; the input reads as it did. -/
def energyPowersUptoRow : OpenClaim := { program := "ytfaefhegfcidpaa", sum := "73b86df67ac421dd247d5977f4ce021501b69c8ac9ebd907b725f626001f58ee", func := "newel/newellaw11.EnergyPowers", spec := "energyPowers", recurses := true, apart := false, narrowed := true }
def EnergyPowersUptoSaid : Prop := energyPowersUptoRow.holds Try.pinned (OpenSpec.upto energyPowersSpec)

/-- 'newellaw11.EnergyBills', WHERE WHAT IT READS IS OF BULK AT MOST 1048576: true; the input reads as it did. -/
def energyBillsUptoRow : OpenClaim := { program := "ytfaefhegfcidpaa", sum := "73b86df67ac421dd247d5977f4ce021501b69c8ac9ebd907b725f626001f58ee", func := "newel/newellaw11.EnergyBills", spec := "energyBills", unfollowed := true, recurses := true, apart := false, narrowed := true }
def EnergyBillsUptoSaid : Prop := energyBillsUptoRow.holds Try.pinned (OpenSpec.upto energyBillsSpec)

/-- 'newellaw11.EnergyWithin', WHERE WHAT IT READS IS OF BULK AT MOST 1048576: true; the input reads as it did. -/
def energyWithinUptoRow : OpenClaim := { program := "ytfaefhegfcidpaa", sum := "73b86df67ac421dd247d5977f4ce021501b69c8ac9ebd907b725f626001f58ee", func := "newel/newellaw11.EnergyWithin", spec := "energyWithin", unfollowed := true, recurses := true, apart := false, narrowed := true }
def EnergyWithinUptoSaid : Prop := energyWithinUptoRow.holds Try.pinned (OpenSpec.upto energyWithinSpec)

/-- 'newellaw11.EnergyLeast', WHERE WHAT IT READS IS OF BULK AT MOST 1048576: true; the input reads as it did. -/
def energyLeastUptoRow : OpenClaim := { program := "ytfaefhegfcidpaa", sum := "73b86df67ac421dd247d5977f4ce021501b69c8ac9ebd907b725f626001f58ee", func := "newel/newellaw11.EnergyLeast", spec := "energyLeast", unfollowed := true, recurses := true, apart := false, narrowed := true }
def EnergyLeastUptoSaid : Prop := energyLeastUptoRow.holds Try.pinned (OpenSpec.upto energyLeastSpec)

/-- 'newellaw11.EnergyMeters', WHERE WHAT IT READS IS OF BULK AT MOST 1048576: true; the input reads as it did. -/
def energyMetersUptoRow : OpenClaim := { program := "ytfaefhegfcidpaa", sum := "73b86df67ac421dd247d5977f4ce021501b69c8ac9ebd907b725f626001f58ee", func := "newel/newellaw11.EnergyMeters", spec := "energyMeters", unfollowed := true, recurses := true, apart := false, narrowed := true }
def EnergyMetersUptoSaid : Prop := energyMetersUptoRow.holds Try.pinned (OpenSpec.upto energyMetersSpec)

/-- 'newellaw11.EnergyHonest', WHERE WHAT IT READS IS OF BULK AT MOST 1048576: true; the input reads as it did. -/
def energyHonestUptoRow : OpenClaim := { program := "ytfaefhegfcidpaa", sum := "73b86df67ac421dd247d5977f4ce021501b69c8ac9ebd907b725f626001f58ee", func := "newel/newellaw11.EnergyHonest", spec := "energyHonest", unfollowed := true, recurses := true, apart := false, narrowed := true }
def EnergyHonestUptoSaid : Prop := energyHonestUptoRow.holds Try.pinned (OpenSpec.upto energyHonestSpec)

end Rows
end Go.Proofs.Ytfaefhegfcidpaa
