/-
  No cell of these rows narrows 'for every input' (looked for: loops, veiled, ifaces, maps, wideKeys, modest, calm, conditions, laid).
  DERIVED. THE GIVEN ROWS OF THIS SEAT. 15 by the template 'for every input the law returns true; each argument reads behind the call as it read before'; 0 by the template 'total and deterministic' (their statements: YtljgfdamdcikgaaTotals.lean).
  GIVEN WITH THE SEED: the statements are not yours to turn. If you find one false, say at which input.
  Laid BY PROGRAM, IN A SANDBOX (cutbox-rows.mjs): the forced cells as the released guide's own fill.sh prints them over the translation 133726b975974a38… (all of the seat's roots in one cut). By AI agents, Wed Nov 11 2026. No macro, syntax, notation, axiom, sorry.
-/
import Derived.Test.YtljgfdamdcikgaaChecked
import GoSem.Claim
import GoSem.ClaimJoined
import GoSem.ClaimMapViews
import Derived.JoinedTies
import Derived.KernelRfl
namespace Go.Proofs.Ytljgfdamdcikgaa
/- THE CELL 'sum', in the pinned program and in every row, IS THE sha256 OF THE DUMP (.gsa) THAT YtljgfdamdcikgaaProg.lean LOADS. Nothing in Lean hashes anything: it is a label: what it is worth is what the hold of that sum in a sandbox is worth. -/
noncomputable def Try.pinned : Pinned := { name := "ytljgfdamdcikgaa", sum := "133726b975974a38470d95f685ef844650eec2066b09718a6222b4767cb55562", checked := Try.checked }
namespace Rows
def none {H : Type} : Left H := { results := [], args := [] }

/-- 'numnahlaw04.StripTurned': WHATEVER THE INPUT: true; the input reads as it did. -/
def stripTurnedSpec : ChangeSpec := { name := "stripTurned", fn := fun _ => fun
  | [d1, d2, d3] => { results := [.lit (.bool true)], args := [d1, d2, d3] }
  | _ => none }
def stripTurnedRow : OpenClaim := { program := "ytljgfdamdcikgaa", sum := "133726b975974a38470d95f685ef844650eec2066b09718a6222b4767cb55562", func := "numnah/numnahlaw04.StripTurned", spec := "stripTurned", unfollowed := true, recurses := true, plainKeys := false, apart := false }
def StripTurnedSaid : Prop := stripTurnedRow.holds Try.pinned (OpenSpec.ofChange stripTurnedSpec)

/-- ITS FALSE NEIGHBOUR: 'it returns false'. Refute it at one input. -/
def stripTurnedWrong : ChangeSpec := { name := "stripTurned", fn := fun _ => fun
  | [d1, d2, d3] => { results := [.lit (.bool false)], args := [d1, d2, d3] }
  | _ => none }
def StripTurnedWrongFalsely : Prop := stripTurnedRow.holds Try.pinned (OpenSpec.ofChange stripTurnedWrong)

/-- 'numnahlaw04.StripRows': WHATEVER THE INPUT: true; the input reads as it did. -/
def stripRowsSpec : ChangeSpec := { name := "stripRows", fn := fun _ => fun
  | [d1, d2] => { results := [.lit (.bool true)], args := [d1, d2] }
  | _ => none }
def stripRowsRow : OpenClaim := { program := "ytljgfdamdcikgaa", sum := "133726b975974a38470d95f685ef844650eec2066b09718a6222b4767cb55562", func := "numnah/numnahlaw04.StripRows", spec := "stripRows", unfollowed := true, recurses := true, plainKeys := false, apart := false }
def StripRowsSaid : Prop := stripRowsRow.holds Try.pinned (OpenSpec.ofChange stripRowsSpec)

/-- ITS FALSE NEIGHBOUR: 'it returns false'. Refute it at one input. -/
def stripRowsWrong : ChangeSpec := { name := "stripRows", fn := fun _ => fun
  | [d1, d2] => { results := [.lit (.bool false)], args := [d1, d2] }
  | _ => none }
def StripRowsWrongFalsely : Prop := stripRowsRow.holds Try.pinned (OpenSpec.ofChange stripRowsWrong)

/-- 'numnahlaw04.StripItems': WHATEVER THE INPUT: true; the input reads as it did. -/
def stripItemsSpec : ChangeSpec := { name := "stripItems", fn := fun _ => fun
  | [d1, d2] => { results := [.lit (.bool true)], args := [d1, d2] }
  | _ => none }
def stripItemsRow : OpenClaim := { program := "ytljgfdamdcikgaa", sum := "133726b975974a38470d95f685ef844650eec2066b09718a6222b4767cb55562", func := "numnah/numnahlaw04.StripItems", spec := "stripItems", unfollowed := true, recurses := true, plainKeys := false, apart := false }
def StripItemsSaid : Prop := stripItemsRow.holds Try.pinned (OpenSpec.ofChange stripItemsSpec)

/-- ITS FALSE NEIGHBOUR: 'it returns false'. Refute it at one input. -/
def stripItemsWrong : ChangeSpec := { name := "stripItems", fn := fun _ => fun
  | [d1, d2] => { results := [.lit (.bool false)], args := [d1, d2] }
  | _ => none }
def StripItemsWrongFalsely : Prop := stripItemsRow.holds Try.pinned (OpenSpec.ofChange stripItemsWrong)

/-- 'numnahlaw04.StripEvers': WHATEVER THE INPUT: true; the input reads as it did. -/
def stripEversSpec : ChangeSpec := { name := "stripEvers", fn := fun _ => fun
  | [d1, d2] => { results := [.lit (.bool true)], args := [d1, d2] }
  | _ => none }
def stripEversRow : OpenClaim := { program := "ytljgfdamdcikgaa", sum := "133726b975974a38470d95f685ef844650eec2066b09718a6222b4767cb55562", func := "numnah/numnahlaw04.StripEvers", spec := "stripEvers", unfollowed := true, recurses := true, plainKeys := false, apart := false }
def StripEversSaid : Prop := stripEversRow.holds Try.pinned (OpenSpec.ofChange stripEversSpec)

/-- ITS FALSE NEIGHBOUR: 'it returns false'. Refute it at one input. -/
def stripEversWrong : ChangeSpec := { name := "stripEvers", fn := fun _ => fun
  | [d1, d2] => { results := [.lit (.bool false)], args := [d1, d2] }
  | _ => none }
def StripEversWrongFalsely : Prop := stripEversRow.holds Try.pinned (OpenSpec.ofChange stripEversWrong)

/-- 'numnahlaw04.StripCounts': WHATEVER THE INPUT: true; the input reads as it did. -/
def stripCountsSpec : ChangeSpec := { name := "stripCounts", fn := fun _ => fun
  | [d1, d2, d3] => { results := [.lit (.bool true)], args := [d1, d2, d3] }
  | _ => none }
def stripCountsRow : OpenClaim := { program := "ytljgfdamdcikgaa", sum := "133726b975974a38470d95f685ef844650eec2066b09718a6222b4767cb55562", func := "numnah/numnahlaw04.StripCounts", spec := "stripCounts", unfollowed := true, recurses := true, plainKeys := false, apart := false }
def StripCountsSaid : Prop := stripCountsRow.holds Try.pinned (OpenSpec.ofChange stripCountsSpec)

/-- ITS FALSE NEIGHBOUR: 'it returns false'. Refute it at one input. -/
def stripCountsWrong : ChangeSpec := { name := "stripCounts", fn := fun _ => fun
  | [d1, d2, d3] => { results := [.lit (.bool false)], args := [d1, d2, d3] }
  | _ => none }
def StripCountsWrongFalsely : Prop := stripCountsRow.holds Try.pinned (OpenSpec.ofChange stripCountsWrong)

/-- 'numnahlaw04.StripWalks': WHATEVER THE INPUT: true; the input reads as it did. -/
def stripWalksSpec : ChangeSpec := { name := "stripWalks", fn := fun _ => fun
  | [d1, d2] => { results := [.lit (.bool true)], args := [d1, d2] }
  | _ => none }
def stripWalksRow : OpenClaim := { program := "ytljgfdamdcikgaa", sum := "133726b975974a38470d95f685ef844650eec2066b09718a6222b4767cb55562", func := "numnah/numnahlaw04.StripWalks", spec := "stripWalks", unfollowed := true, recurses := true, plainKeys := false, apart := false }
def StripWalksSaid : Prop := stripWalksRow.holds Try.pinned (OpenSpec.ofChange stripWalksSpec)

/-- ITS FALSE NEIGHBOUR: 'it returns false'. Refute it at one input. -/
def stripWalksWrong : ChangeSpec := { name := "stripWalks", fn := fun _ => fun
  | [d1, d2] => { results := [.lit (.bool false)], args := [d1, d2] }
  | _ => none }
def StripWalksWrongFalsely : Prop := stripWalksRow.holds Try.pinned (OpenSpec.ofChange stripWalksWrong)

/-- 'numnahlaw04.StripIndexes': WHATEVER THE INPUT: true; the input reads as it did. -/
def stripIndexesSpec : ChangeSpec := { name := "stripIndexes", fn := fun _ => fun
  | [d1, d2] => { results := [.lit (.bool true)], args := [d1, d2] }
  | _ => none }
def stripIndexesRow : OpenClaim := { program := "ytljgfdamdcikgaa", sum := "133726b975974a38470d95f685ef844650eec2066b09718a6222b4767cb55562", func := "numnah/numnahlaw04.StripIndexes", spec := "stripIndexes", unfollowed := true, recurses := true, plainKeys := false, apart := false }
def StripIndexesSaid : Prop := stripIndexesRow.holds Try.pinned (OpenSpec.ofChange stripIndexesSpec)

/-- ITS FALSE NEIGHBOUR: 'it returns false'. Refute it at one input. -/
def stripIndexesWrong : ChangeSpec := { name := "stripIndexes", fn := fun _ => fun
  | [d1, d2] => { results := [.lit (.bool false)], args := [d1, d2] }
  | _ => none }
def StripIndexesWrongFalsely : Prop := stripIndexesRow.holds Try.pinned (OpenSpec.ofChange stripIndexesWrong)

/-- 'numnahlaw04.StripExtends': WHATEVER THE INPUT: true; the input reads as it did. -/
def stripExtendsSpec : ChangeSpec := { name := "stripExtends", fn := fun _ => fun
  | [d1, d2, d3] => { results := [.lit (.bool true)], args := [d1, d2, d3] }
  | _ => none }
def stripExtendsRow : OpenClaim := { program := "ytljgfdamdcikgaa", sum := "133726b975974a38470d95f685ef844650eec2066b09718a6222b4767cb55562", func := "numnah/numnahlaw04.StripExtends", spec := "stripExtends", unfollowed := true, recurses := true, plainKeys := false, apart := false }
def StripExtendsSaid : Prop := stripExtendsRow.holds Try.pinned (OpenSpec.ofChange stripExtendsSpec)

/-- ITS FALSE NEIGHBOUR: 'it returns false'. Refute it at one input. -/
def stripExtendsWrong : ChangeSpec := { name := "stripExtends", fn := fun _ => fun
  | [d1, d2, d3] => { results := [.lit (.bool false)], args := [d1, d2, d3] }
  | _ => none }
def StripExtendsWrongFalsely : Prop := stripExtendsRow.holds Try.pinned (OpenSpec.ofChange stripExtendsWrong)

/-- 'numnahlaw04.StripBests': WHATEVER THE INPUT: true; the input reads as it did. -/
def stripBestsSpec : ChangeSpec := { name := "stripBests", fn := fun _ => fun
  | [d1, d2] => { results := [.lit (.bool true)], args := [d1, d2] }
  | _ => none }
def stripBestsRow : OpenClaim := { program := "ytljgfdamdcikgaa", sum := "133726b975974a38470d95f685ef844650eec2066b09718a6222b4767cb55562", func := "numnah/numnahlaw04.StripBests", spec := "stripBests", unfollowed := true, recurses := true, plainKeys := false, apart := false }
def StripBestsSaid : Prop := stripBestsRow.holds Try.pinned (OpenSpec.ofChange stripBestsSpec)

/-- ITS FALSE NEIGHBOUR: 'it returns false'. Refute it at one input. -/
def stripBestsWrong : ChangeSpec := { name := "stripBests", fn := fun _ => fun
  | [d1, d2] => { results := [.lit (.bool false)], args := [d1, d2] }
  | _ => none }
def StripBestsWrongFalsely : Prop := stripBestsRow.holds Try.pinned (OpenSpec.ofChange stripBestsWrong)

/-- 'numnahlaw04.StripThere': WHATEVER THE INPUT: true; the input reads as it did. -/
def stripThereSpec : ChangeSpec := { name := "stripThere", fn := fun _ => fun
  | [d1, d2] => { results := [.lit (.bool true)], args := [d1, d2] }
  | _ => none }
def stripThereRow : OpenClaim := { program := "ytljgfdamdcikgaa", sum := "133726b975974a38470d95f685ef844650eec2066b09718a6222b4767cb55562", func := "numnah/numnahlaw04.StripThere", spec := "stripThere", unfollowed := true, recurses := true, plainKeys := false, apart := false }
def StripThereSaid : Prop := stripThereRow.holds Try.pinned (OpenSpec.ofChange stripThereSpec)

/-- ITS FALSE NEIGHBOUR: 'it returns false'. Refute it at one input. -/
def stripThereWrong : ChangeSpec := { name := "stripThere", fn := fun _ => fun
  | [d1, d2] => { results := [.lit (.bool false)], args := [d1, d2] }
  | _ => none }
def StripThereWrongFalsely : Prop := stripThereRow.holds Try.pinned (OpenSpec.ofChange stripThereWrong)

/-- 'numnahlaw04.StripLasting': WHATEVER THE INPUT: true; the input reads as it did. -/
def stripLastingSpec : ChangeSpec := { name := "stripLasting", fn := fun _ => fun
  | [d1, d2] => { results := [.lit (.bool true)], args := [d1, d2] }
  | _ => none }
def stripLastingRow : OpenClaim := { program := "ytljgfdamdcikgaa", sum := "133726b975974a38470d95f685ef844650eec2066b09718a6222b4767cb55562", func := "numnah/numnahlaw04.StripLasting", spec := "stripLasting", unfollowed := true, recurses := true, plainKeys := false, apart := false }
def StripLastingSaid : Prop := stripLastingRow.holds Try.pinned (OpenSpec.ofChange stripLastingSpec)

/-- ITS FALSE NEIGHBOUR: 'it returns false'. Refute it at one input. -/
def stripLastingWrong : ChangeSpec := { name := "stripLasting", fn := fun _ => fun
  | [d1, d2] => { results := [.lit (.bool false)], args := [d1, d2] }
  | _ => none }
def StripLastingWrongFalsely : Prop := stripLastingRow.holds Try.pinned (OpenSpec.ofChange stripLastingWrong)

/-- 'numnahlaw04.StripFirst': WHATEVER THE INPUT: true; the input reads as it did. -/
def stripFirstSpec : ChangeSpec := { name := "stripFirst", fn := fun _ => fun
  | [d1, d2] => { results := [.lit (.bool true)], args := [d1, d2] }
  | _ => none }
def stripFirstRow : OpenClaim := { program := "ytljgfdamdcikgaa", sum := "133726b975974a38470d95f685ef844650eec2066b09718a6222b4767cb55562", func := "numnah/numnahlaw04.StripFirst", spec := "stripFirst", unfollowed := true, recurses := true, plainKeys := false, apart := false }
def StripFirstSaid : Prop := stripFirstRow.holds Try.pinned (OpenSpec.ofChange stripFirstSpec)

/-- ITS FALSE NEIGHBOUR: 'it returns false'. Refute it at one input. -/
def stripFirstWrong : ChangeSpec := { name := "stripFirst", fn := fun _ => fun
  | [d1, d2] => { results := [.lit (.bool false)], args := [d1, d2] }
  | _ => none }
def StripFirstWrongFalsely : Prop := stripFirstRow.holds Try.pinned (OpenSpec.ofChange stripFirstWrong)

/-- 'numnahlaw04.StripRepeated': WHATEVER THE INPUT: true; the input reads as it did. -/
def stripRepeatedSpec : ChangeSpec := { name := "stripRepeated", fn := fun _ => fun
  | [d1, d2, d3] => { results := [.lit (.bool true)], args := [d1, d2, d3] }
  | _ => none }
def stripRepeatedRow : OpenClaim := { program := "ytljgfdamdcikgaa", sum := "133726b975974a38470d95f685ef844650eec2066b09718a6222b4767cb55562", func := "numnah/numnahlaw04.StripRepeated", spec := "stripRepeated", unfollowed := true, recurses := true, plainKeys := false, apart := false }
def StripRepeatedSaid : Prop := stripRepeatedRow.holds Try.pinned (OpenSpec.ofChange stripRepeatedSpec)

/-- ITS FALSE NEIGHBOUR: 'it returns false'. Refute it at one input. -/
def stripRepeatedWrong : ChangeSpec := { name := "stripRepeated", fn := fun _ => fun
  | [d1, d2, d3] => { results := [.lit (.bool false)], args := [d1, d2, d3] }
  | _ => none }
def StripRepeatedWrongFalsely : Prop := stripRepeatedRow.holds Try.pinned (OpenSpec.ofChange stripRepeatedWrong)

/-- 'numnahlaw04.StripOwn': WHATEVER THE INPUT: true; the input reads as it did. -/
def stripOwnSpec : ChangeSpec := { name := "stripOwn", fn := fun _ => fun
  | [d1, d2] => { results := [.lit (.bool true)], args := [d1, d2] }
  | _ => none }
def stripOwnRow : OpenClaim := { program := "ytljgfdamdcikgaa", sum := "133726b975974a38470d95f685ef844650eec2066b09718a6222b4767cb55562", func := "numnah/numnahlaw04.StripOwn", spec := "stripOwn", unfollowed := true, recurses := true, plainKeys := false, apart := false }
def StripOwnSaid : Prop := stripOwnRow.holds Try.pinned (OpenSpec.ofChange stripOwnSpec)

/-- ITS FALSE NEIGHBOUR: 'it returns false'. Refute it at one input. -/
def stripOwnWrong : ChangeSpec := { name := "stripOwn", fn := fun _ => fun
  | [d1, d2] => { results := [.lit (.bool false)], args := [d1, d2] }
  | _ => none }
def StripOwnWrongFalsely : Prop := stripOwnRow.holds Try.pinned (OpenSpec.ofChange stripOwnWrong)

/-- 'numnahlaw04.StripWeighed': WHATEVER THE INPUT: true; the input reads as it did. -/
def stripWeighedSpec : ChangeSpec := { name := "stripWeighed", fn := fun _ => fun
  | [d1, d2, d3] => { results := [.lit (.bool true)], args := [d1, d2, d3] }
  | _ => none }
def stripWeighedRow : OpenClaim := { program := "ytljgfdamdcikgaa", sum := "133726b975974a38470d95f685ef844650eec2066b09718a6222b4767cb55562", func := "numnah/numnahlaw04.StripWeighed", spec := "stripWeighed", unfollowed := true, recurses := true, plainKeys := false, apart := false }
def StripWeighedSaid : Prop := stripWeighedRow.holds Try.pinned (OpenSpec.ofChange stripWeighedSpec)

/-- ITS FALSE NEIGHBOUR: 'it returns false'. Refute it at one input. -/
def stripWeighedWrong : ChangeSpec := { name := "stripWeighed", fn := fun _ => fun
  | [d1, d2, d3] => { results := [.lit (.bool false)], args := [d1, d2, d3] }
  | _ => none }
def StripWeighedWrongFalsely : Prop := stripWeighedRow.holds Try.pinned (OpenSpec.ofChange stripWeighedWrong)

/- THE SECOND FORM. 'bulk': how many values and letters a reading holds, each counted each time it is reached (what is shared counts as often as it is met; a slice's spare places count too). A statement '..UptoSaid' is the law's where the arguments, and the package variables that the reading takes, are together of bulk at most 1048576: NARROWER than '..Said'. Prove '..Said' where nothing that the law and all that it calls make is longer than what came in: it says more and counts as full. Else prove '..UptoSaid'. A law counts once. -/
mutual
def uptoBulk {H : Type} : DataW H → Nat
  | .lit (.string bytes) => bytes.length + 1
  | .lit _ => 1
  | .nil => 1
  | .ptr d => uptoBulk d + 1
  | .slice elems spare => uptoBulkAll elems + uptoBulkAll spare + 1
  | .agg parts => uptoBulkAll parts + 1
  | .iface _ d => uptoBulk d + 1
  | .map entries => uptoBulkEntries entries + 1
  | .held _ => 1
def uptoBulkAll {H : Type} : List (DataW H) → Nat
  | [] => 0
  | d :: r => uptoBulk d + uptoBulkAll r
def uptoBulkEntries {H : Type} : List (Lit × DataW H) → Nat
  | [] => 0
  | x :: r => uptoBulkEntry x + uptoBulkEntries r
def uptoBulkEntry {H : Type} : Lit × DataW H → Nat
  | (.string bytes, d) => bytes.length + uptoBulk d + 1
  | (_, d) => uptoBulk d + 1
 end
def uptoSmall : (H : Type) → List (DataW H) → Bool := fun _ ds => decide (uptoBulkAll ds ≤ 1048576)
def OpenSpec.upto (s : _root_.Go.ChangeSpec) : _root_.Go.OpenSpec := { _root_.Go.OpenSpec.ofChange s with cond := some uptoSmall }

/-- 'numnahlaw04.StripTurned', WHERE WHAT IT READS IS OF BULK AT MOST 1048576: true; the input reads as it did. -/
def stripTurnedUptoRow : OpenClaim := { program := "ytljgfdamdcikgaa", sum := "133726b975974a38470d95f685ef844650eec2066b09718a6222b4767cb55562", func := "numnah/numnahlaw04.StripTurned", spec := "stripTurned", unfollowed := true, recurses := true, plainKeys := false, apart := false, narrowed := true }
def StripTurnedUptoSaid : Prop := stripTurnedUptoRow.holds Try.pinned (OpenSpec.upto stripTurnedSpec)

/-- 'numnahlaw04.StripRows', WHERE WHAT IT READS IS OF BULK AT MOST 1048576: true; the input reads as it did. -/
def stripRowsUptoRow : OpenClaim := { program := "ytljgfdamdcikgaa", sum := "133726b975974a38470d95f685ef844650eec2066b09718a6222b4767cb55562", func := "numnah/numnahlaw04.StripRows", spec := "stripRows", unfollowed := true, recurses := true, plainKeys := false, apart := false, narrowed := true }
def StripRowsUptoSaid : Prop := stripRowsUptoRow.holds Try.pinned (OpenSpec.upto stripRowsSpec)

/-- 'numnahlaw04.StripItems', WHERE WHAT IT READS IS OF BULK AT MOST 1048576: true; the input reads as it did. -/
def stripItemsUptoRow : OpenClaim := { program := "ytljgfdamdcikgaa", sum := "133726b975974a38470d95f685ef844650eec2066b09718a6222b4767cb55562", func := "numnah/numnahlaw04.StripItems", spec := "stripItems", unfollowed := true, recurses := true, plainKeys := false, apart := false, narrowed := true }
def StripItemsUptoSaid : Prop := stripItemsUptoRow.holds Try.pinned (OpenSpec.upto stripItemsSpec)

/-- 'numnahlaw04.StripEvers', WHERE WHAT IT READS IS OF BULK AT MOST 1048576: true; the input reads as it did. -/
def stripEversUptoRow : OpenClaim := { program := "ytljgfdamdcikgaa", sum := "133726b975974a38470d95f685ef844650eec2066b09718a6222b4767cb55562", func := "numnah/numnahlaw04.StripEvers", spec := "stripEvers", unfollowed := true, recurses := true, plainKeys := false, apart := false, narrowed := true }
def StripEversUptoSaid : Prop := stripEversUptoRow.holds Try.pinned (OpenSpec.upto stripEversSpec)

/-- 'numnahlaw04.StripCounts', WHERE WHAT IT READS IS OF BULK AT MOST 1048576: true; the input reads as it did. -/
def stripCountsUptoRow : OpenClaim := { program := "ytljgfdamdcikgaa", sum := "133726b975974a38470d95f685ef844650eec2066b09718a6222b4767cb55562", func := "numnah/numnahlaw04.StripCounts", spec := "stripCounts", unfollowed := true, recurses := true, plainKeys := false, apart := false, narrowed := true }
def StripCountsUptoSaid : Prop := stripCountsUptoRow.holds Try.pinned (OpenSpec.upto stripCountsSpec)

/-- 'numnahlaw04.StripWalks', WHERE WHAT IT READS IS OF BULK AT MOST 1048576: true; the input reads as it did. -/
def stripWalksUptoRow : OpenClaim := { program := "ytljgfdamdcikgaa", sum := "133726b975974a38470d95f685ef844650eec2066b09718a6222b4767cb55562", func := "numnah/numnahlaw04.StripWalks", spec := "stripWalks", unfollowed := true, recurses := true, plainKeys := false, apart := false, narrowed := true }
def StripWalksUptoSaid : Prop := stripWalksUptoRow.holds Try.pinned (OpenSpec.upto stripWalksSpec)

/-- 'numnahlaw04.StripIndexes', WHERE WHAT IT READS IS OF BULK AT MOST 1048576: true; the input reads as it did. -/
def stripIndexesUptoRow : OpenClaim := { program := "ytljgfdamdcikgaa", sum := "133726b975974a38470d95f685ef844650eec2066b09718a6222b4767cb55562", func := "numnah/numnahlaw04.StripIndexes", spec := "stripIndexes", unfollowed := true, recurses := true, plainKeys := false, apart := false, narrowed := true }
def StripIndexesUptoSaid : Prop := stripIndexesUptoRow.holds Try.pinned (OpenSpec.upto stripIndexesSpec)

/-- 'numnahlaw04.StripExtends', WHERE WHAT IT READS IS OF BULK AT MOST 1048576: true; the input reads as it did. -/
def stripExtendsUptoRow : OpenClaim := { program := "ytljgfdamdcikgaa", sum := "133726b975974a38470d95f685ef844650eec2066b09718a6222b4767cb55562", func := "numnah/numnahlaw04.StripExtends", spec := "stripExtends", unfollowed := true, recurses := true, plainKeys := false, apart := false, narrowed := true }
def StripExtendsUptoSaid : Prop := stripExtendsUptoRow.holds Try.pinned (OpenSpec.upto stripExtendsSpec)

/-- 'numnahlaw04.StripBests', WHERE WHAT IT READS IS OF BULK AT MOST 1048576: true; the input reads as it did. -/
def stripBestsUptoRow : OpenClaim := { program := "ytljgfdamdcikgaa", sum := "133726b975974a38470d95f685ef844650eec2066b09718a6222b4767cb55562", func := "numnah/numnahlaw04.StripBests", spec := "stripBests", unfollowed := true, recurses := true, plainKeys := false, apart := false, narrowed := true }
def StripBestsUptoSaid : Prop := stripBestsUptoRow.holds Try.pinned (OpenSpec.upto stripBestsSpec)

/-- 'numnahlaw04.StripThere', WHERE WHAT IT READS IS OF BULK AT MOST 1048576: true; the input reads as it did. -/
def stripThereUptoRow : OpenClaim := { program := "ytljgfdamdcikgaa", sum := "133726b975974a38470d95f685ef844650eec2066b09718a6222b4767cb55562", func := "numnah/numnahlaw04.StripThere", spec := "stripThere", unfollowed := true, recurses := true, plainKeys := false, apart := false, narrowed := true }
def StripThereUptoSaid : Prop := stripThereUptoRow.holds Try.pinned (OpenSpec.upto stripThereSpec)

/-- 'numnahlaw04.StripLasting', WHERE WHAT IT READS IS OF BULK AT MOST 1048576: true; the input reads as it did. -/
def stripLastingUptoRow : OpenClaim := { program := "ytljgfdamdcikgaa", sum := "133726b975974a38470d95f685ef844650eec2066b09718a6222b4767cb55562", func := "numnah/numnahlaw04.StripLasting", spec := "stripLasting", unfollowed := true, recurses := true, plainKeys := false, apart := false, narrowed := true }
def StripLastingUptoSaid : Prop := stripLastingUptoRow.holds Try.pinned (OpenSpec.upto stripLastingSpec)

/-- 'numnahlaw04.StripFirst', WHERE WHAT IT READS IS OF BULK AT MOST 1048576: true; the input reads as it did. -/
def stripFirstUptoRow : OpenClaim := { program := "ytljgfdamdcikgaa", sum := "133726b975974a38470d95f685ef844650eec2066b09718a6222b4767cb55562", func := "numnah/numnahlaw04.StripFirst", spec := "stripFirst", unfollowed := true, recurses := true, plainKeys := false, apart := false, narrowed := true }
def StripFirstUptoSaid : Prop := stripFirstUptoRow.holds Try.pinned (OpenSpec.upto stripFirstSpec)

/-- 'numnahlaw04.StripRepeated', WHERE WHAT IT READS IS OF BULK AT MOST 1048576: true; the input reads as it did. -/
def stripRepeatedUptoRow : OpenClaim := { program := "ytljgfdamdcikgaa", sum := "133726b975974a38470d95f685ef844650eec2066b09718a6222b4767cb55562", func := "numnah/numnahlaw04.StripRepeated", spec := "stripRepeated", unfollowed := true, recurses := true, plainKeys := false, apart := false, narrowed := true }
def StripRepeatedUptoSaid : Prop := stripRepeatedUptoRow.holds Try.pinned (OpenSpec.upto stripRepeatedSpec)

/-- 'numnahlaw04.StripOwn', WHERE WHAT IT READS IS OF BULK AT MOST 1048576: true; the input reads as it did. -/
def stripOwnUptoRow : OpenClaim := { program := "ytljgfdamdcikgaa", sum := "133726b975974a38470d95f685ef844650eec2066b09718a6222b4767cb55562", func := "numnah/numnahlaw04.StripOwn", spec := "stripOwn", unfollowed := true, recurses := true, plainKeys := false, apart := false, narrowed := true }
def StripOwnUptoSaid : Prop := stripOwnUptoRow.holds Try.pinned (OpenSpec.upto stripOwnSpec)

/-- 'numnahlaw04.StripWeighed', WHERE WHAT IT READS IS OF BULK AT MOST 1048576: true; the input reads as it did. -/
def stripWeighedUptoRow : OpenClaim := { program := "ytljgfdamdcikgaa", sum := "133726b975974a38470d95f685ef844650eec2066b09718a6222b4767cb55562", func := "numnah/numnahlaw04.StripWeighed", spec := "stripWeighed", unfollowed := true, recurses := true, plainKeys := false, apart := false, narrowed := true }
def StripWeighedUptoSaid : Prop := stripWeighedUptoRow.holds Try.pinned (OpenSpec.upto stripWeighedSpec)

end Rows
end Go.Proofs.Ytljgfdamdcikgaa
