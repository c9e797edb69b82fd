/-
  No cell of these rows narrows 'for every input' (looked for: loops, veiled, ifaces, maps, wideKeys, modest, calm, conditions, laid).
  DERIVED. THE GIVEN ROWS OF THIS SEAT. 14 by the template 'for every input the law returns true; each argument reads behind the call as it read before'; 0 by the template 'total and deterministic' (their statements: YtjeemgaoonapgaaTotals.lean).
  GIVEN WITH THE SEED: the statements are not yours to turn. If you find one false, say at which input.
  Laid BY PROGRAM, IN A SANDBOX (cutbox-rows.mjs): the forced cells as the released guide's own fill.sh prints them over the translation 9c00a623e39e2664… (all of the seat's roots in one cut). By AI agents, Wed Nov 11 2026. No macro, syntax, notation, axiom, sorry.
-/
import Derived.Test.YtjeemgaoonapgaaChecked
import GoSem.Claim
import GoSem.ClaimJoined
import GoSem.ClaimMapViews
import Derived.JoinedTies
import Derived.KernelRfl
namespace Go.Proofs.Ytjeemgaoonapgaa
/- THE CELL 'sum', in the pinned program and in every row, IS THE sha256 OF THE DUMP (.gsa) THAT YtjeemgaoonapgaaProg.lean LOADS. Nothing in Lean hashes anything: it is a label: what it is worth is what the hold of that sum in a sandbox is worth. -/
noncomputable def Try.pinned : Pinned := { name := "ytjeemgaoonapgaa", sum := "9c00a623e39e2664a01380ebed1aff1d91f734ce28d91dc03770ac8fffde50b8", checked := Try.checked }
namespace Rows
def none {H : Type} : Left H := { results := [], args := [] }

/-- 'numnahlaw02.RollerBounds': WHATEVER THE INPUT: true; the input reads as it did. -/
def rollerBoundsSpec : ChangeSpec := { name := "rollerBounds", fn := fun _ => fun
  | [d1, d2] => { results := [.lit (.bool true)], args := [d1, d2] }
  | _ => none }
def rollerBoundsRow : OpenClaim := { program := "ytjeemgaoonapgaa", sum := "9c00a623e39e2664a01380ebed1aff1d91f734ce28d91dc03770ac8fffde50b8", func := "numnah/numnahlaw02.RollerBounds", spec := "rollerBounds", unfollowed := true, recurses := true, apart := false }
def RollerBoundsSaid : Prop := rollerBoundsRow.holds Try.pinned (OpenSpec.ofChange rollerBoundsSpec)

/-- ITS FALSE NEIGHBOUR: 'it returns false'. Refute it at one input. -/
def rollerBoundsWrong : ChangeSpec := { name := "rollerBounds", fn := fun _ => fun
  | [d1, d2] => { results := [.lit (.bool false)], args := [d1, d2] }
  | _ => none }
def RollerBoundsWrongFalsely : Prop := rollerBoundsRow.holds Try.pinned (OpenSpec.ofChange rollerBoundsWrong)

/-- 'numnahlaw02.RollerNarrows': WHATEVER THE INPUT: true; the input reads as it did. -/
def rollerNarrowsSpec : ChangeSpec := { name := "rollerNarrows", fn := fun _ => fun
  | [d1, d2, d3] => { results := [.lit (.bool true)], args := [d1, d2, d3] }
  | _ => none }
def rollerNarrowsRow : OpenClaim := { program := "ytjeemgaoonapgaa", sum := "9c00a623e39e2664a01380ebed1aff1d91f734ce28d91dc03770ac8fffde50b8", func := "numnah/numnahlaw02.RollerNarrows", spec := "rollerNarrows", unfollowed := true, recurses := true, apart := false }
def RollerNarrowsSaid : Prop := rollerNarrowsRow.holds Try.pinned (OpenSpec.ofChange rollerNarrowsSpec)

/-- ITS FALSE NEIGHBOUR: 'it returns false'. Refute it at one input. -/
def rollerNarrowsWrong : ChangeSpec := { name := "rollerNarrows", fn := fun _ => fun
  | [d1, d2, d3] => { results := [.lit (.bool false)], args := [d1, d2, d3] }
  | _ => none }
def RollerNarrowsWrongFalsely : Prop := rollerNarrowsRow.holds Try.pinned (OpenSpec.ofChange rollerNarrowsWrong)

/-- 'numnahlaw02.RollerRenamed': WHATEVER THE INPUT: true; the input reads as it did. -/
def rollerRenamedSpec : ChangeSpec := { name := "rollerRenamed", fn := fun _ => fun
  | [d1, d2, d3] => { results := [.lit (.bool true)], args := [d1, d2, d3] }
  | _ => none }
def rollerRenamedRow : OpenClaim := { program := "ytjeemgaoonapgaa", sum := "9c00a623e39e2664a01380ebed1aff1d91f734ce28d91dc03770ac8fffde50b8", func := "numnah/numnahlaw02.RollerRenamed", spec := "rollerRenamed", unfollowed := true, recurses := true, apart := false }
def RollerRenamedSaid : Prop := rollerRenamedRow.holds Try.pinned (OpenSpec.ofChange rollerRenamedSpec)

/-- ITS FALSE NEIGHBOUR: 'it returns false'. Refute it at one input. -/
def rollerRenamedWrong : ChangeSpec := { name := "rollerRenamed", fn := fun _ => fun
  | [d1, d2, d3] => { results := [.lit (.bool false)], args := [d1, d2, d3] }
  | _ => none }
def RollerRenamedWrongFalsely : Prop := rollerRenamedRow.holds Try.pinned (OpenSpec.ofChange rollerRenamedWrong)

/-- 'numnahlaw02.RollerWalks': WHATEVER THE INPUT: true; the input reads as it did. -/
def rollerWalksSpec : ChangeSpec := { name := "rollerWalks", fn := fun _ => fun
  | [d1, d2] => { results := [.lit (.bool true)], args := [d1, d2] }
  | _ => none }
def rollerWalksRow : OpenClaim := { program := "ytjeemgaoonapgaa", sum := "9c00a623e39e2664a01380ebed1aff1d91f734ce28d91dc03770ac8fffde50b8", func := "numnah/numnahlaw02.RollerWalks", spec := "rollerWalks", unfollowed := true, recurses := true, apart := false }
def RollerWalksSaid : Prop := rollerWalksRow.holds Try.pinned (OpenSpec.ofChange rollerWalksSpec)

/-- ITS FALSE NEIGHBOUR: 'it returns false'. Refute it at one input. -/
def rollerWalksWrong : ChangeSpec := { name := "rollerWalks", fn := fun _ => fun
  | [d1, d2] => { results := [.lit (.bool false)], args := [d1, d2] }
  | _ => none }
def RollerWalksWrongFalsely : Prop := rollerWalksRow.holds Try.pinned (OpenSpec.ofChange rollerWalksWrong)

/-- 'numnahlaw02.RollerWielandt': WHATEVER THE INPUT: true; the input reads as it did. -/
def rollerWielandtSpec : ChangeSpec := { name := "rollerWielandt", fn := fun _ => fun
  | [d1, d2] => { results := [.lit (.bool true)], args := [d1, d2] }
  | _ => none }
def rollerWielandtRow : OpenClaim := { program := "ytjeemgaoonapgaa", sum := "9c00a623e39e2664a01380ebed1aff1d91f734ce28d91dc03770ac8fffde50b8", func := "numnah/numnahlaw02.RollerWielandt", spec := "rollerWielandt", unfollowed := true, recurses := true, apart := false }
def RollerWielandtSaid : Prop := rollerWielandtRow.holds Try.pinned (OpenSpec.ofChange rollerWielandtSpec)

/-- ITS FALSE NEIGHBOUR: 'it returns false'. Refute it at one input. -/
def rollerWielandtWrong : ChangeSpec := { name := "rollerWielandt", fn := fun _ => fun
  | [d1, d2] => { results := [.lit (.bool false)], args := [d1, d2] }
  | _ => none }
def RollerWielandtWrongFalsely : Prop := rollerWielandtRow.holds Try.pinned (OpenSpec.ofChange rollerWielandtWrong)

/-- 'numnahlaw02.RollerCycles': WHATEVER THE INPUT: true; the input reads as it did. -/
def rollerCyclesSpec : ChangeSpec := { name := "rollerCycles", fn := fun _ => fun
  | [d1, d2] => { results := [.lit (.bool true)], args := [d1, d2] }
  | _ => none }
def rollerCyclesRow : OpenClaim := { program := "ytjeemgaoonapgaa", sum := "9c00a623e39e2664a01380ebed1aff1d91f734ce28d91dc03770ac8fffde50b8", func := "numnah/numnahlaw02.RollerCycles", spec := "rollerCycles", unfollowed := true, recurses := true, apart := false }
def RollerCyclesSaid : Prop := rollerCyclesRow.holds Try.pinned (OpenSpec.ofChange rollerCyclesSpec)

/-- ITS FALSE NEIGHBOUR: 'it returns false'. Refute it at one input. -/
def rollerCyclesWrong : ChangeSpec := { name := "rollerCycles", fn := fun _ => fun
  | [d1, d2] => { results := [.lit (.bool false)], args := [d1, d2] }
  | _ => none }
def RollerCyclesWrongFalsely : Prop := rollerCyclesRow.holds Try.pinned (OpenSpec.ofChange rollerCyclesWrong)

/-- 'numnahlaw02.RollerDivides': WHATEVER THE INPUT: true; the input reads as it did. -/
def rollerDividesSpec : ChangeSpec := { name := "rollerDivides", fn := fun _ => fun
  | [d1, d2, d3] => { results := [.lit (.bool true)], args := [d1, d2, d3] }
  | _ => none }
def rollerDividesRow : OpenClaim := { program := "ytjeemgaoonapgaa", sum := "9c00a623e39e2664a01380ebed1aff1d91f734ce28d91dc03770ac8fffde50b8", func := "numnah/numnahlaw02.RollerDivides", spec := "rollerDivides", unfollowed := true, recurses := true, apart := false }
def RollerDividesSaid : Prop := rollerDividesRow.holds Try.pinned (OpenSpec.ofChange rollerDividesSpec)

/-- ITS FALSE NEIGHBOUR: 'it returns false'. Refute it at one input. -/
def rollerDividesWrong : ChangeSpec := { name := "rollerDivides", fn := fun _ => fun
  | [d1, d2, d3] => { results := [.lit (.bool false)], args := [d1, d2, d3] }
  | _ => none }
def RollerDividesWrongFalsely : Prop := rollerDividesRow.holds Try.pinned (OpenSpec.ofChange rollerDividesWrong)

/-- 'numnahlaw02.RollerPowers': WHATEVER THE INPUT: true; the input reads as it did. -/
def rollerPowersSpec : ChangeSpec := { name := "rollerPowers", fn := fun _ => fun
  | [d1, d2] => { results := [.lit (.bool true)], args := [d1, d2] }
  | _ => none }
def rollerPowersRow : OpenClaim := { program := "ytjeemgaoonapgaa", sum := "9c00a623e39e2664a01380ebed1aff1d91f734ce28d91dc03770ac8fffde50b8", func := "numnah/numnahlaw02.RollerPowers", spec := "rollerPowers", unfollowed := true, recurses := true, apart := false }
def RollerPowersSaid : Prop := rollerPowersRow.holds Try.pinned (OpenSpec.ofChange rollerPowersSpec)

/-- ITS FALSE NEIGHBOUR: 'it returns false'. Refute it at one input. -/
def rollerPowersWrong : ChangeSpec := { name := "rollerPowers", fn := fun _ => fun
  | [d1, d2] => { results := [.lit (.bool false)], args := [d1, d2] }
  | _ => none }
def RollerPowersWrongFalsely : Prop := rollerPowersRow.holds Try.pinned (OpenSpec.ofChange rollerPowersWrong)

/-- 'numnahlaw02.RollerCayley': WHATEVER THE INPUT: true; the input reads as it did. -/
def rollerCayleySpec : ChangeSpec := { name := "rollerCayley", fn := fun _ => fun
  | [d1, d2] => { results := [.lit (.bool true)], args := [d1, d2] }
  | _ => none }
def rollerCayleyRow : OpenClaim := { program := "ytjeemgaoonapgaa", sum := "9c00a623e39e2664a01380ebed1aff1d91f734ce28d91dc03770ac8fffde50b8", func := "numnah/numnahlaw02.RollerCayley", spec := "rollerCayley", unfollowed := true, recurses := true, apart := false }
def RollerCayleySaid : Prop := rollerCayleyRow.holds Try.pinned (OpenSpec.ofChange rollerCayleySpec)

/-- ITS FALSE NEIGHBOUR: 'it returns false'. Refute it at one input. -/
def rollerCayleyWrong : ChangeSpec := { name := "rollerCayley", fn := fun _ => fun
  | [d1, d2] => { results := [.lit (.bool false)], args := [d1, d2] }
  | _ => none }
def RollerCayleyWrongFalsely : Prop := rollerCayleyRow.holds Try.pinned (OpenSpec.ofChange rollerCayleyWrong)

/-- 'numnahlaw02.RollerAdds': WHATEVER THE INPUT: true; the input reads as it did. -/
def rollerAddsSpec : ChangeSpec := { name := "rollerAdds", fn := fun _ => fun
  | [d1, d2, d3] => { results := [.lit (.bool true)], args := [d1, d2, d3] }
  | _ => none }
def rollerAddsRow : OpenClaim := { program := "ytjeemgaoonapgaa", sum := "9c00a623e39e2664a01380ebed1aff1d91f734ce28d91dc03770ac8fffde50b8", func := "numnah/numnahlaw02.RollerAdds", spec := "rollerAdds", unfollowed := true, recurses := true, apart := false }
def RollerAddsSaid : Prop := rollerAddsRow.holds Try.pinned (OpenSpec.ofChange rollerAddsSpec)

/-- ITS FALSE NEIGHBOUR: 'it returns false'. Refute it at one input. -/
def rollerAddsWrong : ChangeSpec := { name := "rollerAdds", fn := fun _ => fun
  | [d1, d2, d3] => { results := [.lit (.bool false)], args := [d1, d2, d3] }
  | _ => none }
def RollerAddsWrongFalsely : Prop := rollerAddsRow.holds Try.pinned (OpenSpec.ofChange rollerAddsWrong)

/-- 'numnahlaw02.RollerBlocked': WHATEVER THE INPUT: true; the input reads as it did. -/
def rollerBlockedSpec : ChangeSpec := { name := "rollerBlocked", fn := fun _ => fun
  | [d1, d2] => { results := [.lit (.bool true)], args := [d1, d2] }
  | _ => none }
def rollerBlockedRow : OpenClaim := { program := "ytjeemgaoonapgaa", sum := "9c00a623e39e2664a01380ebed1aff1d91f734ce28d91dc03770ac8fffde50b8", func := "numnah/numnahlaw02.RollerBlocked", spec := "rollerBlocked", unfollowed := true, recurses := true, apart := false }
def RollerBlockedSaid : Prop := rollerBlockedRow.holds Try.pinned (OpenSpec.ofChange rollerBlockedSpec)

/-- ITS FALSE NEIGHBOUR: 'it returns false'. Refute it at one input. -/
def rollerBlockedWrong : ChangeSpec := { name := "rollerBlocked", fn := fun _ => fun
  | [d1, d2] => { results := [.lit (.bool false)], args := [d1, d2] }
  | _ => none }
def RollerBlockedWrongFalsely : Prop := rollerBlockedRow.holds Try.pinned (OpenSpec.ofChange rollerBlockedWrong)

/-- 'numnahlaw02.RollerClasses': WHATEVER THE INPUT: true; the input reads as it did. -/
def rollerClassesSpec : ChangeSpec := { name := "rollerClasses", fn := fun _ => fun
  | [d] => { results := [.lit (.bool true)], args := [d] }
  | _ => none }
def rollerClassesRow : OpenClaim := { program := "ytjeemgaoonapgaa", sum := "9c00a623e39e2664a01380ebed1aff1d91f734ce28d91dc03770ac8fffde50b8", func := "numnah/numnahlaw02.RollerClasses", spec := "rollerClasses", unfollowed := true, recurses := true, apart := false }
def RollerClassesSaid : Prop := rollerClassesRow.holds Try.pinned (OpenSpec.ofChange rollerClassesSpec)

/-- ITS FALSE NEIGHBOUR: 'it returns false'. Refute it at one input. -/
def rollerClassesWrong : ChangeSpec := { name := "rollerClasses", fn := fun _ => fun
  | [d] => { results := [.lit (.bool false)], args := [d] }
  | _ => none }
def RollerClassesWrongFalsely : Prop := rollerClassesRow.holds Try.pinned (OpenSpec.ofChange rollerClassesWrong)

/-- 'numnahlaw02.RollerCounted': WHATEVER THE INPUT: true; the input reads as it did. -/
def rollerCountedSpec : ChangeSpec := { name := "rollerCounted", fn := fun _ => fun
  | [d1, d2, d3] => { results := [.lit (.bool true)], args := [d1, d2, d3] }
  | _ => none }
def rollerCountedRow : OpenClaim := { program := "ytjeemgaoonapgaa", sum := "9c00a623e39e2664a01380ebed1aff1d91f734ce28d91dc03770ac8fffde50b8", func := "numnah/numnahlaw02.RollerCounted", spec := "rollerCounted", unfollowed := true, recurses := true, apart := false }
def RollerCountedSaid : Prop := rollerCountedRow.holds Try.pinned (OpenSpec.ofChange rollerCountedSpec)

/-- ITS FALSE NEIGHBOUR: 'it returns false'. Refute it at one input. -/
def rollerCountedWrong : ChangeSpec := { name := "rollerCounted", fn := fun _ => fun
  | [d1, d2, d3] => { results := [.lit (.bool false)], args := [d1, d2, d3] }
  | _ => none }
def RollerCountedWrongFalsely : Prop := rollerCountedRow.holds Try.pinned (OpenSpec.ofChange rollerCountedWrong)

/-- 'numnahlaw02.RollerOwn': WHATEVER THE INPUT: true; the input reads as it did. -/
def rollerOwnSpec : ChangeSpec := { name := "rollerOwn", fn := fun _ => fun
  | [d1, d2] => { results := [.lit (.bool true)], args := [d1, d2] }
  | _ => none }
def rollerOwnRow : OpenClaim := { program := "ytjeemgaoonapgaa", sum := "9c00a623e39e2664a01380ebed1aff1d91f734ce28d91dc03770ac8fffde50b8", func := "numnah/numnahlaw02.RollerOwn", spec := "rollerOwn", unfollowed := true, recurses := true, apart := false }
def RollerOwnSaid : Prop := rollerOwnRow.holds Try.pinned (OpenSpec.ofChange rollerOwnSpec)

/-- ITS FALSE NEIGHBOUR: 'it returns false'. Refute it at one input. -/
def rollerOwnWrong : ChangeSpec := { name := "rollerOwn", fn := fun _ => fun
  | [d1, d2] => { results := [.lit (.bool false)], args := [d1, d2] }
  | _ => none }
def RollerOwnWrongFalsely : Prop := rollerOwnRow.holds Try.pinned (OpenSpec.ofChange rollerOwnWrong)

/- THE SECOND FORM. 'bulk': how many values and letters a reading holds, each counted each time it is reached (what is shared counts as often as it is met; a slice's spare places count too). A statement '..UptoSaid' is the law's where the arguments, and the package variables that the reading takes, are together of bulk at most 1048576: NARROWER than '..Said'. Prove '..Said' where nothing that the law and all that it calls make is longer than what came in: it says more and counts as full. Else prove '..UptoSaid'. A law counts once. -/
mutual
def uptoBulk {H : Type} : DataW H → Nat
  | .lit (.string bytes) => bytes.length + 1
  | .lit _ => 1
  | .nil => 1
  | .ptr d => uptoBulk d + 1
  | .slice elems spare => uptoBulkAll elems + uptoBulkAll spare + 1
  | .agg parts => uptoBulkAll parts + 1
  | .iface _ d => uptoBulk d + 1
  | .map entries => uptoBulkEntries entries + 1
  | .held _ => 1
def uptoBulkAll {H : Type} : List (DataW H) → Nat
  | [] => 0
  | d :: r => uptoBulk d + uptoBulkAll r
def uptoBulkEntries {H : Type} : List (Lit × DataW H) → Nat
  | [] => 0
  | x :: r => uptoBulkEntry x + uptoBulkEntries r
def uptoBulkEntry {H : Type} : Lit × DataW H → Nat
  | (.string bytes, d) => bytes.length + uptoBulk d + 1
  | (_, d) => uptoBulk d + 1
 end
def uptoSmall : (H : Type) → List (DataW H) → Bool := fun _ ds => decide (uptoBulkAll ds ≤ 1048576)
def OpenSpec.upto (s : _root_.Go.ChangeSpec) : _root_.Go.OpenSpec := { _root_.Go.OpenSpec.ofChange s with cond := some uptoSmall }

/-- 'numnahlaw02.RollerBounds', WHERE WHAT IT READS IS OF BULK AT MOST 1048576: true; the input reads as it did. -/
def rollerBoundsUptoRow : OpenClaim := { program := "ytjeemgaoonapgaa", sum := "9c00a623e39e2664a01380ebed1aff1d91f734ce28d91dc03770ac8fffde50b8", func := "numnah/numnahlaw02.RollerBounds", spec := "rollerBounds", unfollowed := true, recurses := true, apart := false, narrowed := true }
def RollerBoundsUptoSaid : Prop := rollerBoundsUptoRow.holds Try.pinned (OpenSpec.upto rollerBoundsSpec)

/-- 'numnahlaw02.RollerNarrows', WHERE WHAT IT READS IS OF BULK AT MOST 1048576: true; the input reads as it did. -/
def rollerNarrowsUptoRow : OpenClaim := { program := "ytjeemgaoonapgaa", sum := "9c00a623e39e2664a01380ebed1aff1d91f734ce28d91dc03770ac8fffde50b8", func := "numnah/numnahlaw02.RollerNarrows", spec := "rollerNarrows", unfollowed := true, recurses := true, apart := false, narrowed := true }
def RollerNarrowsUptoSaid : Prop := rollerNarrowsUptoRow.holds Try.pinned (OpenSpec.upto rollerNarrowsSpec)

/-- 'numnahlaw02.RollerRenamed', WHERE WHAT IT READS IS OF BULK AT MOST 1048576: true; the input reads as it did. -/
def rollerRenamedUptoRow : OpenClaim := { program := "ytjeemgaoonapgaa", sum := "9c00a623e39e2664a01380ebed1aff1d91f734ce28d91dc03770ac8fffde50b8", func := "numnah/numnahlaw02.RollerRenamed", spec := "rollerRenamed", unfollowed := true, recurses := true, apart := false, narrowed := true }
def RollerRenamedUptoSaid : Prop := rollerRenamedUptoRow.holds Try.pinned (OpenSpec.upto rollerRenamedSpec)

/-- 'numnahlaw02.RollerWalks', WHERE WHAT IT READS IS OF BULK AT MOST 1048576: true; the input reads as it did. -/
def rollerWalksUptoRow : OpenClaim := { program := "ytjeemgaoonapgaa", sum := "9c00a623e39e2664a01380ebed1aff1d91f734ce28d91dc03770ac8fffde50b8", func := "numnah/numnahlaw02.RollerWalks", spec := "rollerWalks", unfollowed := true, recurses := true, apart := false, narrowed := true }
def RollerWalksUptoSaid : Prop := rollerWalksUptoRow.holds Try.pinned (OpenSpec.upto rollerWalksSpec)

/-- 'numnahlaw02.RollerWielandt', WHERE WHAT IT READS IS OF BULK AT MOST 1048576: true; the input reads as it did. -/
def rollerWielandtUptoRow : OpenClaim := { program := "ytjeemgaoonapgaa", sum := "9c00a623e39e2664a01380ebed1aff1d91f734ce28d91dc03770ac8fffde50b8", func := "numnah/numnahlaw02.RollerWielandt", spec := "rollerWielandt", unfollowed := true, recurses := true, apart := false, narrowed := true }
def RollerWielandtUptoSaid : Prop := rollerWielandtUptoRow.holds Try.pinned (OpenSpec.upto rollerWielandtSpec)

/-- 'numnahlaw02.RollerCycles', WHERE WHAT IT READS IS OF BULK AT MOST 1048576: true; the input reads as it did. -/
def rollerCyclesUptoRow : OpenClaim := { program := "ytjeemgaoonapgaa", sum := "9c00a623e39e2664a01380ebed1aff1d91f734ce28d91dc03770ac8fffde50b8", func := "numnah/numnahlaw02.RollerCycles", spec := "rollerCycles", unfollowed := true, recurses := true, apart := false, narrowed := true }
def RollerCyclesUptoSaid : Prop := rollerCyclesUptoRow.holds Try.pinned (OpenSpec.upto rollerCyclesSpec)

/-- 'numnahlaw02.RollerDivides', WHERE WHAT IT READS IS OF BULK AT MOST 1048576: true; the input reads as it did. -/
def rollerDividesUptoRow : OpenClaim := { program := "ytjeemgaoonapgaa", sum := "9c00a623e39e2664a01380ebed1aff1d91f734ce28d91dc03770ac8fffde50b8", func := "numnah/numnahlaw02.RollerDivides", spec := "rollerDivides", unfollowed := true, recurses := true, apart := false, narrowed := true }
def RollerDividesUptoSaid : Prop := rollerDividesUptoRow.holds Try.pinned (OpenSpec.upto rollerDividesSpec)

/-- 'numnahlaw02.RollerPowers', WHERE WHAT IT READS IS OF BULK AT MOST 1048576: true; the input reads as it did. -/
def rollerPowersUptoRow : OpenClaim := { program := "ytjeemgaoonapgaa", sum := "9c00a623e39e2664a01380ebed1aff1d91f734ce28d91dc03770ac8fffde50b8", func := "numnah/numnahlaw02.RollerPowers", spec := "rollerPowers", unfollowed := true, recurses := true, apart := false, narrowed := true }
def RollerPowersUptoSaid : Prop := rollerPowersUptoRow.holds Try.pinned (OpenSpec.upto rollerPowersSpec)

/-- 'numnahlaw02.RollerCayley', WHERE WHAT IT READS IS OF BULK AT MOST 1048576: true; the input reads as it did. -/
def rollerCayleyUptoRow : OpenClaim := { program := "ytjeemgaoonapgaa", sum := "9c00a623e39e2664a01380ebed1aff1d91f734ce28d91dc03770ac8fffde50b8", func := "numnah/numnahlaw02.RollerCayley", spec := "rollerCayley", unfollowed := true, recurses := true, apart := false, narrowed := true }
def RollerCayleyUptoSaid : Prop := rollerCayleyUptoRow.holds Try.pinned (OpenSpec.upto rollerCayleySpec)

/-- 'numnahlaw02.RollerAdds', WHERE WHAT IT READS IS OF BULK AT MOST 1048576: true; the input reads as it did. -/
def rollerAddsUptoRow : OpenClaim := { program := "ytjeemgaoonapgaa", sum := "9c00a623e39e2664a01380ebed1aff1d91f734ce28d91dc03770ac8fffde50b8", func := "numnah/numnahlaw02.RollerAdds", spec := "rollerAdds", unfollowed := true, recurses := true, apart := false, narrowed := true }
def RollerAddsUptoSaid : Prop := rollerAddsUptoRow.holds Try.pinned (OpenSpec.upto rollerAddsSpec)

/-- 'numnahlaw02.RollerBlocked', WHERE WHAT IT READS IS OF BULK AT MOST 1048576: true; the input reads as it did. -/
def rollerBlockedUptoRow : OpenClaim := { program := "ytjeemgaoonapgaa", sum := "9c00a623e39e2664a01380ebed1aff1d91f734ce28d91dc03770ac8fffde50b8", func := "numnah/numnahlaw02.RollerBlocked", spec := "rollerBlocked", unfollowed := true, recurses := true, apart := false, narrowed := true }
def RollerBlockedUptoSaid : Prop := rollerBlockedUptoRow.holds Try.pinned (OpenSpec.upto rollerBlockedSpec)

/-- 'numnahlaw02.RollerClasses', WHERE WHAT IT READS IS OF BULK AT MOST 1048576: true; the input reads as it did. -/
def rollerClassesUptoRow : OpenClaim := { program := "ytjeemgaoonapgaa", sum := "9c00a623e39e2664a01380ebed1aff1d91f734ce28d91dc03770ac8fffde50b8", func := "numnah/numnahlaw02.RollerClasses", spec := "rollerClasses", unfollowed := true, recurses := true, apart := false, narrowed := true }
def RollerClassesUptoSaid : Prop := rollerClassesUptoRow.holds Try.pinned (OpenSpec.upto rollerClassesSpec)

/-- 'numnahlaw02.RollerCounted', WHERE WHAT IT READS IS OF BULK AT MOST 1048576: true; the input reads as it did. -/
def rollerCountedUptoRow : OpenClaim := { program := "ytjeemgaoonapgaa", sum := "9c00a623e39e2664a01380ebed1aff1d91f734ce28d91dc03770ac8fffde50b8", func := "numnah/numnahlaw02.RollerCounted", spec := "rollerCounted", unfollowed := true, recurses := true, apart := false, narrowed := true }
def RollerCountedUptoSaid : Prop := rollerCountedUptoRow.holds Try.pinned (OpenSpec.upto rollerCountedSpec)

/-- 'numnahlaw02.RollerOwn', WHERE WHAT IT READS IS OF BULK AT MOST 1048576: true; the input reads as it did. -/
def rollerOwnUptoRow : OpenClaim := { program := "ytjeemgaoonapgaa", sum := "9c00a623e39e2664a01380ebed1aff1d91f734ce28d91dc03770ac8fffde50b8", func := "numnah/numnahlaw02.RollerOwn", spec := "rollerOwn", unfollowed := true, recurses := true, apart := false, narrowed := true }
def RollerOwnUptoSaid : Prop := rollerOwnUptoRow.holds Try.pinned (OpenSpec.upto rollerOwnSpec)

end Rows
end Go.Proofs.Ytjeemgaoonapgaa
