/-
  No cell of these rows narrows 'for every input' (looked for: loops, veiled, ifaces, maps, wideKeys, modest, calm, conditions, laid).
  DERIVED. THE GIVEN ROWS OF THIS SEAT. 5 by the template 'for every input the law returns true; each argument reads behind the call as it read before'; 0 by the template 'total and deterministic' (their statements: YtkdcfijebgeajaaGreatTotals.lean).
  GIVEN WITH THE SEED: the statements are not yours to turn. If you find one false, say at which input.
  Laid BY PROGRAM, IN A SANDBOX (cutbox-rows.mjs): the forced cells as the released guide's own fill.sh prints them over the translation b42182d6d4d885e0… (all of the seat's roots in one cut). By AI agents, Wed Nov 11 2026. No macro, syntax, notation, axiom, sorry.
-/
import Derived.Test.YtkdcfijebgeajaaGreatChecked
import GoSem.Claim
import GoSem.ClaimJoined
import GoSem.ClaimMapViews
import Derived.JoinedTies
import Derived.KernelRfl
namespace Go.Proofs.YtkdcfijebgeajaaGreat
/- THE CELL 'sum', in the pinned program and in every row, IS THE sha256 OF THE DUMP (.gsa) THAT YtkdcfijebgeajaaGreatProg.lean LOADS. Nothing in Lean hashes anything: it is a label: what it is worth is what the hold of that sum in a sandbox is worth. -/
noncomputable def Tryz.pinned : Pinned := { name := "ytkdcfijebgeajaagreat", sum := "b42182d6d4d885e00fbd905320ac4566c485875db7788005c4a1d2177ba9b55c", checked := Tryz.checked }
namespace Rows
def none {H : Type} : Left H := { results := [], args := [] }

/-- 'limekilnlaw19.ViewCounts': WHATEVER THE INPUT: true; the input reads as it did. -/
def viewCountsSpec : ChangeSpec := { name := "viewCounts", fn := fun _ => fun
  | [d1, d2] => { results := [.lit (.bool true)], args := [d1, d2] }
  | _ => none }
def viewCountsRow : OpenClaim := { program := "ytkdcfijebgeajaagreat", sum := "b42182d6d4d885e00fbd905320ac4566c485875db7788005c4a1d2177ba9b55c", func := "limekiln/limekilnlaw19.ViewCounts", spec := "viewCounts", inPlace := ["slices.overlaps[int]"], unfollowed := true, recurses := true, apart := false }
def ViewCountsSaid : Prop := viewCountsRow.holds Tryz.pinned (OpenSpec.ofChange viewCountsSpec)

/-- ITS FALSE NEIGHBOUR: 'it returns false'. Refute it at one input. -/
def viewCountsWrong : ChangeSpec := { name := "viewCounts", fn := fun _ => fun
  | [d1, d2] => { results := [.lit (.bool false)], args := [d1, d2] }
  | _ => none }
def ViewCountsWrongFalsely : Prop := viewCountsRow.holds Tryz.pinned (OpenSpec.ofChange viewCountsWrong)

/-- 'limekilnlaw23.WorldNone': WHATEVER THE INPUT: true; the input reads as it did. -/
def worldNoneSpec : ChangeSpec := { name := "worldNone", fn := fun _ => fun
  | [d] => { results := [.lit (.bool true)], args := [d] }
  | _ => none }
def worldNoneRow : OpenClaim := { program := "ytkdcfijebgeajaagreat", sum := "b42182d6d4d885e00fbd905320ac4566c485875db7788005c4a1d2177ba9b55c", func := "limekiln/limekilnlaw23.WorldNone", spec := "worldNone", inPlace := ["slices.overlaps[int]"], unfollowed := true, recurses := true, apart := false }
def WorldNoneSaid : Prop := worldNoneRow.holds Tryz.pinned (OpenSpec.ofChange worldNoneSpec)

/-- ITS FALSE NEIGHBOUR: 'it returns false'. Refute it at one input. -/
def worldNoneWrong : ChangeSpec := { name := "worldNone", fn := fun _ => fun
  | [d] => { results := [.lit (.bool false)], args := [d] }
  | _ => none }
def WorldNoneWrongFalsely : Prop := worldNoneRow.holds Tryz.pinned (OpenSpec.ofChange worldNoneWrong)

/-- 'limekilnlaw23.WorldOpens': WHATEVER THE INPUT: true; the input reads as it did. -/
def worldOpensSpec : ChangeSpec := { name := "worldOpens", fn := fun _ => fun
  | [d1, d2] => { results := [.lit (.bool true)], args := [d1, d2] }
  | _ => none }
def worldOpensRow : OpenClaim := { program := "ytkdcfijebgeajaagreat", sum := "b42182d6d4d885e00fbd905320ac4566c485875db7788005c4a1d2177ba9b55c", func := "limekiln/limekilnlaw23.WorldOpens", spec := "worldOpens", inPlace := ["slices.overlaps[int]"], unfollowed := true, recurses := true, apart := false }
def WorldOpensSaid : Prop := worldOpensRow.holds Tryz.pinned (OpenSpec.ofChange worldOpensSpec)

/-- ITS FALSE NEIGHBOUR: 'it returns false'. Refute it at one input. -/
def worldOpensWrong : ChangeSpec := { name := "worldOpens", fn := fun _ => fun
  | [d1, d2] => { results := [.lit (.bool false)], args := [d1, d2] }
  | _ => none }
def WorldOpensWrongFalsely : Prop := worldOpensRow.holds Tryz.pinned (OpenSpec.ofChange worldOpensWrong)

/-- 'limekilnlaw30.BoundNumbers': WHATEVER THE INPUT: true; the input reads as it did. -/
def boundNumbersSpec : ChangeSpec := { name := "boundNumbers", fn := fun _ => fun
  | [d] => { results := [.lit (.bool true)], args := [d] }
  | _ => none }
def boundNumbersRow : OpenClaim := { program := "ytkdcfijebgeajaagreat", sum := "b42182d6d4d885e00fbd905320ac4566c485875db7788005c4a1d2177ba9b55c", func := "limekiln/limekilnlaw30.BoundNumbers", spec := "boundNumbers", inPlace := ["slices.overlaps[int]"], unfollowed := true, recurses := true, apart := false }
def BoundNumbersSaid : Prop := boundNumbersRow.holds Tryz.pinned (OpenSpec.ofChange boundNumbersSpec)

/-- ITS FALSE NEIGHBOUR: 'it returns false'. Refute it at one input. -/
def boundNumbersWrong : ChangeSpec := { name := "boundNumbers", fn := fun _ => fun
  | [d] => { results := [.lit (.bool false)], args := [d] }
  | _ => none }
def BoundNumbersWrongFalsely : Prop := boundNumbersRow.holds Tryz.pinned (OpenSpec.ofChange boundNumbersWrong)

/-- 'limekilnlaw36.CensusMore': WHATEVER THE INPUT: true; the input reads as it did. -/
def censusMoreSpec : ChangeSpec := { name := "censusMore", fn := fun _ => fun
  | [d1, d2] => { results := [.lit (.bool true)], args := [d1, d2] }
  | _ => none }
def censusMoreRow : OpenClaim := { program := "ytkdcfijebgeajaagreat", sum := "b42182d6d4d885e00fbd905320ac4566c485875db7788005c4a1d2177ba9b55c", func := "limekiln/limekilnlaw36.CensusMore", spec := "censusMore", inPlace := ["slices.overlaps[int]"], unfollowed := true, recurses := true, apart := false }
def CensusMoreSaid : Prop := censusMoreRow.holds Tryz.pinned (OpenSpec.ofChange censusMoreSpec)

/-- ITS FALSE NEIGHBOUR: 'it returns false'. Refute it at one input. -/
def censusMoreWrong : ChangeSpec := { name := "censusMore", fn := fun _ => fun
  | [d1, d2] => { results := [.lit (.bool false)], args := [d1, d2] }
  | _ => none }
def CensusMoreWrongFalsely : Prop := censusMoreRow.holds Tryz.pinned (OpenSpec.ofChange censusMoreWrong)

/- THE SECOND FORM. 'bulk': how many values and letters a reading holds, each counted each time it is reached (what is shared counts as often as it is met; a slice's spare places count too). A statement '..UptoSaid' is the law's where the arguments, and the package variables that the reading takes, are together of bulk at most 1048576: NARROWER than '..Said'. Prove '..Said' where nothing that the law and all that it calls make is longer than what came in: it says more and counts as full. Else prove '..UptoSaid'. A law counts once. -/
mutual
def uptoBulk {H : Type} : DataW H → Nat
  | .lit (.string bytes) => bytes.length + 1
  | .lit _ => 1
  | .nil => 1
  | .ptr d => uptoBulk d + 1
  | .slice elems spare => uptoBulkAll elems + uptoBulkAll spare + 1
  | .agg parts => uptoBulkAll parts + 1
  | .iface _ d => uptoBulk d + 1
  | .map entries => uptoBulkEntries entries + 1
  | .held _ => 1
def uptoBulkAll {H : Type} : List (DataW H) → Nat
  | [] => 0
  | d :: r => uptoBulk d + uptoBulkAll r
def uptoBulkEntries {H : Type} : List (Lit × DataW H) → Nat
  | [] => 0
  | x :: r => uptoBulkEntry x + uptoBulkEntries r
def uptoBulkEntry {H : Type} : Lit × DataW H → Nat
  | (.string bytes, d) => bytes.length + uptoBulk d + 1
  | (_, d) => uptoBulk d + 1
 end
def uptoSmall : (H : Type) → List (DataW H) → Bool := fun _ ds => decide (uptoBulkAll ds ≤ 1048576)
def OpenSpec.upto (s : _root_.Go.ChangeSpec) : _root_.Go.OpenSpec := { _root_.Go.OpenSpec.ofChange s with cond := some uptoSmall }

/-- 'limekilnlaw19.ViewCounts', WHERE WHAT IT READS IS OF BULK AT MOST 1048576: true; the input reads as it did. -/
def viewCountsUptoRow : OpenClaim := { program := "ytkdcfijebgeajaagreat", sum := "b42182d6d4d885e00fbd905320ac4566c485875db7788005c4a1d2177ba9b55c", func := "limekiln/limekilnlaw19.ViewCounts", spec := "viewCounts", inPlace := ["slices.overlaps[int]"], unfollowed := true, recurses := true, apart := false, narrowed := true }
def ViewCountsUptoSaid : Prop := viewCountsUptoRow.holds Tryz.pinned (OpenSpec.upto viewCountsSpec)

/-- 'limekilnlaw23.WorldNone', WHERE WHAT IT READS IS OF BULK AT MOST 1048576: true; the input reads as it did. -/
def worldNoneUptoRow : OpenClaim := { program := "ytkdcfijebgeajaagreat", sum := "b42182d6d4d885e00fbd905320ac4566c485875db7788005c4a1d2177ba9b55c", func := "limekiln/limekilnlaw23.WorldNone", spec := "worldNone", inPlace := ["slices.overlaps[int]"], unfollowed := true, recurses := true, apart := false, narrowed := true }
def WorldNoneUptoSaid : Prop := worldNoneUptoRow.holds Tryz.pinned (OpenSpec.upto worldNoneSpec)

/-- 'limekilnlaw23.WorldOpens', WHERE WHAT IT READS IS OF BULK AT MOST 1048576: true; the input reads as it did. -/
def worldOpensUptoRow : OpenClaim := { program := "ytkdcfijebgeajaagreat", sum := "b42182d6d4d885e00fbd905320ac4566c485875db7788005c4a1d2177ba9b55c", func := "limekiln/limekilnlaw23.WorldOpens", spec := "worldOpens", inPlace := ["slices.overlaps[int]"], unfollowed := true, recurses := true, apart := false, narrowed := true }
def WorldOpensUptoSaid : Prop := worldOpensUptoRow.holds Tryz.pinned (OpenSpec.upto worldOpensSpec)

/-- 'limekilnlaw30.BoundNumbers', WHERE WHAT IT READS IS OF BULK AT MOST 1048576: true; the input reads as it did. -/
def boundNumbersUptoRow : OpenClaim := { program := "ytkdcfijebgeajaagreat", sum := "b42182d6d4d885e00fbd905320ac4566c485875db7788005c4a1d2177ba9b55c", func := "limekiln/limekilnlaw30.BoundNumbers", spec := "boundNumbers", inPlace := ["slices.overlaps[int]"], unfollowed := true, recurses := true, apart := false, narrowed := true }
def BoundNumbersUptoSaid : Prop := boundNumbersUptoRow.holds Tryz.pinned (OpenSpec.upto boundNumbersSpec)

/-- 'limekilnlaw36.CensusMore', WHERE WHAT IT READS IS OF BULK AT MOST 1048576: true; the input reads as it did. -/
def censusMoreUptoRow : OpenClaim := { program := "ytkdcfijebgeajaagreat", sum := "b42182d6d4d885e00fbd905320ac4566c485875db7788005c4a1d2177ba9b55c", func := "limekiln/limekilnlaw36.CensusMore", spec := "censusMore", inPlace := ["slices.overlaps[int]"], unfollowed := true, recurses := true, apart := false, narrowed := true }
def CensusMoreUptoSaid : Prop := censusMoreUptoRow.holds Tryz.pinned (OpenSpec.upto censusMoreSpec)

end Rows
end Go.Proofs.YtkdcfijebgeajaaGreat
