/-
  No cell of these rows narrows 'for every input' (looked for: loops, veiled, ifaces, maps, wideKeys, modest, calm, conditions, laid).
  DERIVED. THE GIVEN ROWS OF THIS SEAT. 6 by the template 'for every input the law returns true; each argument reads behind the call as it read before'; 0 by the template 'total and deterministic' (their statements: YtibelcmdfkgonaaGreatTotals.lean).
  GIVEN WITH THE SEED: the statements are not yours to turn. If you find one false, say at which input.
  Laid BY PROGRAM, IN A SANDBOX (cutbox-rows.mjs): the forced cells as the released guide's own fill.sh prints them over the translation 81ad5ec2e09ac3eb… (all of the seat's roots in one cut). By AI agents, Wed Nov 11 2026. No macro, syntax, notation, axiom, sorry.
-/
import Derived.Test.YtibelcmdfkgonaaGreatChecked
import GoSem.Claim
import GoSem.ClaimJoined
import GoSem.ClaimMapViews
import Derived.JoinedTies
import Derived.KernelRfl
namespace Go.Proofs.YtibelcmdfkgonaaGreat
/- THE CELL 'sum', in the pinned program and in every row, IS THE sha256 OF THE DUMP (.gsa) THAT YtibelcmdfkgonaaGreatProg.lean LOADS. Nothing in Lean hashes anything: it is a label: what it is worth is what the hold of that sum in a sandbox is worth. -/
noncomputable def Tryz.pinned : Pinned := { name := "ytibelcmdfkgonaagreat", sum := "81ad5ec2e09ac3eb3d790329d8906ed29b5da31b5fc163a63bbb67a04458e173", checked := Tryz.checked }
namespace Rows
def none {H : Type} : Left H := { results := [], args := [] }

/-- 'limekilnlaw20.MarkViews': WHATEVER THE INPUT: true; the input reads as it did. -/
def markViewsSpec : ChangeSpec := { name := "markViews", fn := fun _ => fun
  | [d] => { results := [.lit (.bool true)], args := [d] }
  | _ => none }
def markViewsRow : OpenClaim := { program := "ytibelcmdfkgonaagreat", sum := "81ad5ec2e09ac3eb3d790329d8906ed29b5da31b5fc163a63bbb67a04458e173", func := "limekiln/limekilnlaw20.MarkViews", spec := "markViews", unfollowed := true, recurses := true, apart := false }
def MarkViewsSaid : Prop := markViewsRow.holds Tryz.pinned (OpenSpec.ofChange markViewsSpec)

/-- ITS FALSE NEIGHBOUR: 'it returns false'. Refute it at one input. -/
def markViewsWrong : ChangeSpec := { name := "markViews", fn := fun _ => fun
  | [d] => { results := [.lit (.bool false)], args := [d] }
  | _ => none }
def MarkViewsWrongFalsely : Prop := markViewsRow.holds Tryz.pinned (OpenSpec.ofChange markViewsWrong)

/-- 'limekilnlaw22.ReviveMost': WHATEVER THE INPUT: true; the input reads as it did. -/
def reviveMostSpec : ChangeSpec := { name := "reviveMost", fn := fun _ => fun
  | [d] => { results := [.lit (.bool true)], args := [d] }
  | _ => none }
def reviveMostRow : OpenClaim := { program := "ytibelcmdfkgonaagreat", sum := "81ad5ec2e09ac3eb3d790329d8906ed29b5da31b5fc163a63bbb67a04458e173", func := "limekiln/limekilnlaw22.ReviveMost", spec := "reviveMost", inPlace := ["slices.overlaps[int]"], unfollowed := true, recurses := true, apart := false }
def ReviveMostSaid : Prop := reviveMostRow.holds Tryz.pinned (OpenSpec.ofChange reviveMostSpec)

/-- ITS FALSE NEIGHBOUR: 'it returns false'. Refute it at one input. -/
def reviveMostWrong : ChangeSpec := { name := "reviveMost", fn := fun _ => fun
  | [d] => { results := [.lit (.bool false)], args := [d] }
  | _ => none }
def ReviveMostWrongFalsely : Prop := reviveMostRow.holds Tryz.pinned (OpenSpec.ofChange reviveMostWrong)

/-- 'limekilnlaw17.QueueLogs': WHATEVER THE INPUT: true; the input reads as it did. -/
def queueLogsSpec : ChangeSpec := { name := "queueLogs", fn := fun _ => fun
  | [d1, d2] => { results := [.lit (.bool true)], args := [d1, d2] }
  | _ => none }
def queueLogsRow : OpenClaim := { program := "ytibelcmdfkgonaagreat", sum := "81ad5ec2e09ac3eb3d790329d8906ed29b5da31b5fc163a63bbb67a04458e173", func := "limekiln/limekilnlaw17.QueueLogs", spec := "queueLogs", inPlace := ["slices.overlaps[int]"], unfollowed := true, recurses := true, apart := false }
def QueueLogsSaid : Prop := queueLogsRow.holds Tryz.pinned (OpenSpec.ofChange queueLogsSpec)

/-- ITS FALSE NEIGHBOUR: 'it returns false'. Refute it at one input. -/
def queueLogsWrong : ChangeSpec := { name := "queueLogs", fn := fun _ => fun
  | [d1, d2] => { results := [.lit (.bool false)], args := [d1, d2] }
  | _ => none }
def QueueLogsWrongFalsely : Prop := queueLogsRow.holds Tryz.pinned (OpenSpec.ofChange queueLogsWrong)

/-- 'limekilnlaw17.QueueThree': WHATEVER THE INPUT: true; the input reads as it did. -/
def queueThreeSpec : ChangeSpec := { name := "queueThree", fn := fun _ => fun
  | [d1, d2, d3] => { results := [.lit (.bool true)], args := [d1, d2, d3] }
  | _ => none }
def queueThreeRow : OpenClaim := { program := "ytibelcmdfkgonaagreat", sum := "81ad5ec2e09ac3eb3d790329d8906ed29b5da31b5fc163a63bbb67a04458e173", func := "limekiln/limekilnlaw17.QueueThree", spec := "queueThree", inPlace := ["slices.overlaps[int]"], unfollowed := true, recurses := true, apart := false }
def QueueThreeSaid : Prop := queueThreeRow.holds Tryz.pinned (OpenSpec.ofChange queueThreeSpec)

/-- ITS FALSE NEIGHBOUR: 'it returns false'. Refute it at one input. -/
def queueThreeWrong : ChangeSpec := { name := "queueThree", fn := fun _ => fun
  | [d1, d2, d3] => { results := [.lit (.bool false)], args := [d1, d2, d3] }
  | _ => none }
def QueueThreeWrongFalsely : Prop := queueThreeRow.holds Tryz.pinned (OpenSpec.ofChange queueThreeWrong)

/-- 'limekilnlaw17.QueueAlone': WHATEVER THE INPUT: true; the input reads as it did. -/
def queueAloneSpec : ChangeSpec := { name := "queueAlone", fn := fun _ => fun
  | [d1, d2, d3] => { results := [.lit (.bool true)], args := [d1, d2, d3] }
  | _ => none }
def queueAloneRow : OpenClaim := { program := "ytibelcmdfkgonaagreat", sum := "81ad5ec2e09ac3eb3d790329d8906ed29b5da31b5fc163a63bbb67a04458e173", func := "limekiln/limekilnlaw17.QueueAlone", spec := "queueAlone", inPlace := ["slices.overlaps[int]"], unfollowed := true, recurses := true, apart := false }
def QueueAloneSaid : Prop := queueAloneRow.holds Tryz.pinned (OpenSpec.ofChange queueAloneSpec)

/-- ITS FALSE NEIGHBOUR: 'it returns false'. Refute it at one input. -/
def queueAloneWrong : ChangeSpec := { name := "queueAlone", fn := fun _ => fun
  | [d1, d2, d3] => { results := [.lit (.bool false)], args := [d1, d2, d3] }
  | _ => none }
def QueueAloneWrongFalsely : Prop := queueAloneRow.holds Tryz.pinned (OpenSpec.ofChange queueAloneWrong)

/-- 'limekilnlaw17.QueueSteps': WHATEVER THE INPUT: true; the input reads as it did. -/
def queueStepsSpec : ChangeSpec := { name := "queueSteps", fn := fun _ => fun
  | [d1, d2, d3] => { results := [.lit (.bool true)], args := [d1, d2, d3] }
  | _ => none }
def queueStepsRow : OpenClaim := { program := "ytibelcmdfkgonaagreat", sum := "81ad5ec2e09ac3eb3d790329d8906ed29b5da31b5fc163a63bbb67a04458e173", func := "limekiln/limekilnlaw17.QueueSteps", spec := "queueSteps", inPlace := ["slices.overlaps[int]"], unfollowed := true, recurses := true, apart := false }
def QueueStepsSaid : Prop := queueStepsRow.holds Tryz.pinned (OpenSpec.ofChange queueStepsSpec)

/-- ITS FALSE NEIGHBOUR: 'it returns false'. Refute it at one input. -/
def queueStepsWrong : ChangeSpec := { name := "queueSteps", fn := fun _ => fun
  | [d1, d2, d3] => { results := [.lit (.bool false)], args := [d1, d2, d3] }
  | _ => none }
def QueueStepsWrongFalsely : Prop := queueStepsRow.holds Tryz.pinned (OpenSpec.ofChange queueStepsWrong)

/- THE SECOND FORM. 'bulk': how many values and letters a reading holds, each counted each time it is reached (what is shared counts as often as it is met; a slice's spare places count too). A statement '..UptoSaid' is the law's where the arguments, and the package variables that the reading takes, are together of bulk at most 1048576: NARROWER than '..Said'. Prove '..Said' where nothing that the law and all that it calls make is longer than what came in: it says more and counts as full. Else prove '..UptoSaid'. A law counts once. -/
mutual
def uptoBulk {H : Type} : DataW H → Nat
  | .lit (.string bytes) => bytes.length + 1
  | .lit _ => 1
  | .nil => 1
  | .ptr d => uptoBulk d + 1
  | .slice elems spare => uptoBulkAll elems + uptoBulkAll spare + 1
  | .agg parts => uptoBulkAll parts + 1
  | .iface _ d => uptoBulk d + 1
  | .map entries => uptoBulkEntries entries + 1
  | .held _ => 1
def uptoBulkAll {H : Type} : List (DataW H) → Nat
  | [] => 0
  | d :: r => uptoBulk d + uptoBulkAll r
def uptoBulkEntries {H : Type} : List (Lit × DataW H) → Nat
  | [] => 0
  | x :: r => uptoBulkEntry x + uptoBulkEntries r
def uptoBulkEntry {H : Type} : Lit × DataW H → Nat
  | (.string bytes, d) => bytes.length + uptoBulk d + 1
  | (_, d) => uptoBulk d + 1
 end
def uptoSmall : (H : Type) → List (DataW H) → Bool := fun _ ds => decide (uptoBulkAll ds ≤ 1048576)
def OpenSpec.upto (s : _root_.Go.ChangeSpec) : _root_.Go.OpenSpec := { _root_.Go.OpenSpec.ofChange s with cond := some uptoSmall }

/-- 'limekilnlaw20.MarkViews', WHERE WHAT IT READS IS OF BULK AT MOST 1048576: true; the input reads as it did. -/
def markViewsUptoRow : OpenClaim := { program := "ytibelcmdfkgonaagreat", sum := "81ad5ec2e09ac3eb3d790329d8906ed29b5da31b5fc163a63bbb67a04458e173", func := "limekiln/limekilnlaw20.MarkViews", spec := "markViews", unfollowed := true, recurses := true, apart := false, narrowed := true }
def MarkViewsUptoSaid : Prop := markViewsUptoRow.holds Tryz.pinned (OpenSpec.upto markViewsSpec)

/-- 'limekilnlaw22.ReviveMost', WHERE WHAT IT READS IS OF BULK AT MOST 1048576: true; the input reads as it did. -/
def reviveMostUptoRow : OpenClaim := { program := "ytibelcmdfkgonaagreat", sum := "81ad5ec2e09ac3eb3d790329d8906ed29b5da31b5fc163a63bbb67a04458e173", func := "limekiln/limekilnlaw22.ReviveMost", spec := "reviveMost", inPlace := ["slices.overlaps[int]"], unfollowed := true, recurses := true, apart := false, narrowed := true }
def ReviveMostUptoSaid : Prop := reviveMostUptoRow.holds Tryz.pinned (OpenSpec.upto reviveMostSpec)

/-- 'limekilnlaw17.QueueLogs', WHERE WHAT IT READS IS OF BULK AT MOST 1048576: true; the input reads as it did. -/
def queueLogsUptoRow : OpenClaim := { program := "ytibelcmdfkgonaagreat", sum := "81ad5ec2e09ac3eb3d790329d8906ed29b5da31b5fc163a63bbb67a04458e173", func := "limekiln/limekilnlaw17.QueueLogs", spec := "queueLogs", inPlace := ["slices.overlaps[int]"], unfollowed := true, recurses := true, apart := false, narrowed := true }
def QueueLogsUptoSaid : Prop := queueLogsUptoRow.holds Tryz.pinned (OpenSpec.upto queueLogsSpec)

/-- 'limekilnlaw17.QueueThree', WHERE WHAT IT READS IS OF BULK AT MOST 1048576: true; the input reads as it did. -/
def queueThreeUptoRow : OpenClaim := { program := "ytibelcmdfkgonaagreat", sum := "81ad5ec2e09ac3eb3d790329d8906ed29b5da31b5fc163a63bbb67a04458e173", func := "limekiln/limekilnlaw17.QueueThree", spec := "queueThree", inPlace := ["slices.overlaps[int]"], unfollowed := true, recurses := true, apart := false, narrowed := true }
def QueueThreeUptoSaid : Prop := queueThreeUptoRow.holds Tryz.pinned (OpenSpec.upto queueThreeSpec)

/-- 'limekilnlaw17.QueueAlone', WHERE WHAT IT READS IS OF BULK AT MOST 1048576: true; the input reads as it did. -/
def queueAloneUptoRow : OpenClaim := { program := "ytibelcmdfkgonaagreat", sum := "81ad5ec2e09ac3eb3d790329d8906ed29b5da31b5fc163a63bbb67a04458e173", func := "limekiln/limekilnlaw17.QueueAlone", spec := "queueAlone", inPlace := ["slices.overlaps[int]"], unfollowed := true, recurses := true, apart := false, narrowed := true }
def QueueAloneUptoSaid : Prop := queueAloneUptoRow.holds Tryz.pinned (OpenSpec.upto queueAloneSpec)

/-- 'limekilnlaw17.QueueSteps', WHERE WHAT IT READS IS OF BULK AT MOST 1048576: true; the input reads as it did. -/
def queueStepsUptoRow : OpenClaim := { program := "ytibelcmdfkgonaagreat", sum := "81ad5ec2e09ac3eb3d790329d8906ed29b5da31b5fc163a63bbb67a04458e173", func := "limekiln/limekilnlaw17.QueueSteps", spec := "queueSteps", inPlace := ["slices.overlaps[int]"], unfollowed := true, recurses := true, apart := false, narrowed := true }
def QueueStepsUptoSaid : Prop := queueStepsUptoRow.holds Tryz.pinned (OpenSpec.upto queueStepsSpec)

end Rows
end Go.Proofs.YtibelcmdfkgonaaGreat
