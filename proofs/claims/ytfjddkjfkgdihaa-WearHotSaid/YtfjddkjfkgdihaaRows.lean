/-
  No cell of these rows narrows 'for every input' (looked for: loops, veiled, ifaces, maps, wideKeys, modest, calm, conditions, laid).
  DERIVED. THE GIVEN ROWS OF THIS SEAT. 12 by the template 'for every input the law returns true; each argument reads behind the call as it read before'; 0 by the template 'total and deterministic' (their statements: YtfjddkjfkgdihaaTotals.lean).
  GIVEN WITH THE SEED: the statements are not yours to turn. If you find one false, say at which input.
  Laid BY PROGRAM, IN A SANDBOX (cutbox-rows.mjs): the forced cells as the released guide's own fill.sh prints them over the translation 6826b59cfef6bde0… (all of the seat's roots in one cut). By AI agents, Wed Nov 11 2026. No macro, syntax, notation, axiom, sorry.
-/
import Derived.Test.YtfjddkjfkgdihaaChecked
import GoSem.Claim
import GoSem.ClaimJoined
import GoSem.ClaimMapViews
import Derived.JoinedTies
import Derived.KernelRfl
namespace Go.Proofs.Ytfjddkjfkgdihaa
/- THE CELL 'sum', in the pinned program and in every row, IS THE sha256 OF THE DUMP (.gsa) THAT YtfjddkjfkgdihaaProg.lean LOADS. Nothing in Lean hashes anything: it is a label: what it is worth is what the hold of that sum in a sandbox is worth. -/
noncomputable def Try.pinned : Pinned := { name := "ytfjddkjfkgdihaa", sum := "6826b59cfef6bde003ac8d4832c700903723b8eb13d48ceaec654e1e919dbb29", checked := Try.checked }
namespace Rows
def none {H : Type} : Left H := { results := [], args := [] }

/-- 'limekilnlaw35.DiceThrows': WHATEVER THE INPUT: true; the input reads as it did. -/
def diceThrowsSpec : ChangeSpec := { name := "diceThrows", fn := fun _ => fun
  | [d] => { results := [.lit (.bool true)], args := [d] }
  | _ => none }
def diceThrowsRow : OpenClaim := { program := "ytfjddkjfkgdihaa", sum := "6826b59cfef6bde003ac8d4832c700903723b8eb13d48ceaec654e1e919dbb29", func := "limekiln/limekilnlaw35.DiceThrows", spec := "diceThrows", apart := false }
def DiceThrowsSaid : Prop := diceThrowsRow.holds Try.pinned (OpenSpec.ofChange diceThrowsSpec)

/-- ITS FALSE NEIGHBOUR: 'it returns false'. Refute it at one input. -/
def diceThrowsWrong : ChangeSpec := { name := "diceThrows", fn := fun _ => fun
  | [d] => { results := [.lit (.bool false)], args := [d] }
  | _ => none }
def DiceThrowsWrongFalsely : Prop := diceThrowsRow.holds Try.pinned (OpenSpec.ofChange diceThrowsWrong)

/-- 'limekilnlaw16.HashMixes': WHATEVER THE INPUT: true; the input reads as it did. -/
def hashMixesSpec : ChangeSpec := { name := "hashMixes", fn := fun _ => fun
  | [d1, d2, d3] => { results := [.lit (.bool true)], args := [d1, d2, d3] }
  | _ => none }
def hashMixesRow : OpenClaim := { program := "ytfjddkjfkgdihaa", sum := "6826b59cfef6bde003ac8d4832c700903723b8eb13d48ceaec654e1e919dbb29", func := "limekiln/limekilnlaw16.HashMixes", spec := "hashMixes", apart := false }
def HashMixesSaid : Prop := hashMixesRow.holds Try.pinned (OpenSpec.ofChange hashMixesSpec)

/-- ITS FALSE NEIGHBOUR: 'it returns false'. Refute it at one input. -/
def hashMixesWrong : ChangeSpec := { name := "hashMixes", fn := fun _ => fun
  | [d1, d2, d3] => { results := [.lit (.bool false)], args := [d1, d2, d3] }
  | _ => none }
def HashMixesWrongFalsely : Prop := hashMixesRow.holds Try.pinned (OpenSpec.ofChange hashMixesWrong)

/-- 'limekilnlaw16.HashSpreads': WHATEVER THE INPUT: true; the input reads as it did. -/
def hashSpreadsSpec : ChangeSpec := { name := "hashSpreads", fn := fun _ => fun
  | [d1, d2] => { results := [.lit (.bool true)], args := [d1, d2] }
  | _ => none }
def hashSpreadsRow : OpenClaim := { program := "ytfjddkjfkgdihaa", sum := "6826b59cfef6bde003ac8d4832c700903723b8eb13d48ceaec654e1e919dbb29", func := "limekiln/limekilnlaw16.HashSpreads", spec := "hashSpreads", apart := false }
def HashSpreadsSaid : Prop := hashSpreadsRow.holds Try.pinned (OpenSpec.ofChange hashSpreadsSpec)

/-- ITS FALSE NEIGHBOUR: 'it returns false'. Refute it at one input. -/
def hashSpreadsWrong : ChangeSpec := { name := "hashSpreads", fn := fun _ => fun
  | [d1, d2] => { results := [.lit (.bool false)], args := [d1, d2] }
  | _ => none }
def HashSpreadsWrongFalsely : Prop := hashSpreadsRow.holds Try.pinned (OpenSpec.ofChange hashSpreadsWrong)

/-- 'limekilnlaw37.TraceReads': WHATEVER THE INPUT: true; the input reads as it did. -/
def traceReadsSpec : ChangeSpec := { name := "traceReads", fn := fun _ => fun
  | [d] => { results := [.lit (.bool true)], args := [d] }
  | _ => none }
def traceReadsRow : OpenClaim := { program := "ytfjddkjfkgdihaa", sum := "6826b59cfef6bde003ac8d4832c700903723b8eb13d48ceaec654e1e919dbb29", func := "limekiln/limekilnlaw37.TraceReads", spec := "traceReads", apart := false }
def TraceReadsSaid : Prop := traceReadsRow.holds Try.pinned (OpenSpec.ofChange traceReadsSpec)

/-- ITS FALSE NEIGHBOUR: 'it returns false'. Refute it at one input. -/
def traceReadsWrong : ChangeSpec := { name := "traceReads", fn := fun _ => fun
  | [d] => { results := [.lit (.bool false)], args := [d] }
  | _ => none }
def TraceReadsWrongFalsely : Prop := traceReadsRow.holds Try.pinned (OpenSpec.ofChange traceReadsWrong)

/-- 'limekilnlaw37.TraceNumbers': WHATEVER THE INPUT: true; the input reads as it did. -/
def traceNumbersSpec : ChangeSpec := { name := "traceNumbers", fn := fun _ => fun
  | [d1, d2, d3] => { results := [.lit (.bool true)], args := [d1, d2, d3] }
  | _ => none }
def traceNumbersRow : OpenClaim := { program := "ytfjddkjfkgdihaa", sum := "6826b59cfef6bde003ac8d4832c700903723b8eb13d48ceaec654e1e919dbb29", func := "limekiln/limekilnlaw37.TraceNumbers", spec := "traceNumbers", apart := false }
def TraceNumbersSaid : Prop := traceNumbersRow.holds Try.pinned (OpenSpec.ofChange traceNumbersSpec)

/-- ITS FALSE NEIGHBOUR: 'it returns false'. Refute it at one input. -/
def traceNumbersWrong : ChangeSpec := { name := "traceNumbers", fn := fun _ => fun
  | [d1, d2, d3] => { results := [.lit (.bool false)], args := [d1, d2, d3] }
  | _ => none }
def TraceNumbersWrongFalsely : Prop := traceNumbersRow.holds Try.pinned (OpenSpec.ofChange traceNumbersWrong)

/-- 'limekilnlaw33.WearCounts': WHATEVER THE INPUT: true; the input reads as it did. -/
def wearCountsSpec : ChangeSpec := { name := "wearCounts", fn := fun _ => fun
  | [d1, d2, d3] => { results := [.lit (.bool true)], args := [d1, d2, d3] }
  | _ => none }
def wearCountsRow : OpenClaim := { program := "ytfjddkjfkgdihaa", sum := "6826b59cfef6bde003ac8d4832c700903723b8eb13d48ceaec654e1e919dbb29", func := "limekiln/limekilnlaw33.WearCounts", spec := "wearCounts", apart := false }
def WearCountsSaid : Prop := wearCountsRow.holds Try.pinned (OpenSpec.ofChange wearCountsSpec)

/-- ITS FALSE NEIGHBOUR: 'it returns false'. Refute it at one input. -/
def wearCountsWrong : ChangeSpec := { name := "wearCounts", fn := fun _ => fun
  | [d1, d2, d3] => { results := [.lit (.bool false)], args := [d1, d2, d3] }
  | _ => none }
def WearCountsWrongFalsely : Prop := wearCountsRow.holds Try.pinned (OpenSpec.ofChange wearCountsWrong)

/-- 'limekilnlaw24.HistoryMay': WHATEVER THE INPUT: true; the input reads as it did. -/
def historyMaySpec : ChangeSpec := { name := "historyMay", fn := fun _ => fun
  | [d] => { results := [.lit (.bool true)], args := [d] }
  | _ => none }
def historyMayRow : OpenClaim := { program := "ytfjddkjfkgdihaa", sum := "6826b59cfef6bde003ac8d4832c700903723b8eb13d48ceaec654e1e919dbb29", func := "limekiln/limekilnlaw24.HistoryMay", spec := "historyMay", apart := false }
def HistoryMaySaid : Prop := historyMayRow.holds Try.pinned (OpenSpec.ofChange historyMaySpec)

/-- ITS FALSE NEIGHBOUR: 'it returns false'. Refute it at one input. -/
def historyMayWrong : ChangeSpec := { name := "historyMay", fn := fun _ => fun
  | [d] => { results := [.lit (.bool false)], args := [d] }
  | _ => none }
def HistoryMayWrongFalsely : Prop := historyMayRow.holds Try.pinned (OpenSpec.ofChange historyMayWrong)

/-- 'limekilnlaw24.HistoryOrder': WHATEVER THE INPUT: true; the input reads as it did. -/
def historyOrderSpec : ChangeSpec := { name := "historyOrder", fn := fun _ => fun
  | [d1, d2] => { results := [.lit (.bool true)], args := [d1, d2] }
  | _ => none }
def historyOrderRow : OpenClaim := { program := "ytfjddkjfkgdihaa", sum := "6826b59cfef6bde003ac8d4832c700903723b8eb13d48ceaec654e1e919dbb29", func := "limekiln/limekilnlaw24.HistoryOrder", spec := "historyOrder", apart := false }
def HistoryOrderSaid : Prop := historyOrderRow.holds Try.pinned (OpenSpec.ofChange historyOrderSpec)

/-- ITS FALSE NEIGHBOUR: 'it returns false'. Refute it at one input. -/
def historyOrderWrong : ChangeSpec := { name := "historyOrder", fn := fun _ => fun
  | [d1, d2] => { results := [.lit (.bool false)], args := [d1, d2] }
  | _ => none }
def HistoryOrderWrongFalsely : Prop := historyOrderRow.holds Try.pinned (OpenSpec.ofChange historyOrderWrong)

/-- 'limekilnlaw24.HistoryTells': WHATEVER THE INPUT: true; the input reads as it did. -/
def historyTellsSpec : ChangeSpec := { name := "historyTells", fn := fun _ => fun
  | [d1, d2] => { results := [.lit (.bool true)], args := [d1, d2] }
  | _ => none }
def historyTellsRow : OpenClaim := { program := "ytfjddkjfkgdihaa", sum := "6826b59cfef6bde003ac8d4832c700903723b8eb13d48ceaec654e1e919dbb29", func := "limekiln/limekilnlaw24.HistoryTells", spec := "historyTells", unfollowed := true, recurses := true, apart := false }
def HistoryTellsSaid : Prop := historyTellsRow.holds Try.pinned (OpenSpec.ofChange historyTellsSpec)

/-- ITS FALSE NEIGHBOUR: 'it returns false'. Refute it at one input. -/
def historyTellsWrong : ChangeSpec := { name := "historyTells", fn := fun _ => fun
  | [d1, d2] => { results := [.lit (.bool false)], args := [d1, d2] }
  | _ => none }
def HistoryTellsWrongFalsely : Prop := historyTellsRow.holds Try.pinned (OpenSpec.ofChange historyTellsWrong)

/-- 'limekilnlaw37.TraceWrites': WHATEVER THE INPUT: true; the input reads as it did. -/
def traceWritesSpec : ChangeSpec := { name := "traceWrites", fn := fun _ => fun
  | [d] => { results := [.lit (.bool true)], args := [d] }
  | _ => none }
def traceWritesRow : OpenClaim := { program := "ytfjddkjfkgdihaa", sum := "6826b59cfef6bde003ac8d4832c700903723b8eb13d48ceaec654e1e919dbb29", func := "limekiln/limekilnlaw37.TraceWrites", spec := "traceWrites", unfollowed := true, recurses := true, apart := false }
def TraceWritesSaid : Prop := traceWritesRow.holds Try.pinned (OpenSpec.ofChange traceWritesSpec)

/-- ITS FALSE NEIGHBOUR: 'it returns false'. Refute it at one input. -/
def traceWritesWrong : ChangeSpec := { name := "traceWrites", fn := fun _ => fun
  | [d] => { results := [.lit (.bool false)], args := [d] }
  | _ => none }
def TraceWritesWrongFalsely : Prop := traceWritesRow.holds Try.pinned (OpenSpec.ofChange traceWritesWrong)

/-- 'limekilnlaw37.TraceBytes': WHATEVER THE INPUT: true; the input reads as it did. -/
def traceBytesSpec : ChangeSpec := { name := "traceBytes", fn := fun _ => fun
  | [d] => { results := [.lit (.bool true)], args := [d] }
  | _ => none }
def traceBytesRow : OpenClaim := { program := "ytfjddkjfkgdihaa", sum := "6826b59cfef6bde003ac8d4832c700903723b8eb13d48ceaec654e1e919dbb29", func := "limekiln/limekilnlaw37.TraceBytes", spec := "traceBytes", unfollowed := true, recurses := true, apart := false }
def TraceBytesSaid : Prop := traceBytesRow.holds Try.pinned (OpenSpec.ofChange traceBytesSpec)

/-- ITS FALSE NEIGHBOUR: 'it returns false'. Refute it at one input. -/
def traceBytesWrong : ChangeSpec := { name := "traceBytes", fn := fun _ => fun
  | [d] => { results := [.lit (.bool false)], args := [d] }
  | _ => none }
def TraceBytesWrongFalsely : Prop := traceBytesRow.holds Try.pinned (OpenSpec.ofChange traceBytesWrong)

/-- 'limekilnlaw33.WearHot': WHATEVER THE INPUT: true; the input reads as it did. -/
def wearHotSpec : ChangeSpec := { name := "wearHot", fn := fun _ => fun
  | [d1, d2] => { results := [.lit (.bool true)], args := [d1, d2] }
  | _ => none }
def wearHotRow : OpenClaim := { program := "ytfjddkjfkgdihaa", sum := "6826b59cfef6bde003ac8d4832c700903723b8eb13d48ceaec654e1e919dbb29", func := "limekiln/limekilnlaw33.WearHot", spec := "wearHot", unfollowed := true, recurses := true, apart := false }
def WearHotSaid : Prop := wearHotRow.holds Try.pinned (OpenSpec.ofChange wearHotSpec)

/-- ITS FALSE NEIGHBOUR: 'it returns false'. Refute it at one input. -/
def wearHotWrong : ChangeSpec := { name := "wearHot", fn := fun _ => fun
  | [d1, d2] => { results := [.lit (.bool false)], args := [d1, d2] }
  | _ => none }
def WearHotWrongFalsely : Prop := wearHotRow.holds Try.pinned (OpenSpec.ofChange wearHotWrong)

/- THE SECOND FORM. 'bulk': how many values and letters a reading holds, each counted each time it is reached (what is shared counts as often as it is met; a slice's spare places count too). A statement '..UptoSaid' is the law's where the arguments, and the package variables that the reading takes, are together of bulk at most 1048576: NARROWER than '..Said'. Prove '..Said' where nothing that the law and all that it calls make is longer than what came in: it says more and counts as full. Else prove '..UptoSaid'. A law counts once. -/
mutual
def uptoBulk {H : Type} : DataW H → Nat
  | .lit (.string bytes) => bytes.length + 1
  | .lit _ => 1
  | .nil => 1
  | .ptr d => uptoBulk d + 1
  | .slice elems spare => uptoBulkAll elems + uptoBulkAll spare + 1
  | .agg parts => uptoBulkAll parts + 1
  | .iface _ d => uptoBulk d + 1
  | .map entries => uptoBulkEntries entries + 1
  | .held _ => 1
def uptoBulkAll {H : Type} : List (DataW H) → Nat
  | [] => 0
  | d :: r => uptoBulk d + uptoBulkAll r
def uptoBulkEntries {H : Type} : List (Lit × DataW H) → Nat
  | [] => 0
  | x :: r => uptoBulkEntry x + uptoBulkEntries r
def uptoBulkEntry {H : Type} : Lit × DataW H → Nat
  | (.string bytes, d) => bytes.length + uptoBulk d + 1
  | (_, d) => uptoBulk d + 1
 end
def uptoSmall : (H : Type) → List (DataW H) → Bool := fun _ ds => decide (uptoBulkAll ds ≤ 1048576)
def OpenSpec.upto (s : _root_.Go.ChangeSpec) : _root_.Go.OpenSpec := { _root_.Go.OpenSpec.ofChange s with cond := some uptoSmall }

/-- 'limekilnlaw35.DiceThrows', WHERE WHAT IT READS IS OF BULK AT MOST 1048576: true; the input reads as it did. -/
def diceThrowsUptoRow : OpenClaim := { program := "ytfjddkjfkgdihaa", sum := "6826b59cfef6bde003ac8d4832c700903723b8eb13d48ceaec654e1e919dbb29", func := "limekiln/limekilnlaw35.DiceThrows", spec := "diceThrows", apart := false, narrowed := true }
def DiceThrowsUptoSaid : Prop := diceThrowsUptoRow.holds Try.pinned (OpenSpec.upto diceThrowsSpec)

/-- 'limekilnlaw16.HashMixes', WHERE WHAT IT READS IS OF BULK AT MOST 1048576: true; the input reads as it did. -/
def hashMixesUptoRow : OpenClaim := { program := "ytfjddkjfkgdihaa", sum := "6826b59cfef6bde003ac8d4832c700903723b8eb13d48ceaec654e1e919dbb29", func := "limekiln/limekilnlaw16.HashMixes", spec := "hashMixes", apart := false, narrowed := true }
def HashMixesUptoSaid : Prop := hashMixesUptoRow.holds Try.pinned (OpenSpec.upto hashMixesSpec)

/-- 'limekilnlaw16.HashSpreads', WHERE WHAT IT READS IS OF BULK AT MOST 1048576: true; the input reads as it did. -/
def hashSpreadsUptoRow : OpenClaim := { program := "ytfjddkjfkgdihaa", sum := "6826b59cfef6bde003ac8d4832c700903723b8eb13d48ceaec654e1e919dbb29", func := "limekiln/limekilnlaw16.HashSpreads", spec := "hashSpreads", apart := false, narrowed := true }
def HashSpreadsUptoSaid : Prop := hashSpreadsUptoRow.holds Try.pinned (OpenSpec.upto hashSpreadsSpec)

/-- 'limekilnlaw37.TraceReads', WHERE WHAT IT READS IS OF BULK AT MOST 1048576: true; the input reads as it did. -/
def traceReadsUptoRow : OpenClaim := { program := "ytfjddkjfkgdihaa", sum := "6826b59cfef6bde003ac8d4832c700903723b8eb13d48ceaec654e1e919dbb29", func := "limekiln/limekilnlaw37.TraceReads", spec := "traceReads", apart := false, narrowed := true }
def TraceReadsUptoSaid : Prop := traceReadsUptoRow.holds Try.pinned (OpenSpec.upto traceReadsSpec)

/-- 'limekilnlaw37.TraceNumbers', WHERE WHAT IT READS IS OF BULK AT MOST 1048576: true; the input reads as it did. -/
def traceNumbersUptoRow : OpenClaim := { program := "ytfjddkjfkgdihaa", sum := "6826b59cfef6bde003ac8d4832c700903723b8eb13d48ceaec654e1e919dbb29", func := "limekiln/limekilnlaw37.TraceNumbers", spec := "traceNumbers", apart := false, narrowed := true }
def TraceNumbersUptoSaid : Prop := traceNumbersUptoRow.holds Try.pinned (OpenSpec.upto traceNumbersSpec)

/-- 'limekilnlaw33.WearCounts', WHERE WHAT IT READS IS OF BULK AT MOST 1048576: true; the input reads as it did. -/
def wearCountsUptoRow : OpenClaim := { program := "ytfjddkjfkgdihaa", sum := "6826b59cfef6bde003ac8d4832c700903723b8eb13d48ceaec654e1e919dbb29", func := "limekiln/limekilnlaw33.WearCounts", spec := "wearCounts", apart := false, narrowed := true }
def WearCountsUptoSaid : Prop := wearCountsUptoRow.holds Try.pinned (OpenSpec.upto wearCountsSpec)

/-- 'limekilnlaw24.HistoryMay', WHERE WHAT IT READS IS OF BULK AT MOST 1048576: true; the input reads as it did. -/
def historyMayUptoRow : OpenClaim := { program := "ytfjddkjfkgdihaa", sum := "6826b59cfef6bde003ac8d4832c700903723b8eb13d48ceaec654e1e919dbb29", func := "limekiln/limekilnlaw24.HistoryMay", spec := "historyMay", apart := false, narrowed := true }
def HistoryMayUptoSaid : Prop := historyMayUptoRow.holds Try.pinned (OpenSpec.upto historyMaySpec)

/-- 'limekilnlaw24.HistoryOrder', WHERE WHAT IT READS IS OF BULK AT MOST 1048576: true; the input reads as it did. -/
def historyOrderUptoRow : OpenClaim := { program := "ytfjddkjfkgdihaa", sum := "6826b59cfef6bde003ac8d4832c700903723b8eb13d48ceaec654e1e919dbb29", func := "limekiln/limekilnlaw24.HistoryOrder", spec := "historyOrder", apart := false, narrowed := true }
def HistoryOrderUptoSaid : Prop := historyOrderUptoRow.holds Try.pinned (OpenSpec.upto historyOrderSpec)

/-- 'limekilnlaw24.HistoryTells', WHERE WHAT IT READS IS OF BULK AT MOST 1048576: true; the input reads as it did. -/
def historyTellsUptoRow : OpenClaim := { program := "ytfjddkjfkgdihaa", sum := "6826b59cfef6bde003ac8d4832c700903723b8eb13d48ceaec654e1e919dbb29", func := "limekiln/limekilnlaw24.HistoryTells", spec := "historyTells", unfollowed := true, recurses := true, apart := false, narrowed := true }
def HistoryTellsUptoSaid : Prop := historyTellsUptoRow.holds Try.pinned (OpenSpec.upto historyTellsSpec)

/-- 'limekilnlaw37.TraceWrites', WHERE WHAT IT READS IS OF BULK AT MOST 1048576: true; the input reads as it did. -/
def traceWritesUptoRow : OpenClaim := { program := "ytfjddkjfkgdihaa", sum := "6826b59cfef6bde003ac8d4832c700903723b8eb13d48ceaec654e1e919dbb29", func := "limekiln/limekilnlaw37.TraceWrites", spec := "traceWrites", unfollowed := true, recurses := true, apart := false, narrowed := true }
def TraceWritesUptoSaid : Prop := traceWritesUptoRow.holds Try.pinned (OpenSpec.upto traceWritesSpec)

/-- 'limekilnlaw37.TraceBytes', WHERE WHAT IT READS IS OF BULK AT MOST 1048576: true; the input reads as it did. -/
def traceBytesUptoRow : OpenClaim := { program := "ytfjddkjfkgdihaa", sum := "6826b59cfef6bde003ac8d4832c700903723b8eb13d48ceaec654e1e919dbb29", func := "limekiln/limekilnlaw37.TraceBytes", spec := "traceBytes", unfollowed := true, recurses := true, apart := false, narrowed := true }
def TraceBytesUptoSaid : Prop := traceBytesUptoRow.holds Try.pinned (OpenSpec.upto traceBytesSpec)

/-- 'limekilnlaw33.WearHot', WHERE WHAT IT READS IS OF BULK AT MOST 1048576: true; the input reads as it did. -/
def wearHotUptoRow : OpenClaim := { program := "ytfjddkjfkgdihaa", sum := "6826b59cfef6bde003ac8d4832c700903723b8eb13d48ceaec654e1e919dbb29", func := "limekiln/limekilnlaw33.WearHot", spec := "wearHot", unfollowed := true, recurses := true, apart := false, narrowed := true }
def WearHotUptoSaid : Prop := wearHotUptoRow.holds Try.pinned (OpenSpec.upto wearHotSpec)

end Rows
end Go.Proofs.Ytfjddkjfkgdihaa
