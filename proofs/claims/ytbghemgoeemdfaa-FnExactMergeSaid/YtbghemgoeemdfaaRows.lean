/-
  No cell of these rows narrows 'for every input' (looked for: loops, veiled, ifaces, maps, wideKeys, modest, calm, conditions, laid).
  DERIVED. THE GIVEN ROWS OF THIS SEAT. 10 by the template 'for every input the law returns true; each argument reads behind the call as it read before'; 0 by the template 'total and deterministic' (their statements: YtbghemgoeemdfaaTotals.lean).
  GIVEN WITH THE SEED: the statements are not yours to turn. If you find one false, say at which input.
  Laid BY PROGRAM, IN A SANDBOX (cutbox-rows.mjs): the forced cells as the released guide's own fill.sh prints them over the translation dc721e3bf8fca707… (all of the seat's roots in one cut). By AI agents, Wed Nov 11 2026. No macro, syntax, notation, axiom, sorry.
-/
import Derived.Test.YtbghemgoeemdfaaChecked
import GoSem.Claim
import GoSem.ClaimJoined
import GoSem.ClaimMapViews
import Derived.JoinedTies
import Derived.KernelRfl
namespace Go.Proofs.Ytbghemgoeemdfaa
/- THE CELL 'sum', in the pinned program and in every row, IS THE sha256 OF THE DUMP (.gsa) THAT YtbghemgoeemdfaaProg.lean LOADS. Nothing in Lean hashes anything: it is a label: what it is worth is what the hold of that sum in a sandbox is worth. -/
noncomputable def Try.pinned : Pinned := { name := "ytbghemgoeemdfaa", sum := "dc721e3bf8fca707ac926c802ef11f975d8f14cf2220627a7c943b904567964d", checked := Try.checked }
namespace Rows
def none {H : Type} : Left H := { results := [], args := [] }

/-- 'laws.FnExactMerge': WHATEVER THE INPUT: true; the input reads as it did. -/
def fnExactMergeSpec : ChangeSpec := { name := "fnExactMerge", fn := fun _ => fun
  | [d1, d2, d3] => { results := [.lit (.bool true)], args := [d1, d2, d3] }
  | _ => none }
def fnExactMergeRow : OpenClaim := { program := "ytbghemgoeemdfaa", sum := "dc721e3bf8fca707ac926c802ef11f975d8f14cf2220627a7c943b904567964d", func := "loop.example/g00797/laws.FnExactMerge", spec := "fnExactMerge", unfollowed := true, recurses := true, apart := false }
def FnExactMergeSaid : Prop := fnExactMergeRow.holds Try.pinned (OpenSpec.ofChange fnExactMergeSpec)

/-- ITS FALSE NEIGHBOUR: 'it returns false'. Refute it at one input. -/
def fnExactMergeWrong : ChangeSpec := { name := "fnExactMerge", fn := fun _ => fun
  | [d1, d2, d3] => { results := [.lit (.bool false)], args := [d1, d2, d3] }
  | _ => none }
def FnExactMergeWrongFalsely : Prop := fnExactMergeRow.holds Try.pinned (OpenSpec.ofChange fnExactMergeWrong)

/-- 'laws.FnExactMergeOps': WHATEVER THE INPUT: true; the input reads as it did. -/
def fnExactMergeOpsSpec : ChangeSpec := { name := "fnExactMergeOps", fn := fun _ => fun
  | [d1, d2] => { results := [.lit (.bool true)], args := [d1, d2] }
  | _ => none }
def fnExactMergeOpsRow : OpenClaim := { program := "ytbghemgoeemdfaa", sum := "dc721e3bf8fca707ac926c802ef11f975d8f14cf2220627a7c943b904567964d", func := "loop.example/g00797/laws.FnExactMergeOps", spec := "fnExactMergeOps", unfollowed := true, recurses := true, apart := false }
def FnExactMergeOpsSaid : Prop := fnExactMergeOpsRow.holds Try.pinned (OpenSpec.ofChange fnExactMergeOpsSpec)

/-- ITS FALSE NEIGHBOUR: 'it returns false'. Refute it at one input. -/
def fnExactMergeOpsWrong : ChangeSpec := { name := "fnExactMergeOps", fn := fun _ => fun
  | [d1, d2] => { results := [.lit (.bool false)], args := [d1, d2] }
  | _ => none }
def FnExactMergeOpsWrongFalsely : Prop := fnExactMergeOpsRow.holds Try.pinned (OpenSpec.ofChange fnExactMergeOpsWrong)

/-- 'laws.FnExactFold': WHATEVER THE INPUT: true; the input reads as it did. -/
def fnExactFoldSpec : ChangeSpec := { name := "fnExactFold", fn := fun _ => fun
  | [d1, d2] => { results := [.lit (.bool true)], args := [d1, d2] }
  | _ => none }
def fnExactFoldRow : OpenClaim := { program := "ytbghemgoeemdfaa", sum := "dc721e3bf8fca707ac926c802ef11f975d8f14cf2220627a7c943b904567964d", func := "loop.example/g00797/laws.FnExactFold", spec := "fnExactFold", unfollowed := true, recurses := true, apart := false }
def FnExactFoldSaid : Prop := fnExactFoldRow.holds Try.pinned (OpenSpec.ofChange fnExactFoldSpec)

/-- ITS FALSE NEIGHBOUR: 'it returns false'. Refute it at one input. -/
def fnExactFoldWrong : ChangeSpec := { name := "fnExactFold", fn := fun _ => fun
  | [d1, d2] => { results := [.lit (.bool false)], args := [d1, d2] }
  | _ => none }
def FnExactFoldWrongFalsely : Prop := fnExactFoldRow.holds Try.pinned (OpenSpec.ofChange fnExactFoldWrong)

/-- 'laws.FnExactSquash': WHATEVER THE INPUT: true; the input reads as it did. -/
def fnExactSquashSpec : ChangeSpec := { name := "fnExactSquash", fn := fun _ => fun
  | [d] => { results := [.lit (.bool true)], args := [d] }
  | _ => none }
def fnExactSquashRow : OpenClaim := { program := "ytbghemgoeemdfaa", sum := "dc721e3bf8fca707ac926c802ef11f975d8f14cf2220627a7c943b904567964d", func := "loop.example/g00797/laws.FnExactSquash", spec := "fnExactSquash", unfollowed := true, recurses := true, apart := false }
def FnExactSquashSaid : Prop := fnExactSquashRow.holds Try.pinned (OpenSpec.ofChange fnExactSquashSpec)

/-- ITS FALSE NEIGHBOUR: 'it returns false'. Refute it at one input. -/
def fnExactSquashWrong : ChangeSpec := { name := "fnExactSquash", fn := fun _ => fun
  | [d] => { results := [.lit (.bool false)], args := [d] }
  | _ => none }
def FnExactSquashWrongFalsely : Prop := fnExactSquashRow.holds Try.pinned (OpenSpec.ofChange fnExactSquashWrong)

/-- 'laws.FnExactGains': WHATEVER THE INPUT: true; the input reads as it did. -/
def fnExactGainsSpec : ChangeSpec := { name := "fnExactGains", fn := fun _ => fun
  | [d1, d2] => { results := [.lit (.bool true)], args := [d1, d2] }
  | _ => none }
def fnExactGainsRow : OpenClaim := { program := "ytbghemgoeemdfaa", sum := "dc721e3bf8fca707ac926c802ef11f975d8f14cf2220627a7c943b904567964d", func := "loop.example/g00797/laws.FnExactGains", spec := "fnExactGains", apart := false }
def FnExactGainsSaid : Prop := fnExactGainsRow.holds Try.pinned (OpenSpec.ofChange fnExactGainsSpec)

/-- ITS FALSE NEIGHBOUR: 'it returns false'. Refute it at one input. -/
def fnExactGainsWrong : ChangeSpec := { name := "fnExactGains", fn := fun _ => fun
  | [d1, d2] => { results := [.lit (.bool false)], args := [d1, d2] }
  | _ => none }
def FnExactGainsWrongFalsely : Prop := fnExactGainsRow.holds Try.pinned (OpenSpec.ofChange fnExactGainsWrong)

/-- 'laws.FnExactTells': WHATEVER THE INPUT: true; the input reads as it did. -/
def fnExactTellsSpec : ChangeSpec := { name := "fnExactTells", fn := fun _ => fun
  | [d1, d2, d3] => { results := [.lit (.bool true)], args := [d1, d2, d3] }
  | _ => none }
def fnExactTellsRow : OpenClaim := { program := "ytbghemgoeemdfaa", sum := "dc721e3bf8fca707ac926c802ef11f975d8f14cf2220627a7c943b904567964d", func := "loop.example/g00797/laws.FnExactTells", spec := "fnExactTells", unfollowed := true, recurses := true, apart := false }
def FnExactTellsSaid : Prop := fnExactTellsRow.holds Try.pinned (OpenSpec.ofChange fnExactTellsSpec)

/-- ITS FALSE NEIGHBOUR: 'it returns false'. Refute it at one input. -/
def fnExactTellsWrong : ChangeSpec := { name := "fnExactTells", fn := fun _ => fun
  | [d1, d2, d3] => { results := [.lit (.bool false)], args := [d1, d2, d3] }
  | _ => none }
def FnExactTellsWrongFalsely : Prop := fnExactTellsRow.holds Try.pinned (OpenSpec.ofChange fnExactTellsWrong)

/-- 'laws.FnMerge': WHATEVER THE INPUT: true; the input reads as it did. -/
def fnMergeSpec : ChangeSpec := { name := "fnMerge", fn := fun _ => fun
  | [d] => { results := [.lit (.bool true)], args := [d] }
  | _ => none }
def fnMergeRow : OpenClaim := { program := "ytbghemgoeemdfaa", sum := "dc721e3bf8fca707ac926c802ef11f975d8f14cf2220627a7c943b904567964d", func := "loop.example/g00797/laws.FnMerge", spec := "fnMerge", unfollowed := true, recurses := true, apart := false }
def FnMergeSaid : Prop := fnMergeRow.holds Try.pinned (OpenSpec.ofChange fnMergeSpec)

/-- ITS FALSE NEIGHBOUR: 'it returns false'. Refute it at one input. -/
def fnMergeWrong : ChangeSpec := { name := "fnMerge", fn := fun _ => fun
  | [d] => { results := [.lit (.bool false)], args := [d] }
  | _ => none }
def FnMergeWrongFalsely : Prop := fnMergeRow.holds Try.pinned (OpenSpec.ofChange fnMergeWrong)

/-- 'laws.FnMany': WHATEVER THE INPUT: true; the input reads as it did. -/
def fnManySpec : ChangeSpec := { name := "fnMany", fn := fun _ => fun
  | [d] => { results := [.lit (.bool true)], args := [d] }
  | _ => none }
def fnManyRow : OpenClaim := { program := "ytbghemgoeemdfaa", sum := "dc721e3bf8fca707ac926c802ef11f975d8f14cf2220627a7c943b904567964d", func := "loop.example/g00797/laws.FnMany", spec := "fnMany", unfollowed := true, recurses := true, apart := false }
def FnManySaid : Prop := fnManyRow.holds Try.pinned (OpenSpec.ofChange fnManySpec)

/-- ITS FALSE NEIGHBOUR: 'it returns false'. Refute it at one input. -/
def fnManyWrong : ChangeSpec := { name := "fnMany", fn := fun _ => fun
  | [d] => { results := [.lit (.bool false)], args := [d] }
  | _ => none }
def FnManyWrongFalsely : Prop := fnManyRow.holds Try.pinned (OpenSpec.ofChange fnManyWrong)

/-- 'laws.FnUndo': WHATEVER THE INPUT: true; the input reads as it did. -/
def fnUndoSpec : ChangeSpec := { name := "fnUndo", fn := fun _ => fun
  | [d] => { results := [.lit (.bool true)], args := [d] }
  | _ => none }
def fnUndoRow : OpenClaim := { program := "ytbghemgoeemdfaa", sum := "dc721e3bf8fca707ac926c802ef11f975d8f14cf2220627a7c943b904567964d", func := "loop.example/g00797/laws.FnUndo", spec := "fnUndo", unfollowed := true, recurses := true, apart := false }
def FnUndoSaid : Prop := fnUndoRow.holds Try.pinned (OpenSpec.ofChange fnUndoSpec)

/-- ITS FALSE NEIGHBOUR: 'it returns false'. Refute it at one input. -/
def fnUndoWrong : ChangeSpec := { name := "fnUndo", fn := fun _ => fun
  | [d] => { results := [.lit (.bool false)], args := [d] }
  | _ => none }
def FnUndoWrongFalsely : Prop := fnUndoRow.holds Try.pinned (OpenSpec.ofChange fnUndoWrong)

/-- 'laws.FnOther': WHATEVER THE INPUT: true; the input reads as it did. -/
def fnOtherSpec : ChangeSpec := { name := "fnOther", fn := fun _ => fun
  | [d] => { results := [.lit (.bool true)], args := [d] }
  | _ => none }
def fnOtherRow : OpenClaim := { program := "ytbghemgoeemdfaa", sum := "dc721e3bf8fca707ac926c802ef11f975d8f14cf2220627a7c943b904567964d", func := "loop.example/g00797/laws.FnOther", spec := "fnOther", unfollowed := true, recurses := true, apart := false }
def FnOtherSaid : Prop := fnOtherRow.holds Try.pinned (OpenSpec.ofChange fnOtherSpec)

/-- ITS FALSE NEIGHBOUR: 'it returns false'. Refute it at one input. -/
def fnOtherWrong : ChangeSpec := { name := "fnOther", fn := fun _ => fun
  | [d] => { results := [.lit (.bool false)], args := [d] }
  | _ => none }
def FnOtherWrongFalsely : Prop := fnOtherRow.holds Try.pinned (OpenSpec.ofChange fnOtherWrong)

/- THE SECOND FORM. 'bulk': how many values and letters a reading holds, each counted each time it is reached (what is shared counts as often as it is met; a slice's spare places count too). A statement '..UptoSaid' is the law's where the arguments, and the package variables that the reading takes, are together of bulk at most 1048576: NARROWER than '..Said'. Prove '..Said' where nothing that the law and all that it calls make is longer than what came in: it says more and counts as full. Else prove '..UptoSaid'. A law counts once. -/
mutual
def uptoBulk {H : Type} : DataW H → Nat
  | .lit (.string bytes) => bytes.length + 1
  | .lit _ => 1
  | .nil => 1
  | .ptr d => uptoBulk d + 1
  | .slice elems spare => uptoBulkAll elems + uptoBulkAll spare + 1
  | .agg parts => uptoBulkAll parts + 1
  | .iface _ d => uptoBulk d + 1
  | .map entries => uptoBulkEntries entries + 1
  | .held _ => 1
def uptoBulkAll {H : Type} : List (DataW H) → Nat
  | [] => 0
  | d :: r => uptoBulk d + uptoBulkAll r
def uptoBulkEntries {H : Type} : List (Lit × DataW H) → Nat
  | [] => 0
  | x :: r => uptoBulkEntry x + uptoBulkEntries r
def uptoBulkEntry {H : Type} : Lit × DataW H → Nat
  | (.string bytes, d) => bytes.length + uptoBulk d + 1
  | (_, d) => uptoBulk d + 1
 end
def uptoSmall : (H : Type) → List (DataW H) → Bool := fun _ ds => decide (uptoBulkAll ds ≤ 1048576)
def OpenSpec.upto (s : _root_.Go.ChangeSpec) : _root_.Go.OpenSpec := { _root_.Go.OpenSpec.ofChange s with cond := some uptoSmall }

/-- 'laws.FnExactMerge', WHERE WHAT IT READS IS OF BULK AT MOST 1048576: true; the input reads as it did. -/
def fnExactMergeUptoRow : OpenClaim := { program := "ytbghemgoeemdfaa", sum := "dc721e3bf8fca707ac926c802ef11f975d8f14cf2220627a7c943b904567964d", func := "loop.example/g00797/laws.FnExactMerge", spec := "fnExactMerge", unfollowed := true, recurses := true, apart := false, narrowed := true }
def FnExactMergeUptoSaid : Prop := fnExactMergeUptoRow.holds Try.pinned (OpenSpec.upto fnExactMergeSpec)

/-- 'laws.FnExactMergeOps', WHERE WHAT IT READS IS OF BULK AT MOST 1048576: true; the input reads as it did. -/
def fnExactMergeOpsUptoRow : OpenClaim := { program := "ytbghemgoeemdfaa", sum := "dc721e3bf8fca707ac926c802ef11f975d8f14cf2220627a7c943b904567964d", func := "loop.example/g00797/laws.FnExactMergeOps", spec := "fnExactMergeOps", unfollowed := true, recurses := true, apart := false, narrowed := true }
def FnExactMergeOpsUptoSaid : Prop := fnExactMergeOpsUptoRow.holds Try.pinned (OpenSpec.upto fnExactMergeOpsSpec)

/-- 'laws.FnExactFold', WHERE WHAT IT READS IS OF BULK AT MOST 1048576: true; the input reads as it did. -/
def fnExactFoldUptoRow : OpenClaim := { program := "ytbghemgoeemdfaa", sum := "dc721e3bf8fca707ac926c802ef11f975d8f14cf2220627a7c943b904567964d", func := "loop.example/g00797/laws.FnExactFold", spec := "fnExactFold", unfollowed := true, recurses := true, apart := false, narrowed := true }
def FnExactFoldUptoSaid : Prop := fnExactFoldUptoRow.holds Try.pinned (OpenSpec.upto fnExactFoldSpec)

/-- 'laws.FnExactSquash', WHERE WHAT IT READS IS OF BULK AT MOST 1048576: true; the input reads as it did. -/
def fnExactSquashUptoRow : OpenClaim := { program := "ytbghemgoeemdfaa", sum := "dc721e3bf8fca707ac926c802ef11f975d8f14cf2220627a7c943b904567964d", func := "loop.example/g00797/laws.FnExactSquash", spec := "fnExactSquash", unfollowed := true, recurses := true, apart := false, narrowed := true }
def FnExactSquashUptoSaid : Prop := fnExactSquashUptoRow.holds Try.pinned (OpenSpec.upto fnExactSquashSpec)

/-- 'laws.FnExactGains', WHERE WHAT IT READS IS OF BULK AT MOST 1048576: true; the input reads as it did. -/
def fnExactGainsUptoRow : OpenClaim := { program := "ytbghemgoeemdfaa", sum := "dc721e3bf8fca707ac926c802ef11f975d8f14cf2220627a7c943b904567964d", func := "loop.example/g00797/laws.FnExactGains", spec := "fnExactGains", apart := false, narrowed := true }
def FnExactGainsUptoSaid : Prop := fnExactGainsUptoRow.holds Try.pinned (OpenSpec.upto fnExactGainsSpec)

/-- 'laws.FnExactTells', WHERE WHAT IT READS IS OF BULK AT MOST 1048576: true; the input reads as it did. -/
def fnExactTellsUptoRow : OpenClaim := { program := "ytbghemgoeemdfaa", sum := "dc721e3bf8fca707ac926c802ef11f975d8f14cf2220627a7c943b904567964d", func := "loop.example/g00797/laws.FnExactTells", spec := "fnExactTells", unfollowed := true, recurses := true, apart := false, narrowed := true }
def FnExactTellsUptoSaid : Prop := fnExactTellsUptoRow.holds Try.pinned (OpenSpec.upto fnExactTellsSpec)

/-- 'laws.FnMerge', WHERE WHAT IT READS IS OF BULK AT MOST 1048576: true; the input reads as it did. -/
def fnMergeUptoRow : OpenClaim := { program := "ytbghemgoeemdfaa", sum := "dc721e3bf8fca707ac926c802ef11f975d8f14cf2220627a7c943b904567964d", func := "loop.example/g00797/laws.FnMerge", spec := "fnMerge", unfollowed := true, recurses := true, apart := false, narrowed := true }
def FnMergeUptoSaid : Prop := fnMergeUptoRow.holds Try.pinned (OpenSpec.upto fnMergeSpec)

/-- 'laws.FnMany', WHERE WHAT IT READS IS OF BULK AT MOST 1048576: true; the input reads as it did. -/
def fnManyUptoRow : OpenClaim := { program := "ytbghemgoeemdfaa", sum := "dc721e3bf8fca707ac926c802ef11f975d8f14cf2220627a7c943b904567964d", func := "loop.example/g00797/laws.FnMany", spec := "fnMany", unfollowed := true, recurses := true, apart := false, narrowed := true }
def FnManyUptoSaid : Prop := fnManyUptoRow.holds Try.pinned (OpenSpec.upto fnManySpec)

/-- 'laws.FnUndo', WHERE WHAT IT READS IS OF BULK AT MOST 1048576: true; the input reads as it did. -/
def fnUndoUptoRow : OpenClaim := { program := "ytbghemgoeemdfaa", sum := "dc721e3bf8fca707ac926c802ef11f975d8f14cf2220627a7c943b904567964d", func := "loop.example/g00797/laws.FnUndo", spec := "fnUndo", unfollowed := true, recurses := true, apart := false, narrowed := true }
def FnUndoUptoSaid : Prop := fnUndoUptoRow.holds Try.pinned (OpenSpec.upto fnUndoSpec)

/-- 'laws.FnOther', WHERE WHAT IT READS IS OF BULK AT MOST 1048576: true; the input reads as it did. -/
def fnOtherUptoRow : OpenClaim := { program := "ytbghemgoeemdfaa", sum := "dc721e3bf8fca707ac926c802ef11f975d8f14cf2220627a7c943b904567964d", func := "loop.example/g00797/laws.FnOther", spec := "fnOther", unfollowed := true, recurses := true, apart := false, narrowed := true }
def FnOtherUptoSaid : Prop := fnOtherUptoRow.holds Try.pinned (OpenSpec.upto fnOtherSpec)

end Rows
end Go.Proofs.Ytbghemgoeemdfaa
