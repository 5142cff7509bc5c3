/-
  No cell of these rows narrows 'for every input' (looked for: loops, veiled, ifaces, maps, wideKeys, modest, calm, conditions, laid).
  DERIVED. THE GIVEN ROWS OF THIS SEAT. 12 by the template 'for every input the law returns true; each argument reads behind the call as it read before'; 0 by the template 'total and deterministic' (their statements: YtnpfbhejekpmaaaTotals.lean).
  GIVEN WITH THE SEED: the statements are not yours to turn. If you find one false, say at which input.
  Laid BY PROGRAM, IN A SANDBOX (cutbox-rows.mjs): the forced cells as the released guide's own fill.sh prints them over the translation 12f32cd08670dc32… (all of the seat's roots in one cut). By AI agents, Wed Nov 11 2026. No macro, syntax, notation, axiom, sorry.
-/
import Derived.Test.YtnpfbhejekpmaaaChecked
import GoSem.Claim
import GoSem.ClaimJoined
import GoSem.ClaimMapViews
import Derived.JoinedTies
import Derived.KernelRfl
namespace Go.Proofs.Ytnpfbhejekpmaaa
/- THE CELL 'sum', in the pinned program and in every row, IS THE sha256 OF THE DUMP (.gsa) THAT YtnpfbhejekpmaaaProg.lean LOADS. Nothing in Lean hashes anything: it is a label: what it is worth is what the hold of that sum in a sandbox is worth. -/
noncomputable def Try.pinned : Pinned := { name := "ytnpfbhejekpmaaa", sum := "12f32cd08670dc32232e7d45dc14bcd9647a6fc9a19be8a7082ebe47a2057181", checked := Try.checked }
namespace Rows
def none {H : Type} : Left H := { results := [], args := [] }

/-- 'laws.FnExactTouches': WHATEVER THE INPUT: true; the input reads as it did. -/
def fnExactTouchesSpec : ChangeSpec := { name := "fnExactTouches", fn := fun _ => fun
  | [d] => { results := [.lit (.bool true)], args := [d] }
  | _ => none }
def fnExactTouchesRow : OpenClaim := { program := "ytnpfbhejekpmaaa", sum := "12f32cd08670dc32232e7d45dc14bcd9647a6fc9a19be8a7082ebe47a2057181", func := "loop.example/g00797/laws.FnExactTouches", spec := "fnExactTouches", unfollowed := true, recurses := true, apart := false }
def FnExactTouchesSaid : Prop := fnExactTouchesRow.holds Try.pinned (OpenSpec.ofChange fnExactTouchesSpec)

/-- ITS FALSE NEIGHBOUR: 'it returns false'. Refute it at one input. -/
def fnExactTouchesWrong : ChangeSpec := { name := "fnExactTouches", fn := fun _ => fun
  | [d] => { results := [.lit (.bool false)], args := [d] }
  | _ => none }
def FnExactTouchesWrongFalsely : Prop := fnExactTouchesRow.holds Try.pinned (OpenSpec.ofChange fnExactTouchesWrong)

/-- 'laws.FnExactClashes': WHATEVER THE INPUT: true; the input reads as it did. -/
def fnExactClashesSpec : ChangeSpec := { name := "fnExactClashes", fn := fun _ => fun
  | [d1, d2] => { results := [.lit (.bool true)], args := [d1, d2] }
  | _ => none }
def fnExactClashesRow : OpenClaim := { program := "ytnpfbhejekpmaaa", sum := "12f32cd08670dc32232e7d45dc14bcd9647a6fc9a19be8a7082ebe47a2057181", func := "loop.example/g00797/laws.FnExactClashes", spec := "fnExactClashes", unfollowed := true, recurses := true, apart := false }
def FnExactClashesSaid : Prop := fnExactClashesRow.holds Try.pinned (OpenSpec.ofChange fnExactClashesSpec)

/-- ITS FALSE NEIGHBOUR: 'it returns false'. Refute it at one input. -/
def fnExactClashesWrong : ChangeSpec := { name := "fnExactClashes", fn := fun _ => fun
  | [d1, d2] => { results := [.lit (.bool false)], args := [d1, d2] }
  | _ => none }
def FnExactClashesWrongFalsely : Prop := fnExactClashesRow.holds Try.pinned (OpenSpec.ofChange fnExactClashesWrong)

/-- 'laws.FnExactApart': WHATEVER THE INPUT: true; the input reads as it did. -/
def fnExactApartSpec : ChangeSpec := { name := "fnExactApart", fn := fun _ => fun
  | [d1, d2] => { results := [.lit (.bool true)], args := [d1, d2] }
  | _ => none }
def fnExactApartRow : OpenClaim := { program := "ytnpfbhejekpmaaa", sum := "12f32cd08670dc32232e7d45dc14bcd9647a6fc9a19be8a7082ebe47a2057181", func := "loop.example/g00797/laws.FnExactApart", spec := "fnExactApart", unfollowed := true, recurses := true, apart := false }
def FnExactApartSaid : Prop := fnExactApartRow.holds Try.pinned (OpenSpec.ofChange fnExactApartSpec)

/-- ITS FALSE NEIGHBOUR: 'it returns false'. Refute it at one input. -/
def fnExactApartWrong : ChangeSpec := { name := "fnExactApart", fn := fun _ => fun
  | [d1, d2] => { results := [.lit (.bool false)], args := [d1, d2] }
  | _ => none }
def FnExactApartWrongFalsely : Prop := fnExactApartRow.holds Try.pinned (OpenSpec.ofChange fnExactApartWrong)

/-- 'laws.FnExactRowsPut': WHATEVER THE INPUT: true; the input reads as it did. -/
def fnExactRowsPutSpec : ChangeSpec := { name := "fnExactRowsPut", fn := fun _ => fun
  | [d1, d2, d3] => { results := [.lit (.bool true)], args := [d1, d2, d3] }
  | _ => none }
def fnExactRowsPutRow : OpenClaim := { program := "ytnpfbhejekpmaaa", sum := "12f32cd08670dc32232e7d45dc14bcd9647a6fc9a19be8a7082ebe47a2057181", func := "loop.example/g00797/laws.FnExactRowsPut", spec := "fnExactRowsPut", unfollowed := true, recurses := true, apart := false }
def FnExactRowsPutSaid : Prop := fnExactRowsPutRow.holds Try.pinned (OpenSpec.ofChange fnExactRowsPutSpec)

/-- ITS FALSE NEIGHBOUR: 'it returns false'. Refute it at one input. -/
def fnExactRowsPutWrong : ChangeSpec := { name := "fnExactRowsPut", fn := fun _ => fun
  | [d1, d2, d3] => { results := [.lit (.bool false)], args := [d1, d2, d3] }
  | _ => none }
def FnExactRowsPutWrongFalsely : Prop := fnExactRowsPutRow.holds Try.pinned (OpenSpec.ofChange fnExactRowsPutWrong)

/-- 'laws.FnExactRowsDrop': WHATEVER THE INPUT: true; the input reads as it did. -/
def fnExactRowsDropSpec : ChangeSpec := { name := "fnExactRowsDrop", fn := fun _ => fun
  | [d1, d2] => { results := [.lit (.bool true)], args := [d1, d2] }
  | _ => none }
def fnExactRowsDropRow : OpenClaim := { program := "ytnpfbhejekpmaaa", sum := "12f32cd08670dc32232e7d45dc14bcd9647a6fc9a19be8a7082ebe47a2057181", func := "loop.example/g00797/laws.FnExactRowsDrop", spec := "fnExactRowsDrop", unfollowed := true, recurses := true, apart := false }
def FnExactRowsDropSaid : Prop := fnExactRowsDropRow.holds Try.pinned (OpenSpec.ofChange fnExactRowsDropSpec)

/-- ITS FALSE NEIGHBOUR: 'it returns false'. Refute it at one input. -/
def fnExactRowsDropWrong : ChangeSpec := { name := "fnExactRowsDrop", fn := fun _ => fun
  | [d1, d2] => { results := [.lit (.bool false)], args := [d1, d2] }
  | _ => none }
def FnExactRowsDropWrongFalsely : Prop := fnExactRowsDropRow.holds Try.pinned (OpenSpec.ofChange fnExactRowsDropWrong)

/-- 'laws.FnExactPastOk': WHATEVER THE INPUT: true; the input reads as it did. -/
def fnExactPastOkSpec : ChangeSpec := { name := "fnExactPastOk", fn := fun _ => fun
  | [d] => { results := [.lit (.bool true)], args := [d] }
  | _ => none }
def fnExactPastOkRow : OpenClaim := { program := "ytnpfbhejekpmaaa", sum := "12f32cd08670dc32232e7d45dc14bcd9647a6fc9a19be8a7082ebe47a2057181", func := "loop.example/g00797/laws.FnExactPastOk", spec := "fnExactPastOk", unfollowed := true, recurses := true, apart := false }
def FnExactPastOkSaid : Prop := fnExactPastOkRow.holds Try.pinned (OpenSpec.ofChange fnExactPastOkSpec)

/-- ITS FALSE NEIGHBOUR: 'it returns false'. Refute it at one input. -/
def fnExactPastOkWrong : ChangeSpec := { name := "fnExactPastOk", fn := fun _ => fun
  | [d] => { results := [.lit (.bool false)], args := [d] }
  | _ => none }
def FnExactPastOkWrongFalsely : Prop := fnExactPastOkRow.holds Try.pinned (OpenSpec.ofChange fnExactPastOkWrong)

/-- 'laws.FnExactRowMoved': WHATEVER THE INPUT: true; the input reads as it did. -/
def fnExactRowMovedSpec : ChangeSpec := { name := "fnExactRowMoved", fn := fun _ => fun
  | [d1, d2, d3] => { results := [.lit (.bool true)], args := [d1, d2, d3] }
  | _ => none }
def fnExactRowMovedRow : OpenClaim := { program := "ytnpfbhejekpmaaa", sum := "12f32cd08670dc32232e7d45dc14bcd9647a6fc9a19be8a7082ebe47a2057181", func := "loop.example/g00797/laws.FnExactRowMoved", spec := "fnExactRowMoved", unfollowed := true, recurses := true, apart := false }
def FnExactRowMovedSaid : Prop := fnExactRowMovedRow.holds Try.pinned (OpenSpec.ofChange fnExactRowMovedSpec)

/-- ITS FALSE NEIGHBOUR: 'it returns false'. Refute it at one input. -/
def fnExactRowMovedWrong : ChangeSpec := { name := "fnExactRowMoved", fn := fun _ => fun
  | [d1, d2, d3] => { results := [.lit (.bool false)], args := [d1, d2, d3] }
  | _ => none }
def FnExactRowMovedWrongFalsely : Prop := fnExactRowMovedRow.holds Try.pinned (OpenSpec.ofChange fnExactRowMovedWrong)

/-- 'laws.FnExactMarksMove': WHATEVER THE INPUT: true; the input reads as it did. -/
def fnExactMarksMoveSpec : ChangeSpec := { name := "fnExactMarksMove", fn := fun _ => fun
  | [d1, d2] => { results := [.lit (.bool true)], args := [d1, d2] }
  | _ => none }
def fnExactMarksMoveRow : OpenClaim := { program := "ytnpfbhejekpmaaa", sum := "12f32cd08670dc32232e7d45dc14bcd9647a6fc9a19be8a7082ebe47a2057181", func := "loop.example/g00797/laws.FnExactMarksMove", spec := "fnExactMarksMove", unfollowed := true, recurses := true, apart := false }
def FnExactMarksMoveSaid : Prop := fnExactMarksMoveRow.holds Try.pinned (OpenSpec.ofChange fnExactMarksMoveSpec)

/-- ITS FALSE NEIGHBOUR: 'it returns false'. Refute it at one input. -/
def fnExactMarksMoveWrong : ChangeSpec := { name := "fnExactMarksMove", fn := fun _ => fun
  | [d1, d2] => { results := [.lit (.bool false)], args := [d1, d2] }
  | _ => none }
def FnExactMarksMoveWrongFalsely : Prop := fnExactMarksMoveRow.holds Try.pinned (OpenSpec.ofChange fnExactMarksMoveWrong)

/-- 'laws.FnExactPastDo': WHATEVER THE INPUT: true; the input reads as it did. -/
def fnExactPastDoSpec : ChangeSpec := { name := "fnExactPastDo", fn := fun _ => fun
  | [d1, d2, d3] => { results := [.lit (.bool true)], args := [d1, d2, d3] }
  | _ => none }
def fnExactPastDoRow : OpenClaim := { program := "ytnpfbhejekpmaaa", sum := "12f32cd08670dc32232e7d45dc14bcd9647a6fc9a19be8a7082ebe47a2057181", func := "loop.example/g00797/laws.FnExactPastDo", spec := "fnExactPastDo", unfollowed := true, recurses := true, apart := false }
def FnExactPastDoSaid : Prop := fnExactPastDoRow.holds Try.pinned (OpenSpec.ofChange fnExactPastDoSpec)

/-- ITS FALSE NEIGHBOUR: 'it returns false'. Refute it at one input. -/
def fnExactPastDoWrong : ChangeSpec := { name := "fnExactPastDo", fn := fun _ => fun
  | [d1, d2, d3] => { results := [.lit (.bool false)], args := [d1, d2, d3] }
  | _ => none }
def FnExactPastDoWrongFalsely : Prop := fnExactPastDoRow.holds Try.pinned (OpenSpec.ofChange fnExactPastDoWrong)

/-- 'laws.FnExactPastUndo': WHATEVER THE INPUT: true; the input reads as it did. -/
def fnExactPastUndoSpec : ChangeSpec := { name := "fnExactPastUndo", fn := fun _ => fun
  | [d1, d2] => { results := [.lit (.bool true)], args := [d1, d2] }
  | _ => none }
def fnExactPastUndoRow : OpenClaim := { program := "ytnpfbhejekpmaaa", sum := "12f32cd08670dc32232e7d45dc14bcd9647a6fc9a19be8a7082ebe47a2057181", func := "loop.example/g00797/laws.FnExactPastUndo", spec := "fnExactPastUndo", unfollowed := true, recurses := true, apart := false }
def FnExactPastUndoSaid : Prop := fnExactPastUndoRow.holds Try.pinned (OpenSpec.ofChange fnExactPastUndoSpec)

/-- ITS FALSE NEIGHBOUR: 'it returns false'. Refute it at one input. -/
def fnExactPastUndoWrong : ChangeSpec := { name := "fnExactPastUndo", fn := fun _ => fun
  | [d1, d2] => { results := [.lit (.bool false)], args := [d1, d2] }
  | _ => none }
def FnExactPastUndoWrongFalsely : Prop := fnExactPastUndoRow.holds Try.pinned (OpenSpec.ofChange fnExactPastUndoWrong)

/-- 'laws.FnExactPastRedo': WHATEVER THE INPUT: true; the input reads as it did. -/
def fnExactPastRedoSpec : ChangeSpec := { name := "fnExactPastRedo", fn := fun _ => fun
  | [d1, d2] => { results := [.lit (.bool true)], args := [d1, d2] }
  | _ => none }
def fnExactPastRedoRow : OpenClaim := { program := "ytnpfbhejekpmaaa", sum := "12f32cd08670dc32232e7d45dc14bcd9647a6fc9a19be8a7082ebe47a2057181", func := "loop.example/g00797/laws.FnExactPastRedo", spec := "fnExactPastRedo", unfollowed := true, recurses := true, apart := false }
def FnExactPastRedoSaid : Prop := fnExactPastRedoRow.holds Try.pinned (OpenSpec.ofChange fnExactPastRedoSpec)

/-- ITS FALSE NEIGHBOUR: 'it returns false'. Refute it at one input. -/
def fnExactPastRedoWrong : ChangeSpec := { name := "fnExactPastRedo", fn := fun _ => fun
  | [d1, d2] => { results := [.lit (.bool false)], args := [d1, d2] }
  | _ => none }
def FnExactPastRedoWrongFalsely : Prop := fnExactPastRedoRow.holds Try.pinned (OpenSpec.ofChange fnExactPastRedoWrong)

/-- 'laws.FnExactPastOther': WHATEVER THE INPUT: true; the input reads as it did. -/
def fnExactPastOtherSpec : ChangeSpec := { name := "fnExactPastOther", fn := fun _ => fun
  | [d1, d2] => { results := [.lit (.bool true)], args := [d1, d2] }
  | _ => none }
def fnExactPastOtherRow : OpenClaim := { program := "ytnpfbhejekpmaaa", sum := "12f32cd08670dc32232e7d45dc14bcd9647a6fc9a19be8a7082ebe47a2057181", func := "loop.example/g00797/laws.FnExactPastOther", spec := "fnExactPastOther", unfollowed := true, recurses := true, apart := false }
def FnExactPastOtherSaid : Prop := fnExactPastOtherRow.holds Try.pinned (OpenSpec.ofChange fnExactPastOtherSpec)

/-- ITS FALSE NEIGHBOUR: 'it returns false'. Refute it at one input. -/
def fnExactPastOtherWrong : ChangeSpec := { name := "fnExactPastOther", fn := fun _ => fun
  | [d1, d2] => { results := [.lit (.bool false)], args := [d1, d2] }
  | _ => none }
def FnExactPastOtherWrongFalsely : Prop := fnExactPastOtherRow.holds Try.pinned (OpenSpec.ofChange fnExactPastOtherWrong)

/- THE SECOND FORM. 'bulk': how many values and letters a reading holds, each counted each time it is reached (what is shared counts as often as it is met; a slice's spare places count too). A statement '..UptoSaid' is the law's where the arguments, and the package variables that the reading takes, are together of bulk at most 1048576: NARROWER than '..Said'. Prove '..Said' where nothing that the law and all that it calls make is longer than what came in: it says more and counts as full. Else prove '..UptoSaid'. A law counts once. -/
mutual
def uptoBulk {H : Type} : DataW H → Nat
  | .lit (.string bytes) => bytes.length + 1
  | .lit _ => 1
  | .nil => 1
  | .ptr d => uptoBulk d + 1
  | .slice elems spare => uptoBulkAll elems + uptoBulkAll spare + 1
  | .agg parts => uptoBulkAll parts + 1
  | .iface _ d => uptoBulk d + 1
  | .map entries => uptoBulkEntries entries + 1
  | .held _ => 1
def uptoBulkAll {H : Type} : List (DataW H) → Nat
  | [] => 0
  | d :: r => uptoBulk d + uptoBulkAll r
def uptoBulkEntries {H : Type} : List (Lit × DataW H) → Nat
  | [] => 0
  | x :: r => uptoBulkEntry x + uptoBulkEntries r
def uptoBulkEntry {H : Type} : Lit × DataW H → Nat
  | (.string bytes, d) => bytes.length + uptoBulk d + 1
  | (_, d) => uptoBulk d + 1
 end
def uptoSmall : (H : Type) → List (DataW H) → Bool := fun _ ds => decide (uptoBulkAll ds ≤ 1048576)
def OpenSpec.upto (s : _root_.Go.ChangeSpec) : _root_.Go.OpenSpec := { _root_.Go.OpenSpec.ofChange s with cond := some uptoSmall }

/-- 'laws.FnExactTouches', WHERE WHAT IT READS IS OF BULK AT MOST 1048576: true; the input reads as it did. -/
def fnExactTouchesUptoRow : OpenClaim := { program := "ytnpfbhejekpmaaa", sum := "12f32cd08670dc32232e7d45dc14bcd9647a6fc9a19be8a7082ebe47a2057181", func := "loop.example/g00797/laws.FnExactTouches", spec := "fnExactTouches", unfollowed := true, recurses := true, apart := false, narrowed := true }
def FnExactTouchesUptoSaid : Prop := fnExactTouchesUptoRow.holds Try.pinned (OpenSpec.upto fnExactTouchesSpec)

/-- 'laws.FnExactClashes', WHERE WHAT IT READS IS OF BULK AT MOST 1048576: true; the input reads as it did. -/
def fnExactClashesUptoRow : OpenClaim := { program := "ytnpfbhejekpmaaa", sum := "12f32cd08670dc32232e7d45dc14bcd9647a6fc9a19be8a7082ebe47a2057181", func := "loop.example/g00797/laws.FnExactClashes", spec := "fnExactClashes", unfollowed := true, recurses := true, apart := false, narrowed := true }
def FnExactClashesUptoSaid : Prop := fnExactClashesUptoRow.holds Try.pinned (OpenSpec.upto fnExactClashesSpec)

/-- 'laws.FnExactApart', WHERE WHAT IT READS IS OF BULK AT MOST 1048576: true; the input reads as it did. -/
def fnExactApartUptoRow : OpenClaim := { program := "ytnpfbhejekpmaaa", sum := "12f32cd08670dc32232e7d45dc14bcd9647a6fc9a19be8a7082ebe47a2057181", func := "loop.example/g00797/laws.FnExactApart", spec := "fnExactApart", unfollowed := true, recurses := true, apart := false, narrowed := true }
def FnExactApartUptoSaid : Prop := fnExactApartUptoRow.holds Try.pinned (OpenSpec.upto fnExactApartSpec)

/-- 'laws.FnExactRowsPut', WHERE WHAT IT READS IS OF BULK AT MOST 1048576: true; the input reads as it did. -/
def fnExactRowsPutUptoRow : OpenClaim := { program := "ytnpfbhejekpmaaa", sum := "12f32cd08670dc32232e7d45dc14bcd9647a6fc9a19be8a7082ebe47a2057181", func := "loop.example/g00797/laws.FnExactRowsPut", spec := "fnExactRowsPut", unfollowed := true, recurses := true, apart := false, narrowed := true }
def FnExactRowsPutUptoSaid : Prop := fnExactRowsPutUptoRow.holds Try.pinned (OpenSpec.upto fnExactRowsPutSpec)

/-- 'laws.FnExactRowsDrop', WHERE WHAT IT READS IS OF BULK AT MOST 1048576: true; the input reads as it did. -/
def fnExactRowsDropUptoRow : OpenClaim := { program := "ytnpfbhejekpmaaa", sum := "12f32cd08670dc32232e7d45dc14bcd9647a6fc9a19be8a7082ebe47a2057181", func := "loop.example/g00797/laws.FnExactRowsDrop", spec := "fnExactRowsDrop", unfollowed := true, recurses := true, apart := false, narrowed := true }
def FnExactRowsDropUptoSaid : Prop := fnExactRowsDropUptoRow.holds Try.pinned (OpenSpec.upto fnExactRowsDropSpec)

/-- 'laws.FnExactPastOk', WHERE WHAT IT READS IS OF BULK AT MOST 1048576: true; the input reads as it did. -/
def fnExactPastOkUptoRow : OpenClaim := { program := "ytnpfbhejekpmaaa", sum := "12f32cd08670dc32232e7d45dc14bcd9647a6fc9a19be8a7082ebe47a2057181", func := "loop.example/g00797/laws.FnExactPastOk", spec := "fnExactPastOk", unfollowed := true, recurses := true, apart := false, narrowed := true }
def FnExactPastOkUptoSaid : Prop := fnExactPastOkUptoRow.holds Try.pinned (OpenSpec.upto fnExactPastOkSpec)

/-- 'laws.FnExactRowMoved', WHERE WHAT IT READS IS OF BULK AT MOST 1048576: true; the input reads as it did. -/
def fnExactRowMovedUptoRow : OpenClaim := { program := "ytnpfbhejekpmaaa", sum := "12f32cd08670dc32232e7d45dc14bcd9647a6fc9a19be8a7082ebe47a2057181", func := "loop.example/g00797/laws.FnExactRowMoved", spec := "fnExactRowMoved", unfollowed := true, recurses := true, apart := false, narrowed := true }
def FnExactRowMovedUptoSaid : Prop := fnExactRowMovedUptoRow.holds Try.pinned (OpenSpec.upto fnExactRowMovedSpec)

/-- 'laws.FnExactMarksMove', WHERE WHAT IT READS IS OF BULK AT MOST 1048576: true; the input reads as it did. -/
def fnExactMarksMoveUptoRow : OpenClaim := { program := "ytnpfbhejekpmaaa", sum := "12f32cd08670dc32232e7d45dc14bcd9647a6fc9a19be8a7082ebe47a2057181", func := "loop.example/g00797/laws.FnExactMarksMove", spec := "fnExactMarksMove", unfollowed := true, recurses := true, apart := false, narrowed := true }
def FnExactMarksMoveUptoSaid : Prop := fnExactMarksMoveUptoRow.holds Try.pinned (OpenSpec.upto fnExactMarksMoveSpec)

/-- 'laws.FnExactPastDo', WHERE WHAT IT READS IS OF BULK AT MOST 1048576: true; the input reads as it did. -/
def fnExactPastDoUptoRow : OpenClaim := { program := "ytnpfbhejekpmaaa", sum := "12f32cd08670dc32232e7d45dc14bcd9647a6fc9a19be8a7082ebe47a2057181", func := "loop.example/g00797/laws.FnExactPastDo", spec := "fnExactPastDo", unfollowed := true, recurses := true, apart := false, narrowed := true }
def FnExactPastDoUptoSaid : Prop := fnExactPastDoUptoRow.holds Try.pinned (OpenSpec.upto fnExactPastDoSpec)

/-- 'laws.FnExactPastUndo', WHERE WHAT IT READS IS OF BULK AT MOST 1048576: true; the input reads as it did. -/
def fnExactPastUndoUptoRow : OpenClaim := { program := "ytnpfbhejekpmaaa", sum := "12f32cd08670dc32232e7d45dc14bcd9647a6fc9a19be8a7082ebe47a2057181", func := "loop.example/g00797/laws.FnExactPastUndo", spec := "fnExactPastUndo", unfollowed := true, recurses := true, apart := false, narrowed := true }
def FnExactPastUndoUptoSaid : Prop := fnExactPastUndoUptoRow.holds Try.pinned (OpenSpec.upto fnExactPastUndoSpec)

/-- 'laws.FnExactPastRedo', WHERE WHAT IT READS IS OF BULK AT MOST 1048576: true; the input reads as it did. -/
def fnExactPastRedoUptoRow : OpenClaim := { program := "ytnpfbhejekpmaaa", sum := "12f32cd08670dc32232e7d45dc14bcd9647a6fc9a19be8a7082ebe47a2057181", func := "loop.example/g00797/laws.FnExactPastRedo", spec := "fnExactPastRedo", unfollowed := true, recurses := true, apart := false, narrowed := true }
def FnExactPastRedoUptoSaid : Prop := fnExactPastRedoUptoRow.holds Try.pinned (OpenSpec.upto fnExactPastRedoSpec)

/-- 'laws.FnExactPastOther', WHERE WHAT IT READS IS OF BULK AT MOST 1048576: true; the input reads as it did. -/
def fnExactPastOtherUptoRow : OpenClaim := { program := "ytnpfbhejekpmaaa", sum := "12f32cd08670dc32232e7d45dc14bcd9647a6fc9a19be8a7082ebe47a2057181", func := "loop.example/g00797/laws.FnExactPastOther", spec := "fnExactPastOther", unfollowed := true, recurses := true, apart := false, narrowed := true }
def FnExactPastOtherUptoSaid : Prop := fnExactPastOtherUptoRow.holds Try.pinned (OpenSpec.upto fnExactPastOtherSpec)

end Rows
end Go.Proofs.Ytnpfbhejekpmaaa
