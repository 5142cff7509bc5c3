/-
  No cell of these rows narrows 'for every input' (looked for: loops, veiled, ifaces, maps, wideKeys, modest, calm, conditions, laid).
  DERIVED. THE GIVEN ROWS OF THIS SEAT. 10 by the template 'for every input the law returns true; each argument reads behind the call as it read before'; 0 by the template 'total and deterministic' (their statements: YtenkkffokomonaaTotals.lean).
  GIVEN WITH THE SEED: the statements are not yours to turn. If you find one false, say at which input.
  Laid BY PROGRAM, IN A SANDBOX (cutbox-rows.mjs): the forced cells as the released guide's own fill.sh prints them over the translation 12192f3fb237c5ba… (all of the seat's roots in one cut). By AI agents, Wed Nov 11 2026. No macro, syntax, notation, axiom, sorry.
-/
import Derived.Test.YtenkkffokomonaaChecked
import GoSem.Claim
import GoSem.ClaimJoined
import GoSem.ClaimMapViews
import Derived.JoinedTies
import Derived.KernelRfl
namespace Go.Proofs.Ytenkkffokomonaa
/- THE CELL 'sum', in the pinned program and in every row, IS THE sha256 OF THE DUMP (.gsa) THAT YtenkkffokomonaaProg.lean LOADS. Nothing in Lean hashes anything: it is a label: what it is worth is what the hold of that sum in a sandbox is worth. -/
noncomputable def Try.pinned : Pinned := { name := "ytenkkffokomonaa", sum := "12192f3fb237c5ba13a4e938f6042f88baa71e9fb5aa91f229ddc60cbc8e40da", checked := Try.checked }
namespace Rows
def none {H : Type} : Left H := { results := [], args := [] }

/-- 'laws.FnExactMarksOk': WHATEVER THE INPUT: true; the input reads as it did. -/
def fnExactMarksOkSpec : ChangeSpec := { name := "fnExactMarksOk", fn := fun _ => fun
  | [d1, d2] => { results := [.lit (.bool true)], args := [d1, d2] }
  | _ => none }
def fnExactMarksOkRow : OpenClaim := { program := "ytenkkffokomonaa", sum := "12192f3fb237c5ba13a4e938f6042f88baa71e9fb5aa91f229ddc60cbc8e40da", func := "loop.example/g00797/laws.FnExactMarksOk", spec := "fnExactMarksOk", apart := false }
def FnExactMarksOkSaid : Prop := fnExactMarksOkRow.holds Try.pinned (OpenSpec.ofChange fnExactMarksOkSpec)

/-- ITS FALSE NEIGHBOUR: 'it returns false'. Refute it at one input. -/
def fnExactMarksOkWrong : ChangeSpec := { name := "fnExactMarksOk", fn := fun _ => fun
  | [d1, d2] => { results := [.lit (.bool false)], args := [d1, d2] }
  | _ => none }
def FnExactMarksOkWrongFalsely : Prop := fnExactMarksOkRow.holds Try.pinned (OpenSpec.ofChange fnExactMarksOkWrong)

/-- 'laws.FnExactRowCount': WHATEVER THE INPUT: true; the input reads as it did. -/
def fnExactRowCountSpec : ChangeSpec := { name := "fnExactRowCount", fn := fun _ => fun
  | [d] => { results := [.lit (.bool true)], args := [d] }
  | _ => none }
def fnExactRowCountRow : OpenClaim := { program := "ytenkkffokomonaa", sum := "12192f3fb237c5ba13a4e938f6042f88baa71e9fb5aa91f229ddc60cbc8e40da", func := "loop.example/g00797/laws.FnExactRowCount", spec := "fnExactRowCount", apart := false }
def FnExactRowCountSaid : Prop := fnExactRowCountRow.holds Try.pinned (OpenSpec.ofChange fnExactRowCountSpec)

/-- ITS FALSE NEIGHBOUR: 'it returns false'. Refute it at one input. -/
def fnExactRowCountWrong : ChangeSpec := { name := "fnExactRowCount", fn := fun _ => fun
  | [d] => { results := [.lit (.bool false)], args := [d] }
  | _ => none }
def FnExactRowCountWrongFalsely : Prop := fnExactRowCountRow.holds Try.pinned (OpenSpec.ofChange fnExactRowCountWrong)

/-- 'laws.FnExactRows': WHATEVER THE INPUT: true; the input reads as it did. -/
def fnExactRowsSpec : ChangeSpec := { name := "fnExactRows", fn := fun _ => fun
  | [d] => { results := [.lit (.bool true)], args := [d] }
  | _ => none }
def fnExactRowsRow : OpenClaim := { program := "ytenkkffokomonaa", sum := "12192f3fb237c5ba13a4e938f6042f88baa71e9fb5aa91f229ddc60cbc8e40da", func := "loop.example/g00797/laws.FnExactRows", spec := "fnExactRows", apart := false }
def FnExactRowsSaid : Prop := fnExactRowsRow.holds Try.pinned (OpenSpec.ofChange fnExactRowsSpec)

/-- ITS FALSE NEIGHBOUR: 'it returns false'. Refute it at one input. -/
def fnExactRowsWrong : ChangeSpec := { name := "fnExactRows", fn := fun _ => fun
  | [d] => { results := [.lit (.bool false)], args := [d] }
  | _ => none }
def FnExactRowsWrongFalsely : Prop := fnExactRowsRow.holds Try.pinned (OpenSpec.ofChange fnExactRowsWrong)

/-- 'laws.FnExactRowOf': WHATEVER THE INPUT: true; the input reads as it did. -/
def fnExactRowOfSpec : ChangeSpec := { name := "fnExactRowOf", fn := fun _ => fun
  | [d1, d2] => { results := [.lit (.bool true)], args := [d1, d2] }
  | _ => none }
def fnExactRowOfRow : OpenClaim := { program := "ytenkkffokomonaa", sum := "12192f3fb237c5ba13a4e938f6042f88baa71e9fb5aa91f229ddc60cbc8e40da", func := "loop.example/g00797/laws.FnExactRowOf", spec := "fnExactRowOf", apart := false }
def FnExactRowOfSaid : Prop := fnExactRowOfRow.holds Try.pinned (OpenSpec.ofChange fnExactRowOfSpec)

/-- ITS FALSE NEIGHBOUR: 'it returns false'. Refute it at one input. -/
def fnExactRowOfWrong : ChangeSpec := { name := "fnExactRowOf", fn := fun _ => fun
  | [d1, d2] => { results := [.lit (.bool false)], args := [d1, d2] }
  | _ => none }
def FnExactRowOfWrongFalsely : Prop := fnExactRowOfRow.holds Try.pinned (OpenSpec.ofChange fnExactRowOfWrong)

/-- 'laws.FnExactMarkDrop': WHATEVER THE INPUT: true; the input reads as it did. -/
def fnExactMarkDropSpec : ChangeSpec := { name := "fnExactMarkDrop", fn := fun _ => fun
  | [d1, d2] => { results := [.lit (.bool true)], args := [d1, d2] }
  | _ => none }
def fnExactMarkDropRow : OpenClaim := { program := "ytenkkffokomonaa", sum := "12192f3fb237c5ba13a4e938f6042f88baa71e9fb5aa91f229ddc60cbc8e40da", func := "loop.example/g00797/laws.FnExactMarkDrop", spec := "fnExactMarkDrop", apart := false }
def FnExactMarkDropSaid : Prop := fnExactMarkDropRow.holds Try.pinned (OpenSpec.ofChange fnExactMarkDropSpec)

/-- ITS FALSE NEIGHBOUR: 'it returns false'. Refute it at one input. -/
def fnExactMarkDropWrong : ChangeSpec := { name := "fnExactMarkDrop", fn := fun _ => fun
  | [d1, d2] => { results := [.lit (.bool false)], args := [d1, d2] }
  | _ => none }
def FnExactMarkDropWrongFalsely : Prop := fnExactMarkDropRow.holds Try.pinned (OpenSpec.ofChange fnExactMarkDropWrong)

/-- 'laws.FnExactPlaceOf': WHATEVER THE INPUT: true; the input reads as it did. -/
def fnExactPlaceOfSpec : ChangeSpec := { name := "fnExactPlaceOf", fn := fun _ => fun
  | [d1, d2, d3] => { results := [.lit (.bool true)], args := [d1, d2, d3] }
  | _ => none }
def fnExactPlaceOfRow : OpenClaim := { program := "ytenkkffokomonaa", sum := "12192f3fb237c5ba13a4e938f6042f88baa71e9fb5aa91f229ddc60cbc8e40da", func := "loop.example/g00797/laws.FnExactPlaceOf", spec := "fnExactPlaceOf", apart := false }
def FnExactPlaceOfSaid : Prop := fnExactPlaceOfRow.holds Try.pinned (OpenSpec.ofChange fnExactPlaceOfSpec)

/-- ITS FALSE NEIGHBOUR: 'it returns false'. Refute it at one input. -/
def fnExactPlaceOfWrong : ChangeSpec := { name := "fnExactPlaceOf", fn := fun _ => fun
  | [d1, d2, d3] => { results := [.lit (.bool false)], args := [d1, d2, d3] }
  | _ => none }
def FnExactPlaceOfWrongFalsely : Prop := fnExactPlaceOfRow.holds Try.pinned (OpenSpec.ofChange fnExactPlaceOfWrong)

/-- 'laws.FnExactMarksAt': WHATEVER THE INPUT: true; the input reads as it did. -/
def fnExactMarksAtSpec : ChangeSpec := { name := "fnExactMarksAt", fn := fun _ => fun
  | [d1, d2] => { results := [.lit (.bool true)], args := [d1, d2] }
  | _ => none }
def fnExactMarksAtRow : OpenClaim := { program := "ytenkkffokomonaa", sum := "12192f3fb237c5ba13a4e938f6042f88baa71e9fb5aa91f229ddc60cbc8e40da", func := "loop.example/g00797/laws.FnExactMarksAt", spec := "fnExactMarksAt", apart := false }
def FnExactMarksAtSaid : Prop := fnExactMarksAtRow.holds Try.pinned (OpenSpec.ofChange fnExactMarksAtSpec)

/-- ITS FALSE NEIGHBOUR: 'it returns false'. Refute it at one input. -/
def fnExactMarksAtWrong : ChangeSpec := { name := "fnExactMarksAt", fn := fun _ => fun
  | [d1, d2] => { results := [.lit (.bool false)], args := [d1, d2] }
  | _ => none }
def FnExactMarksAtWrongFalsely : Prop := fnExactMarksAtRow.holds Try.pinned (OpenSpec.ofChange fnExactMarksAtWrong)

/-- 'laws.FnExactMarkedAll': WHATEVER THE INPUT: true; the input reads as it did. -/
def fnExactMarkedAllSpec : ChangeSpec := { name := "fnExactMarkedAll", fn := fun _ => fun
  | [d1, d2] => { results := [.lit (.bool true)], args := [d1, d2] }
  | _ => none }
def fnExactMarkedAllRow : OpenClaim := { program := "ytenkkffokomonaa", sum := "12192f3fb237c5ba13a4e938f6042f88baa71e9fb5aa91f229ddc60cbc8e40da", func := "loop.example/g00797/laws.FnExactMarkedAll", spec := "fnExactMarkedAll", apart := false }
def FnExactMarkedAllSaid : Prop := fnExactMarkedAllRow.holds Try.pinned (OpenSpec.ofChange fnExactMarkedAllSpec)

/-- ITS FALSE NEIGHBOUR: 'it returns false'. Refute it at one input. -/
def fnExactMarkedAllWrong : ChangeSpec := { name := "fnExactMarkedAll", fn := fun _ => fun
  | [d1, d2] => { results := [.lit (.bool false)], args := [d1, d2] }
  | _ => none }
def FnExactMarkedAllWrongFalsely : Prop := fnExactMarkedAllRow.holds Try.pinned (OpenSpec.ofChange fnExactMarkedAllWrong)

/-- 'laws.FnRows': WHATEVER THE INPUT: true; the input reads as it did. -/
def fnRowsSpec : ChangeSpec := { name := "fnRows", fn := fun _ => fun
  | [d] => { results := [.lit (.bool true)], args := [d] }
  | _ => none }
def fnRowsRow : OpenClaim := { program := "ytenkkffokomonaa", sum := "12192f3fb237c5ba13a4e938f6042f88baa71e9fb5aa91f229ddc60cbc8e40da", func := "loop.example/g00797/laws.FnRows", spec := "fnRows", apart := false }
def FnRowsSaid : Prop := fnRowsRow.holds Try.pinned (OpenSpec.ofChange fnRowsSpec)

/-- ITS FALSE NEIGHBOUR: 'it returns false'. Refute it at one input. -/
def fnRowsWrong : ChangeSpec := { name := "fnRows", fn := fun _ => fun
  | [d] => { results := [.lit (.bool false)], args := [d] }
  | _ => none }
def FnRowsWrongFalsely : Prop := fnRowsRow.holds Try.pinned (OpenSpec.ofChange fnRowsWrong)

/-- 'laws.FnExactRowSigns': WHATEVER THE INPUT: true; the input reads as it did. -/
def fnExactRowSignsSpec : ChangeSpec := { name := "fnExactRowSigns", fn := fun _ => fun
  | [d1, d2] => { results := [.lit (.bool true)], args := [d1, d2] }
  | _ => none }
def fnExactRowSignsRow : OpenClaim := { program := "ytenkkffokomonaa", sum := "12192f3fb237c5ba13a4e938f6042f88baa71e9fb5aa91f229ddc60cbc8e40da", func := "loop.example/g00797/laws.FnExactRowSigns", spec := "fnExactRowSigns", apart := false }
def FnExactRowSignsSaid : Prop := fnExactRowSignsRow.holds Try.pinned (OpenSpec.ofChange fnExactRowSignsSpec)

/-- ITS FALSE NEIGHBOUR: 'it returns false'. Refute it at one input. -/
def fnExactRowSignsWrong : ChangeSpec := { name := "fnExactRowSigns", fn := fun _ => fun
  | [d1, d2] => { results := [.lit (.bool false)], args := [d1, d2] }
  | _ => none }
def FnExactRowSignsWrongFalsely : Prop := fnExactRowSignsRow.holds Try.pinned (OpenSpec.ofChange fnExactRowSignsWrong)

/- THE SECOND FORM. 'bulk': how many values and letters a reading holds, each counted each time it is reached (what is shared counts as often as it is met; a slice's spare places count too). A statement '..UptoSaid' is the law's where the arguments, and the package variables that the reading takes, are together of bulk at most 1048576: NARROWER than '..Said'. Prove '..Said' where nothing that the law and all that it calls make is longer than what came in: it says more and counts as full. Else prove '..UptoSaid'. A law counts once. -/
mutual
def uptoBulk {H : Type} : DataW H → Nat
  | .lit (.string bytes) => bytes.length + 1
  | .lit _ => 1
  | .nil => 1
  | .ptr d => uptoBulk d + 1
  | .slice elems spare => uptoBulkAll elems + uptoBulkAll spare + 1
  | .agg parts => uptoBulkAll parts + 1
  | .iface _ d => uptoBulk d + 1
  | .map entries => uptoBulkEntries entries + 1
  | .held _ => 1
def uptoBulkAll {H : Type} : List (DataW H) → Nat
  | [] => 0
  | d :: r => uptoBulk d + uptoBulkAll r
def uptoBulkEntries {H : Type} : List (Lit × DataW H) → Nat
  | [] => 0
  | x :: r => uptoBulkEntry x + uptoBulkEntries r
def uptoBulkEntry {H : Type} : Lit × DataW H → Nat
  | (.string bytes, d) => bytes.length + uptoBulk d + 1
  | (_, d) => uptoBulk d + 1
 end
def uptoSmall : (H : Type) → List (DataW H) → Bool := fun _ ds => decide (uptoBulkAll ds ≤ 1048576)
def OpenSpec.upto (s : _root_.Go.ChangeSpec) : _root_.Go.OpenSpec := { _root_.Go.OpenSpec.ofChange s with cond := some uptoSmall }

/-- 'laws.FnExactMarksOk', WHERE WHAT IT READS IS OF BULK AT MOST 1048576: true; the input reads as it did. -/
def fnExactMarksOkUptoRow : OpenClaim := { program := "ytenkkffokomonaa", sum := "12192f3fb237c5ba13a4e938f6042f88baa71e9fb5aa91f229ddc60cbc8e40da", func := "loop.example/g00797/laws.FnExactMarksOk", spec := "fnExactMarksOk", apart := false, narrowed := true }
def FnExactMarksOkUptoSaid : Prop := fnExactMarksOkUptoRow.holds Try.pinned (OpenSpec.upto fnExactMarksOkSpec)

/-- 'laws.FnExactRowCount', WHERE WHAT IT READS IS OF BULK AT MOST 1048576: true; the input reads as it did. -/
def fnExactRowCountUptoRow : OpenClaim := { program := "ytenkkffokomonaa", sum := "12192f3fb237c5ba13a4e938f6042f88baa71e9fb5aa91f229ddc60cbc8e40da", func := "loop.example/g00797/laws.FnExactRowCount", spec := "fnExactRowCount", apart := false, narrowed := true }
def FnExactRowCountUptoSaid : Prop := fnExactRowCountUptoRow.holds Try.pinned (OpenSpec.upto fnExactRowCountSpec)

/-- 'laws.FnExactRows', WHERE WHAT IT READS IS OF BULK AT MOST 1048576: true; the input reads as it did. -/
def fnExactRowsUptoRow : OpenClaim := { program := "ytenkkffokomonaa", sum := "12192f3fb237c5ba13a4e938f6042f88baa71e9fb5aa91f229ddc60cbc8e40da", func := "loop.example/g00797/laws.FnExactRows", spec := "fnExactRows", apart := false, narrowed := true }
def FnExactRowsUptoSaid : Prop := fnExactRowsUptoRow.holds Try.pinned (OpenSpec.upto fnExactRowsSpec)

/-- 'laws.FnExactRowOf', WHERE WHAT IT READS IS OF BULK AT MOST 1048576: true; the input reads as it did. -/
def fnExactRowOfUptoRow : OpenClaim := { program := "ytenkkffokomonaa", sum := "12192f3fb237c5ba13a4e938f6042f88baa71e9fb5aa91f229ddc60cbc8e40da", func := "loop.example/g00797/laws.FnExactRowOf", spec := "fnExactRowOf", apart := false, narrowed := true }
def FnExactRowOfUptoSaid : Prop := fnExactRowOfUptoRow.holds Try.pinned (OpenSpec.upto fnExactRowOfSpec)

/-- 'laws.FnExactMarkDrop', WHERE WHAT IT READS IS OF BULK AT MOST 1048576: true; the input reads as it did. -/
def fnExactMarkDropUptoRow : OpenClaim := { program := "ytenkkffokomonaa", sum := "12192f3fb237c5ba13a4e938f6042f88baa71e9fb5aa91f229ddc60cbc8e40da", func := "loop.example/g00797/laws.FnExactMarkDrop", spec := "fnExactMarkDrop", apart := false, narrowed := true }
def FnExactMarkDropUptoSaid : Prop := fnExactMarkDropUptoRow.holds Try.pinned (OpenSpec.upto fnExactMarkDropSpec)

/-- 'laws.FnExactPlaceOf', WHERE WHAT IT READS IS OF BULK AT MOST 1048576: true; the input reads as it did. -/
def fnExactPlaceOfUptoRow : OpenClaim := { program := "ytenkkffokomonaa", sum := "12192f3fb237c5ba13a4e938f6042f88baa71e9fb5aa91f229ddc60cbc8e40da", func := "loop.example/g00797/laws.FnExactPlaceOf", spec := "fnExactPlaceOf", apart := false, narrowed := true }
def FnExactPlaceOfUptoSaid : Prop := fnExactPlaceOfUptoRow.holds Try.pinned (OpenSpec.upto fnExactPlaceOfSpec)

/-- 'laws.FnExactMarksAt', WHERE WHAT IT READS IS OF BULK AT MOST 1048576: true; the input reads as it did. -/
def fnExactMarksAtUptoRow : OpenClaim := { program := "ytenkkffokomonaa", sum := "12192f3fb237c5ba13a4e938f6042f88baa71e9fb5aa91f229ddc60cbc8e40da", func := "loop.example/g00797/laws.FnExactMarksAt", spec := "fnExactMarksAt", apart := false, narrowed := true }
def FnExactMarksAtUptoSaid : Prop := fnExactMarksAtUptoRow.holds Try.pinned (OpenSpec.upto fnExactMarksAtSpec)

/-- 'laws.FnExactMarkedAll', WHERE WHAT IT READS IS OF BULK AT MOST 1048576: true; the input reads as it did. -/
def fnExactMarkedAllUptoRow : OpenClaim := { program := "ytenkkffokomonaa", sum := "12192f3fb237c5ba13a4e938f6042f88baa71e9fb5aa91f229ddc60cbc8e40da", func := "loop.example/g00797/laws.FnExactMarkedAll", spec := "fnExactMarkedAll", apart := false, narrowed := true }
def FnExactMarkedAllUptoSaid : Prop := fnExactMarkedAllUptoRow.holds Try.pinned (OpenSpec.upto fnExactMarkedAllSpec)

/-- 'laws.FnRows', WHERE WHAT IT READS IS OF BULK AT MOST 1048576: true; the input reads as it did. -/
def fnRowsUptoRow : OpenClaim := { program := "ytenkkffokomonaa", sum := "12192f3fb237c5ba13a4e938f6042f88baa71e9fb5aa91f229ddc60cbc8e40da", func := "loop.example/g00797/laws.FnRows", spec := "fnRows", apart := false, narrowed := true }
def FnRowsUptoSaid : Prop := fnRowsUptoRow.holds Try.pinned (OpenSpec.upto fnRowsSpec)

/-- 'laws.FnExactRowSigns', WHERE WHAT IT READS IS OF BULK AT MOST 1048576: true; the input reads as it did. -/
def fnExactRowSignsUptoRow : OpenClaim := { program := "ytenkkffokomonaa", sum := "12192f3fb237c5ba13a4e938f6042f88baa71e9fb5aa91f229ddc60cbc8e40da", func := "loop.example/g00797/laws.FnExactRowSigns", spec := "fnExactRowSigns", apart := false, narrowed := true }
def FnExactRowSignsUptoSaid : Prop := fnExactRowSignsUptoRow.holds Try.pinned (OpenSpec.upto fnExactRowSignsSpec)

end Rows
end Go.Proofs.Ytenkkffokomonaa
