/-
  No cell of these rows narrows 'for every input' (looked for: loops, veiled, ifaces, maps, wideKeys, modest, calm, conditions, laid).
  DERIVED. THE GIVEN ROWS OF THIS SEAT. 11 by the template 'for every input the law returns true; each argument reads behind the call as it read before'; 0 by the template 'total and deterministic' (their statements: YthnnhoabdhhkaaaTotals.lean).
  GIVEN WITH THE SEED: the statements are not yours to turn. If you find one false, say at which input.
  Laid BY PROGRAM, IN A SANDBOX (cutbox-rows.mjs): the forced cells as the released guide's own fill.sh prints them over the translation 5e32fa8f5dd979a8… (all of the seat's roots in one cut). By AI agents, Wed Nov 11 2026. No macro, syntax, notation, axiom, sorry.
-/
import Derived.Test.YthnnhoabdhhkaaaChecked
import GoSem.Claim
import GoSem.ClaimJoined
import GoSem.ClaimMapViews
import Derived.JoinedTies
import Derived.KernelRfl
namespace Go.Proofs.Ythnnhoabdhhkaaa
/- THE CELL 'sum', in the pinned program and in every row, IS THE sha256 OF THE DUMP (.gsa) THAT YthnnhoabdhhkaaaProg.lean LOADS. Nothing in Lean hashes anything: it is a label: what it is worth is what the hold of that sum in a sandbox is worth. -/
noncomputable def Try.pinned : Pinned := { name := "ythnnhoabdhhkaaa", sum := "5e32fa8f5dd979a8f21e13ede7188cb737ce368f5711296bf2c8a9d60a711499", checked := Try.checked }
namespace Rows
def none {H : Type} : Left H := { results := [], args := [] }

/-- 'laws.FnExactCost': WHATEVER THE INPUT: true; the input reads as it did. -/
def fnExactCostSpec : ChangeSpec := { name := "fnExactCost", fn := fun _ => fun
  | [d1, d2] => { results := [.lit (.bool true)], args := [d1, d2] }
  | _ => none }
def fnExactCostRow : OpenClaim := { program := "ythnnhoabdhhkaaa", sum := "5e32fa8f5dd979a8f21e13ede7188cb737ce368f5711296bf2c8a9d60a711499", func := "loop.example/g00797/laws.FnExactCost", spec := "fnExactCost", unfollowed := true, recurses := true, apart := false }
def FnExactCostSaid : Prop := fnExactCostRow.holds Try.pinned (OpenSpec.ofChange fnExactCostSpec)

/-- ITS FALSE NEIGHBOUR: 'it returns false'. Refute it at one input. -/
def fnExactCostWrong : ChangeSpec := { name := "fnExactCost", fn := fun _ => fun
  | [d1, d2] => { results := [.lit (.bool false)], args := [d1, d2] }
  | _ => none }
def FnExactCostWrongFalsely : Prop := fnExactCostRow.holds Try.pinned (OpenSpec.ofChange fnExactCostWrong)

/-- 'laws.FnExactCommon': WHATEVER THE INPUT: true; the input reads as it did. -/
def fnExactCommonSpec : ChangeSpec := { name := "fnExactCommon", fn := fun _ => fun
  | [d1, d2] => { results := [.lit (.bool true)], args := [d1, d2] }
  | _ => none }
def fnExactCommonRow : OpenClaim := { program := "ythnnhoabdhhkaaa", sum := "5e32fa8f5dd979a8f21e13ede7188cb737ce368f5711296bf2c8a9d60a711499", func := "loop.example/g00797/laws.FnExactCommon", spec := "fnExactCommon", unfollowed := true, recurses := true, apart := false }
def FnExactCommonSaid : Prop := fnExactCommonRow.holds Try.pinned (OpenSpec.ofChange fnExactCommonSpec)

/-- ITS FALSE NEIGHBOUR: 'it returns false'. Refute it at one input. -/
def fnExactCommonWrong : ChangeSpec := { name := "fnExactCommon", fn := fun _ => fun
  | [d1, d2] => { results := [.lit (.bool false)], args := [d1, d2] }
  | _ => none }
def FnExactCommonWrongFalsely : Prop := fnExactCommonRow.holds Try.pinned (OpenSpec.ofChange fnExactCommonWrong)

/-- 'laws.FnExactNear': WHATEVER THE INPUT: true; the input reads as it did. -/
def fnExactNearSpec : ChangeSpec := { name := "fnExactNear", fn := fun _ => fun
  | [d1, d2] => { results := [.lit (.bool true)], args := [d1, d2] }
  | _ => none }
def fnExactNearRow : OpenClaim := { program := "ythnnhoabdhhkaaa", sum := "5e32fa8f5dd979a8f21e13ede7188cb737ce368f5711296bf2c8a9d60a711499", func := "loop.example/g00797/laws.FnExactNear", spec := "fnExactNear", unfollowed := true, recurses := true, apart := false }
def FnExactNearSaid : Prop := fnExactNearRow.holds Try.pinned (OpenSpec.ofChange fnExactNearSpec)

/-- ITS FALSE NEIGHBOUR: 'it returns false'. Refute it at one input. -/
def fnExactNearWrong : ChangeSpec := { name := "fnExactNear", fn := fun _ => fun
  | [d1, d2] => { results := [.lit (.bool false)], args := [d1, d2] }
  | _ => none }
def FnExactNearWrongFalsely : Prop := fnExactNearRow.holds Try.pinned (OpenSpec.ofChange fnExactNearWrong)

/-- 'laws.FnExactPastSame': WHATEVER THE INPUT: true; the input reads as it did. -/
def fnExactPastSameSpec : ChangeSpec := { name := "fnExactPastSame", fn := fun _ => fun
  | [d1, d2] => { results := [.lit (.bool true)], args := [d1, d2] }
  | _ => none }
def fnExactPastSameRow : OpenClaim := { program := "ythnnhoabdhhkaaa", sum := "5e32fa8f5dd979a8f21e13ede7188cb737ce368f5711296bf2c8a9d60a711499", func := "loop.example/g00797/laws.FnExactPastSame", spec := "fnExactPastSame", unfollowed := true, recurses := true, apart := false }
def FnExactPastSameSaid : Prop := fnExactPastSameRow.holds Try.pinned (OpenSpec.ofChange fnExactPastSameSpec)

/-- ITS FALSE NEIGHBOUR: 'it returns false'. Refute it at one input. -/
def fnExactPastSameWrong : ChangeSpec := { name := "fnExactPastSame", fn := fun _ => fun
  | [d1, d2] => { results := [.lit (.bool false)], args := [d1, d2] }
  | _ => none }
def FnExactPastSameWrongFalsely : Prop := fnExactPastSameRow.holds Try.pinned (OpenSpec.ofChange fnExactPastSameWrong)

/-- 'laws.FnExactSparse': WHATEVER THE INPUT: true; the input reads as it did. -/
def fnExactSparseSpec : ChangeSpec := { name := "fnExactSparse", fn := fun _ => fun
  | [d] => { results := [.lit (.bool true)], args := [d] }
  | _ => none }
def fnExactSparseRow : OpenClaim := { program := "ythnnhoabdhhkaaa", sum := "5e32fa8f5dd979a8f21e13ede7188cb737ce368f5711296bf2c8a9d60a711499", func := "loop.example/g00797/laws.FnExactSparse", spec := "fnExactSparse", apart := false }
def FnExactSparseSaid : Prop := fnExactSparseRow.holds Try.pinned (OpenSpec.ofChange fnExactSparseSpec)

/-- ITS FALSE NEIGHBOUR: 'it returns false'. Refute it at one input. -/
def fnExactSparseWrong : ChangeSpec := { name := "fnExactSparse", fn := fun _ => fun
  | [d] => { results := [.lit (.bool false)], args := [d] }
  | _ => none }
def FnExactSparseWrongFalsely : Prop := fnExactSparseRow.holds Try.pinned (OpenSpec.ofChange fnExactSparseWrong)

/-- 'laws.FnExactMarkAdd': WHATEVER THE INPUT: true; the input reads as it did. -/
def fnExactMarkAddSpec : ChangeSpec := { name := "fnExactMarkAdd", fn := fun _ => fun
  | [d1, d2, d3, d4, d5] => { results := [.lit (.bool true)], args := [d1, d2, d3, d4, d5] }
  | _ => none }
def fnExactMarkAddRow : OpenClaim := { program := "ythnnhoabdhhkaaa", sum := "5e32fa8f5dd979a8f21e13ede7188cb737ce368f5711296bf2c8a9d60a711499", func := "loop.example/g00797/laws.FnExactMarkAdd", spec := "fnExactMarkAdd", inPlace := ["slices.overlaps[loop.example/g00797/impl.Mark]"], apart := false }
def FnExactMarkAddSaid : Prop := fnExactMarkAddRow.holds Try.pinned (OpenSpec.ofChange fnExactMarkAddSpec)

/-- ITS FALSE NEIGHBOUR: 'it returns false'. Refute it at one input. -/
def fnExactMarkAddWrong : ChangeSpec := { name := "fnExactMarkAdd", fn := fun _ => fun
  | [d1, d2, d3, d4, d5] => { results := [.lit (.bool false)], args := [d1, d2, d3, d4, d5] }
  | _ => none }
def FnExactMarkAddWrongFalsely : Prop := fnExactMarkAddRow.holds Try.pinned (OpenSpec.ofChange fnExactMarkAddWrong)

/-- 'laws.FnExactByClient': WHATEVER THE INPUT: true; the input reads as it did. -/
def fnExactByClientSpec : ChangeSpec := { name := "fnExactByClient", fn := fun _ => fun
  | [d1, d2] => { results := [.lit (.bool true)], args := [d1, d2] }
  | _ => none }
def fnExactByClientRow : OpenClaim := { program := "ythnnhoabdhhkaaa", sum := "5e32fa8f5dd979a8f21e13ede7188cb737ce368f5711296bf2c8a9d60a711499", func := "loop.example/g00797/laws.FnExactByClient", spec := "fnExactByClient", apart := false }
def FnExactByClientSaid : Prop := fnExactByClientRow.holds Try.pinned (OpenSpec.ofChange fnExactByClientSpec)

/-- ITS FALSE NEIGHBOUR: 'it returns false'. Refute it at one input. -/
def fnExactByClientWrong : ChangeSpec := { name := "fnExactByClient", fn := fun _ => fun
  | [d1, d2] => { results := [.lit (.bool false)], args := [d1, d2] }
  | _ => none }
def FnExactByClientWrongFalsely : Prop := fnExactByClientRow.holds Try.pinned (OpenSpec.ofChange fnExactByClientWrong)

/-- 'laws.FnExactPastNew': WHATEVER THE INPUT: true; the input reads as it did. -/
def fnExactPastNewSpec : ChangeSpec := { name := "fnExactPastNew", fn := fun _ => fun
  | [d] => { results := [.lit (.bool true)], args := [d] }
  | _ => none }
def fnExactPastNewRow : OpenClaim := { program := "ythnnhoabdhhkaaa", sum := "5e32fa8f5dd979a8f21e13ede7188cb737ce368f5711296bf2c8a9d60a711499", func := "loop.example/g00797/laws.FnExactPastNew", spec := "fnExactPastNew", unfollowed := true, recurses := true, apart := false }
def FnExactPastNewSaid : Prop := fnExactPastNewRow.holds Try.pinned (OpenSpec.ofChange fnExactPastNewSpec)

/-- ITS FALSE NEIGHBOUR: 'it returns false'. Refute it at one input. -/
def fnExactPastNewWrong : ChangeSpec := { name := "fnExactPastNew", fn := fun _ => fun
  | [d] => { results := [.lit (.bool false)], args := [d] }
  | _ => none }
def FnExactPastNewWrongFalsely : Prop := fnExactPastNewRow.holds Try.pinned (OpenSpec.ofChange fnExactPastNewWrong)

/-- 'laws.FnDiff': WHATEVER THE INPUT: true; the input reads as it did. -/
def fnDiffSpec : ChangeSpec := { name := "fnDiff", fn := fun _ => fun
  | [d] => { results := [.lit (.bool true)], args := [d] }
  | _ => none }
def fnDiffRow : OpenClaim := { program := "ythnnhoabdhhkaaa", sum := "5e32fa8f5dd979a8f21e13ede7188cb737ce368f5711296bf2c8a9d60a711499", func := "loop.example/g00797/laws.FnDiff", spec := "fnDiff", unfollowed := true, recurses := true, apart := false }
def FnDiffSaid : Prop := fnDiffRow.holds Try.pinned (OpenSpec.ofChange fnDiffSpec)

/-- ITS FALSE NEIGHBOUR: 'it returns false'. Refute it at one input. -/
def fnDiffWrong : ChangeSpec := { name := "fnDiff", fn := fun _ => fun
  | [d] => { results := [.lit (.bool false)], args := [d] }
  | _ => none }
def FnDiffWrongFalsely : Prop := fnDiffRow.holds Try.pinned (OpenSpec.ofChange fnDiffWrong)

/-- 'laws.FnRowOps': WHATEVER THE INPUT: true; the input reads as it did. -/
def fnRowOpsSpec : ChangeSpec := { name := "fnRowOps", fn := fun _ => fun
  | [d] => { results := [.lit (.bool true)], args := [d] }
  | _ => none }
def fnRowOpsRow : OpenClaim := { program := "ythnnhoabdhhkaaa", sum := "5e32fa8f5dd979a8f21e13ede7188cb737ce368f5711296bf2c8a9d60a711499", func := "loop.example/g00797/laws.FnRowOps", spec := "fnRowOps", unfollowed := true, recurses := true, apart := false }
def FnRowOpsSaid : Prop := fnRowOpsRow.holds Try.pinned (OpenSpec.ofChange fnRowOpsSpec)

/-- ITS FALSE NEIGHBOUR: 'it returns false'. Refute it at one input. -/
def fnRowOpsWrong : ChangeSpec := { name := "fnRowOps", fn := fun _ => fun
  | [d] => { results := [.lit (.bool false)], args := [d] }
  | _ => none }
def FnRowOpsWrongFalsely : Prop := fnRowOpsRow.holds Try.pinned (OpenSpec.ofChange fnRowOpsWrong)

/-- 'laws.FnExactDiff': WHATEVER THE INPUT: true; the input reads as it did. -/
def fnExactDiffSpec : ChangeSpec := { name := "fnExactDiff", fn := fun _ => fun
  | [d1, d2] => { results := [.lit (.bool true)], args := [d1, d2] }
  | _ => none }
def fnExactDiffRow : OpenClaim := { program := "ythnnhoabdhhkaaa", sum := "5e32fa8f5dd979a8f21e13ede7188cb737ce368f5711296bf2c8a9d60a711499", func := "loop.example/g00797/laws.FnExactDiff", spec := "fnExactDiff", unfollowed := true, recurses := true, apart := false }
def FnExactDiffSaid : Prop := fnExactDiffRow.holds Try.pinned (OpenSpec.ofChange fnExactDiffSpec)

/-- ITS FALSE NEIGHBOUR: 'it returns false'. Refute it at one input. -/
def fnExactDiffWrong : ChangeSpec := { name := "fnExactDiff", fn := fun _ => fun
  | [d1, d2] => { results := [.lit (.bool false)], args := [d1, d2] }
  | _ => none }
def FnExactDiffWrongFalsely : Prop := fnExactDiffRow.holds Try.pinned (OpenSpec.ofChange fnExactDiffWrong)

/- THE SECOND FORM. 'bulk': how many values and letters a reading holds, each counted each time it is reached (what is shared counts as often as it is met; a slice's spare places count too). A statement '..UptoSaid' is the law's where the arguments, and the package variables that the reading takes, are together of bulk at most 1048576: NARROWER than '..Said'. Prove '..Said' where nothing that the law and all that it calls make is longer than what came in: it says more and counts as full. Else prove '..UptoSaid'. A law counts once. -/
mutual
def uptoBulk {H : Type} : DataW H → Nat
  | .lit (.string bytes) => bytes.length + 1
  | .lit _ => 1
  | .nil => 1
  | .ptr d => uptoBulk d + 1
  | .slice elems spare => uptoBulkAll elems + uptoBulkAll spare + 1
  | .agg parts => uptoBulkAll parts + 1
  | .iface _ d => uptoBulk d + 1
  | .map entries => uptoBulkEntries entries + 1
  | .held _ => 1
def uptoBulkAll {H : Type} : List (DataW H) → Nat
  | [] => 0
  | d :: r => uptoBulk d + uptoBulkAll r
def uptoBulkEntries {H : Type} : List (Lit × DataW H) → Nat
  | [] => 0
  | x :: r => uptoBulkEntry x + uptoBulkEntries r
def uptoBulkEntry {H : Type} : Lit × DataW H → Nat
  | (.string bytes, d) => bytes.length + uptoBulk d + 1
  | (_, d) => uptoBulk d + 1
 end
def uptoSmall : (H : Type) → List (DataW H) → Bool := fun _ ds => decide (uptoBulkAll ds ≤ 1048576)
def OpenSpec.upto (s : _root_.Go.ChangeSpec) : _root_.Go.OpenSpec := { _root_.Go.OpenSpec.ofChange s with cond := some uptoSmall }

/-- 'laws.FnExactCost', WHERE WHAT IT READS IS OF BULK AT MOST 1048576: true; the input reads as it did. -/
def fnExactCostUptoRow : OpenClaim := { program := "ythnnhoabdhhkaaa", sum := "5e32fa8f5dd979a8f21e13ede7188cb737ce368f5711296bf2c8a9d60a711499", func := "loop.example/g00797/laws.FnExactCost", spec := "fnExactCost", unfollowed := true, recurses := true, apart := false, narrowed := true }
def FnExactCostUptoSaid : Prop := fnExactCostUptoRow.holds Try.pinned (OpenSpec.upto fnExactCostSpec)

/-- 'laws.FnExactCommon', WHERE WHAT IT READS IS OF BULK AT MOST 1048576: true; the input reads as it did. -/
def fnExactCommonUptoRow : OpenClaim := { program := "ythnnhoabdhhkaaa", sum := "5e32fa8f5dd979a8f21e13ede7188cb737ce368f5711296bf2c8a9d60a711499", func := "loop.example/g00797/laws.FnExactCommon", spec := "fnExactCommon", unfollowed := true, recurses := true, apart := false, narrowed := true }
def FnExactCommonUptoSaid : Prop := fnExactCommonUptoRow.holds Try.pinned (OpenSpec.upto fnExactCommonSpec)

/-- 'laws.FnExactNear', WHERE WHAT IT READS IS OF BULK AT MOST 1048576: true; the input reads as it did. -/
def fnExactNearUptoRow : OpenClaim := { program := "ythnnhoabdhhkaaa", sum := "5e32fa8f5dd979a8f21e13ede7188cb737ce368f5711296bf2c8a9d60a711499", func := "loop.example/g00797/laws.FnExactNear", spec := "fnExactNear", unfollowed := true, recurses := true, apart := false, narrowed := true }
def FnExactNearUptoSaid : Prop := fnExactNearUptoRow.holds Try.pinned (OpenSpec.upto fnExactNearSpec)

/-- 'laws.FnExactPastSame', WHERE WHAT IT READS IS OF BULK AT MOST 1048576: true; the input reads as it did. -/
def fnExactPastSameUptoRow : OpenClaim := { program := "ythnnhoabdhhkaaa", sum := "5e32fa8f5dd979a8f21e13ede7188cb737ce368f5711296bf2c8a9d60a711499", func := "loop.example/g00797/laws.FnExactPastSame", spec := "fnExactPastSame", unfollowed := true, recurses := true, apart := false, narrowed := true }
def FnExactPastSameUptoSaid : Prop := fnExactPastSameUptoRow.holds Try.pinned (OpenSpec.upto fnExactPastSameSpec)

/-- 'laws.FnExactSparse', WHERE WHAT IT READS IS OF BULK AT MOST 1048576: true; the input reads as it did. -/
def fnExactSparseUptoRow : OpenClaim := { program := "ythnnhoabdhhkaaa", sum := "5e32fa8f5dd979a8f21e13ede7188cb737ce368f5711296bf2c8a9d60a711499", func := "loop.example/g00797/laws.FnExactSparse", spec := "fnExactSparse", apart := false, narrowed := true }
def FnExactSparseUptoSaid : Prop := fnExactSparseUptoRow.holds Try.pinned (OpenSpec.upto fnExactSparseSpec)

/-- 'laws.FnExactMarkAdd', WHERE WHAT IT READS IS OF BULK AT MOST 1048576: true; the input reads as it did. -/
def fnExactMarkAddUptoRow : OpenClaim := { program := "ythnnhoabdhhkaaa", sum := "5e32fa8f5dd979a8f21e13ede7188cb737ce368f5711296bf2c8a9d60a711499", func := "loop.example/g00797/laws.FnExactMarkAdd", spec := "fnExactMarkAdd", inPlace := ["slices.overlaps[loop.example/g00797/impl.Mark]"], apart := false, narrowed := true }
def FnExactMarkAddUptoSaid : Prop := fnExactMarkAddUptoRow.holds Try.pinned (OpenSpec.upto fnExactMarkAddSpec)

/-- 'laws.FnExactByClient', WHERE WHAT IT READS IS OF BULK AT MOST 1048576: true; the input reads as it did. -/
def fnExactByClientUptoRow : OpenClaim := { program := "ythnnhoabdhhkaaa", sum := "5e32fa8f5dd979a8f21e13ede7188cb737ce368f5711296bf2c8a9d60a711499", func := "loop.example/g00797/laws.FnExactByClient", spec := "fnExactByClient", apart := false, narrowed := true }
def FnExactByClientUptoSaid : Prop := fnExactByClientUptoRow.holds Try.pinned (OpenSpec.upto fnExactByClientSpec)

/-- 'laws.FnExactPastNew', WHERE WHAT IT READS IS OF BULK AT MOST 1048576: true; the input reads as it did. -/
def fnExactPastNewUptoRow : OpenClaim := { program := "ythnnhoabdhhkaaa", sum := "5e32fa8f5dd979a8f21e13ede7188cb737ce368f5711296bf2c8a9d60a711499", func := "loop.example/g00797/laws.FnExactPastNew", spec := "fnExactPastNew", unfollowed := true, recurses := true, apart := false, narrowed := true }
def FnExactPastNewUptoSaid : Prop := fnExactPastNewUptoRow.holds Try.pinned (OpenSpec.upto fnExactPastNewSpec)

/-- 'laws.FnDiff', WHERE WHAT IT READS IS OF BULK AT MOST 1048576: true; the input reads as it did. -/
def fnDiffUptoRow : OpenClaim := { program := "ythnnhoabdhhkaaa", sum := "5e32fa8f5dd979a8f21e13ede7188cb737ce368f5711296bf2c8a9d60a711499", func := "loop.example/g00797/laws.FnDiff", spec := "fnDiff", unfollowed := true, recurses := true, apart := false, narrowed := true }
def FnDiffUptoSaid : Prop := fnDiffUptoRow.holds Try.pinned (OpenSpec.upto fnDiffSpec)

/-- 'laws.FnRowOps', WHERE WHAT IT READS IS OF BULK AT MOST 1048576: true; the input reads as it did. -/
def fnRowOpsUptoRow : OpenClaim := { program := "ythnnhoabdhhkaaa", sum := "5e32fa8f5dd979a8f21e13ede7188cb737ce368f5711296bf2c8a9d60a711499", func := "loop.example/g00797/laws.FnRowOps", spec := "fnRowOps", unfollowed := true, recurses := true, apart := false, narrowed := true }
def FnRowOpsUptoSaid : Prop := fnRowOpsUptoRow.holds Try.pinned (OpenSpec.upto fnRowOpsSpec)

/-- 'laws.FnExactDiff', WHERE WHAT IT READS IS OF BULK AT MOST 1048576: true; the input reads as it did. -/
def fnExactDiffUptoRow : OpenClaim := { program := "ythnnhoabdhhkaaa", sum := "5e32fa8f5dd979a8f21e13ede7188cb737ce368f5711296bf2c8a9d60a711499", func := "loop.example/g00797/laws.FnExactDiff", spec := "fnExactDiff", unfollowed := true, recurses := true, apart := false, narrowed := true }
def FnExactDiffUptoSaid : Prop := fnExactDiffUptoRow.holds Try.pinned (OpenSpec.upto fnExactDiffSpec)

end Rows
end Go.Proofs.Ythnnhoabdhhkaaa
