/-
  No cell of these rows narrows 'for every input' (looked for: loops, veiled, ifaces, maps, wideKeys, modest, calm, conditions, laid).
  DERIVED. THE GIVEN ROWS OF THIS SEAT. 4 by the template 'for every input the law returns true; each argument reads behind the call as it read before'; 0 by the template 'total and deterministic' (their statements: YtdfjkipdmeomdaaTotals.lean).
  GIVEN WITH THE SEED: the statements are not yours to turn. If you find one false, say at which input.
  Laid BY PROGRAM, IN A SANDBOX (cutbox-rows.mjs): the forced cells as the released guide's own fill.sh prints them over the translation 2a200e5651416064… (all of the seat's roots in one cut). By AI agents, Wed Nov 11 2026. No macro, syntax, notation, axiom, sorry.
-/
import Derived.Test.YtdfjkipdmeomdaaChecked
import GoSem.Claim
import GoSem.ClaimJoined
import GoSem.ClaimMapViews
import Derived.JoinedTies
import Derived.KernelRfl
namespace Go.Proofs.Ytdfjkipdmeomdaa
/- THE CELL 'sum', in the pinned program and in every row, IS THE sha256 OF THE DUMP (.gsa) THAT YtdfjkipdmeomdaaProg.lean LOADS. Nothing in Lean hashes anything: it is a label: what it is worth is what the hold of that sum in a sandbox is worth. -/
noncomputable def Try.pinned : Pinned := { name := "ytdfjkipdmeomdaa", sum := "2a200e5651416064c1d43dd24916442ae55dda704802f358cf9019e252ea4775", checked := Try.checked }
namespace Rows
def none {H : Type} : Left H := { results := [], args := [] }

/-- 'laws.FnExactRowsPut': WHATEVER THE INPUT: true; the input reads as it did. -/
def fnExactRowsPutSpec : ChangeSpec := { name := "fnExactRowsPut", fn := fun _ => fun
  | [d1, d2, d3] => { results := [.lit (.bool true)], args := [d1, d2, d3] }
  | _ => none }
def fnExactRowsPutRow : OpenClaim := { program := "ytdfjkipdmeomdaa", sum := "2a200e5651416064c1d43dd24916442ae55dda704802f358cf9019e252ea4775", func := "loop.example/g00797/laws.FnExactRowsPut", spec := "fnExactRowsPut", unfollowed := true, recurses := true, apart := false }
def FnExactRowsPutSaid : Prop := fnExactRowsPutRow.holds Try.pinned (OpenSpec.ofChange fnExactRowsPutSpec)

/-- ITS FALSE NEIGHBOUR: 'it returns false'. Refute it at one input. -/
def fnExactRowsPutWrong : ChangeSpec := { name := "fnExactRowsPut", fn := fun _ => fun
  | [d1, d2, d3] => { results := [.lit (.bool false)], args := [d1, d2, d3] }
  | _ => none }
def FnExactRowsPutWrongFalsely : Prop := fnExactRowsPutRow.holds Try.pinned (OpenSpec.ofChange fnExactRowsPutWrong)

/-- 'laws.FnRowOps': WHATEVER THE INPUT: true; the input reads as it did. -/
def fnRowOpsSpec : ChangeSpec := { name := "fnRowOps", fn := fun _ => fun
  | [d] => { results := [.lit (.bool true)], args := [d] }
  | _ => none }
def fnRowOpsRow : OpenClaim := { program := "ytdfjkipdmeomdaa", sum := "2a200e5651416064c1d43dd24916442ae55dda704802f358cf9019e252ea4775", func := "loop.example/g00797/laws.FnRowOps", spec := "fnRowOps", unfollowed := true, recurses := true, apart := false }
def FnRowOpsSaid : Prop := fnRowOpsRow.holds Try.pinned (OpenSpec.ofChange fnRowOpsSpec)

/-- ITS FALSE NEIGHBOUR: 'it returns false'. Refute it at one input. -/
def fnRowOpsWrong : ChangeSpec := { name := "fnRowOps", fn := fun _ => fun
  | [d] => { results := [.lit (.bool false)], args := [d] }
  | _ => none }
def FnRowOpsWrongFalsely : Prop := fnRowOpsRow.holds Try.pinned (OpenSpec.ofChange fnRowOpsWrong)

/-- 'laws.FnExactByClient': WHATEVER THE INPUT: true; the input reads as it did. -/
def fnExactByClientSpec : ChangeSpec := { name := "fnExactByClient", fn := fun _ => fun
  | [d1, d2] => { results := [.lit (.bool true)], args := [d1, d2] }
  | _ => none }
def fnExactByClientRow : OpenClaim := { program := "ytdfjkipdmeomdaa", sum := "2a200e5651416064c1d43dd24916442ae55dda704802f358cf9019e252ea4775", func := "loop.example/g00797/laws.FnExactByClient", spec := "fnExactByClient", apart := false }
def FnExactByClientSaid : Prop := fnExactByClientRow.holds Try.pinned (OpenSpec.ofChange fnExactByClientSpec)

/-- ITS FALSE NEIGHBOUR: 'it returns false'. Refute it at one input. -/
def fnExactByClientWrong : ChangeSpec := { name := "fnExactByClient", fn := fun _ => fun
  | [d1, d2] => { results := [.lit (.bool false)], args := [d1, d2] }
  | _ => none }
def FnExactByClientWrongFalsely : Prop := fnExactByClientRow.holds Try.pinned (OpenSpec.ofChange fnExactByClientWrong)

/-- 'laws.FnExactMarkAdd': WHATEVER THE INPUT: true; the input reads as it did. -/
def fnExactMarkAddSpec : ChangeSpec := { name := "fnExactMarkAdd", fn := fun _ => fun
  | [d1, d2, d3, d4, d5] => { results := [.lit (.bool true)], args := [d1, d2, d3, d4, d5] }
  | _ => none }
def fnExactMarkAddRow : OpenClaim := { program := "ytdfjkipdmeomdaa", sum := "2a200e5651416064c1d43dd24916442ae55dda704802f358cf9019e252ea4775", func := "loop.example/g00797/laws.FnExactMarkAdd", spec := "fnExactMarkAdd", inPlace := ["slices.overlaps[loop.example/g00797/impl.Mark]"], apart := false }
def FnExactMarkAddSaid : Prop := fnExactMarkAddRow.holds Try.pinned (OpenSpec.ofChange fnExactMarkAddSpec)

/-- ITS FALSE NEIGHBOUR: 'it returns false'. Refute it at one input. -/
def fnExactMarkAddWrong : ChangeSpec := { name := "fnExactMarkAdd", fn := fun _ => fun
  | [d1, d2, d3, d4, d5] => { results := [.lit (.bool false)], args := [d1, d2, d3, d4, d5] }
  | _ => none }
def FnExactMarkAddWrongFalsely : Prop := fnExactMarkAddRow.holds Try.pinned (OpenSpec.ofChange fnExactMarkAddWrong)

/- THE SECOND FORM. 'bulk': how many values and letters a reading holds, each counted each time it is reached (what is shared counts as often as it is met; a slice's spare places count too). A statement '..UptoSaid' is the law's where the arguments, and the package variables that the reading takes, are together of bulk at most 1048576: NARROWER than '..Said'. Prove '..Said' where nothing that the law and all that it calls make is longer than what came in: it says more and counts as full. Else prove '..UptoSaid'. A law counts once. -/
mutual
def uptoBulk {H : Type} : DataW H → Nat
  | .lit (.string bytes) => bytes.length + 1
  | .lit _ => 1
  | .nil => 1
  | .ptr d => uptoBulk d + 1
  | .slice elems spare => uptoBulkAll elems + uptoBulkAll spare + 1
  | .agg parts => uptoBulkAll parts + 1
  | .iface _ d => uptoBulk d + 1
  | .map entries => uptoBulkEntries entries + 1
  | .held _ => 1
def uptoBulkAll {H : Type} : List (DataW H) → Nat
  | [] => 0
  | d :: r => uptoBulk d + uptoBulkAll r
def uptoBulkEntries {H : Type} : List (Lit × DataW H) → Nat
  | [] => 0
  | x :: r => uptoBulkEntry x + uptoBulkEntries r
def uptoBulkEntry {H : Type} : Lit × DataW H → Nat
  | (.string bytes, d) => bytes.length + uptoBulk d + 1
  | (_, d) => uptoBulk d + 1
 end
def uptoSmall : (H : Type) → List (DataW H) → Bool := fun _ ds => decide (uptoBulkAll ds ≤ 1048576)
def OpenSpec.upto (s : _root_.Go.ChangeSpec) : _root_.Go.OpenSpec := { _root_.Go.OpenSpec.ofChange s with cond := some uptoSmall }

/-- 'laws.FnExactRowsPut', WHERE WHAT IT READS IS OF BULK AT MOST 1048576: true; the input reads as it did. -/
def fnExactRowsPutUptoRow : OpenClaim := { program := "ytdfjkipdmeomdaa", sum := "2a200e5651416064c1d43dd24916442ae55dda704802f358cf9019e252ea4775", func := "loop.example/g00797/laws.FnExactRowsPut", spec := "fnExactRowsPut", unfollowed := true, recurses := true, apart := false, narrowed := true }
def FnExactRowsPutUptoSaid : Prop := fnExactRowsPutUptoRow.holds Try.pinned (OpenSpec.upto fnExactRowsPutSpec)

/-- 'laws.FnRowOps', WHERE WHAT IT READS IS OF BULK AT MOST 1048576: true; the input reads as it did. -/
def fnRowOpsUptoRow : OpenClaim := { program := "ytdfjkipdmeomdaa", sum := "2a200e5651416064c1d43dd24916442ae55dda704802f358cf9019e252ea4775", func := "loop.example/g00797/laws.FnRowOps", spec := "fnRowOps", unfollowed := true, recurses := true, apart := false, narrowed := true }
def FnRowOpsUptoSaid : Prop := fnRowOpsUptoRow.holds Try.pinned (OpenSpec.upto fnRowOpsSpec)

/-- 'laws.FnExactByClient', WHERE WHAT IT READS IS OF BULK AT MOST 1048576: true; the input reads as it did. -/
def fnExactByClientUptoRow : OpenClaim := { program := "ytdfjkipdmeomdaa", sum := "2a200e5651416064c1d43dd24916442ae55dda704802f358cf9019e252ea4775", func := "loop.example/g00797/laws.FnExactByClient", spec := "fnExactByClient", apart := false, narrowed := true }
def FnExactByClientUptoSaid : Prop := fnExactByClientUptoRow.holds Try.pinned (OpenSpec.upto fnExactByClientSpec)

/-- 'laws.FnExactMarkAdd', WHERE WHAT IT READS IS OF BULK AT MOST 1048576: true; the input reads as it did. -/
def fnExactMarkAddUptoRow : OpenClaim := { program := "ytdfjkipdmeomdaa", sum := "2a200e5651416064c1d43dd24916442ae55dda704802f358cf9019e252ea4775", func := "loop.example/g00797/laws.FnExactMarkAdd", spec := "fnExactMarkAdd", inPlace := ["slices.overlaps[loop.example/g00797/impl.Mark]"], apart := false, narrowed := true }
def FnExactMarkAddUptoSaid : Prop := fnExactMarkAddUptoRow.holds Try.pinned (OpenSpec.upto fnExactMarkAddSpec)

end Rows
end Go.Proofs.Ytdfjkipdmeomdaa
