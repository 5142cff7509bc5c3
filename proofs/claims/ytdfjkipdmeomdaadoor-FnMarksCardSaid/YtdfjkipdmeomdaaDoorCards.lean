/-
  DERIVED. GIVEN WITH THE SEED: THE CARDS: each row of YtdfjkipdmeomdaaDoorRows.lean that lists a variable, with what it lists TIED to the program's text (the seventh form; the later family's looks); each row that meets fmt, with fmt's text TOLD by the authors' own Lean function (tested against real Go, not proved from fmt's source: count such statements apart). THE CARD IS WHAT COUNTS. Prove the row's statement (the work); the ties are given (YtdfjkipdmeomdaaDoorTie.lean); close each card by the builder's one call (the guide's Derived/Test/ToyasCard.lean, 'card_holds'). Laid BY PROGRAM, IN A SANDBOX (cutbox-door.mjs). By AI agents, Wed Nov 11 2026. No macro, syntax, notation, axiom, sorry.
-/
import Derived.Test.YtdfjkipdmeomdaaDoorRows
import GoSem.ClaimSeven
namespace Go.Proofs.YtdfjkipdmeomdaaDoor
namespace Rows

/-- THE TIED CARD OF 'laws.FnExactMarkText'. -/
def fnExactMarkTextCard : Claim7 := { stood := { row := fnExactMarkTextRow, standIns := [], harness := (true, "d77ba8f7296279aac102234e514d2ce260835c242cbb474c6608900e58c27381"), looks := false }, kinds := [], alts := [], laidByText := true, laidKinds := [.data, .data, .data], laidTests := true, laidLooks := .later }
def FnExactMarkTextCardSaid : Prop := Claim7.holds Tryd.pinned (.plain (OpenSpec.ofChange fnExactMarkTextSpec)) fnExactMarkTextCard

/-- THE TIED CARD OF 'laws.FnMarks'. -/
def fnMarksCard : Claim7 := { stood := { row := fnMarksRow, standIns := [], harness := (true, "d77ba8f7296279aac102234e514d2ce260835c242cbb474c6608900e58c27381"), looks := false }, kinds := [], alts := [], laidByText := true, laidKinds := [.data, .data, .data], laidTests := true, laidLooks := .later }
def FnMarksCardSaid : Prop := Claim7.holds Tryd.pinned (.plain (OpenSpec.ofChange fnMarksSpec)) fnMarksCard

/-- THE SECOND FORM's CARD OF 'laws.FnExactMarkText'. -/
def fnExactMarkTextUptoCard : Claim7 := { stood := { row := fnExactMarkTextUptoRow, standIns := [], harness := (true, "d77ba8f7296279aac102234e514d2ce260835c242cbb474c6608900e58c27381"), looks := false }, kinds := [], alts := [], laidByText := true, laidKinds := [.data, .data, .data], laidTests := true, laidLooks := .later }
def FnExactMarkTextUptoCardSaid : Prop := Claim7.holds Tryd.pinned (.plain (OpenSpec.upto fnExactMarkTextSpec)) fnExactMarkTextUptoCard

/-- THE SECOND FORM's CARD OF 'laws.FnMarks'. -/
def fnMarksUptoCard : Claim7 := { stood := { row := fnMarksUptoRow, standIns := [], harness := (true, "d77ba8f7296279aac102234e514d2ce260835c242cbb474c6608900e58c27381"), looks := false }, kinds := [], alts := [], laidByText := true, laidKinds := [.data, .data, .data], laidTests := true, laidLooks := .later }
def FnMarksUptoCardSaid : Prop := Claim7.holds Tryd.pinned (.plain (OpenSpec.upto fnMarksSpec)) fnMarksUptoCard
end Rows
end Go.Proofs.YtdfjkipdmeomdaaDoor
