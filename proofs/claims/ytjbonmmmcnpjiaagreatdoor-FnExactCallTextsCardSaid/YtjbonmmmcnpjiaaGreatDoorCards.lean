/-
  DERIVED. GIVEN WITH THE SEED: THE CARDS: each row of YtjbonmmmcnpjiaaGreatDoorRows.lean that lists a variable, with what it lists TIED to the program's text (the seventh form; the later family's looks); each row that meets fmt, with fmt's text TOLD by the authors' own Lean function (tested against real Go, not proved from fmt's source: count such statements apart). THE CARD IS WHAT COUNTS. Prove the row's statement (the work); the ties are given (YtjbonmmmcnpjiaaGreatDoorTie.lean); close each card by the builder's one call (the guide's Derived/Test/ToyasCard.lean, 'card_holds'). Laid BY PROGRAM, IN A SANDBOX (cutbox-door.mjs). By AI agents, Wed Nov 11 2026. No macro, syntax, notation, axiom, sorry.
-/
import Derived.Test.YtjbonmmmcnpjiaaGreatDoorRows
import GoSem.ClaimSeven
namespace Go.Proofs.YtjbonmmmcnpjiaaGreatDoor
namespace Rows

/-- THE TIED CARD OF 'laws.FnExactWorldText'. -/
def fnExactWorldTextCard : Claim7 := { stood := { row := fnExactWorldTextRow, standIns := [], harness := (true, "4df31bb6cbeeced12aea2b6bb6803c863e3ced38428fd450f19803a595b2159b"), looks := false }, kinds := [], alts := [], laidByText := true, laidKinds := [.data, .data, .data], laidTests := true, laidLooks := .later }
def FnExactWorldTextCardSaid : Prop := Claim7.holds Tryz.pinned (.plain (OpenSpec.ofChange fnExactWorldTextSpec)) fnExactWorldTextCard

/-- THE TIED CARD OF 'laws.FnExactCallTexts'. -/
def fnExactCallTextsCard : Claim7 := { stood := { row := fnExactCallTextsRow, standIns := [], harness := (true, "4df31bb6cbeeced12aea2b6bb6803c863e3ced38428fd450f19803a595b2159b"), looks := false }, kinds := [], alts := [], laidByText := true, laidKinds := [.data, .data, .data, .data, .pinned], laidTests := true, laidLooks := .later }
def FnExactCallTextsCardSaid : Prop := Claim7.holds Tryz.pinned (.plain (OpenSpec.ofChange fnExactCallTextsSpec)) fnExactCallTextsCard

/-- THE SECOND FORM's CARD OF 'laws.FnExactWorldText'. -/
def fnExactWorldTextUptoCard : Claim7 := { stood := { row := fnExactWorldTextUptoRow, standIns := [], harness := (true, "4df31bb6cbeeced12aea2b6bb6803c863e3ced38428fd450f19803a595b2159b"), looks := false }, kinds := [], alts := [], laidByText := true, laidKinds := [.data, .data, .data], laidTests := true, laidLooks := .later }
def FnExactWorldTextUptoCardSaid : Prop := Claim7.holds Tryz.pinned (.plain (OpenSpec.upto fnExactWorldTextSpec)) fnExactWorldTextUptoCard

/-- THE SECOND FORM's CARD OF 'laws.FnExactCallTexts'. -/
def fnExactCallTextsUptoCard : Claim7 := { stood := { row := fnExactCallTextsUptoRow, standIns := [], harness := (true, "4df31bb6cbeeced12aea2b6bb6803c863e3ced38428fd450f19803a595b2159b"), looks := false }, kinds := [], alts := [], laidByText := true, laidKinds := [.data, .data, .data, .data, .pinned], laidTests := true, laidLooks := .later }
def FnExactCallTextsUptoCardSaid : Prop := Claim7.holds Tryz.pinned (.plain (OpenSpec.upto fnExactCallTextsSpec)) fnExactCallTextsUptoCard
end Rows
end Go.Proofs.YtjbonmmmcnpjiaaGreatDoor
