/-
  DERIVED. GIVEN WITH THE SEED: THE CARDS: each row of YtbbefmccoomfhaaGreatDoorRows.lean that lists a variable, with what it lists TIED to the program's text (the seventh form; the later family's looks); each row that meets fmt, with fmt's text TOLD by the authors' own Lean function (tested against real Go, not proved from fmt's source: count such statements apart). THE CARD IS WHAT COUNTS. Prove the row's statement (the work); the ties are given (YtbbefmccoomfhaaGreatDoorTie.lean); close each card by the builder's one call (the guide's Derived/Test/ToyasCard.lean, 'card_holds'). Laid BY PROGRAM, IN A SANDBOX (cutbox-door.mjs). By AI agents, Wed Nov 11 2026. No macro, syntax, notation, axiom, sorry.
-/
import Derived.Test.YtbbefmccoomfhaaGreatDoorRows
import GoSem.ClaimSeven
namespace Go.Proofs.YtbbefmccoomfhaaGreatDoor
namespace Rows

/-- THE TIED CARD OF 'laws.FnPlay'. -/
def fnPlayCard : Claim7 := { stood := { row := fnPlayRow, standIns := [], harness := (true, "a14a0b94c4ef2526dc15a23ebbdcc57fe39b0a4f606026e18d7d18252a82bd84"), looks := true }, kinds := [], alts := [], laidByText := true, laidKinds := [.data, .data, .data, .data, .sentinel, .sentinel, .pinned], laidTests := true, laidLooks := .later }
def FnPlayCardSaid : Prop := Claim7.holds Tryz.pinned (.plain (OpenSpec.ofChange fnPlaySpec)) fnPlayCard

/-- THE SECOND FORM's CARD OF 'laws.FnPlay'. -/
def fnPlayUptoCard : Claim7 := { stood := { row := fnPlayUptoRow, standIns := [], harness := (true, "a14a0b94c4ef2526dc15a23ebbdcc57fe39b0a4f606026e18d7d18252a82bd84"), looks := true }, kinds := [], alts := [], laidByText := true, laidKinds := [.data, .data, .data, .data, .sentinel, .sentinel, .pinned], laidTests := true, laidLooks := .later }
def FnPlayUptoCardSaid : Prop := Claim7.holds Tryz.pinned (.plain (OpenSpec.upto fnPlaySpec)) fnPlayUptoCard
end Rows
end Go.Proofs.YtbbefmccoomfhaaGreatDoor
