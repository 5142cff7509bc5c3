/-
  DERIVED. GIVEN WITH THE SEED: THE CARDS: each row of YtcdecpdpmpfbnaaGreatDoorRows.lean that lists a variable, with what it lists TIED to the program's text (the seventh form; the later family's looks); each row that meets fmt, with fmt's text TOLD by the authors' own Lean function (tested against real Go, not proved from fmt's source: count such statements apart). THE CARD IS WHAT COUNTS. Prove the row's statement (the work); the ties are given (YtcdecpdpmpfbnaaGreatDoorTie.lean); close each card by the builder's one call (the guide's Derived/Test/ToyasCard.lean, 'card_holds'). Laid BY PROGRAM, IN A SANDBOX (cutbox-door.mjs). By AI agents, Wed Nov 11 2026. No macro, syntax, notation, axiom, sorry.
-/
import Derived.Test.YtcdecpdpmpfbnaaGreatDoorRows
import GoSem.ClaimSeven
namespace Go.Proofs.YtcdecpdpmpfbnaaGreatDoor
namespace Rows

/-- THE TIED CARD OF 'laws.FnExactPlayLine'. -/
def fnExactPlayLineCard : Claim7 := { stood := { row := fnExactPlayLineRow, standIns := [], harness := (true, "0eca97a475e0704a4f398de68ca7583777b6dda038922931b7c95df866588eef"), looks := true }, kinds := [], alts := [], laidByText := true, laidKinds := [.data, .data, .data, .data, .sentinel, .sentinel, .pinned], laidTests := true, laidLooks := .later }
def FnExactPlayLineCardSaid : Prop := Claim7.holds Tryz.pinned (.plain (OpenSpec.ofChange fnExactPlayLineSpec)) fnExactPlayLineCard

/-- THE TIED CARD OF 'laws.FnExactPlayAll'. -/
def fnExactPlayAllCard : Claim7 := { stood := { row := fnExactPlayAllRow, standIns := [], harness := (true, "0eca97a475e0704a4f398de68ca7583777b6dda038922931b7c95df866588eef"), looks := true }, kinds := [], alts := [], laidByText := true, laidKinds := [.data, .data, .data, .data, .sentinel, .sentinel, .pinned], laidTests := true, laidLooks := .later }
def FnExactPlayAllCardSaid : Prop := Claim7.holds Tryz.pinned (.plain (OpenSpec.ofChange fnExactPlayAllSpec)) fnExactPlayAllCard

/-- THE SECOND FORM's CARD OF 'laws.FnExactPlayLine'. -/
def fnExactPlayLineUptoCard : Claim7 := { stood := { row := fnExactPlayLineUptoRow, standIns := [], harness := (true, "0eca97a475e0704a4f398de68ca7583777b6dda038922931b7c95df866588eef"), looks := true }, kinds := [], alts := [], laidByText := true, laidKinds := [.data, .data, .data, .data, .sentinel, .sentinel, .pinned], laidTests := true, laidLooks := .later }
def FnExactPlayLineUptoCardSaid : Prop := Claim7.holds Tryz.pinned (.plain (OpenSpec.upto fnExactPlayLineSpec)) fnExactPlayLineUptoCard

/-- THE SECOND FORM's CARD OF 'laws.FnExactPlayAll'. -/
def fnExactPlayAllUptoCard : Claim7 := { stood := { row := fnExactPlayAllUptoRow, standIns := [], harness := (true, "0eca97a475e0704a4f398de68ca7583777b6dda038922931b7c95df866588eef"), looks := true }, kinds := [], alts := [], laidByText := true, laidKinds := [.data, .data, .data, .data, .sentinel, .sentinel, .pinned], laidTests := true, laidLooks := .later }
def FnExactPlayAllUptoCardSaid : Prop := Claim7.holds Tryz.pinned (.plain (OpenSpec.upto fnExactPlayAllSpec)) fnExactPlayAllUptoCard
end Rows
end Go.Proofs.YtcdecpdpmpfbnaaGreatDoor
