/-
  DERIVED. GIVEN WITH THE SEED: THE CARDS: each row of YtecakcgkibemaaaGreatDoorRows.lean that lists a variable, with what it lists TIED to the program's text (the seventh form; the later family's looks); each row that meets fmt, with fmt's text TOLD by the authors' own Lean function (tested against real Go, not proved from fmt's source: count such statements apart). THE CARD IS WHAT COUNTS. Prove the row's statement (the work); the ties are given (YtecakcgkibemaaaGreatDoorTie.lean); close each card by the builder's one call (the guide's Derived/Test/ToyasCard.lean, 'card_holds'). Laid BY PROGRAM, IN A SANDBOX (cutbox-door.mjs). By AI agents, Wed Nov 11 2026. No macro, syntax, notation, axiom, sorry.
-/
import Derived.Test.YtecakcgkibemaaaGreatDoorRows
import GoSem.ClaimSeven
namespace Go.Proofs.YtecakcgkibemaaaGreatDoor
namespace Rows

/-- THE TIED CARD OF 'laws.FnPlayer'. -/
def fnPlayerCard : Claim7 := { stood := { row := fnPlayerRow, standIns := [], harness := (true, "e020143eb2f8a94f56f30ab50bb3b039597e96c9dd06fba8da5f0861d9aa4a62"), looks := true }, kinds := [], alts := [], laidByText := true, laidKinds := [.data, .data, .data, .data, .sentinel, .sentinel, .pinned], laidTests := true, laidLooks := .later }
def FnPlayerCardSaid : Prop := Claim7.holds Tryz.pinned (.plain (OpenSpec.ofChange fnPlayerSpec)) fnPlayerCard

/-- THE SECOND FORM's CARD OF 'laws.FnPlayer'. -/
def fnPlayerUptoCard : Claim7 := { stood := { row := fnPlayerUptoRow, standIns := [], harness := (true, "e020143eb2f8a94f56f30ab50bb3b039597e96c9dd06fba8da5f0861d9aa4a62"), looks := true }, kinds := [], alts := [], laidByText := true, laidKinds := [.data, .data, .data, .data, .sentinel, .sentinel, .pinned], laidTests := true, laidLooks := .later }
def FnPlayerUptoCardSaid : Prop := Claim7.holds Tryz.pinned (.plain (OpenSpec.upto fnPlayerSpec)) fnPlayerUptoCard
end Rows
end Go.Proofs.YtecakcgkibemaaaGreatDoor
