/-
  DERIVED. GIVEN WITH THE SEED: THE CARDS: each row of YtecakcgkibemaaaDoorRows.lean that lists a variable, with what it lists TIED to the program's text (the seventh form; the later family's looks); each row that meets fmt, with fmt's text TOLD by the authors' own Lean function (tested against real Go, not proved from fmt's source: count such statements apart). THE CARD IS WHAT COUNTS. Prove the row's statement (the work); the ties are given (YtecakcgkibemaaaDoorTie.lean); close each card by the builder's one call (the guide's Derived/Test/ToyasCard.lean, 'card_holds'). Laid BY PROGRAM, IN A SANDBOX (cutbox-door.mjs). By AI agents, Wed Nov 11 2026. No macro, syntax, notation, axiom, sorry.
-/
import Derived.Test.YtecakcgkibemaaaDoorRows
import GoSem.ClaimSeven
namespace Go.Proofs.YtecakcgkibemaaaDoor
namespace Rows

/-- THE TIED CARD OF 'laws.FnExactPlayerText'. -/
def fnExactPlayerTextCard : Claim7 := { stood := { row := fnExactPlayerTextRow, standIns := [], harness := (true, "a3833983735fc0f36515c34a8a7521b3b46eaa768c513fcd11982c0f56b30e54"), looks := true }, kinds := [], alts := [], laidByText := true, laidKinds := [.data, .data, .data], laidTests := true, laidLooks := .later }
def FnExactPlayerTextCardSaid : Prop := Claim7.holds Tryd.pinned (.plain (OpenSpec.ofChange fnExactPlayerTextSpec)) fnExactPlayerTextCard

/-- THE TIED CARD OF 'laws.FnExactReadPlayer'. -/
def fnExactReadPlayerCard : Claim7 := { stood := { row := fnExactReadPlayerRow, standIns := [], harness := (true, "a3833983735fc0f36515c34a8a7521b3b46eaa768c513fcd11982c0f56b30e54"), looks := true }, kinds := [], alts := [], laidByText := true, laidKinds := [.data, .data, .data, .data, .sentinel, .sentinel, .pinned], laidTests := true, laidLooks := .later }
def FnExactReadPlayerCardSaid : Prop := Claim7.holds Tryd.pinned (.plain (OpenSpec.ofChange fnExactReadPlayerSpec)) fnExactReadPlayerCard

/-- THE SECOND FORM's CARD OF 'laws.FnExactPlayerText'. -/
def fnExactPlayerTextUptoCard : Claim7 := { stood := { row := fnExactPlayerTextUptoRow, standIns := [], harness := (true, "a3833983735fc0f36515c34a8a7521b3b46eaa768c513fcd11982c0f56b30e54"), looks := true }, kinds := [], alts := [], laidByText := true, laidKinds := [.data, .data, .data], laidTests := true, laidLooks := .later }
def FnExactPlayerTextUptoCardSaid : Prop := Claim7.holds Tryd.pinned (.plain (OpenSpec.upto fnExactPlayerTextSpec)) fnExactPlayerTextUptoCard

/-- THE SECOND FORM's CARD OF 'laws.FnExactReadPlayer'. -/
def fnExactReadPlayerUptoCard : Claim7 := { stood := { row := fnExactReadPlayerUptoRow, standIns := [], harness := (true, "a3833983735fc0f36515c34a8a7521b3b46eaa768c513fcd11982c0f56b30e54"), looks := true }, kinds := [], alts := [], laidByText := true, laidKinds := [.data, .data, .data, .data, .sentinel, .sentinel, .pinned], laidTests := true, laidLooks := .later }
def FnExactReadPlayerUptoCardSaid : Prop := Claim7.holds Tryd.pinned (.plain (OpenSpec.upto fnExactReadPlayerSpec)) fnExactReadPlayerUptoCard
end Rows
end Go.Proofs.YtecakcgkibemaaaDoor
