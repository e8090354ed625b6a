/-
  DERIVED. GIVEN WITH THE SEED: THE CARDS: each row of YtcoaldhmofdfgaaDoorRows.lean that lists a variable, with what it lists TIED to the program's text (the seventh form; the later family's looks); each row that meets fmt, with fmt's text TOLD by the authors' own Lean function (tested against real Go, not proved from fmt's source: count such statements apart). THE CARD IS WHAT COUNTS. Prove the row's statement (the work); the ties are given (YtcoaldhmofdfgaaDoorTie.lean); close each card by the builder's one call (the guide's Derived/Test/ToyasCard.lean, 'card_holds'). Laid BY PROGRAM, IN A SANDBOX (cutbox-door.mjs). By AI agents, Wed Nov 11 2026. No macro, syntax, notation, axiom, sorry.
-/
import Derived.Test.YtcoaldhmofdfgaaDoorRows
import GoSem.ClaimSeven
namespace Go.Proofs.YtcoaldhmofdfgaaDoor
namespace Rows

/-- THE TIED CARD OF 'laws.FnExactHoldsText'. -/
def fnExactHoldsTextCard : Claim7 := { stood := { row := fnExactHoldsTextRow, standIns := [], harness := (true, "4619a14d28fdfc8a84b68611720284ed716514499fab94df9c58976eef59b456"), looks := true }, kinds := [], alts := [], laidByText := true, laidKinds := [.data, .data, .data], laidTests := true, laidLooks := .later }
def FnExactHoldsTextCardSaid : Prop := Claim7.holds Tryd.pinned (.plain (OpenSpec.ofChange fnExactHoldsTextSpec)) fnExactHoldsTextCard

/-- THE TIED CARD OF 'laws.FnExactReadHolds'. -/
def fnExactReadHoldsCard : Claim7 := { stood := { row := fnExactReadHoldsRow, standIns := [], harness := (true, "4619a14d28fdfc8a84b68611720284ed716514499fab94df9c58976eef59b456"), looks := true }, kinds := [], alts := [], laidByText := true, laidKinds := [.data, .data, .data, .data, .sentinel, .sentinel, .pinned], laidTests := true, laidLooks := .later }
def FnExactReadHoldsCardSaid : Prop := Claim7.holds Tryd.pinned (.plain (OpenSpec.ofChange fnExactReadHoldsSpec)) fnExactReadHoldsCard

/-- THE TIED CARD OF 'laws.FnTimecode'. -/
def fnTimecodeCard : Claim7 := { stood := { row := fnTimecodeRow, standIns := [], harness := (true, "4619a14d28fdfc8a84b68611720284ed716514499fab94df9c58976eef59b456"), looks := true }, kinds := [], alts := [], laidByText := true, laidKinds := [.data, .data, .data, .sentinel, .sentinel], laidTests := true, laidLooks := .later }
def FnTimecodeCardSaid : Prop := Claim7.holds Tryd.pinned (.plain (OpenSpec.ofChange fnTimecodeSpec)) fnTimecodeCard

/-- THE TIED CARD OF 'laws.FnLive'. -/
def fnLiveCard : Claim7 := { stood := { row := fnLiveRow, standIns := [], harness := (true, "4619a14d28fdfc8a84b68611720284ed716514499fab94df9c58976eef59b456"), looks := true }, kinds := [], alts := [], laidByText := true, laidKinds := [.data, .data, .data, .data, .sentinel, .sentinel, .pinned], laidTests := true, laidLooks := .later }
def FnLiveCardSaid : Prop := Claim7.holds Tryd.pinned (.plain (OpenSpec.ofChange fnLiveSpec)) fnLiveCard

/-- THE SECOND FORM's CARD OF 'laws.FnExactHoldsText'. -/
def fnExactHoldsTextUptoCard : Claim7 := { stood := { row := fnExactHoldsTextUptoRow, standIns := [], harness := (true, "4619a14d28fdfc8a84b68611720284ed716514499fab94df9c58976eef59b456"), looks := true }, kinds := [], alts := [], laidByText := true, laidKinds := [.data, .data, .data], laidTests := true, laidLooks := .later }
def FnExactHoldsTextUptoCardSaid : Prop := Claim7.holds Tryd.pinned (.plain (OpenSpec.upto fnExactHoldsTextSpec)) fnExactHoldsTextUptoCard

/-- THE SECOND FORM's CARD OF 'laws.FnExactReadHolds'. -/
def fnExactReadHoldsUptoCard : Claim7 := { stood := { row := fnExactReadHoldsUptoRow, standIns := [], harness := (true, "4619a14d28fdfc8a84b68611720284ed716514499fab94df9c58976eef59b456"), looks := true }, kinds := [], alts := [], laidByText := true, laidKinds := [.data, .data, .data, .data, .sentinel, .sentinel, .pinned], laidTests := true, laidLooks := .later }
def FnExactReadHoldsUptoCardSaid : Prop := Claim7.holds Tryd.pinned (.plain (OpenSpec.upto fnExactReadHoldsSpec)) fnExactReadHoldsUptoCard

/-- THE SECOND FORM's CARD OF 'laws.FnTimecode'. -/
def fnTimecodeUptoCard : Claim7 := { stood := { row := fnTimecodeUptoRow, standIns := [], harness := (true, "4619a14d28fdfc8a84b68611720284ed716514499fab94df9c58976eef59b456"), looks := true }, kinds := [], alts := [], laidByText := true, laidKinds := [.data, .data, .data, .sentinel, .sentinel], laidTests := true, laidLooks := .later }
def FnTimecodeUptoCardSaid : Prop := Claim7.holds Tryd.pinned (.plain (OpenSpec.upto fnTimecodeSpec)) fnTimecodeUptoCard

/-- THE SECOND FORM's CARD OF 'laws.FnLive'. -/
def fnLiveUptoCard : Claim7 := { stood := { row := fnLiveUptoRow, standIns := [], harness := (true, "4619a14d28fdfc8a84b68611720284ed716514499fab94df9c58976eef59b456"), looks := true }, kinds := [], alts := [], laidByText := true, laidKinds := [.data, .data, .data, .data, .sentinel, .sentinel, .pinned], laidTests := true, laidLooks := .later }
def FnLiveUptoCardSaid : Prop := Claim7.holds Tryd.pinned (.plain (OpenSpec.upto fnLiveSpec)) fnLiveUptoCard
end Rows
end Go.Proofs.YtcoaldhmofdfgaaDoor
