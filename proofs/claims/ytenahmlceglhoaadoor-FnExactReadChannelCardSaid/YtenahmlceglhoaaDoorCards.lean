/-
  DERIVED. GIVEN WITH THE SEED: THE CARDS: each row of YtenahmlceglhoaaDoorRows.lean that lists a variable, with what it lists TIED to the program's text (the seventh form; the later family's looks); each row that meets fmt, with fmt's text TOLD by the authors' own Lean function (tested against real Go, not proved from fmt's source: count such statements apart). THE CARD IS WHAT COUNTS. Prove the row's statement (the work); the ties are given (YtenahmlceglhoaaDoorTie.lean); close each card by the builder's one call (the guide's Derived/Test/ToyasCard.lean, 'card_holds'). Laid BY PROGRAM, IN A SANDBOX (cutbox-door.mjs). By AI agents, Wed Nov 11 2026. No macro, syntax, notation, axiom, sorry.
-/
import Derived.Test.YtenahmlceglhoaaDoorRows
import GoSem.ClaimSeven
namespace Go.Proofs.YtenahmlceglhoaaDoor
namespace Rows

/-- THE TIED CARD OF 'laws.FnExactChannelText'. -/
def fnExactChannelTextCard : Claim7 := { stood := { row := fnExactChannelTextRow, standIns := [], harness := (true, "a9c933de53747ad846f533d3995a9e7179d43e8ba0bd15363fd8dd3d604ead35"), looks := true }, kinds := [], alts := [], laidByText := true, laidKinds := [.data, .data, .data], laidTests := true, laidLooks := .later }
def FnExactChannelTextCardSaid : Prop := Claim7.holds Tryd.pinned (.plain (OpenSpec.ofChange fnExactChannelTextSpec)) fnExactChannelTextCard

/-- THE TIED CARD OF 'laws.FnExactReadChannel'. -/
def fnExactReadChannelCard : Claim7 := { stood := { row := fnExactReadChannelRow, standIns := [], harness := (true, "a9c933de53747ad846f533d3995a9e7179d43e8ba0bd15363fd8dd3d604ead35"), looks := true }, kinds := [], alts := [], laidByText := true, laidKinds := [.data, .data, .data, .data, .sentinel, .sentinel, .pinned], laidTests := true, laidLooks := .later }
def FnExactReadChannelCardSaid : Prop := Claim7.holds Tryd.pinned (.plain (OpenSpec.ofChange fnExactReadChannelSpec)) fnExactReadChannelCard

/-- THE TIED CARD OF 'laws.FnSound'. -/
def fnSoundCard : Claim7 := { stood := { row := fnSoundRow, standIns := [], harness := (true, "a9c933de53747ad846f533d3995a9e7179d43e8ba0bd15363fd8dd3d604ead35"), looks := true }, kinds := [], alts := [], laidByText := true, laidKinds := [.data, .data, .data, .data, .sentinel, .sentinel, .data, .pinned], laidTests := true, laidLooks := .later }
def FnSoundCardSaid : Prop := Claim7.holds Tryd.pinned (.plain (OpenSpec.ofChange fnSoundSpec)) fnSoundCard

/-- THE SECOND FORM's CARD OF 'laws.FnExactChannelText'. -/
def fnExactChannelTextUptoCard : Claim7 := { stood := { row := fnExactChannelTextUptoRow, standIns := [], harness := (true, "a9c933de53747ad846f533d3995a9e7179d43e8ba0bd15363fd8dd3d604ead35"), looks := true }, kinds := [], alts := [], laidByText := true, laidKinds := [.data, .data, .data], laidTests := true, laidLooks := .later }
def FnExactChannelTextUptoCardSaid : Prop := Claim7.holds Tryd.pinned (.plain (OpenSpec.upto fnExactChannelTextSpec)) fnExactChannelTextUptoCard

/-- THE SECOND FORM's CARD OF 'laws.FnExactReadChannel'. -/
def fnExactReadChannelUptoCard : Claim7 := { stood := { row := fnExactReadChannelUptoRow, standIns := [], harness := (true, "a9c933de53747ad846f533d3995a9e7179d43e8ba0bd15363fd8dd3d604ead35"), looks := true }, kinds := [], alts := [], laidByText := true, laidKinds := [.data, .data, .data, .data, .sentinel, .sentinel, .pinned], laidTests := true, laidLooks := .later }
def FnExactReadChannelUptoCardSaid : Prop := Claim7.holds Tryd.pinned (.plain (OpenSpec.upto fnExactReadChannelSpec)) fnExactReadChannelUptoCard

/-- THE SECOND FORM's CARD OF 'laws.FnSound'. -/
def fnSoundUptoCard : Claim7 := { stood := { row := fnSoundUptoRow, standIns := [], harness := (true, "a9c933de53747ad846f533d3995a9e7179d43e8ba0bd15363fd8dd3d604ead35"), looks := true }, kinds := [], alts := [], laidByText := true, laidKinds := [.data, .data, .data, .data, .sentinel, .sentinel, .data, .pinned], laidTests := true, laidLooks := .later }
def FnSoundUptoCardSaid : Prop := Claim7.holds Tryd.pinned (.plain (OpenSpec.upto fnSoundSpec)) fnSoundUptoCard
end Rows
end Go.Proofs.YtenahmlceglhoaaDoor
