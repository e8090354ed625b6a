/-
  DERIVED. GIVEN WITH THE SEED: THE CARDS: each row of YtnnhffehboknnaaDoorRows.lean that lists a variable, with what it lists TIED to the program's text (the seventh form; the later family's looks); each row that meets fmt, with fmt's text TOLD by the authors' own Lean function (tested against real Go, not proved from fmt's source: count such statements apart). THE CARD IS WHAT COUNTS. Prove the row's statement (the work); the ties are given (YtnnhffehboknnaaDoorTie.lean); close each card by the builder's one call (the guide's Derived/Test/ToyasCard.lean, 'card_holds'). Laid BY PROGRAM, IN A SANDBOX (cutbox-door.mjs). By AI agents, Wed Nov 11 2026. No macro, syntax, notation, axiom, sorry.
-/
import Derived.Test.YtnnhffehboknnaaDoorRows
import GoSem.ClaimSeven
namespace Go.Proofs.YtnnhffehboknnaaDoor
namespace Rows

/-- THE TIED CARD OF 'laws.FnGains'. -/
def fnGainsCard : Claim7 := { stood := { row := fnGainsRow, standIns := [], harness := (true, "149ec27ce680c5e9e92233f59f801d5af011d77dd66dff3a7a6bbb9a5feee34d"), looks := false }, kinds := [], alts := [], laidByText := true, laidKinds := [.data], laidTests := true, laidLooks := .later }
def FnGainsCardSaid : Prop := Claim7.holds Tryd.pinned (.plain (OpenSpec.ofChange fnGainsSpec)) fnGainsCard

/-- THE TIED CARD OF 'laws.FnExactPanFactors'. -/
def fnExactPanFactorsCard : Claim7 := { stood := { row := fnExactPanFactorsRow, standIns := [], harness := (true, "149ec27ce680c5e9e92233f59f801d5af011d77dd66dff3a7a6bbb9a5feee34d"), looks := false }, kinds := [], alts := [], laidByText := true, laidKinds := [.data], laidTests := true, laidLooks := .later }
def FnExactPanFactorsCardSaid : Prop := Claim7.holds Tryd.pinned (.plain (OpenSpec.ofChange fnExactPanFactorsSpec)) fnExactPanFactorsCard

/-- THE TIED CARD OF 'laws.FnExactMixSamples'. -/
def fnExactMixSamplesCard : Claim7 := { stood := { row := fnExactMixSamplesRow, standIns := [], harness := (true, "149ec27ce680c5e9e92233f59f801d5af011d77dd66dff3a7a6bbb9a5feee34d"), looks := false }, kinds := [], alts := [], laidByText := true, laidKinds := [.data], laidTests := true, laidLooks := .later }
def FnExactMixSamplesCardSaid : Prop := Claim7.holds Tryd.pinned (.plain (OpenSpec.ofChange fnExactMixSamplesSpec)) fnExactMixSamplesCard

/-- THE SECOND FORM's CARD OF 'laws.FnGains'. -/
def fnGainsUptoCard : Claim7 := { stood := { row := fnGainsUptoRow, standIns := [], harness := (true, "149ec27ce680c5e9e92233f59f801d5af011d77dd66dff3a7a6bbb9a5feee34d"), looks := false }, kinds := [], alts := [], laidByText := true, laidKinds := [.data], laidTests := true, laidLooks := .later }
def FnGainsUptoCardSaid : Prop := Claim7.holds Tryd.pinned (.plain (OpenSpec.upto fnGainsSpec)) fnGainsUptoCard

/-- THE SECOND FORM's CARD OF 'laws.FnExactPanFactors'. -/
def fnExactPanFactorsUptoCard : Claim7 := { stood := { row := fnExactPanFactorsUptoRow, standIns := [], harness := (true, "149ec27ce680c5e9e92233f59f801d5af011d77dd66dff3a7a6bbb9a5feee34d"), looks := false }, kinds := [], alts := [], laidByText := true, laidKinds := [.data], laidTests := true, laidLooks := .later }
def FnExactPanFactorsUptoCardSaid : Prop := Claim7.holds Tryd.pinned (.plain (OpenSpec.upto fnExactPanFactorsSpec)) fnExactPanFactorsUptoCard

/-- THE SECOND FORM's CARD OF 'laws.FnExactMixSamples'. -/
def fnExactMixSamplesUptoCard : Claim7 := { stood := { row := fnExactMixSamplesUptoRow, standIns := [], harness := (true, "149ec27ce680c5e9e92233f59f801d5af011d77dd66dff3a7a6bbb9a5feee34d"), looks := false }, kinds := [], alts := [], laidByText := true, laidKinds := [.data], laidTests := true, laidLooks := .later }
def FnExactMixSamplesUptoCardSaid : Prop := Claim7.holds Tryd.pinned (.plain (OpenSpec.upto fnExactMixSamplesSpec)) fnExactMixSamplesUptoCard
end Rows
end Go.Proofs.YtnnhffehboknnaaDoor
