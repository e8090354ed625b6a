/-
  DERIVED. GIVEN WITH THE SEED: THE CARDS: each row of YtckenipmebeopaaDoorRows.lean that lists a variable, with what it lists TIED to the program's text (the seventh form; the later family's looks); each row that meets fmt, with fmt's text TOLD by the authors' own Lean function (tested against real Go, not proved from fmt's source: count such statements apart). THE CARD IS WHAT COUNTS. Prove the row's statement (the work); the ties are given (YtckenipmebeopaaDoorTie.lean); close each card by the builder's one call (the guide's Derived/Test/ToyasCard.lean, 'card_holds'). Laid BY PROGRAM, IN A SANDBOX (cutbox-door.mjs). By AI agents, Wed Nov 11 2026. No macro, syntax, notation, axiom, sorry.
-/
import Derived.Test.YtckenipmebeopaaDoorRows
import GoSem.ClaimSeven
namespace Go.Proofs.YtckenipmebeopaaDoor
namespace Rows

/-- THE TIED CARD OF 'laws.FnExactFixtureText'. -/
def fnExactFixtureTextCard : Claim7 := { stood := { row := fnExactFixtureTextRow, standIns := [], harness := (true, "456b590391e053fcbea5af81c9beb555bfc3de1939827a7c1ef43cb72aeaf0a5"), looks := true }, kinds := [], alts := [], laidByText := true, laidKinds := [.data, .data, .data], laidTests := true, laidLooks := .later }
def FnExactFixtureTextCardSaid : Prop := Claim7.holds Tryd.pinned (.plain (OpenSpec.ofChange fnExactFixtureTextSpec)) fnExactFixtureTextCard

/-- THE TIED CARD OF 'laws.FnExactReadFixture'. -/
def fnExactReadFixtureCard : Claim7 := { stood := { row := fnExactReadFixtureRow, standIns := [], harness := (true, "456b590391e053fcbea5af81c9beb555bfc3de1939827a7c1ef43cb72aeaf0a5"), looks := true }, kinds := [], alts := [], laidByText := true, laidKinds := [.data, .data, .data, .sentinel, .sentinel], laidTests := true, laidLooks := .later }
def FnExactReadFixtureCardSaid : Prop := Claim7.holds Tryd.pinned (.plain (OpenSpec.ofChange fnExactReadFixtureSpec)) fnExactReadFixtureCard

/-- THE SECOND FORM's CARD OF 'laws.FnExactFixtureText'. -/
def fnExactFixtureTextUptoCard : Claim7 := { stood := { row := fnExactFixtureTextUptoRow, standIns := [], harness := (true, "456b590391e053fcbea5af81c9beb555bfc3de1939827a7c1ef43cb72aeaf0a5"), looks := true }, kinds := [], alts := [], laidByText := true, laidKinds := [.data, .data, .data], laidTests := true, laidLooks := .later }
def FnExactFixtureTextUptoCardSaid : Prop := Claim7.holds Tryd.pinned (.plain (OpenSpec.upto fnExactFixtureTextSpec)) fnExactFixtureTextUptoCard

/-- THE SECOND FORM's CARD OF 'laws.FnExactReadFixture'. -/
def fnExactReadFixtureUptoCard : Claim7 := { stood := { row := fnExactReadFixtureUptoRow, standIns := [], harness := (true, "456b590391e053fcbea5af81c9beb555bfc3de1939827a7c1ef43cb72aeaf0a5"), looks := true }, kinds := [], alts := [], laidByText := true, laidKinds := [.data, .data, .data, .sentinel, .sentinel], laidTests := true, laidLooks := .later }
def FnExactReadFixtureUptoCardSaid : Prop := Claim7.holds Tryd.pinned (.plain (OpenSpec.upto fnExactReadFixtureSpec)) fnExactReadFixtureUptoCard
end Rows
end Go.Proofs.YtckenipmebeopaaDoor
